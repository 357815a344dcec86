/- Part 4 of what the proofs of this seat share: the executor, data in memory, walks.
-/
import Derived.Test.YtjambecdkaahmaaGreatDoorK3
set_option linter.all false
set_option maxHeartbeats 16000000
set_option maxRecDepth 100000
namespace Go.V
open Go
def lB:=@Bool.eq_false_iff
def su:=@List.getElem_range
def rn:=@List.perm_middle
def qz:=@List.length_set
def wc:=@List.replicate_succ
def EM:=@List.perm_append_comm_assoc
def rp:=@Nat.sub_self
def og:=@Nat.ble_eq
def zu:=@Nat.le_of_succ_le
def zv:=@List.mem_flatMap
def EN:=@List.set_append_right
def xL:=@Nat.sub_zero
def HM:=@List.singleton_append
def Lv:=@List.getLast?_cons_cons
def Qe:=@List.eq_of_mem_replicate
def Lw:=@List.set_cons_zero
def Qf:=@List.getElem?_replicate
def HN:=@Bool.and_false
def Lx:=@Nat.le_max_right
def Qg:=@List.replicate_succ'
def Qh:=@List.pairwise_append
def Qi:=@List.getD_cons_zero
def Ly:=@Nat.le_max_left
def HO:=@Bool.true_or
def Qj:=@Nat.lt_of_le_of_ne
def Qk:=@List.foldl_append
variable{f:Bool}{S:fJ}{u aq p cO hc z iO ln lc ai r bR fuel fK:Nat}{kn jd:Nat->Nat->bo}{hi lo:Int}{L:List (Nat×Nat)}{pl:List (ByteArray×Int)}{os:bf}{g:cA}{x y:Operand}{other:Prop}{s:ByteArray}{M M0:List aF}{dT uO:eE}{I I':a5}{vs:List Value}{d:bh}{CM:Option Addr}{aX:List Int}{α:Type}
def Ql{P:bm}(h:iw P){f:bC}(ar:qy P f):f.bu<=1000000:=by
 have aH:=bm.rm h ar.aG;have aE:=aH.len;have ix:=ar.av;have cI:=h.size;have ae:=ar.k;have qn:=aH.k;by_cases aN:(P.ai f.aG).d.k=4
 ·have:=ar.many (.inl aN);omega
 by_cases bq:(P.ai f.aG).d.k=5
 ·have:=ar.many (.inr bq);omega
 by_cases bp:(P.ai f.aG).d.k=6
 ·obtain⟨hS,fP,hT⟩:=ar.kR bp;have al:=aH.kR bp;by_cases e:(P.ai f.aG).d.hi=-1
  ·have:=fP e;omega
  ·have:=hT e;omega
 ·have:=(ar.one (by omega)).1;omega
def HP(u:Nat):uX->Prop
 | .stop (.err e)=>e≠0| .stop (.ok _ S)=>S.aU=u| .more _ S=>S.aU=u
def XS{P:bm}{c:bo}(h:S.aU=u):HP u (kT P c S):=by
 subst h;unfold kT;cases S.op with
 |nil=>exact λh=>by cases h
 |cons f au=>cases au<;>rfl
def XT{P:bm}(h:S.aU=u):HP u (iv P S):=by
 subst h;unfold iv;cases cX:S.op with
 |nil=>exact λh=>by cases h
 |cons f au=>
  simp only;cases Nat.beq (S.kn (bA P f).1 ((bA P f).2-P.aq)).ao 0 with
  |true=>rfl
  |false=>cases Nat.beq (S.kn (bA P f).1 ((bA P f).2-P.aq)).ao 1 with
   |true=>exact λh=>by cases h
   |false=>rfl
def XU{P:bm}{q:nL}{S:fJ}:HP (S.aU+1) (pQ P q S):=by
 cases q with
 |begin k a=>
  show HP _ (tG P k a S);unfold tG;cases ib P k a with
  |some c=>exact XS rfl| none=>exact XT rfl
 |hand c=>
  show HP _ (kw P c S);unfold kw;cases S.op with
  |nil=>exact λh=>by cases h
  |cons f au=>
   simp only;cases fQ P f c with
   |loop=>exact λh=>by cases h
   |on f' c' done=>
    cases done with
    |true=>exact XS (S:=⟨S.kn,f'::au,S.aU+1⟩) rfl| false=>exact XT (S:=⟨S.kn,f'::au,S.aU+1⟩) rfl
def go_ok{P:bm}:∀ (n:Nat) {q:nL} {S:fJ} {c:bo} {e5:fJ},ho P n q S=.ok c e5->S.aU<e5.aU/\e5.aU<=S.aU+n /\ ∀ m,(e5.aU<=S.aU+m->ho P m q S=.ok c e5)/\(S.aU+m<e5.aU->ho P m q S=.err 0)
 |0,q,S,c,e5,h=>by cases h
 |n+1,q,S,c,e5,h=>by
  have hu:=@XU P q S;unfold ho at h;generalize ab:pQ P q S=x at h hu
  match x,h,hu with
  | .stop e,h,hu=>
   simp only at h;subst h;have hu:e5.aU=S.aU+1:=hu;refine⟨by omega,by omega,λm=>⟨λhm=>?_,λhm=>?_⟩⟩
   ·cases m with
    |zero=>omega| succ m=>unfold ho;rw[ab]
   ·cases m with
    |zero=>rfl| succ m=>omega
  | .more dP my,h,hu=>
   simp only at h;have hu:my.aU=S.aU+1:=hu;obtain⟨U,aa,af⟩:=go_ok n h;refine⟨by omega,by omega,λm=>⟨λhm=>?_,λhm=>?_⟩⟩
   ·cases m with
    |zero=>omega| succ m=>unfold ho;rw[ab];exact(af m).1 (by omega)
   ·cases m with
    |zero=>rfl| succ m=>unfold ho;rw[ab];exact(af m).2 (by omega)
def XV{P:bm}:∀ (n:Nat) {q:nL} {S:fJ} {e:Nat},ho P n q S=.err e->e≠0->∀ m,n<=m->ho P m q S=.err e
 |0,q,S,e,h,he,m,hm=>by simp only[ho,zr.err.injEq]at h;exact absurd h.symm he
 |n+1,q,S,e,h,he,m,hm=>by
  cases m with
  |zero=>omega
  |succ m=>
   unfold ho at h |-;generalize pQ P q S=x at h |-
   match x,h with
   | .stop a',h=>exact h| .more dP my,h=>exact XV n h he m (by omega)
def iP(kn:Nat->Nat->bo)(aq:Nat):List Nat->Nat->List (Nat×Nat)
 |[],_=>[]| k::L,a=>bif Nat.beq (kn k (a-aq)).ao 3 then(bif Nat.beq (kn k (a-aq)).n 0 then iP kn aq L (kn k (a-aq)).av else(k,a)::iP kn aq L (kn k (a-aq)).av)else iP kn aq L a
def iy(kn:Nat->Nat->bo)(aq:Nat):List Nat->Nat->Nat
 |[],a=>a| k::L,a=>bif Nat.beq (kn k (a-aq)).ao 3 then iy kn aq L (kn k (a-aq)).av else iy kn aq L a
def ic(kn:Nat->Nat->bo)(aq:Nat):List Nat->Nat->Nat
 |[],_=>0| k::L,a=>bif Nat.beq (kn k (a-aq)).ao 3 then(kn k (a-aq)).n+ic kn aq L (kn k (a-aq)).av else ic kn aq L a
def allM(kn:Nat->Nat->bo)(aq:Nat):List Nat->Nat->Prop
 |[],_=>True| k::L,a=>(kn k (a-aq)).ao=3/\allM kn aq L (kn k (a-aq)).av
def Qm(kn:Nat->Nat->bo)(aq:Nat):∀ (L lf:List Nat) (a:Nat),iy kn aq (L++lf) a=iy kn aq lf (iy kn aq L a)
 |[],lf,a=>rfl
 |k::L,lf,a=>by
  simp only[py,iy];cases Nat.beq (kn k (a-aq)).ao 3<;>exact Qm kn aq L lf _
def Lz(kn:Nat->Nat->bo)(aq:Nat):∀ (L lf:List Nat) (a:Nat),ic kn aq (L++lf) a=ic kn aq L a+ic kn aq lf (iy kn aq L a)
 |[],lf,a=>by simp[ic,iy]
 |k::L,lf,a=>by
  simp only[py,ic,iy];cases Nat.beq (kn k (a-aq)).ao 3 with
  |true=>simp only[a4];rw[Lz kn aq L lf];omega| false=>exact Lz kn aq L lf _
def Qn(kn:Nat->Nat->bo)(aq:Nat):∀ (L lf:List Nat) (a:Nat),allM kn aq L a->allM kn aq lf (iy kn aq L a)->allM kn aq (L++lf) a
 |[],lf,a,_,h=>h| k::L,lf,a,⟨U,aa⟩,h=>⟨U,Qn kn aq L lf _ aa (by simpa[iy,U]using h)⟩
def kW(kn:Nat->Nat->bo)(aq:Nat):List Nat->Nat->List (Nat×Nat)
 |[],_=>[]| k::L,a=>bif Nat.beq (kn k (a-aq)).ao 3 then(bif Nat.beq (kn k (a-aq)).n 0 then []else [(k,a)])else kW kn aq L a
def sv(kn:Nat->Nat->bo)(aq:Nat):List Nat->Nat->Prop
 |[],_=>False| k::L,a=>(kn k (a-aq)).ao=3\/((kn k (a-aq)).ao=2/\sv kn aq L a)
inductive kX(kn:Nat->Nat->bo)(aq:Nat)(k:Nat)(hi:Int):Nat->Nat->List (Nat×Nat)->Prop
 |stop{t a:Nat}(h:(t:Int)=hi):kX kn aq k hi t a []| fail {t a:Nat} (h:(t:Int)≠hi) (aa:(kn k (a-aq)).ao=2):kX kn aq k hi t a []| more {t a:Nat} {l:List (Nat×Nat)} (ag:t<=1000000) (h:(t:Int)≠hi) (aa:(kn k (a-aq)).ao=3) (r:kX kn aq k hi (t+1) (kn k (a-aq)).av l):kX kn aq k hi t a ((bif Nat.beq (kn k (a-aq)).n 0 then []else [(k,a)])++l)
def je(P:bm)(kn:Nat->Nat->bo)(k a:Nat)(l:List (Nat×Nat)):Prop:=
 if(P.ai k).d.k=6 then kX kn P.aq ((P.ai k).bd.getD 0 0) (P.ai k).d.hi 0 a l
 else if(P.ai k).d.k=5 then sv kn P.aq (P.ai k).bd a/\l=kW kn P.aq (P.ai k).bd a else allM kn P.aq (P.ai k).bd a/\l=iP kn P.aq (P.ai k).bd a
structure e' where
 name:ByteArray
 lo:Nat
 hi:Nat
def oh(P:bm)(kn:Nat->Nat->bo)(k a:Nat):List e':=bif decide ((P.ai k).d.k=9)then [⟨(P.ai k).d.t,a,(kn k (a-P.aq)).av⟩]else []
inductive hp(P:bm)(kn:Nat->Nat->bo):Nat->List (Nat×Nat)->List e'->Prop
 |nil:hp P kn 0 [] []| zero {n k a au l} (af:(kn k (a-P.aq)).ao=3) (h:(kn k (a-P.aq)).n=0) (r:hp P kn n au l):hp P kn (n+1) ((k,a)::au) l| node {n k a parts au l} (af:(kn k (a-P.aq)).ao=3) (h:(kn k (a-P.aq)).n≠0) (aK:je P kn k a parts) (r:hp P kn n (parts++au) l):hp P kn (n+1) ((k,a)::au) (oh P kn k a++l)
def hp.app{P:bm}{n m:Nat}{a b:List (Nat×Nat)}{l c8:List e'}(h:hp P kn n a l)(bg:hp P kn m b c8):hp P kn (n+m) (a++b) (l++c8):=by
 induction h with
 |nil=>rw[dp];exact bg| @zero n k a au l af h r be=>rw[Nat.add_right_comm];exact .zero af h be| @node n k a parts au l af h aK r be=>rw[Nat.add_right_comm,gz];rw[gz]at be;exact .node af h aK be
def jA(l:List e')(n:Nat):Prop:=(n<=65536->l.length=n)/\(65537<=n->65537<=l.length)
def jA.app{l c8:List e'}{n m:Nat}(h:jA l n)(bg:jA c8 m):jA (l++c8) (n+m):=by unfold jA at *;rw[di];omega
def jA.cut{l:List e'}{n:Nat}(h:jA l n):jA l (min n 65537):=by unfold jA at *;omega
def xM(kn jd:Nat->Nat->bo):Prop:=∀ k p,cn (kn k p)->jd k p=kn k p
def Qo{kn jd:Nat->Nat->bo}(h:xM kn jd)(aq:Nat):∀ (L:List Nat) (a:Nat),allM kn aq L a->iP jd aq L a=iP kn aq L a/\iy jd aq L a=iy kn aq L a/\ic jd aq L a=ic kn aq L a/\allM jd aq L a
 |[],a,_=>⟨rfl,rfl,rfl,trivial⟩
 |k::L,a,⟨U,aa⟩=>by
  have e:=h k (a-aq) (.inr U);obtain⟨i1,i2,i3,i4⟩:=Qo h aq L _ aa;have ag:Nat.beq (kn k (a-aq)).ao 3=true:=by rw[U];rfl
  simp only[iP,iy,ic,allM,e,i1,i2,i3,ag,a4];exact⟨trivial,trivial,trivial,U,i4⟩
def XW{kn jd:Nat->Nat->bo}(h:xM kn jd)(aq:Nat):∀ (L:List Nat) (a:Nat),sv kn aq L a->kW jd aq L a=kW kn aq L a/\sv jd aq L a
 |[],a,U=>U.elim| k::L,a,.inl U=>by have e:=h k (a-aq) (.inr U);simp only[kW,sv,e,U];exact⟨rfl,.inl trivial⟩
 |k::L,a,.inr ⟨U,aa⟩=>by have e:=h k (a-aq) (.inl U);obtain⟨i1,i2⟩:=XW h aq L a aa;simp only[kW,sv,e,U,i1];exact⟨trivial,.inr ⟨trivial,i2⟩⟩
def kX.le(h:xM kn jd){k:Nat}{t a:Nat}{l:List (Nat×Nat)}(hw:kX kn aq k hi t a l):kX jd aq k hi t a l:=by
 induction hw with
 |stop U=>exact .stop U| fail U aa=>exact .fail U (by rw[h _ _ (.inl aa)];exact aa)| @more t a l ag U aa r be=>have e:=h k (a-aq) (.inr aa);have:=kX.more (kn:=jd) (aq:=aq) (k:=k) (hi:=hi) (t:=t) (a:=a) (l:=l) ag U (by rw[e];exact aa) (by rw[e];exact be);rwa [e]at this
def je.le{P:bm}(h:xM kn jd){k a:Nat}{l:List (Nat×Nat)}(aK:je P kn k a l):je P jd k a l:=by
 unfold je at aK |-;by_cases bp:(P.ai k).d.k=6
 ·rw[cF bp]at aK |-;exact aK.le h
 ·rw[b8 bp]at aK |-;by_cases bq:(P.ai k).d.k=5
  ·rw[cF bq]at aK |-;obtain⟨i1,i2⟩:=XW h P.aq _ _ aK.1;exact⟨i2,by rw[i1];exact aK.2⟩
  ·rw[b8 bq]at aK |-;obtain⟨i1,i2,i3,i4⟩:=Qo h P.aq _ _ aK.1;exact⟨i4,by rw[i1];exact aK.2⟩
def hp.le{P:bm}(h:xM kn jd){n:Nat}{l:List e'}(aB:hp P kn n L l):hp P jd n L l:=by
 induction aB with
 |nil=>exact .nil| @zero n k a au l af ay r be=>have e:=h k (a-P.aq) (.inr af);exact .zero (by rw[e];exact af) (by rw[e];exact ay) be
 | @node n k a parts au l af ay aK r be=>
  have e:=h k (a-P.aq) (.inr af);have aJ:oh P kn k a=oh P jd k a:=by unfold oh;rw[e]
  rw[aJ];exact .node (by rw[e];exact af) (by rw[e];exact ay) (aK.le h) be
inductive kc:Nat->Nat->List e'->Prop
 |nil{a b}(h:a<=b):kc a b []| app {a b c l c8} (h:kc a b l) (bg:kc b c c8):kc a c (l++c8)| cap {a b l nm} (h:kc a b l):kc a b (⟨nm,a,b⟩::l)
def kc.le{a b:Nat}{l:List e'}(h:kc a b l):a<=b:=by
 induction h with
 |nil h=>exact h| app _ _ U aa=>exact iU U aa| cap _ h=>exact h
structure zw(P:bm)(kn:Nat->Nat->bo)(f:bC):Prop where
 w:(kn f.aG (f.pl-P.aq)).ao=1
 many:(P.ai f.aG).d.k=4\/(P.ai f.aG).d.k=6->∀ L,L=(if(P.ai f.aG).d.k=4 then(P.ai f.aG).bd.take f.bu else List.replicate f.bu ((P.ai f.aG).bd.getD 0 0)) -> allM kn P.aq L f.pl/\f.av=iy kn P.aq L f.pl/\f.n=min (ic kn P.aq L f.pl) 65537
 vB:(P.ai f.aG).d.k=5->∀ i,i<f.bu->(kn ((P.ai f.aG).bd.getD i 0) (f.pl-P.aq)).ao=2
def qA(P:bm)(kn:Nat->Nat->bo):Prop:=∀ k p,(kn k p).ao=3->∃ n l,hp P kn n [(k,P.aq+p)] l/\jA l (kn k p).n/\kc (P.aq+p) (kn k p).av l
structure sw(P:bm)(S:fJ):Prop where
 g:qA P S.kn
 ax:∀ f∈S.op,zw P S.kn f
 aG:(S.op.map λf=>(f.aG,f.pl)).Nodup
def EO(P:bm)(S:fJ):nL->Prop
 | .begin k a=>True| .hand c=>∀ f au,S.op=f::au->S.kn (bA P f).1 ((bA P f).2-P.aq)=c
def we(P:bm):uX->Prop
 | .stop (.err e)=>True| .stop (.ok c S)=>sw P S| .more q S=>sw P S/\EO P S q
def nM(kn:Nat->Nat->bo)(k p:Nat)(c:bo):hn kn k p c k p=c:=by simp[hn]
def uZ{k:Nat}{c:bo}(h:¬ (cO=k/\hc=p)):hn kn k p c cO hc=kn cO hc:=by
 unfold hn;have:(Nat.beq cO k&&Nat.beq hc p)=false:=by rw[lB];intro e;simp only[ct,Nat.beq_eq]at e;exact h e
 rw[this];rfl
def LA{k:Nat}{c:bo}(h:¬ cn (kn k p)):xM kn (hn kn k p c):=λcO hc ah=>by refine uZ λe=>?_;rw[e.1,e.2]at ah;exact h ah
def qA.set{P:bm}(h:qA P kn){k:Nat}{c:bo}(az:¬ cn (kn k p))(aJ:c.ao=3->∃ n l,hp P (hn kn k p c) n [(k,P.aq+p)] l/\jA l c.n/\kc (P.aq+p) c.av l):qA P (hn kn k p c):=λcO hc af=>by
 by_cases e:cO=k/\hc=p
 ·obtain⟨rfl,rfl⟩:=e;rw[nM]at af |-;exact aJ af
 ·rw[uZ e]at af |-;obtain⟨n,l,U,aa⟩:=h cO hc af;exact⟨n,l,U.le (LA az),aa⟩
def zw.le{P:bm}(h:xM kn jd){f:bC}(ax:zw P kn f)(hw:(jd f.aG (f.pl-P.aq)).ao=1):zw P jd f:=by
 refine⟨hw,λae L c4=>?_,λae i hi=>?_⟩
 ·obtain⟨U,aa,af⟩:=ax.many ae L c4;obtain⟨i1,i2,i3,i4⟩:=Qo h P.aq _ _ U;exact⟨i4,by rw[i2];exact aa,by rw[i3];exact af⟩
 ·have:=ax.vB ae i hi;rw[h _ _ (.inl this)];exact this
def EP{P:bm}{kn:Nat->Nat->bo}(ae:∀ k p,kU P (P.aq+p) (kn k p))(aB:qA P kn):∀ (L:List Nat) (a:Nat),P.aq<=a->allM kn P.aq L a->∃ n l,hp P kn n (iP kn P.aq L a) l/\jA l (ic kn P.aq L a)/\kc a (iy kn P.aq L a) l
 |[],a,_,_=>⟨0,[],.nil,⟨λ_=>rfl,λh=>by simp[ic]at h⟩,.nil (b2 _)⟩
 |k::L,a,aH,⟨U,aa⟩=>by
  have aJ:=ae k (a-P.aq);have ix:=(aJ.m U).1;obtain⟨n,l,i1,i2,i3⟩:=EP ae aB L _ (by omega) aa;obtain⟨m,c8,gF,gv,gG⟩:=aB k (a-P.aq) U;rw[oc aH]at gF gG;simp only[iP,ic,iy,U];rw[show Nat.beq 3 3=true from rfl,a4,a4,a4];cases ay:Nat.beq (kn k (a-P.aq)).n 0 with
  |true=>rw[a4,cj ay,dp];exact⟨n,l,i1,i2,.app (.nil (by rw[oc aH]at ix;exact ix)) i3⟩| false=>rw[aQ];exact⟨m+n,c8++l,gF.app i1,gv.app i2,.app gG i3⟩
def HQ{P:bm}{k pl:Nat}{c:bo}(az:¬ cn (kn k (pl-P.aq)))(af:c.ao=3){parts:List (Nat×Nat)}(aK:je P kn k pl parts){n0:Nat}{dy:List e'}(jZ:hp P kn n0 parts dy){N:Nat}(aE:jA dy N)(cM:kc pl c.av dy)
  (aJ:c.n=min ((if(P.ai k).d.k=9 then 1 else 0)+N) 65537):∃ n l,hp P (hn kn k (pl-P.aq) c) n [(k,pl)] l/\jA l c.n/\kc pl c.av l:=by
 have bz:=LA (c:=c) az;by_cases ay:c.n=0
 ·refine⟨1,[],.zero (by rw[nM];exact af) (by rw[nM];exact ay) .nil,⟨λ_=>ay.symm,λh=>by omega⟩,.nil cM.le⟩
 ·refine⟨n0+1,_,.node (by rw[nM];exact af) (by rw[nM];exact ay) (aK.le bz) (l:=dy) (by rw[eo];exact jZ.le bz),?_,?_⟩
  case refine_2=>
   unfold oh;cases decide ((P.ai k).d.k=9)with
   |true=>rw[nM];exact .cap cM| false=>exact cM
  rw[aJ];refine jA.cut ?_;unfold oh;by_cases dk:(P.ai k).d.k=9;·rw[cF dk,dF dk,a4];exact jA.app (l:=[_]) (n:=1) ⟨λ_=>rfl,λh=>by omega⟩ aE
  ·rw[b8 dk,bG dk,aQ,dp];exact aE
def LB{P:bm}{k pl:Nat}{c:bo}(af:c.ao=3)(ay:c.n=0)(bz:pl<=c.av):∃ n l,hp P (hn kn k (pl-P.aq) c) n [(k,pl)] l/\jA l c.n/\kc pl c.av l:=
 ⟨1,[],.zero (by rw[nM];exact af) (by rw[nM];exact ay) .nil,⟨λ_=>ay.symm,λh=>by omega⟩,.nil bz⟩
def XX{P:bm}{f:bC}{au:List bC}(cX:S.op=f::au)(aB:qA P S.kn)(al:∀ x∈au,zw P S.kn x)(dg:∀ x∈f::au,P.aq<=x.pl)(bV:((f::au).map λf=>(f.aG,f.pl)).Nodup)(jr:zs P (f::au))
  (hw:(S.kn f.aG (f.pl-P.aq)).ao=1) {c:bo} (aJ:c.ao=3->∃ n l,hp P (hn S.kn f.aG (f.pl-P.aq) c) n [(f.aG,f.pl)] l/\jA l c.n/\kc f.pl c.av l):we P (kT P c S):=by
 have wg:¬ cn (S.kn f.aG (f.pl-P.aq)):=λh=>by unfold cn at h;omega
 have bz:=LA (c:=c) wg;have lQ:qA P (hn S.kn f.aG (f.pl-P.aq) c):=aB.set wg λe=>by rw[oc (dg f (.head _))];exact aJ e
 have hf:∀ x∈au,zw P (hn S.kn f.aG (f.pl-P.aq) c) x:=λx ab=>(al x ab).le bz (by
  rw[uZ];·exact(al x ab).w
  ·rintro⟨aC,aA⟩;have U:=dg x (.tail _ ab);have aa:=dg f (.head _);have:(f.aG,f.pl)∈au.map λf=>(f.aG,f.pl):=eh.2 ⟨x,ab,by rw[aC];congr 1;omega⟩;exact(mN.1 bV).1 this)
 unfold kT;rw[cX];cases au with
 |nil=>exact⟨lQ,λx ab=>(by cases ab),yO⟩| cons r bj=>refine⟨⟨lQ,hf,(mN.1 bV).2⟩,λx xs e=>?_⟩;cases e;rw[jr.1];exact nM ..
def XY{P:bm}(h:sw P S):we P (iv P S):=by
 unfold iv;split
 ·trivial
 ·rename_i f au cX;simp only;cases ay:Nat.beq (S.kn (bA P f).1 ((bA P f).2-P.aq)).ao 0 with
  |true=>exact⟨h,trivial⟩
  |false=>
   cases U:Nat.beq (S.kn (bA P f).1 ((bA P f).2-P.aq)).ao 1 with
   |true=>trivial| false=>refine⟨h,λx xs e=>?_⟩;rw[cX]at e;cases e;rfl
def aiC{P:bm}{k a:Nat}{c:bo}(h:ib P k a=some c):c.n=0:=by
 unfold ib at h;simp only at h;have lC:∀ av,(iu av 0).n=0:=λav=>rfl;cases b':decide ((P.ai k).d.k=0)with
 |true=>rw[b']at h;simp only[a4,hq]at h;rw[<-h];rfl
 |false=>
  rw[b',aQ]at h;cases aC:decide ((P.ai k).d.k=1)with
  |true=>
   rw[aC,a4]at h;split at h
   ·rename_i b ag;cases aR:jS (P.ai k).d b.toNat<;>rw[aR]at h<;>simp only[a4,aQ,hq]at h<;>rw[<-h]<;>rfl
   ·simp only[hq]at h;rw[<-h];rfl
  |false=>
   rw[aC,aQ]at h;cases aA:decide ((P.ai k).d.k=2)with
   |true=>
    rw[aA,a4]at h;cases aR:preB P.s (P.ai k).d.t a<;>rw[aR]at h<;>simp only[a4,aQ,hq]at h<;>rw[<-h]<;>rfl
   |false=>
    rw[aA,aQ]at h;cases aR:decide ((P.ai k).d.k=6)&&decide ((P.ai k).d.hi=0)with
    |true=>rw[aR]at h;simp only[a4,hq]at h;rw[<-h];rfl| false=>rw[aR]at h;cases h
def aiD{P:bm}(c2:kV P S)(h:sw P S){k a:Nat}(ag:l1 P S (.begin k a)):we P (tG P k a S):=by
 obtain⟨b1,ch,b9,cK,eT⟩:=ag;have ag:l1 P S (.begin k a):=⟨b1,ch,b9,cK,eT⟩;have wg:¬ cn (S.kn k (a-P.aq)):=λh=>by unfold cn at h;omega
 have bz:=LA (c:={ S.kn k (a-P.aq)with ao:=1 }) wg;have lQ:qA P (dC P k a S).kn:=h.g.set wg λe=>by cases e
 have bM:∀ x∈S.op,¬ (x.aG=k/\x.pl-P.aq=a-P.aq):=λx ab e=>by have:=(h.ax x ab).w;rw[e.1,e.2,eT]at this;cases this
 have hf:∀ x∈S.op,zw P (dC P k a S).kn x:=λx ab=>(h.ax x ab).le bz (by
  show(hn S.kn k (a-P.aq) _ x.aG (x.pl-P.aq)).ao=1;rw[uZ (bM x ab)];exact(h.ax x ab).w)
 have hw:((dC P k a S).kn k (a-P.aq)).ao=1:=by show(hn S.kn k (a-P.aq) _ k (a-P.aq)).ao=1;rw[nM]
 have bV:((⟨k,a,0,a,0⟩::S.op:List bC).map λf=>(f.aG,f.pl)).Nodup:=by rw[dQ,mN];refine⟨λhm=>?_,h.aG⟩;obtain⟨x,ab,e⟩:=eh.1 hm;simp only[KY]at e;exact bM x ab ⟨e.1,by rw[e.2]⟩
 have jr:=Qc c2 ag;unfold tG;cases az:ib P k a with
 |some c=>
  refine XX (f:=⟨k,a,0,a,0⟩) (au:=S.op) rfl lQ hf (λx ab=>?_) bV jr hw λe=>LB e (aiC az) ((Lt b9 az).2.m e).1;rcases eu.1 ab with rfl | ab;·exact ch
  ·exact(c2.op x ab).lo
 |none=>
  refine XY ⟨lQ,λx ab=>?_,bV⟩;rcases eu.1 ab with rfl | ab
  ·refine⟨hw,λae L c4=>?_,λ_ i hi=>by simp only at hi;omega⟩;have:L=[]:=by
    rw[c4];simp only;split;·exact oM
    ·rfl
   subst this;exact⟨trivial,rfl,rfl⟩
  ·exact hf x ab
def Qp{kn:Nat->Nat->bo}{aq k:Nat}{hi:Int}:∀ (m t a:Nat),t+m<=1000001->allM kn aq (List.replicate m k) a->(∀ i,i<m->((t+i:Nat):Int)≠hi) -> (((t+m:Nat):Int)=hi\/(((t+m:Nat):Int)≠hi/\(kn k (iy kn aq (List.replicate m k) a-aq)).ao=2))->kX kn aq k hi t a (iP kn aq (List.replicate m k) a)
 |0,t,a,_,_,_,h=>by
  rcases h with h | ⟨U,aa⟩;·exact .stop h
  ·exact .fail U aa
 |m+1,t,a,ag,gq,bM,h=>by
  rw[wc]at gq h |-;obtain⟨U,aa⟩:=gq;have aI:iy kn aq (k::List.replicate m k) a=iy kn aq (List.replicate m k) (kn k (a-aq)).av:=by simp[iy,U]
  rw[aI]at h;have be:=Qp m (t+1) _ (by omega) aa (λi hi=>by have:=bM (i+1) (by omega);rwa [show t+1+i=t+(i+1) by omega]) (by rwa [show t+1+m=t+(m+1) by omega]);have:=kX.more (by omega) (by have:=bM 0 (by omega);simpa using this) U be;have e:iP kn aq (k::List.replicate m k) a=(bif Nat.beq (kn k (a-aq)).n 0 then []else [(k,a)])++iP kn aq (List.replicate m k) (kn k (a-aq)).av:=by
   simp only[iP,U];rw[show Nat.beq 3 3=true from rfl,a4];cases Nat.beq (kn k (a-aq)).n 0<;>rfl
  rw[e];exact this
def XZ{kn:Nat->Nat->bo}{aq:Nat}:∀ (L:List Nat) (a t:Nat) (aI:t<L.length),(∀ i,i<t->(kn (L.getD i 0) (a-aq)).ao=2)->(kn (L.getD t 0) (a-aq)).ao=3 -> sv kn aq L a/\kW kn aq L a=bif Nat.beq (kn (L.getD t 0) (a-aq)).n 0 then []else [(L.getD t 0,a)]
 |k::L,a,0,_,_,af=>by simp only[Qi]at af;refine⟨.inl af,?_⟩;simp only[kW,Qi,af];rfl
 |k::L,a,t+1,aI,aa,af=>by have ae:=aa 0 (by omega);simp only[Qi]at ae;simp only[List.getD_cons_succ]at af |-;obtain⟨i1,i2⟩:=XZ L a t (by simpa using aI) (λi hi=>by have:=aa (i+1) (by omega);simpa using this) af;refine⟨.inr ⟨ae,i1⟩,?_⟩;simp only[kW,ae];exact i2
def Qq{L:List Nat}(h:L.length=1):L=[L.getD 0 0]:=by
 match L,h with
 |[x],_=>rfl
def aiE{P:bm}(cV:iw P)(c2:kV P S)(h:sw P S){c:bo}(aL:l1 P S (.hand c))(al:EO P S (.hand c)):we P (kw P c S):=by
 obtain⟨f,au,cX,ah,aJ⟩:=aL;have lA:=al f au cX;have ar:=c2.op f (by rw[cX];exact .head _);have EA:=Ql cV ar;have ax:=h.ax f (by rw[cX];exact .head _);have jr:=c2.chain;have bV:=h.aG;rw[cX]at jr bV;have aH:=bm.rm cV ar.aG;have dg:=ar.lo;have uN:=ar.pl;have af:=ar.k;have wg:¬ cn (S.kn f.aG (f.pl-P.aq)):=λe=>by have:=ax.w;unfold cn at e;omega
 have tm:∀ x∈au,zw P S.kn x:=λx ab=>h.ax x (by rw[cX];exact .tail _ ab);have fin:∀ {f':bC} {c':bo},f'.aG=f.aG/\f'.pl=f.pl->(c'.ao=3->∃ n l,hp P (hn S.kn f.aG (f.pl-P.aq) c') n [(f.aG,f.pl)] l/\jA l c'.n/\kc f.pl c'.av l)->we P (kT P c' ⟨S.kn,f'::au,S.aU+1⟩):=fun {f' c'} e jZ=>by
  refine XX (S:=⟨S.kn,f'::au,S.aU+1⟩) (f:=f') (au:=au) rfl h.g tm (λx ab=>?_) (by rw[dQ,e.1,e.2];exact bV) (HL jr e) (by rw[e.1,e.2];exact ax.w) (by rw[e.1,e.2];exact jZ);rcases eu.1 ab with rfl | ab;·rw[e.2];exact dg
  ·exact(c2.op x (by rw[cX];exact .tail _ ab)).lo
 have on:∀ {f':bC},f'.aG=f.aG/\f'.pl=f.pl->zw P S.kn f'->we P (iv P ⟨S.kn,f'::au,S.aU+1⟩):=fun {f'} e aR=>by
  refine XY ⟨h.g,λx ab=>?_,by rw[dQ,e.1,e.2];exact bV⟩;rcases eu.1 ab with rfl | ab;·exact aR
  ·exact tm x ab
 have no:∀ {c':bo} {p:Prop},c'.ao=2->c'.ao=3->p:=λaC aA=>by omega
 have PY:Nat.beq c.ao 2=false->c.ao=3:=λaa=>by
  rcases ah with e | e;·rw[e]at aa;cases aa
  ·exact e
 have Qr:Nat.beq c.ao 3=false->c.ao=2:=λaa=>by
  rcases ah with e | e;·exact e
  ·rw[e]at aa;cases aa
 unfold kw;rw[cX];simp only;unfold fQ;simp only;have one:(P.ai f.aG).d.k=3\/(P.ai f.aG).d.k=9->∀ c':bo,c.ao=3->c'.ao=3->c'.av=c.av->c'.n=min ((if(P.ai f.aG).d.k=9 then 1 else 0)+c.n) 65537->∃ n l,hp P (hn S.kn f.aG (f.pl-P.aq) c') n [(f.aG,f.pl)] l/\jA l c'.n/\kc f.pl c'.av l:=λae c' Qs aiF aiG az=>by
  have hM:=aH.one (by omega);have ix:=(ar.one (by omega)).2;have gf:bA P f=((P.ai f.aG).bd.getD 0 0,f.pl):=by have cU:decide ((P.ai f.aG).d.k=4)=false:=bG (by omega);have e8:decide ((P.ai f.aG).d.k=5)=false:=bG (by omega);simp only[bA,cU,e8,aQ,ix]
  rw[gf]at lA;have gq:allM S.kn P.aq (P.ai f.aG).bd f.pl:=by rw[Qq hM];exact⟨by rw[lA];exact Qs,trivial⟩
  have aiH:ic S.kn P.aq (P.ai f.aG).bd f.pl=c.n:=by rw[Qq hM];simp only[ic,lA,Qs];rfl
  have aiI:iy S.kn P.aq (P.ai f.aG).bd f.pl=c.av:=by rw[Qq hM];simp only[iy,lA,Qs];rfl
  obtain⟨n0,dy,a3,a6,bN⟩:=EP c2.kn h.g _ _ dg gq;rw[aiH]at a6;rw[aiI,<-aiG]at bN;refine HQ wg aiF (parts:=iP S.kn P.aq (P.ai f.aG).bd f.pl) ?_ a3 a6 bN az;unfold je;rw[b8 (by omega),b8 (by omega)];exact⟨gq,rfl⟩
 by_cases g0:(P.ai f.aG).d.k<4
 ·simp only[dF g0,a4];refine fin ⟨rfl,rfl⟩ λe=>one (.inl (by omega)) c e e rfl ?_;have:=(aJ.m e).2.2;rw[b8 (by omega)];omega
 have bx:decide ((P.ai f.aG).d.k<4)=false:=bG g0;rw[bx,aQ];by_cases st:(P.ai f.aG).d.k=4
 ·simp only[dF st,a4];cases aa:Nat.beq c.ao 2 with
  |true=>exact fin ⟨rfl,rfl⟩ (no (cj aa))
  |false=>
   have hm:=PY aa;have a0:=ar.many (.inl st);have gf:bA P f=((P.ai f.aG).bd.getD f.bu 0,f.av):=by simp only[bA,dF st,a4]
   rw[gf]at lA;obtain⟨i1,i2,i3⟩:=ax.many (.inl st) _ (by rw[cF st]);have kO:(P.ai f.aG).bd.take (f.bu+1)=(P.ai f.aG).bd.take f.bu++[(P.ai f.aG).bd.getD f.bu 0]:=by rw[iT a0];simp[dB,a0]
   have gF:allM S.kn P.aq ((P.ai f.aG).bd.take (f.bu+1)) f.pl:=by rw[kO];exact Qn _ _ _ _ _ i1 ⟨by rw[<-i2,lA];exact hm,trivial⟩
   have gv:c.av=iy S.kn P.aq ((P.ai f.aG).bd.take (f.bu+1)) f.pl:=by rw[kO,Qm,<-i2];simp only[iy,lA,hm];rfl
   have gG:ic S.kn P.aq ((P.ai f.aG).bd.take (f.bu+1)) f.pl=ic S.kn P.aq ((P.ai f.aG).bd.take f.bu) f.pl+c.n:=by rw[kO,Lz,<-i2];simp only[ic,lA,hm];rfl
   rw[aQ];simp only;cases fi:decide (f.bu+1=(P.ai f.aG).bd.length)with
   |true=>
    have X0:(P.ai f.aG).bd.take (f.bu+1)=(P.ai f.aG).bd:=gM (by have:=cm fi;omega);rw[X0]at gF gG;rw[a4];refine fin ⟨rfl,rfl⟩ λe=>?_;obtain⟨n0,dy,a3,a6,bN⟩:=EP c2.kn h.g _ _ dg gF;rw[X0]at gv;rw[<-gv]at bN;refine HQ wg e (parts:=iP S.kn P.aq (P.ai f.aG).bd f.pl) ?_ a3 a6 bN ?_;·unfold je;rw[b8 (by omega),b8 (by omega)];exact⟨gF,rfl⟩
    ·rw[b8 (by omega)];show min (min (f.n+c.n) 65537) 65537=_;rw[i3];omega
   |false=>
    rw[aQ];refine on ⟨rfl,rfl⟩ ⟨ax.w,λae L c4=>?_,λae=>?_⟩
    ·have Qt:L=(P.ai f.aG).bd.take (f.bu+1):=by rw[c4];exact cF st
     rw[Qt];refine⟨gF,gv,?_⟩;show min (f.n+c.n) 65537=min (ic S.kn P.aq ((P.ai f.aG).bd.take (f.bu+1)) f.pl) 65537;rw[gG,i3];omega
    ·have hZ:(P.ai f.aG).d.k=5:=ae;omega
 have cU:decide ((P.ai f.aG).d.k=4)=false:=bG st;rw[cU,aQ];by_cases wa:(P.ai f.aG).d.k=5
 ·simp only[dF wa,a4];have a0:=ar.many (.inr wa);have gf:bA P f=((P.ai f.aG).bd.getD f.bu 0,f.pl):=by simp only[bA,dF wa,cU,a4,aQ]
  rw[gf]at lA;have X1:=ax.vB wa;cases aa:Nat.beq c.ao 3 with
  |true=>
   have hm:=cj aa;rw[a4];refine fin ⟨rfl,rfl⟩ λe=>?_;obtain⟨ed,dP⟩:=XZ (kn:=S.kn) (aq:=P.aq) (P.ai f.aG).bd f.pl f.bu a0 X1 (by rw[lA];exact hm);obtain⟨n0,dy,a3,a6,bN⟩:=h.g ((P.ai f.aG).bd.getD f.bu 0) (f.pl-P.aq) (by rw[lA];exact hm);rw[lA]at dP a6 bN;rw[oc dg]at a3 bN;by_cases ay:c.n=0;·exact LB e ay bN.le
   ·have ag:Nat.beq c.n 0=false:=by rw[lB];exact λe=>ay (cj e)
    rw[ag,aQ]at dP;refine HQ wg e (parts:=[((P.ai f.aG).bd.getD f.bu 0,f.pl)]) ?_ a3 a6 bN ?_;·unfold je;rw[b8 (by omega),cF wa];exact⟨ed,dP.symm⟩
    ·have:=(aJ.m hm).2.2;rw[b8 (by omega)];omega
  |false=>
   have hm:=Qr aa;rw[aQ];simp only;cases fi:decide (f.bu+1=(P.ai f.aG).bd.length)with
   |true=>exact fin ⟨rfl,rfl⟩ (no hm)
   |false=>
    rw[aQ];refine on ⟨rfl,rfl⟩ ⟨ax.w,λae=>?_,λ_ i hi=>?_⟩;·have hZ:(P.ai f.aG).d.k=4\/(P.ai f.aG).d.k=6:=ae;omega
    ·by_cases fq:i<f.bu
     ·exact X1 i fq
     ·have dx:i<f.bu+1:=hi;have:i=f.bu:=by omega
      subst this;show(S.kn ((P.ai f.aG).bd.getD f.bu 0) (f.pl-P.aq)).ao=2;rw[lA];exact hm
 have e8:decide ((P.ai f.aG).d.k=5)=false:=bG wa;rw[e8,aQ];by_cases wb:(P.ai f.aG).d.k=6
 ·simp only[dF wb,a4];have gf:bA P f=((P.ai f.aG).bd.getD 0 0,f.av):=by simp only[bA,cU,e8,a4,aQ]
  rw[gf]at lA;obtain⟨hS,fP,hT⟩:=ar.kR wb;obtain⟨i1,i2,i3⟩:=ax.many (.inr wb) _ (by rw[b8 (by omega)]);have hi:(P.ai f.aG).d.hi=-1\/(f.bu:Int)<(P.ai f.aG).d.hi:=by
   by_cases e:(P.ai f.aG).d.hi=-1;·exact .inl e
   ·exact .inr (hT e)
  cases aa:Nat.beq c.ao 2 with
  |true=>
   have hm:=cj aa;rw[a4];cases aiJ:decide ((f.bu:Int)<(P.ai f.aG).d.lo)with
   |true=>exact fin ⟨rfl,rfl⟩ (no hm)
   |false=>
    rw[aQ];refine fin ⟨rfl,rfl⟩ λe=>?_;obtain⟨n0,dy,a3,a6,bN⟩:=EP c2.kn h.g _ _ dg i1;rw[<-i2]at bN;refine HQ wg e (parts:=iP S.kn P.aq (List.replicate f.bu ((P.ai f.aG).bd.getD 0 0)) f.pl) ?_ a3 a6 bN ?_;·unfold je;rw[cF wb];refine Qp f.bu 0 f.pl (by omega) i1 (λi dx=>by omega) (.inr ⟨by omega,?_⟩);rw[<-i2,lA];exact hm
    ·rw[b8 (by omega)];show min f.n 65537=_;rw[i3];omega
  |false=>
   have hm:=PY aa;rw[aQ];cases mv:decide ((P.ai f.aG).d.hi=-1)&&decide (c.av=f.av)with
   |true=>trivial
   |false=>
    rw[aQ];simp only;have kO:List.replicate (f.bu+1) ((P.ai f.aG).bd.getD 0 0)=List.replicate f.bu ((P.ai f.aG).bd.getD 0 0)++[(P.ai f.aG).bd.getD 0 0]:=Qg;have gF:allM S.kn P.aq (List.replicate (f.bu+1) ((P.ai f.aG).bd.getD 0 0)) f.pl:=by rw[kO];exact Qn _ _ _ _ _ i1 ⟨by rw[<-i2,lA];exact hm,trivial⟩
    have gv:c.av=iy S.kn P.aq (List.replicate (f.bu+1) ((P.ai f.aG).bd.getD 0 0)) f.pl:=by rw[kO,Qm,<-i2];simp only[iy,lA,hm];rfl
    have gG:ic S.kn P.aq (List.replicate (f.bu+1) ((P.ai f.aG).bd.getD 0 0)) f.pl=ic S.kn P.aq (List.replicate f.bu ((P.ai f.aG).bd.getD 0 0)) f.pl+c.n:=by rw[kO,Lz,<-i2];simp only[ic,lA,hm];rfl
    cases fi:decide (((f.bu+1:Nat):Int)=(P.ai f.aG).d.hi)with
    |true=>
     have aR:=cm fi;rw[a4];refine fin ⟨rfl,rfl⟩ λe=>?_;obtain⟨n0,dy,a3,a6,bN⟩:=EP c2.kn h.g _ _ dg gF;rw[<-gv]at bN;refine HQ wg e (parts:=iP S.kn P.aq (List.replicate (f.bu+1) ((P.ai f.aG).bd.getD 0 0)) f.pl) ?_ a3 a6 bN ?_;·unfold je;rw[cF wb];exact Qp (f.bu+1) 0 f.pl (by omega) gF (λi dx=>by omega) (.inl (by rw[dp];exact aR))
     ·rw[b8 (by omega),gG];show min (min (f.n+c.n) 65537) 65537=_;rw[i3];omega
    |false=>
     rw[aQ];refine on ⟨rfl,rfl⟩ ⟨ax.w,λae L c4=>?_,λae=>?_⟩
     ·have Qt:L=List.replicate (f.bu+1) ((P.ai f.aG).bd.getD 0 0):=by rw[c4];exact b8 (by show ¬ (P.ai f.aG).d.k=4;omega)
      rw[Qt];refine⟨gF,gv,?_⟩;show min (f.n+c.n) 65537=min (ic S.kn P.aq (List.replicate (f.bu+1) ((P.ai f.aG).bd.getD 0 0)) f.pl) 65537;rw[gG,i3];omega
     ·have hZ:(P.ai f.aG).d.k=5:=ae;omega
 have gg:decide ((P.ai f.aG).d.k=6)=false:=bG wb;rw[gg,aQ];cases ec:decide ((P.ai f.aG).d.k=7)with
 |true=>
  rw[a4];cases aa:Nat.beq c.ao 3 with
  |true=>exact fin ⟨rfl,rfl⟩ λe=>LB e rfl (b2 _)
  |false=>exact fin ⟨rfl,rfl⟩ (no (Qr aa))
 |false=>
  rw[aQ];cases eX:decide ((P.ai f.aG).d.k=8)with
  |true=>
   rw[a4];cases aa:Nat.beq c.ao 2 with
   |true=>exact fin ⟨rfl,rfl⟩ λe=>LB e rfl (b2 _)
   |false=>exact fin ⟨rfl,rfl⟩ (no rfl)
  |false=>
   rw[aQ];have atH:=cu ec;have atI:=cu eX;have qn:=aH.k;have AO:(P.ai f.aG).d.k=9:=by omega
   cases aa:Nat.beq c.ao 3 with
   |true=>have hm:=cj aa;refine fin ⟨rfl,rfl⟩ λe=>one (.inr AO) _ hm e rfl ?_;rw[cF AO];show min (c.n+1) 65537=_;omega
   |false=>exact fin ⟨rfl,rfl⟩ (no (Qr aa))
def EQ{P:bm}(cV:iw P)(c2:kV P S)(h:sw P S){q:nL}(aL:l1 P S q)(al:EO P S q):we P (pQ P q S):=by
 cases q with
 |begin k a=>exact aiD c2 h aL| hand c=>exact aiE cV c2 h aL al
def HR:Nat->Int
 |0=>44| 1=>42| 2=>43| _=>0
open Go Go.Proofs
def X2(nm:ByteArray):∀ (ds:List bD) (i:Nat),ee nm ds i=bif decide (ee nm ds 0<0)then -1 else ee nm ds 0+i
 |[],i=>rfl
 |d::ds,i=>by
  unfold ee;cases h:decide (d.name=nm)with
  |true=>
   have:decide ((((0:Nat):Int))<0)=false:=by decide
   simp[this]
  |false=>
   rw[aQ,aQ,X2 nm ds (i+1),X2 nm ds (0+1)];have al:ee nm ds 0<0\/0<=ee nm ds 0:=by omega
   rcases al with al | al;·rw[dF al];rfl
   ·have e:decide (ee nm ds 0<0)=false:=bG (by omega);rw[e,aQ,aQ];have aA:decide (ee nm ds 0+((0+1:Nat):Int)<0)=false:=bG (by omega);rw[aA,aQ];omega
def X3(nm:ByteArray)(ax c1:List bD):ee nm (ax++c1) 0=bif decide (ee nm ax 0<0)then ee nm c1 ax.length else ee nm ax 0:=by
 have key:∀ (ax:List bD) (i:Nat),ee nm (ax++c1) i=bif decide (ee nm ax i<0)then ee nm c1 (i+ax.length)else ee nm ax i:=by
  intro ax
  induction ax with
  |nil=>intro i;simp[ee]
  |cons d ax be=>
   intro i;rw[py,ee,ee];cases decide (d.name=nm)with
   |true=>have:decide ((i:Int)<0)=false:=bG (by omega);rw[a4,a4,this,aQ]| false=>rw[aQ,aQ,be (i+1),eM];rw[show i+1+ax.length=i+(ax.length+1)from by omega]
 have:=key ax 0;rwa [dp]at this
structure ER(ax:List bD)(bc:List (ByteArray×Int)):Prop where
 look:∀ nm,(eL nm bc).isSome=decide (0<=ee nm ax 0)
def X4(nm:ByteArray)(p:ByteArray×Int):∀ bc:List (ByteArray×Int),(eL nm (bc++[p])).isSome=((eL nm bc).isSome||decide (nm=p.1))
 |[]=>by
  show(bif decide (nm=p.1)then some p.2 else none:Option Int).isSome=_;cases decide (nm=p.1)<;>rfl
 |q::bc=>by
  rw[py,eL,eL];cases decide (nm=q.1)with
  |true=>rfl| false=>rw[aQ,aQ,X4 nm p bc]
def ER.snoc{ax:List bD}{bc:List (ByteArray×Int)}(h:ER ax bc)(d:bD)(v:Int):ER (ax++[d]) (bc++[(d.name,v)]):=by
 refine⟨λnm=>?_⟩;rw[X4,h.look,X3];by_cases al:ee nm ax 0<0
 ·rw[dF al,a4,bG (by omega:¬ 0<=ee nm ax 0),w2];unfold ee;have:decide (d.name=nm)=decide (nm=d.name):=decide_eq_decide.2 ⟨Eq.symm,Eq.symm⟩;rw[this];cases decide (nm=d.name)with
  |true=>simp| false=>rw[aQ];rfl
 ·rw[bG al,aQ,dF (by omega:0<=ee nm ax 0),HO]
def xN(ds:List bD)(i:Nat):Bool:=match ds[i]? with
 |some d=>decide (ee d.name ds 0=i)| none=>true
def aiK(d:bD)(c1:List bD)(i:Nat):ee d.name (d::c1) i=i:=by rw[ee,dF rfl];rfl
def aiL(c1:List bD):∀ (ax:List bD) (bc:List (ByteArray×Int)),ER ax bc->(∀ i,i<ax.length->xN (ax++c1) i=true) ->
  match rj bc ax.length c1 with
  |none=>∃ i,i<(ax++c1).length/\xN (ax++c1) i=false/\∀ k,k<i->xN (ax++c1) k=true| some r=>ER (ax++c1) r/\∀ i,i<(ax++c1).length->xN (ax++c1) i=true:=by
 induction c1 with
 |nil=>intro ax bc h ar;rw[eo]at *;exact⟨h,ar⟩
 |cons d c1 be=>
  intro ax bc h ar;have hl:(ax++d::c1)[ax.length]?=some d:=by simp
  have np:xN (ax++d::c1) ax.length=!(eL d.name bc).isSome:=by
   unfold xN;rw[hl,h.look];simp only;rw[X3];by_cases al:ee d.name ax 0<0;·rw[dF al,a4,aiK];simp;omega
   ·rw[bG al,aQ];have a0:ee d.name ax 0<ax.length:=by
     have:∀ (ax:List bD) (i:Nat),0<=ee d.name ax i->ee d.name ax i<i+ax.length:=by
      intro ax
      induction ax with
      |nil=>intro i h;simp[ee]at h
      |cons e ax aiM=>
       intro i h;unfold ee at h |-;cases aJ:decide (e.name=d.name)with
       |true=>simp;omega| false=>rw[aJ,aQ]at h;rw[aQ];have:=aiM (i+1) h;simp;omega
     have:=this ax 0 (by omega);omega
    have aC:decide (ee d.name ax 0=(ax.length:Int))=false:=bG (by omega);have aA:decide (0<=ee d.name ax 0)=true:=dF (by omega);rw[aC,aA];rfl
  rw[rj];cases aE:(eL d.name bc).isSome with
  |true=>rw[aE]at np;exact⟨ax.length,by simp,np,ar⟩
  |false=>
   rw[aE]at np;have:=be (ax++[d]) (bc++[(d.name,(ax.length:Int))]) (h.snoc d _) (λi hi=>by
    rw[gz];simp at hi;rcases Nat.lt_or_eq_of_le (Nat.lt_succ_iff.1 (by omega:i<ax.length+1))with U | U;·exact ar i U
    ·rw[U];exact np)
   rw[di,gz]at this;exact this
def aiN:ER [] []:=⟨λnm=>by simp[eL,ee]⟩
def HS(ds:List bD)(n:bh):Bool:=!decide (n.k=3)||decide (0<=ee n.t ds 0)
def X5(p:bh->Bool):∀ (ds:List bD) (i:Nat),((v5 i ds).all λx=>p x.2)=ds.all λd=>d.t.ns.all p
 |[],i=>rfl| d::ds,i=>by rw[v5,KX,List.all_cons,X5 p ds (i+1),List.all_map];rfl
def Qu(aX:List Int)(g:cA):Int:=
 bif decide ((g.n:Int)=0)then 4 else bif !v7 g.ds then 4 else bif uS aX g then 40 else
 bif !(List.range g.ds.length).all (xN g.ds)then 6 else bif g.ds.all λd=>d.t.ns.all (HS g.ds)then 0 else 41
def aiO(aX:List Int)(g:cA):Qu aX g=e9 aX g:=by
 unfold Qu e9;have h:=aiL g.ds [] [] aiN (λi hi=>by simp at hi);simp only[ko,nz]at h;cases ah:rj [] 0 g.ds with
 |none=>
  rw[ah]at h;obtain⟨i,U,aa,_⟩:=h;have:(List.range g.ds.length).all (xN g.ds)=false:=by rw[lB];intro gq;rw[hI]at gq;have:=gq i (me.2 U);rw[aa]at this;cases this
  rw[this];rfl
 |some bc=>
  rw[ah]at h;obtain⟨U,aa⟩:=h;have af:(List.range g.ds.length).all (xN g.ds)=true:=by rw[hI];intro i hi;exact aa i (me.1 hi)
  rw[af];have aN:(g.ds.all λd=>d.t.ns.all (HS g.ds))=zj bc g.ds:=by unfold zj;rw[X5];congr 1;funext d;congr 1;funext n;unfold AS HS;rw[U.look]
  rw[aN];rfl
def Qv:hh 0:=⟨by decide,by decide⟩
def i0:jm 0:=⟨by decide,by decide⟩
def Qw{bR:Int}:∀ {s:List Bool} {i j:Nat},j<s.length->(s.getD j false == decide (((i+j:Nat):Int)=bR))=true->sj bR i s=false
 |b::s,i,0,_,h=>by unfold sj;rw[show(b == decide ((i:Int)=bR))=true by simpa using h];rfl
 |b::s,i,j+1,an,h=>by
  unfold sj;cases b == decide ((i:Int)=bR)with
  |true=>rfl| false=>simp only[aQ];refine Qw (j:=j) (by simpa using an) ?_;rw[show i+1+j=i+(j+1) by omega];simpa using h
def X6{bR:Int}:∀ {s:List Bool} {i:Nat},(∀ j,j<s.length->(s.getD j false == decide (((i+j:Nat):Int)=bR))=false)->sj bR i s=true
 |[],i,h=>rfl| b::s,i,h=>by unfold sj;have ay:=h 0 (by simp);rw[show(b == decide ((i:Int)=bR))=false by simpa using ay];simp only[aQ];refine X6 λj an=>?_;have:=h (j+1) (by simpa using an);rw[show i+1+j=i+(j+1) by omega];simpa using this
def X7{xs kY:List Value}{size:Nat}(cr:os.ok size xs){g c:Nat}{aY:List Value}(aT:kY.length=size)(U:aY.length=c*size)(aa:os.n+1<=c)(af:c<=maxLen)(aN:aY.take ((os.n+1)*size)=xs++kY) :
  bf.ok ⟨some g,os.n+1,c,aY⟩ size (xs++kY):=by
 have aE:=cr.len;refine⟨?_,(λh=>by cases h),λbN mq=>⟨U,aa,af,aN⟩⟩;rw[di,aE,aT];simp only;rw[j3,qj]
def X8{i:Nat}:∀ {ks:List Int} {s cH:List Bool},lx i ks s=some cH->∀ j,cH.getD j false=true->s.getD j false=true\/((j:Int)∈ks/\j<i)
 |[],s,cH,h,j,an=>by simp only[lx,hq]at h;subst h;exact .inl an
 |k::ks,s,cH,h,j,an=>by
  unfold lx at h;cases ag:decide (k<0)||(decide ((i:Int)<=k)||s.getD k.toNat false)with
  |true=>rw[ag]at h;cases h
  |false=>
   rw[ag]at h;simp only[aQ]at h;simp only[n8,ny]at ag;rcases X8 h j an with U | U
   ·by_cases e:k.toNat=j
    ·right
     refine⟨?_,by omega⟩;have:(j:Int)=k:=by omega
     rw[this];exact .head _
    ·left
     simp only[dB,qi]at U |-;rwa [b8 e]at U
   ·exact .inr ⟨.tail _ U.1,U.2⟩
def X9:∀ {ds:List bh} {i:Nat} {s cH:List Bool},mm i ds s=some cH->∀ j,cH.getD j false=true->s.getD j false=true\/∃ q,∃ h:q<ds.length,(j:Int)∈ds[q].aS/\j<i+q
 |[],i,s,cH,h,j,an=>by simp only[mm,hq]at h;subst h;exact .inl an
 |d::ds,i,s,cH,h,j,an=>by
  unfold mm at h;cases ar:fits d d.aS.length with
  |false=>rw[ar]at h;cases h
  |true=>
   rw[ar]at h;simp only[a4]at h;split at h
   ·rename_i s1 g3;rcases X9 h j an with U | ⟨q,aL,U,aa⟩
    ·rcases X8 g3 j U with af | ⟨af,aN⟩
     ·exact .inl af
     ·exact .inr ⟨0,by simp,af,by omega⟩
    ·exact .inr ⟨q+1,by simpa using aL,by simpa using U,by omega⟩
   ·cases h
def aiP{t:eH}(al:right t=true){j:Nat}(an:j<t.ns.length)(bM:(j:Int)≠t.bR):∃ p,∃ h:p<t.ns.length,(j:Int)∈t.ns[p].aS/\j<p:=by
 unfold right at al;simp only[ct]at al;obtain⟨_,_,al⟩:=al;split at al
 ·rename_i s ax;have j9:=(Ps (g:=λ_=>0) (c:=λ_=>0) ax (by simp) (λj an=>by simp)).1;have hm:s.getD j false=true:=by
   cases ag:s.getD j false with
   |true=>rfl| false=>have:=Qw (bR:=t.bR) (s:=s) (i:=0) (j:=j) (by rw[j9];simpa using an) (by rw[ag,dp];simp[bM]);rw[this]at al;cases al
  rcases X9 ax j hm with U | ⟨q,aL,U,aa⟩;·simp[dB,an]at U
  ·exact⟨q,aL,U,by omega⟩
 ·cases al
structure a8 where
 z:Bool
 s:Bool
 f:Bool
 deriving DecidableEq
def a8.cells(x:a8):List Value:=[.bool x.z,.bool x.s,.bool x.f]
def a8.val(x:a8):Value:=.agg #[.bool x.z,.bool x.s,.bool x.f]
def a8.dc(x:a8):x.cells.length=3:=rfl
def a8.lD(x:a8):Bool:=x.z||x.s
def aiQ(x y:a8)(p q:Operand)(w:World):(do eqGuard .neq 46 p q x.val y.val;binOp .neq 46 x.val y.val:Sem Value).run Tryz.prog w=.ok (.bool (!decide (x=y))) w:=by
 obtain⟨a,b,c⟩:=x;obtain⟨d,e,f⟩:=y;cases a<;>cases b<;>cases c<;>cases d<;>cases e<;>cases f<;>kernel_rfl
def fU.X'{p q:a8}{V:Value->Prop}(h:V (.bool (!decide (p=q)))):fU Tryz.prog .neq 46 x y (.val (.agg #[.bool p.z,.bool p.s,.bool p.f])) (.val (.agg #[.bool q.z,.bool q.s,.bool q.f])) V other:=
 .mk _ _ _ rfl rfl (λw=>aiQ p q x y w) h
def Qx{z s:Bool}{x:a8}(U:z=x.z)(aa:s=x.s)(af:f=x.f):Value.agg #[.bool z,.bool s,.bool f]=x.val:=by subst U aa af;rfl
def Ya{z s:Bool}{x:a8}(U:z=x.z)(aa:s=x.s)(af:f=x.f):[Value.bool z,Value.bool s,Value.bool f]=x.cells:=by subst U aa af;rfl
def aiR{a b:Bool}(h:a=b):xd (.val (.bool a)) (.val (.bool b)):=by subst h;exact .refl
def LC{a b:Bool}(h:a=b):xd (.lit a) (.val (.bool b)):=by subst h;exact .lit
def perm_nil:M.Perm (M++[]):=by simp
def fU.aiS{P:Program}{E:Env}(aW:dm P E){t e:Nat}{aP:eE}(aI:E t=some dT)(eS:dT.bT=.array 4 e)(he:E e=some aP){k:IntKind}(mX:aP.bT=.int k)(aB:P.eqGuardType P.depth t=false){gk bW da dh pC b1 ch b9:Int}{V:Value->Prop}
  (h:V (.bool (!(gk == pC&&(bW == b1&&(da == ch&&dh == b9)))))):fU P .neq t x y (.val (.agg #[.int k gk,.int k bW,.int k da,.int k dh])) (.val (.agg #[.int k pC,.int k b1,.int k ch,.int k b9])) V other:=by
 obtain⟨d,fH,gd⟩:=(aW _ _ aI).fM;obtain⟨q7,Pg,Ph⟩:=(aW _ _ he).fM;obtain⟨inf,z,hi,gL,_⟩:=(aW _ _ he).inf;have U:d=.array 4 e:=by rw[eS]at gd;cases d<;>simp_all[fF]
 have aa:q7=.int k:=by rw[mX]at Ph;cases q7<;>simp_all[fF]
 subst U;subst aa;have g3:inf.size=1:=by rw[gL];exact(aW _ _ he).Kc (by rw[mX];rfl)
 refine .mk _ _ _ rfl rfl (λw=>?_) h;simp only[cG,run_eqGuard_agg (hm:=aB),ck,binOp,V2 fH Pg hi g3,dv]
def Qy(x:a8):Spec Tryz.prog 212 [x.val] I M λv I' M'=>v=.bool x.lD/\I'=I/\M'=M:=by
 obtain⟨a,b,c⟩:=x;refine bY [] aV Tryz.func212 rfl rfl rfl ?_;intro B ay;refine c0.mk (λh=>?_) (λh=>?_)
 ·exact⟨_,_,.refl,by rw[show a=false from h];rfl,rfl,rfl⟩
 ·exact⟨_,_,.refl,by rw[show a=true from h];rfl,rfl,rfl⟩
structure oi(I:a5)(M:List aF)(a:Option Addr)(n:Nat)(ks:List a8):Prop where
 n:ks.length=n
 rd:∀ j (h:j<ks.length),∃ ad,a=some ad/\cx I M (ad.add (j*3)) 3 ks[j].cells
def mz(ao:a8×Bool)(k:a8):a8×Bool:=(⟨ao.1.z&&k.z,ao.1.s||k.s,ao.1.f||(ao.2&&k.f)⟩,ao.2&&k.lD)
def rq(ks:List a8):a8×Bool:=ks.foldl mz (⟨true,false,false⟩,true)
def ES(ks:List a8):a8:=⟨(rq ks).1.z,(rq ks).1.s&&(rq ks).2,(rq ks).1.f⟩
def oj(f k:a8):a8:=⟨f.z||(f.f&&k.z),f.s||(f.f&&k.s),f.f&&k.f⟩
def HT(ks:List a8):a8:=ks.foldl oj ⟨false,false,true⟩
def cb:a8:=⟨false,false,false⟩
def o0(d:bh)(k:a8):a8:=bif decide (d.hi=0)then⟨true,false,false⟩else⟨k.z||(decide (d.lo=0)&&k.f),k.s,decide (0<d.lo)&&k.f⟩
def eO(d:bh)(ks:List a8):a8:=
 bif decide (d.k=0)then⟨true,false,false⟩else
 bif decide (d.k=1)then⟨false,!d.oT,true⟩else
 bif decide (d.k=2)then⟨false,true,true⟩else
 bif decide (d.k=3)then ks.headD cb else
 bif decide (d.k=4)then ES ks else
 bif decide (d.k=5)then HT ks else
 bif decide (d.k=6)then o0 d (ks.headD cb)else
 bif decide (d.k=7)then⟨(ks.headD cb).lD,false,(ks.headD cb).f⟩else
 bif decide (d.k=8)then⟨(ks.headD cb).f,false,(ks.headD cb).lD⟩else ks.headD cb
section
variable{I:a5}{M:List aF}{d:bh}{a:Option Addr}{n c:Nat}{ks:List a8}
def oi.head(ae:oi I M a n ks)(ay:0<n):∃ ad,a=some ad/\cx I M (ad.add (0*3)) 3 (ks.headD cb).cells:=by
 have U:0<ks.length:=by rw[ae.n];exact ay
 obtain⟨ad,aa,af⟩:=ae.rd 0 U;refine⟨ad,aa,?_⟩;cases ks with
 |nil=>simp at U| cons k ks=>exact af
def aiT:Spec Tryz.prog 149 [d.val,.slice a n c] I M λv I' M'=>v=a8.val ⟨true,false,false⟩/\I'=I/\M'=M:=by refine bY [] aV Tryz.func149 rfl rfl rfl ?_;intro B ay;exact⟨_,_,.refl,rfl,rfl,rfl⟩
def aiU:Spec Tryz.prog 151 [d.val,.slice a n c] I M λv I' M'=>v=a8.val ⟨false,true,true⟩/\I'=I/\M'=M:=by refine bY [] aV Tryz.func151 rfl rfl rfl ?_;intro B ay;exact⟨_,_,.refl,rfl,rfl,rfl⟩
def Yb(ae:oi I M a n ks)(ay:0<n):Spec Tryz.prog 152 [d.val,.slice a n c] I M λv I' M'=>v=(ks.headD cb).val/\I'=I/\M'=M:=by refine bY [] aV Tryz.func152 rfl rfl rfl ?_;intro B j4;obtain⟨ad,b3,br⟩:=ae.head ay;refine bl.mk ad 0 b3 rfl ay ?_;refine aw.mk _ br ?_;exact⟨_,_,.refl,rfl,rfl,rfl⟩
def aiV(ae:oi I M a n ks)(ay:0<n):Spec Tryz.prog 156 [d.val,.slice a n c] I M λv I' M'=>v=a8.val ⟨(ks.headD cb).lD,false,(ks.headD cb).f⟩/\I'=I/\M'=M:=by refine bY [] aV Tryz.func156 rfl rfl rfl ?_;intro B j4;obtain⟨ad,b3,br⟩:=ae.head ay;refine cq.draw aV rfl rfl rfl ?_;refine bl.mk ad 0 b3 rfl ay ?_;refine aw.mk _ br ?_;refine bl.mk ad 0 b3 rfl ay ?_;refine aw.mk _ (br.part (k:=2) (m:=1) (by decide)) ?_;refine hx.qd M [] _ perm_nil (Qy (ks.headD cb)) (λv I' M' h x ab=>by rw[h.2.2];exact ab) ?_;rintro v I' M' -⟨rfl,rfl,rfl⟩;rw[eo];exact⟨_,_,.refl,rfl,rfl,rfl⟩
def aiW(ae:oi I M a n ks)(ay:0<n):Spec Tryz.prog 157 [d.val,.slice a n c] I M λv I' M'=>v=a8.val ⟨(ks.headD cb).f,false,(ks.headD cb).lD⟩/\I'=I/\M'=M:=by refine bY [] aV Tryz.func157 rfl rfl rfl ?_;intro B j4;obtain⟨ad,b3,br⟩:=ae.head ay;refine cq.draw aV rfl rfl rfl ?_;refine bl.mk ad 0 b3 rfl ay ?_;refine aw.mk _ (br.part (k:=2) (m:=1) (by decide)) ?_;refine bl.mk ad 0 b3 rfl ay ?_;refine aw.mk _ br ?_;refine hx.qd M [] _ perm_nil (Qy (ks.headD cb)) (λv I' M' h x ab=>by rw[h.2.2];exact ab) ?_;rintro v I' M' -⟨rfl,rfl,rfl⟩;rw[eo];exact⟨_,_,.refl,rfl,rfl,rfl⟩
def aiX:Spec Tryz.prog 150 [d.val,.slice a n c] I M λv I' M'=>v=a8.val ⟨false,!d.oT,true⟩/\I'=I/\M'=M:=by refine bY [] aV Tryz.func150 rfl rfl rfl ?_;intro B ay;refine fU.aiS aV (e:=47) rfl rfl rfl rfl (by kernel_rfl) ?_;exact⟨_,_,.refl,rfl,rfl,rfl⟩
def aiY(ae:oi I M a n ks)(ay:0<n):Spec Tryz.prog 155 [d.val,.slice a n c] I M λv I' M'=>v=(o0 d (ks.headD cb)).val/\I'=I/\M'=M:=by
 refine bY [] aV Tryz.func155 rfl rfl rfl ?_;intro B j4;obtain⟨ad,b3,br⟩:=ae.head ay;generalize ks.headD cb=k at br;obtain⟨Qz,QA,QB⟩:=k;refine aM.mk (λh=>?_) (λh=>?_)
 ·refine⟨_,_,.refl,Qx ?_ ?_ ?_,rfl,rfl⟩<;>simp[o0,h]
 refine bl.mk ad 0 b3 rfl ay ?_;refine aw.mk _ br ?_
 repeat' refine c0.mk (λh=>?_) (λh=>?_)
 all_goals refine⟨_,_,.refl,Qx ?_ ?_ ?_,rfl,rfl⟩
 all_goals first | (simp_all[o0];done) | (simp_all[o0];intros;omega)
def aiZ(ae:oi I M a n ks)(az:n<=140737488355328):Spec Tryz.prog 154 [d.val,.slice a n c] I M λv I' M'=>v=(HT ks).val/\I'=I/\M'=M:=by
 refine bY [] aV Tryz.func154 rfl rfl rfl ?_;intro B j4;have ev:=ae.n;refine ea.inv (ι:=Nat×a8) (λx=>{ bK:=[(4,.ref 4 0),(5,.ref 5 0),(9,.val (.slice a n c)),(10,.val (.int .i64 n)),(11,.val (.int .i64 x.1))],cl:=[(4,cb.cells),(5,x.2.cells)],dz:=I,d':=M }) (λx=>x.1<=n/\x.2=(ks.take x.1).foldl oj ⟨false,false,true⟩) (λx=>n-x.1) ?_ ?_
 ·exact⟨(0,⟨false,false,true⟩),⟨bF _,rfl⟩,.refl,jj,.cons rfl (.cons rfl .nil)⟩
 rintro⟨i,f⟩⟨hi,ar⟩;simp only at hi ar;refine aM.mk (λh=>?_) (λh=>?_)
 rotate_left
 ·have cE:n<=i:=by have:=cu h;omega
  refine⟨_,_,.refl,?_,rfl,rfl⟩;rw[gM (by omega)]at ar;rw[HT,<-ar];rfl
 have a0:i<n:=by have:=cm h;omega
 obtain⟨ad,b3,br⟩:=ae.rd i (by omega);have cR:∀ g:a8,g=oj f (ks[i]'(by omega))->g=(ks.take (i+1)).foldl oj ⟨false,false,true⟩:=λg aB=>by rw[iT (by omega),Qk,<-ar,aB];rfl
 generalize ks[i]'(by omega)=k at br cR;obtain⟨Qz,QA,QB⟩:=k;obtain⟨z,s,QC⟩:=f;refine bl.mk ad i b3 rfl a0 ?_;refine aw.mk _ br ?_
 repeat' refine c0.mk (λh=>?_) (λh=>?_)
 all_goals refine bb.mk _ (c7 (i:=i) (by omega)) ?_
 all_goals refine⟨(i+1,_),⟨⟨by simp only;omega,cR _ rfl⟩,by simp only;omega⟩,.refl,jj,.cons rfl (.cons ?_ .nil)⟩
 all_goals clear cR ar br
 all_goals (refine congrArg some (Ya ?_ ?_ ?_)<;>simp_all[oj])
def ai0(l:List a8)(k:a8):rq (l++[k])=mz (rq l) k:=by simp[rq]
def ai1(ae:oi I M a n ks)(az:n<=140737488355328):Spec Tryz.prog 153 [d.val,.slice a n c] I M λv I' M'=>v=(ES ks).val/\I'=I/\M'=M:=by
 refine bY [] aV Tryz.func153 rfl rfl rfl ?_;intro B j4;have ev:=ae.n;refine ea.inv (ι:=Nat×a8×Bool) (λx=>{ bK:=[(4,.ref 4 0),(5,.ref 5 0),(6,.val (.bool x.2.2)),(10,.val (.slice a n c)),(11,.val (.int .i64 n)),(12,.val (.int .i64 x.1))],cl:=[(4,cb.cells),(5,x.2.1.cells)],dz:=I,d':=M }) (λx=>x.1<=n/\x.2=rq (ks.take x.1)) (λx=>n-x.1) ?_ ?_
 ·exact⟨(0,⟨true,false,false⟩,true),⟨bF _,rfl⟩,.refl,.cons .refl (.cons .refl (.cons .lit (gX))),.cons rfl (.cons rfl .nil)⟩
 rintro⟨i,f,Yc⟩⟨hi,ar⟩;simp only at hi ar;refine aM.mk (λh=>?_) (λh=>?_)
 rotate_left
 ·have cE:n<=i:=by have:=cu h;omega
  rw[gM (by omega)]at ar;obtain⟨z,s,QC⟩:=f;have aC:(rq ks).1=⟨z,s,QC⟩:=by rw[<-ar]
  have aA:(rq ks).2=Yc:=by rw[<-ar]
  refine c0.mk (λaa=>?_) (λaa=>?_)
  all_goals refine⟨_,_,.refl,Qx ?_ ?_ ?_,rfl,rfl⟩
  all_goals simp_all[ES]
 have a0:i<n:=by have:=cm h;omega
 obtain⟨ad,b3,br⟩:=ae.rd i (by omega);have cR:∀ g:a8×Bool,g=mz (f,Yc) (ks[i]'(by omega))->g=rq (ks.take (i+1)):=λg aB=>by rw[iT (by omega),ai0,<-ar,aB]
 generalize ks[i]'(by omega)=k at br cR;obtain⟨Qz,QA,QB⟩:=k;obtain⟨z,s,QC⟩:=f;refine bl.mk ad i b3 rfl a0 ?_;refine aw.mk _ br ?_
 repeat' first
  |refine c0.mk (λh=>?_) (λh=>?_)|(refine a9.mk M [] _ perm_nil (Qy ⟨Qz,QA,QB⟩) ?_;rintro v I' M' -⟨rfl,rfl,rfl⟩;rw[eo])
 all_goals refine bb.mk _ (c7 (i:=i) (by omega)) ?_
 all_goals refine⟨(i+1,_),⟨⟨by simp only;omega,cR _ rfl⟩,by simp only;omega⟩,.refl,.cons .refl (.cons .refl (.cons ?_ (gX))),.cons rfl (.cons ?_ .nil)⟩
 all_goals clear cR ar br
 all_goals first
  |(refine congrArg some (Ya ?_ ?_ ?_)<;>simp_all[mz])|(refine aiR ?_;simp_all[mz])|(refine LC ?_;simp_all[mz])
end
def cx.mono{a:Addr}{n:Nat}(h:cx I M a n vs)(bX:∀ b o,I b=some o->I' b=some o):cx I' M a n vs:=by obtain⟨U,cs,T,ak,aa,af⟩:=h;exact⟨U,cs,T,ak,aa.imp (bX _ _) id,af⟩
def cx.sub{I:a5}{M M':List aF}{a:Addr}{n:Nat}{vs:List Value}(h:cx I M a n vs)(a2:∀ x∈M,x∈M'):cx I M' a n vs:=by obtain⟨U,cs,T,ak,aa,af⟩:=h;refine⟨U,cs,T,ak,aa.imp id ?_,af⟩;rintro⟨x,ab,aC,aA⟩;exact⟨x,a2 x ab,aC,aA⟩
section
variable{X:dw}{β:Nat->Nat}{a:Act}{w:World}{F:Fr}{C:dX}{I:a5}{M:List aF}{o:Oper}{Q:Exit->Act->World->Prop}{K:hb}
def Yd(aW:dm X.P X.E){t:Nat}{k e:Nat}(aI:X.E t=some dT)(eS:dT.bT=.map k e)(ae:X.E k=some uO)(gE:uO.bT=.string)(bk:∀ w,(zeroValue e).run X.P w=.ok (.int .i64 0) w){g:Nat}{l:List (ByteArray×Int)}(aB:w.heap[g]?=some (ka l))(ok:Bool) :
  (Instr.lookup t (.map (some g)) (.string s) ok).run X.P w=.ok (bif ok then .tuple #[.int .i64 ((eL s l).getD 0),.bool (eL s l).isSome]else .int .i64 ((eL s l).getD 0)) w:=by
 obtain⟨d,fH,gd⟩:=(aW _ _ aI).fM;have U:d=.map k e:=by rw[eS]at gd;cases d<;>simp_all[fF]
 subst U;obtain⟨gm,tC,kr⟩:=(aW _ _ ae).fM;have aa:gm=.string:=by rw[gE]at kr;cases gm<;>simp_all[fF]
 subst aa;have aB:w.heap[g]?=some (.map (pO l 0).toArray l.length):=aB;obtain⟨r,ur,m1⟩:=Lb s l 0 0;have aJ:(Instr.checkKey (pO l 0).toArray.isEmpty 10000 k (.string s)).run X.P w=.ok () w:=Ew (k:=.string s) tC (by simp[MapKept.IsKey]) _ 9999;have v3:(Instr.findKey k (.string s) (pO l 0)).run X.P w=.ok r w:=Ex tC ur;unfold Instr.lookup;simp only[cG,run_underlying fH,ck,Ev aB,dv,aJ,v3];cases r with
 |none=>
  cases aE:eL s l with
  |none=>cases ok<;>simp[bk]
  |some v=>rw[aE]at m1;simp at m1
 |some p=>
  cases aE:eL s l with
  |none=>rw[aE]at m1;simp at m1
  |some v=>
   rw[aE]at m1;simp only[mc,hq]at m1;cases ok<;>simp[m1]
def bE.Ye(aW:dm X.P X.E){t:Nat}(aD:o.op=.lookup t x y true)(ah:∀ d,o.dst=some d->d<X.n){k e:Nat}(aI:X.E t=some dT)(eS:dT.bT=.map k e)(ae:X.E k=some uO)(gE:uO.bT=.string)(bk:∀ w,(zeroValue e).run X.P w=.ok (.int .i64 0) w){g:Nat}{l:List (ByteArray×Int)}(ab:bU F x=.val (.map (some g)))(aT:bU F y=.val (.string s))(a2:iX I M g (ka l))
  (h:K (put o.dst (.val (.tuple #[.int .i64 ((eL s l).getD 0),.bool (eL s l).isSome])) F) C I M):bE X o F C I M K:=by
 refine⟨λa w Q ⟨β,ba⟩=>?_⟩;have ff:=Yd aW aI eS ae gE bk (a2.heap ba.holds) (s:=s) true;have ex:=dJ ba.ak ab;have q8:=dJ ba.ak aT;refine w7 ba ah (by rw[aD];simp) ?_ h;unfold execOp;simp only[aD,ex,q8,cG,ff,ck,dv,a4]
def bE.ai2(aW:dm X.P X.E){t:Nat}(aD:o.op=.lookup t x y false)(ah:∀ d,o.dst=some d->d<X.n){k e:Nat}(aI:X.E t=some dT)(eS:dT.bT=.map k e)(ae:X.E k=some uO)(gE:uO.bT=.string)(bk:∀ w,(zeroValue e).run X.P w=.ok (.int .i64 0) w){g:Nat}{l:List (ByteArray×Int)}(ab:bU F x=.val (.map (some g)))(aT:bU F y=.val (.string s))(a2:iX I M g (ka l))
  (h:K (put o.dst (.val (.int .i64 ((eL s l).getD 0))) F) C I M):bE X o F C I M K:=by
 refine⟨λa w Q ⟨β,ba⟩=>?_⟩;have ff:=Yd aW aI eS ae gE bk (a2.heap ba.holds) (s:=s) false;have ex:=dJ ba.ak ab;have q8:=dJ ba.ak aT;refine w7 ba ah (by rw[aD];simp) ?_ h;unfold execOp;simp only[aD,ex,q8,cG,ff,ck,dv,aQ]
end
def xO:List (ByteArray×Int)->Nat->List bD->List (ByteArray×Int)
 |bc,_,[]=>bc| bc,i,d::ds=>xO (bif (eL d.name bc).isSome then bc else bc++[(d.name,(i:Int))]) (i+1) ds
def bJ(ds:List bD):List (ByteArray×Int):=xO [] 0 ds
def Yf(aB:g.ok I):Spec Tryz.prog 42 [g.val] I [] λv I' M'=>(∀ b o,I b=some o->I' b=some o)/\M'=[]/\∃ iO,v=.map (some iO)/\I' iO=some (ka (bJ g.ds)):=by
 refine OO [] aV Tryz.func42 rfl rfl rfl ?_;intro B ay;have gC:=aB.n;have iH:=aB.bj.cap;refine bE.makeMap aV rfl (by simp) rfl rfl rfl λez=>?_;refine ea.inv (ι:=Nat×List (ByteArray×Int)) (λx=>{ bK:=[(1,.ref 1 0),(3,.val (.map (some ez))),(13,.val (.slice g.a g.n g.c)),(14,.val (.int .i64 g.n)),(15,.val (.int .i64 x.1))],cl:=[(1,[.slice g.a g.n g.c])],dz:=I,d':=[⟨ez,ka x.2⟩] }) (λx=>x.1<=g.n/\bJ g.ds=xO x.2 x.1 (g.ds.drop x.1)) (λx=>g.n-x.1) ?_ ?_
 ·exact⟨(0,[]),⟨bF _,rfl⟩,.refl,jj,.cons rfl .nil⟩
 rintro⟨i,bc⟩⟨hi,aK⟩;simp only at hi aK;refine aM.mk (λh=>?_) (λh=>?_)
 ·have a0:i<g.n:=by have:(i:Int)<(g.n:Int):=cm h;omega
  have bZ:i<g.ds.length:=by omega
  obtain⟨ad,b3,br⟩:=aB.bj.row bD.dc a0 bZ;rw[fg bZ,xO]at aK;refine bl.mk ad i b3 rfl a0 ?_;refine aw.mk _ (br _) ?_;refine bE.Ye aV rfl (by simp) rfl rfl rfl rfl (λw=>HG w) (l:=bc) (g:=ez) rfl rfl (.inr ⟨_,.head _,rfl,rfl⟩) ?_;refine aM.mk (λaf=>?_) (λaf=>?_)
  ·have az:(eL g.ds[i].name bc).isSome=false:=by simpa using af
   have aE:eL g.ds[i].name bc=none:=by simpa using az
   rw[az,aQ]at aK;refine bE.Xp aV rfl rfl rfl rfl rfl rfl rfl rfl rfl aE (Mr:=[]) (.refl _) ?_;refine bb.mk _ (c7 (i:=i) (by omega)) ?_;exact⟨(i+1,_),⟨⟨by simp only;omega,aK⟩,by simp only;omega⟩,.refl,jj,.cons rfl .nil⟩
  ·have az:(eL g.ds[i].name bc).isSome=true:=by simpa using af
   rw[az,a4]at aK;refine bb.mk _ (c7 (i:=i) (by omega)) ?_;exact⟨(i+1,_),⟨⟨by simp only;omega,aK⟩,by simp only;omega⟩,.refl,jj,.cons rfl .nil⟩
 have cE:g.n<=i:=by have:¬ (i:Int)<(g.n:Int):=cu h;omega
 rw[iG (by omega),xO]at aK;intro mf;have ag:=mf.d ⟨ez,ka bc⟩ (.head _);exact⟨_,_,.n2 rfl (by simp) .refl,ku ag,rfl,ez,rfl,by rw[aK];exact pJ ..⟩
def ai3:List Nat:=[149,150,151,152,153,154,155,156,157,152]
def QD:List Value:=[.func (.func 149) #[] #[],.func (.func 150) #[] #[],.func (.func 151) #[] #[],.func (.func 152) #[] #[],.func (.func 153) #[] #[],.func (.func 154) #[] #[],.func (.func 155) #[] #[],.func (.func 156) #[] #[],.func (.func 157) #[] #[],.func (.func 152) #[] #[]]
def ai4:Spec Tryz.prog 95 [] I [] λv I' M'=>v=.agg QD.toArray/\I'=I/\M'=[]:=by refine bY [] aV Tryz.func95 rfl rfl rfl ?_;intro B ay;exact⟨_,_,.refl,rfl,rfl,rfl⟩
def xP{a:Option Addr}{n c:Nat}{ks:List a8}(ae:oi I M a n ks)(az:n<=140737488355328)(j:Nat)(an:j<10)(ah:d.k=j)(ay:(j=3\/6<=j)->0<n) :
  Spec Tryz.prog (ai3.getD j 0) [d.val,.slice a n c] I M λv I' M'=>v=(eO d ks).val/\I'=I/\M'=M:=by
 match j,an,ah,ay with
 |0,_,ah,_=>rw[show eO d ks=⟨true,false,false⟩ by simp[eO,ah]];exact aiT (I:=I) (M:=M) (d:=d) (a:=a) (n:=n) (c:=c)| 1,_,ah,_=>rw[show eO d ks=⟨false,!d.oT,true⟩ by simp[eO,ah]];exact aiX (I:=I) (M:=M) (d:=d) (a:=a) (n:=n) (c:=c)| 2,_,ah,_=>rw[show eO d ks=⟨false,true,true⟩ by simp[eO,ah]];exact aiU (I:=I) (M:=M) (d:=d) (a:=a) (n:=n) (c:=c)| 3,_,ah,ay=>rw[show eO d ks=ks.headD cb by simp[eO,ah]];exact Yb (d:=d) (c:=c) ae (ay (by omega))| 4,_,ah,_=>rw[show eO d ks=ES ks by simp[eO,ah]];exact ai1 (d:=d) (c:=c) ae az| 5,_,ah,_=>rw[show eO d ks=HT ks by simp[eO,ah]];exact aiZ (d:=d) (c:=c) ae az| 6,_,ah,ay=>rw[show eO d ks=o0 d (ks.headD cb) by simp[eO,ah]];exact aiY (d:=d) (c:=c) ae (ay (by omega))| 7,_,ah,ay=>rw[show eO d ks=⟨(ks.headD cb).lD,false,(ks.headD cb).f⟩ by simp[eO,ah]];exact aiV (d:=d) (c:=c) ae (ay (by omega))| 8,_,ah,ay=>rw[show eO d ks=⟨(ks.headD cb).f,false,(ks.headD cb).lD⟩ by simp[eO,ah]];exact aiW (d:=d) (c:=c) ae (ay (by omega))| 9,_,ah,ay=>rw[show eO d ks=ks.headD cb by simp[eO,ah]];exact Yb (d:=d) (c:=c) ae (ay (by omega))
def gh(b:Nat)(l:List a8):aF:=⟨b,.cells (l.flatMap a8.cells).toArray 46 (0,0)⟩
def CN(l:List a8):(l.flatMap a8.cells).length=l.length*3:=fu _ 3 a8.dc l
def ET{b:Nat}{l:List a8}(a2:gh b l∈M){j:Nat}(an:j<l.length):cx I M ((⟨b,0,none⟩:Addr).add (j*3)) 3 l[j].cells:=by have h:=dt (I:=I) (cs:=l.flatMap a8.cells) (k:=j*3) (n:=3) a2 (by rw[CN];omega);rwa [y8 a8.cells 3 a8.dc l j an]at h
def QE(l:List a8)(j:Nat)(an:j<l.length)(x:a8):bQ (l.flatMap a8.cells) (j*3) x.cells=(l.set j x).flatMap a8.cells:=by
 have e:l.flatMap a8.cells=(l.take j).flatMap a8.cells++(l[j].cells++(l.drop (j+1)).flatMap a8.cells):=by
  have U:l=l.take j++(l[j]::l.drop (j+1)):=by rw[<-fg an,y6]
  have aa:=congrArg (λq:List a8=>q.flatMap a8.cells) U;simp only[mr,qh]at aa;exact aa
 have aE:((l.take j).flatMap a8.cells).length=j*3:=by rw[CN,mV];congr 1;omega
 unfold bQ;rw[Eg,cF an,mr,qh,e,gz];congr 1
 ·rw[<-aE,G0]
 ·congr 1;rw[a8.dc,<-aE,<-gz,GZ (by rw[di,a8.dc])]
def Yg(l:List a8)(x:a8):(l++[x]).flatMap a8.cells=l.flatMap a8.cells++x.cells:=by simp
def bf.zero{os:bf}{size:Nat}{xs:List Value}(h:os.ok size xs):bf.ok ⟨os.a,0,os.c,os.aY⟩ size []:=by refine⟨by simp,λaH=>⟨rfl,(h.nil aH).2⟩,λg aB=>?_⟩;obtain⟨U,aa,af,aN⟩:=h.cap g aB;exact⟨U,bF _,af,by simp⟩
def bf.Yh{l:List a8}{e:Nat}(h:os.ok 3 (l.flatMap a8.cells))(a2:∀ x∈os.aO e,x∈M):oi I M (os.a.map λg=>⟨g,0,none⟩) os.n l:=by
 have aE:=h.len;rw[CN]at aE;refine⟨by omega,λj an=>?_⟩;obtain⟨a,n,c,aY⟩:=os;simp only at aE;cases a with
 |none=>have:=(h.nil rfl).1;simp only at this;omega
 |some g=>
  obtain⟨U,aa,af,aN⟩:=h.cap g rfl;simp only at U aa aN;refine⟨⟨g,0,none⟩,rfl,?_⟩;have hm:(⟨g,.cells aY.toArray e (0,0)⟩:aF)∈M:=a2 _ (by simp[bf.aO]);have al:=dt (I:=I) (cs:=aY) (k:=j*3) (n:=3) hm (by omega);have aC:(aY.drop (j*3)).take 3=((aY.take (n*3)).drop (j*3)).take 3:=by rw[Ay,vG];congr 1;omega
  rw[aC,aN,y8 a8.cells 3 a8.dc l j an]at al;exact al
def nO(pl:List (ByteArray×Int))(bK bc:List a8)(d:bh):List a8:=
 d.aS.map (λk=>bc.getD k.toNat cb)++bif decide (d.k=3)then [bK.getD ((eL d.t pl).getD 0).toNat cb]else []
def ep(pl:List (ByteArray×Int))(bK:List a8):List bh->List a8->List a8
 |[],bc=>bc| d::ds,bc=>ep pl bK ds (bc++[eO d (nO pl bK bc d)])
def HU(pl:List (ByteArray×Int))(bK:List a8):∀ (ds:List bh) (bc:List a8),(ep pl bK ds bc).length=bc.length+ds.length
 |[],bc=>rfl| d::ds,bc=>by rw[ep,HU];simp;omega
def Yi(pl:List (ByteArray×Int))(n:Nat)(ns:List bh):Prop:=∀ d∈ns,d.k=3->∃ i:Nat,eL d.t pl=some (i:Int)/\i<n
def Yj{n:Int}(h:fits d n=true):d.k<10:=by apply Int.lt_of_not_ge;intro cE;have:(10:Int)<=d.k:=cE;simp[fits,this]at h
def Yk{n:Int}(ay:0<=d.k)(h:fits d n=true)(ae:6<=d.k):0<n:=by
 have qn:=Yj h;have xQ:d.k=6\/d.k=7\/d.k=8\/d.k=9:=by omega
 rcases xQ with e | e | e | e<;>(simp[fits,e,sh,mY,oS]at h;omega)
def ai5(bc:List a8)(n i:Nat)(aE:bc.length=i)(hi:i<n)(x:a8):(bc++List.replicate (n-i) cb).set i x=(bc++[x])++List.replicate (n-(i+1)) cb:=by subst aE;rw[EN _ _ (b2 _),rp,show n-bc.length=(n-(bc.length+1))+1 by omega,wc,Lw];simp
def Yl:∀ n:Nat,rowOf cb.cells (n*3)=(List.replicate n cb).flatMap a8.cells:=λn=>by
 apply xq
 ·rw[CN,y5];simp[BZ,madeCells]
 intro i U aa;have af:∀ x∈(List.replicate n cb).flatMap a8.cells,x=Value.bool false:=λx ab=>by obtain⟨y,aT,ab⟩:=zv.1 ab;have:=Qe aT;subst this;simpa[a8.cells,cb]using ab
 rw[af _ (dr aa)];have bk:∀ j,j<3->cb.cells[j]! = Value.bool false:=λj an=>by
  match j,an with
  |0,_=>rfl| 1,_=>rfl| 2,_=>rfl
 simp only[rowOf,lu,su];exact bk _ (Ez _ (by decide))
def xR{bc:List a8}{n i:Nat}(mT:bc.length=i)(a0:i<n)(x:a8):Nat.ble (0+i*3+x.cells.length) ((bc++List.replicate (n-i) cb).flatMap a8.cells).length=true:=by rw[og,CN,a8.dc,di,y5];omega
def Ym{t:eH}(aI:t.ok I)(al:right t=true)(hm:I iO=some (ka pl)){bK:List a8}(mw:oi I M0 CM ln bK)(aJ:Yi pl ln t.ns) :
  Spec Tryz.prog 44 [.map (some iO),.slice CM ln lc,t.val] I M0 λv I' M'=>I'=I/\∃ b,v=.slice (some ⟨b,0,none⟩) t.n t.n/\M'=gh b (ep pl bK t.ns [])::M0:=by
 refine bY [] aV Tryz.func44 rfl rfl rfl ?_;intro B ay;have ri:=aI.n;have iH:=aI.bj.cap;refine a9.mk [] M0 _ (.refl _) ai4 ?_;rintro v cW M1 -⟨rfl,rfl,rfl⟩;refine qU.mk t.n t.n rfl rfl (b2 _) (by show 3*t.n<=_;omega) (by omega) ?_;refine cy.mk λdA LD atJ=>?_;refine ea.inv (ι:=Nat×List a8×bf) (λx=>{ bK:=[(0,.val (.map (some iO))),(1,.val (.slice CM ln lc)),(5,.ref 5 0),(7,.ref 7 0),(8,.val (.slice (some ⟨dA,0,none⟩) t.n t.n)),(9,.val x.2.2.val),(20,.val (.slice t.a t.n t.c)),(21,.val (.int .i64 t.n)),(22,.val (.int .i64 x.1))],cl:=[(5,t.cells),(7,QD)],dz:=cW,d':=gh dA (x.2.1++List.replicate (t.n-x.1) cb)::(x.2.2.aO 46++M0) }) (λx=>x.1<=t.n/\x.2.1.length=x.1/\ep pl bK t.ns []=ep pl bK (t.ns.drop x.1) x.2.1/\∃ ks,x.2.2.ok 3 ks) (λx=>t.n-x.1) ?_ ?_
 ·refine⟨(0,[],uU),⟨bF _,rfl,rfl,[],zl 3⟩,?_,k8,.cons rfl (.cons rfl .nil)⟩;have e:rowOf cb.cells (t.n*3)=(List.replicate t.n cb).flatMap a8.cells:=Yl t.n;simp only[gh,nz,xL];rw[<-e];exact .refl
 rintro⟨i,bc,QF⟩⟨hi,mT,LF,atK,Yn⟩;simp only at hi mT LF Yn;refine aM.mk (λh=>?_) (λh=>?_)
 rotate_left
 ·have cE:i=t.n:=by have:¬ (i:Int)<(t.n:Int):=cu h;omega
  subst cE;rw[iG (by omega),ep]at LF;refine⟨cW,gh dA (bc++List.replicate (t.n-t.n) cb)::M0,.sub (.cons_cons _ (mU _ _)) .refl,rfl,dA,rfl,?_⟩;rw[LF,rp,List.replicate_zero,eo]
 have a0:i<t.n:=by have:(i:Int)<(t.n:Int):=cm h;omega
 have bZ:i<t.ns.length:=by omega
 obtain⟨ad,b3,br⟩:=aI.bj.row bh.dc a0 bZ;have eI:=dr bZ;have ah:=aI.ns _ eI;have ev:=ah.kn;have LG:=ah.bj.cap;have qp:=pD al i bZ;have rr:=Ep al bZ;have Yo:=aJ _ eI;have Yp:ep pl bK t.ns []=ep pl bK (t.ns.drop (i+1)) (bc++[eO t.ns[i] (nO pl bK bc t.ns[i])]):=by rw[LF,fg bZ,ep]
 generalize t.ns[i]=d at br ah ev LG qp rr Yo Yp;have e3:=ah.k.1;have u0:=Yj rr;have sy:∀ {M:List aF} {q:Int},gh dA (bc++List.replicate (t.n-i) cb)∈M->q∈d.aS->cx cW M ((⟨dA,0,none⟩:Addr).add (q.toNat*3)) 3 (bc.getD q.toNat cb).cells:=fun {M q} a2 aL=>by
  have LH:=qp q aL;have gT:q.toNat<bc.length:=by omega
  have:=ET (I:=cW) a2 (j:=q.toNat) (by rw[di];omega);rw[List.getElem_append_left gT]at this;simpa[dB,gT]using this
 refine bl.mk ad i b3 rfl a0 ?_;refine aw.mk _ (br _) ?_;refine jI.mk 0 0 rfl rfl (b2 _) (bF _) ?_;refine ea.inv (ι:=Nat×bf×List a8) (λx=>{ bK:=[(0,.val (.map (some iO))),(1,.val (.slice CM ln lc)),(5,.ref 5 0),(7,.ref 7 0),(8,.val (.slice (some ⟨dA,0,none⟩) t.n t.n)),(9,.val x.2.1.val),(10,.val (.int .i64 i)),(11,.ref 11 0),(20,.val (.slice t.a t.n t.c)),(21,.val (.int .i64 t.n)),(22,.val (.int .i64 i)),(30,.val (.slice d.ml d.kn d.k7)),(31,.val (.int .i64 d.kn)),(32,.val (.int .i64 x.1))],cl:=[(5,t.cells),(7,QD),(11,d.cells)],dz:=cW,d':=gh dA (bc++List.replicate (t.n-i) cb)::(x.2.1.aO 46++M0) }) (λx=>x.1<=d.kn/\x.2.1.ok 3 (x.2.2.flatMap a8.cells)/\x.2.2=(d.aS.take x.1).map λk=>bc.getD k.toNat cb) (λx=>d.kn-x.1) ?_ ?_
 ·exact⟨(0,⟨QF.a,0,QF.c,QF.aY⟩,[]),⟨bF _,bf.zero Yn,rfl⟩,.refl,Vm,.cons rfl (.cons rfl (.cons rfl .nil))⟩
 rintro⟨k,c3,uw⟩⟨ae,fI,e4⟩;simp only at ae fI e4;have ai6:c3.n=uw.length:=by have:=fI.len;rw[CN]at this;omega
 have ai7:uw.length<=k:=by rw[e4,eW];exact GX _ _
 refine aM.mk (λh=>?_) (λh=>?_)
 ·have h7:k<d.kn:=by have:(k:Int)<(d.kn:Int):=cm h;omega
  have D6:k<d.aS.length:=by omega
  obtain⟨h',iI,gY⟩:=ah.bj.one h7 D6;have aL:=qp _ (dr D6);refine bl.mk h' k iI rfl h7 ?_;refine aw.mk _ (gY _) ?_;refine bl.mk ⟨dA,0,none⟩ d.aS[k].toNat rfl (by omega) (by omega) ?_;refine aw.mk _ (sy (.head _) (dr D6)) ?_;refine cy.mk λcS g7 zh=>?_;refine bE.append aV rfl (by simp) (e:=46) rfl rfl rfl c3 fI rfl (m:=1) rfl (dd:=(bc.getD d.aS[k].toNat cb).cells) (by decide) (dt (b:=cS) (cs:=(bc.getD d.aS[k].toNat cb).cells) (k:=0) (n:=3) (T:=46) (.head _) (bP rfl)) rfl (Mr:=⟨cS,.cells (bc.getD d.aS[k].toNat cb).cells.toArray 46 (0,0)⟩::gh dA (bc++List.replicate (t.n-i) cb)::M0) (by
   have:=EM [(⟨cS,.cells (bc.getD d.aS[k].toNat cb).cells.toArray 46 (0,0)⟩:aF),gh dA (bc++List.replicate (t.n-i) cb)] (c3.aO 46) M0;exact this) (by simp only[maxLen];omega) (by show(c3.n+1)*3<=_;omega) ?_
  intro a6 fj CO hS fP hT rl;refine bb.mk _ (c7 (i:=k) (by omega)) ?_;refine⟨(k+1,⟨some a6,c3.n+1,fj,CO⟩,uw++[bc.getD d.aS[k].toNat cb]),⟨⟨by simp only;omega,?_,?_⟩,by simp only;omega⟩,.sub (M1:=[(⟨a6,.cells CO.toArray 46 (0,0)⟩:aF),gh dA (bc++List.replicate (t.n-i) cb)]++M0) (.cons_cons _ (.cons _ (.refl _))) (.perm (List.Perm.swap _ _ _) .refl),Vm,.cons rfl (.cons rfl (.cons rfl .nil))⟩;·simp only;rw[Yg];exact X7 fI (a8.dc _) hS fP hT rl
  ·simp only;rw[iT D6,gW,<-e4];rfl
 have cE:d.kn<=k:=by have:¬ (k:Int)<(d.kn:Int):=cu h;omega
 rw[gM (by omega)]at e4;have atL:uw.length=d.aS.length:=by rw[e4,eW]
 have gy:c3.n+1<=140737488355328:=by omega
 clear h ae ai7;have jM:∀ x:a8,bQ ((bc++List.replicate (t.n-i) cb).flatMap a8.cells) (0+i*3) x.cells=((bc++[x])++List.replicate (t.n-(i+1)) cb).flatMap a8.cells:=λx=>by rw[dp,QE _ _ (by simp;omega),ai5 bc t.n i mT a0]
 have hinv:∀ (QG:bf) (QH:List Value),QG.ok 3 QH->((i+1<=t.n/\(bc++[eO d (nO pl bK bc d)]).length=i+1/\ep pl bK t.ns []=ep pl bK (t.ns.drop (i+1)) (bc++[eO d (nO pl bK bc d)])/\∃ ks,QG.ok 3 ks)/\t.n-(i+1)<t.n-i):=λQG QH aa=>
  ⟨⟨a0,by simp[mT],Yp,QH,aa⟩,by omega⟩
 by_cases af:d.k=3
 ·refine aM.mk (λ_=>?_) (λh=>absurd h (by simp[af]));obtain⟨q,zx,nP⟩:=Yo af;have HV:nO pl bK bc d=uw++[bK.getD q cb]:=by rw[nO,<-e4,zx,af];rfl
  have gT:q<bK.length:=by rw[mw.n];exact nP
  obtain⟨iz,ir,hA⟩:=mw.rd q gT;have ai8:bK.getD q cb=bK[q]:=by simp[dB,gT]
  refine bE.ai2 aV rfl (by simp) rfl rfl rfl rfl (λw=>HG w) (l:=pl) (g:=iO) rfl rfl (.inl hm) ?_;rw[zx];refine bl.mk iz q ir rfl nP ?_;refine aw.mk _ (hA.sub λx ab=>by simp[ab]) ?_;refine cy.mk λcS g7 zh=>?_;refine bE.append aV rfl (by simp) (e:=46) rfl rfl rfl c3 fI rfl (m:=1) rfl (dd:=bK[q].cells) (by decide) (dt (b:=cS) (cs:=bK[q].cells) (k:=0) (n:=3) (T:=46) (.head _) (bP rfl)) rfl (Mr:=⟨cS,.cells bK[q].cells.toArray 46 (0,0)⟩::gh dA (bc++List.replicate (t.n-i) cb)::M0) (by
   have:=EM [(⟨cS,.cells bK[q].cells.toArray 46 (0,0)⟩:aF),gh dA (bc++List.replicate (t.n-i) cb)] (c3.aO 46) M0;exact this) (by simp only[maxLen];omega) (by show(c3.n+1)*3<=_;omega) ?_
  intro a6 fj CO hS fP hT rl;have gb:=X7 (g:=a6) fI (a8.dc bK[q]) hS fP hT rl;rw[<-Yg,<-ai8,<-HV]at gb;have gE:=bf.Yh (I:=cW) (M:=⟨a6,.cells CO.toArray 46 (0,0)⟩::⟨cS,.cells bK[q].cells.toArray 46 (0,0)⟩::gh dA (bc++List.replicate (t.n-i) cb)::M0) (e:=46) gb (λx ab=>by
   simp only[bf.aO,jw]at ab;subst ab;exact .head _)
  refine cq.draw aV rfl rfl rfl ?_;obtain⟨gm,e2,s1,s2,eK,ja,lo,dx,sA,sB,sC,sD⟩:=d;simp only at af;subst af;refine dR.mk 3 rfl (by decide) ?_;refine hx.qd _ [] _ perm_nil (xP (d:=⟨3,e2,s1,s2,eK,ja,lo,dx,sA,sB,sC,sD⟩) gE gy 3 (by decide) rfl (λ_=>Nat.succ_pos _)) (λv I' M' h x ab=>by rw[h.2.2];exact ab) ?_;rintro v eC dU -⟨rfl,rfl,rfl⟩;rw[eo];refine bl.mk ⟨dA,0,none⟩ i rfl rfl a0 ?_;refine cc.jO [(⟨a6,.cells CO.toArray 46 (0,0)⟩:aF),⟨cS,.cells bK[q].cells.toArray 46 (0,0)⟩] M0 ((bc++List.replicate (t.n-i) cb).flatMap a8.cells) _ rfl (xR mT a0 _) rfl _ (jM _) ?_;refine bb.mk _ (c7 (i:=i) (by omega)) ?_;exact⟨(i+1,_,⟨some a6,c3.n+1,fj,CO⟩),hinv _ _ gb,.sub (M1:=[(⟨a6,.cells CO.toArray 46 (0,0)⟩:aF),gh dA _]++M0) (.cons_cons _ (.cons _ (.refl _))) (.perm (List.Perm.swap _ _ _) .refl),k8,.cons rfl (.cons rfl .nil)⟩
 refine aM.mk (λh=>absurd (cm h) af) (λ_=>?_);have HV:nO pl bK bc d=uw:=by rw[nO,<-e4,bG af];simp
 rw[HV]at hinv;have gE:=bf.Yh (I:=cW) (M:=gh dA (bc++List.replicate (t.n-i) cb)::(c3.aO 46++M0)) (e:=46) fI (λx ab=>by simp[ab]);have n4:6<=d.k->0<c3.n:=λbp=>by have:=Yk e3 rr bp;omega
 have xQ:d.k=0\/d.k=1\/d.k=2\/d.k=4\/d.k=5\/d.k=6\/d.k=7\/d.k=8\/d.k=9:=by omega
 obtain⟨gm,e2,s1,s2,eK,ja,lo,dx,sA,sB,sC,sD⟩:=d;simp only at xQ n4 af;refine cq.draw aV rfl rfl rfl ?_;rcases xQ with rfl | rfl | rfl | rfl | rfl | rfl | rfl | rfl | rfl
 ·refine dR.mk 0 rfl (by decide) ?_;refine hx.qd _ [] _ perm_nil (xP (d:=⟨0,e2,s1,s2,eK,ja,lo,dx,sA,sB,sC,sD⟩) gE (zu gy) 0 (by decide) rfl (λh=>by omega)) (λv I' M' h x ab=>by rw[h.2.2];exact ab) ?_;rintro v eC dU -⟨rfl,rfl,rfl⟩;rw[eo];refine bl.mk ⟨dA,0,none⟩ i rfl rfl a0 ?_;refine cc.jO [] (c3.aO 46++M0) ((bc++List.replicate (t.n-i) cb).flatMap a8.cells) _ rfl (xR mT a0 _) rfl _ (jM _) ?_;refine bb.mk _ (c7 (i:=i) (by omega)) ?_;exact⟨(i+1,_,c3),hinv _ _ fI,.refl,k8,.cons rfl (.cons rfl .nil)⟩
 ·refine dR.mk 1 rfl (by decide) ?_;refine hx.qd _ [] _ perm_nil (xP (d:=⟨1,e2,s1,s2,eK,ja,lo,dx,sA,sB,sC,sD⟩) gE (zu gy) 1 (by decide) rfl (λh=>by omega)) (λv I' M' h x ab=>by rw[h.2.2];exact ab) ?_;rintro v eC dU -⟨rfl,rfl,rfl⟩;rw[eo];refine bl.mk ⟨dA,0,none⟩ i rfl rfl a0 ?_;refine cc.jO [] (c3.aO 46++M0) ((bc++List.replicate (t.n-i) cb).flatMap a8.cells) _ rfl (xR mT a0 _) rfl _ (jM _) ?_;refine bb.mk _ (c7 (i:=i) (by omega)) ?_;exact⟨(i+1,_,c3),hinv _ _ fI,.refl,k8,.cons rfl (.cons rfl .nil)⟩
 ·refine dR.mk 2 rfl (by decide) ?_;refine hx.qd _ [] _ perm_nil (xP (d:=⟨2,e2,s1,s2,eK,ja,lo,dx,sA,sB,sC,sD⟩) gE (zu gy) 2 (by decide) rfl (λh=>by omega)) (λv I' M' h x ab=>by rw[h.2.2];exact ab) ?_;rintro v eC dU -⟨rfl,rfl,rfl⟩;rw[eo];refine bl.mk ⟨dA,0,none⟩ i rfl rfl a0 ?_;refine cc.jO [] (c3.aO 46++M0) ((bc++List.replicate (t.n-i) cb).flatMap a8.cells) _ rfl (xR mT a0 _) rfl _ (jM _) ?_;refine bb.mk _ (c7 (i:=i) (by omega)) ?_;exact⟨(i+1,_,c3),hinv _ _ fI,.refl,k8,.cons rfl (.cons rfl .nil)⟩
 ·refine dR.mk 4 rfl (by decide) ?_;refine hx.qd _ [] _ perm_nil (xP (d:=⟨4,e2,s1,s2,eK,ja,lo,dx,sA,sB,sC,sD⟩) gE (zu gy) 4 (by decide) rfl (λh=>by omega)) (λv I' M' h x ab=>by rw[h.2.2];exact ab) ?_;rintro v eC dU -⟨rfl,rfl,rfl⟩;rw[eo];refine bl.mk ⟨dA,0,none⟩ i rfl rfl a0 ?_;refine cc.jO [] (c3.aO 46++M0) ((bc++List.replicate (t.n-i) cb).flatMap a8.cells) _ rfl (xR mT a0 _) rfl _ (jM _) ?_;refine bb.mk _ (c7 (i:=i) (by omega)) ?_;exact⟨(i+1,_,c3),hinv _ _ fI,.refl,k8,.cons rfl (.cons rfl .nil)⟩
 ·refine dR.mk 5 rfl (by decide) ?_;refine hx.qd _ [] _ perm_nil (xP (d:=⟨5,e2,s1,s2,eK,ja,lo,dx,sA,sB,sC,sD⟩) gE (zu gy) 5 (by decide) rfl (λh=>by omega)) (λv I' M' h x ab=>by rw[h.2.2];exact ab) ?_;rintro v eC dU -⟨rfl,rfl,rfl⟩;rw[eo];refine bl.mk ⟨dA,0,none⟩ i rfl rfl a0 ?_;refine cc.jO [] (c3.aO 46++M0) ((bc++List.replicate (t.n-i) cb).flatMap a8.cells) _ rfl (xR mT a0 _) rfl _ (jM _) ?_;refine bb.mk _ (c7 (i:=i) (by omega)) ?_;exact⟨(i+1,_,c3),hinv _ _ fI,.refl,k8,.cons rfl (.cons rfl .nil)⟩
 ·refine dR.mk 6 rfl (by decide) ?_;refine hx.qd _ [] _ perm_nil (xP (d:=⟨6,e2,s1,s2,eK,ja,lo,dx,sA,sB,sC,sD⟩) gE (zu gy) 6 (by decide) rfl (λ_=>n4 (by decide))) (λv I' M' h x ab=>by rw[h.2.2];exact ab) ?_;rintro v eC dU -⟨rfl,rfl,rfl⟩;rw[eo];refine bl.mk ⟨dA,0,none⟩ i rfl rfl a0 ?_;refine cc.jO [] (c3.aO 46++M0) ((bc++List.replicate (t.n-i) cb).flatMap a8.cells) _ rfl (xR mT a0 _) rfl _ (jM _) ?_;refine bb.mk _ (c7 (i:=i) (by omega)) ?_;exact⟨(i+1,_,c3),hinv _ _ fI,.refl,k8,.cons rfl (.cons rfl .nil)⟩
 ·refine dR.mk 7 rfl (by decide) ?_;refine hx.qd _ [] _ perm_nil (xP (d:=⟨7,e2,s1,s2,eK,ja,lo,dx,sA,sB,sC,sD⟩) gE (zu gy) 7 (by decide) rfl (λ_=>n4 (by decide))) (λv I' M' h x ab=>by rw[h.2.2];exact ab) ?_;rintro v eC dU -⟨rfl,rfl,rfl⟩;rw[eo];refine bl.mk ⟨dA,0,none⟩ i rfl rfl a0 ?_;refine cc.jO [] (c3.aO 46++M0) ((bc++List.replicate (t.n-i) cb).flatMap a8.cells) _ rfl (xR mT a0 _) rfl _ (jM _) ?_;refine bb.mk _ (c7 (i:=i) (by omega)) ?_;exact⟨(i+1,_,c3),hinv _ _ fI,.refl,k8,.cons rfl (.cons rfl .nil)⟩
 ·refine dR.mk 8 rfl (by decide) ?_;refine hx.qd _ [] _ perm_nil (xP (d:=⟨8,e2,s1,s2,eK,ja,lo,dx,sA,sB,sC,sD⟩) gE (zu gy) 8 (by decide) rfl (λ_=>n4 (by decide))) (λv I' M' h x ab=>by rw[h.2.2];exact ab) ?_;rintro v eC dU -⟨rfl,rfl,rfl⟩;rw[eo];refine bl.mk ⟨dA,0,none⟩ i rfl rfl a0 ?_;refine cc.jO [] (c3.aO 46++M0) ((bc++List.replicate (t.n-i) cb).flatMap a8.cells) _ rfl (xR mT a0 _) rfl _ (jM _) ?_;refine bb.mk _ (c7 (i:=i) (by omega)) ?_;exact⟨(i+1,_,c3),hinv _ _ fI,.refl,k8,.cons rfl (.cons rfl .nil)⟩
 ·refine dR.mk 9 rfl (by decide) ?_;refine hx.qd _ [] _ perm_nil (xP (d:=⟨9,e2,s1,s2,eK,ja,lo,dx,sA,sB,sC,sD⟩) gE (zu gy) 9 (by decide) rfl (λ_=>n4 (by decide))) (λv I' M' h x ab=>by rw[h.2.2];exact ab) ?_;rintro v eC dU -⟨rfl,rfl,rfl⟩;rw[eo];refine bl.mk ⟨dA,0,none⟩ i rfl rfl a0 ?_;refine cc.jO [] (c3.aO 46++M0) ((bc++List.replicate (t.n-i) cb).flatMap a8.cells) _ rfl (xR mT a0 _) rfl _ (jM _) ?_;refine bb.mk _ (c7 (i:=i) (by omega)) ?_;exact⟨(i+1,_,c3),hinv _ _ fI,.refl,k8,.cons rfl (.cons rfl .nil)⟩
structure a8.le(a b:a8):Prop where
 z:a.z=true->b.z=true
 s:a.s=true->b.s=true
 f:a.f=true->b.f=true
def a8.le_refl(a:a8):a.le a:=⟨id,id,id⟩
def a8.le.trans{a b c:a8}(h:a.le b)(bg:b.le c):a.le c:=⟨λx=>bg.z (h.z x),λx=>bg.s (h.s x),λx=>bg.f (h.f x)⟩
def a8.le.antisymm{a b:a8}(h:a.le b)(bg:b.le a):a=b:=by
 obtain⟨bW,da,dh⟩:=a;obtain⟨b1,ch,b9⟩:=b;have e:∀ {x y:Bool},(x=true->y=true)->(y=true->x=true)->x=y:=fun {x y} h bg=>by cases x<;>cases y<;>simp_all
 have aC:bW=b1:=e h.z bg.z;have aA:da=ch:=e h.s bg.s;have bx:dh=b9:=e h.f bg.f;subst aC aA bx;rfl
def a8.lE(a:a8):cb.le a:=⟨(λh=>by cases h),(λh=>by cases h),(λh=>by cases h)⟩
def a8.QI{a b:a8}(h:a.le b):a.lD=true->b.lD=true:=by intro ax;simp only[a8.lD,lq]at ax |-;exact ax.imp h.z h.s
inductive e6:List a8->List a8->Prop
 |nil:e6 [] []| cons {a b l m} (h:a8.le a b) (t:e6 l m):e6 (a::l) (b::m)
def e6.refl:∀ l,e6 l l
 |[]=>.nil| a::l=>.cons a.le_refl (e6.refl l)
def e6.trans:∀ {a b c},e6 a b->e6 b c->e6 a c
 |_,_,_,.nil,.nil=>.nil| _,_,_,.cons h t,.cons bg fw=>.cons (h.trans bg) (t.trans fw)
def e6.antisymm:∀ {a b},e6 a b->e6 b a->a=b
 |_,_,.nil,_=>rfl| _,_,.cons h t,.cons bg fw=>by rw[h.antisymm bg,t.antisymm fw]
def e6.len:∀ {a b},e6 a b->a.length=b.length
 |_,_,.nil=>rfl| _,_,.cons h t=>by simp[t.len]
def e6.append:∀ {a b c d},e6 a b->e6 c d->e6 (a++c) (b++d)
 |_,_,_,_,.nil,h=>h| _,_,_,_,.cons h t,bg=>.cons h (t.append bg)
def e6.getD:∀ {a b},e6 a b->∀ i,(a.getD i cb).le (b.getD i cb)
 |_,_,.nil,i=>by simp;exact a8.le_refl _
 |_,_,.cons h t,0=>h| _,_,.cons h t,i+1=>by simpa using t.getD i
def e6.of:∀ {a b:List a8},a.length=b.length->(∀ i,i<a.length->(a.getD i cb).le (b.getD i cb))->e6 a b
 |[],[],_,_=>.nil| x::a,y::b,aE,h=>.cons (by simpa using h 0 (by simp)) (e6.of (by simpa using aE) λi hi=>by simpa using h (i+1) (by simpa using hi))
def e6.map{α:Type}{f g:α->a8}:∀ {l:List α},(∀ x∈l,(f x).le (g x))->e6 (l.map f) (l.map g)
 |[],_=>.nil| x::l,h=>.cons (h x (.head _)) (e6.map λy aT=>h y (.tail _ aT))
def e6.head{a b:List a8}(h:e6 a b):(a.headD cb).le (b.headD cb):=by
 cases h with
 |nil=>exact a8.le_refl _| cons h _=>exact h
def e6.lE:∀ l:List a8,e6 (List.replicate l.length cb) l
 |[]=>.nil| a::l=>.cons a.lE (e6.lE l)
def LI:∀ {a b:List a8},e6 a b->∀ {x y:a8×Bool},x.1.le y.1->(x.2=true->y.2=true)->(a.foldl mz x).1.le (b.foldl mz y).1/\((a.foldl mz x).2=true->(b.foldl mz y).2=true)
 |_,_,.nil,_,_,U,aa=>⟨U,aa⟩
 |_,_,.cons h t,x,y,U,aa=>by
  refine LI t ⟨?_,?_,?_⟩ ?_;·simp only[mz,ct];exact λg=>⟨U.z g.1,h.z g.2⟩
  ·simp only[mz,lq];exact λg=>g.imp U.s h.s
  ·simp only[mz,lq,ct];exact λg=>g.imp U.f λg=>⟨aa g.1,h.f g.2⟩
  ·simp only[mz,ct];exact λg=>⟨aa g.1,a8.QI h g.2⟩
def Yq:∀ {a b:List a8},e6 a b->∀ {x y:a8},x.le y->(a.foldl oj x).le (b.foldl oj y)
 |_,_,.nil,_,_,U=>U
 |_,_,.cons h t,x,y,U=>by
  refine Yq t ⟨?_,?_,?_⟩;·simp only[oj,lq,ct];exact λg=>g.imp U.z λg=>⟨U.f g.1,h.z g.2⟩
  ·simp only[oj,lq,ct];exact λg=>g.imp U.s λg=>⟨U.f g.1,h.s g.2⟩
  ·simp only[oj,ct];exact λg=>⟨U.f g.1,h.f g.2⟩
def ai9(d:bh){a b:a8}(h:a.le b):(o0 d a).le (o0 d b):=by
 unfold o0;cases decide (d.hi=0)with
 |true=>exact a8.le_refl _
 |false=>
  refine⟨?_,h.s,?_⟩;·simp only[aQ,lq,ct];exact λg=>g.imp h.z λg=>⟨g.1,h.f g.2⟩
  ·simp only[aQ,ct];exact λg=>⟨g.1,h.f g.2⟩
def aja(d:bh){a b:List a8}(h:e6 a b):(eO d a).le (eO d b):=by
 have aR:=h.head;unfold eO;cases decide (d.k=0)with
 |true=>exact a8.le_refl _| false=>
 cases decide (d.k=1)with
 |true=>exact a8.le_refl _| false=>
 cases decide (d.k=2)with
 |true=>exact a8.le_refl _| false=>
 cases decide (d.k=3)with
 |true=>exact aR| false=>
 cases decide (d.k=4)with
 |true=>have ax:=LI h (x:=(⟨true,false,false⟩,true)) (y:=(⟨true,false,false⟩,true)) (a8.le_refl _) id;refine⟨ax.1.z,?_,ax.1.f⟩;simp only[a4,aQ,ES,rq,ct];exact λg=>⟨ax.1.s g.1,ax.2 g.2⟩
 |false=>
 cases decide (d.k=5)with
 |true=>exact Yq h (a8.le_refl _)| false=>
 cases decide (d.k=6)with
 |true=>exact ai9 d aR| false=>
 cases decide (d.k=7)with
 |true=>exact⟨a8.QI aR,id,aR.f⟩| false=>
 cases decide (d.k=8)with
 |true=>exact⟨aR.f,id,a8.QI aR⟩| false=>exact aR
def ajb{bK sE bc u1:List a8}(h:e6 bK sE)(aH:e6 bc u1)(d:bh):e6 (nO pl bK bc d) (nO pl sE u1 d):=by
 unfold nO;refine(e6.map λk _=>aH.getD _).append ?_;cases decide (d.k=3)with
 |true=>exact .cons (h.getD _) .nil| false=>exact .nil
def Yr{pl:List (ByteArray×Int)}{bK sE:List a8}(h:e6 bK sE):∀ (ds:List bh) {bc u1:List a8},e6 bc u1->e6 (ep pl bK ds bc) (ep pl sE ds u1)
 |[],_,_,aH=>aH| d::ds,_,_,aH=>Yr h ds (aH.append (.cons (aja d (ajb h aH d)) .nil))
def om(pl:List (ByteArray×Int))(bK:List a8)(d:bD):a8:=(ep pl bK d.t.ns []).getD d.t.bR.toNat cb
def QJ{bK sE:List a8}(h:e6 bK sE)(d:bD):(om pl bK d).le (om pl sE d):=(Yr h d.t.ns .nil).getD _
def oo(pl:List (ByteArray×Int)):Nat->List bD->List a8->List a8
 |_,[],l=>l| i,d::ds,l=>oo pl (i+1) ds (l.set i (om pl l d))
structure u2(ds:List bD)(l:List a8):Prop where
 len:l.length=ds.length
 up:∀ i (h:i<ds.length),(l.getD i cb).le (om (bJ ds) l ds[i])
 least:∀ m:List a8,m.length=ds.length->(∀ i (h:i<ds.length),(om (bJ ds) m ds[i]).le (m.getD i cb))->e6 l m
def HW(l:List a8)(i j:Nat)(x:a8)(hi:i<l.length):(l.set i x).getD j cb=if i=j then x else l.getD j cb:=by
 simp only[dB,qi];by_cases e:i=j
 ·subst e;simp[hi]
 ·rw[b8 e,b8 e]
def u2.start(ds:List bD):u2 ds (List.replicate ds.length cb):=by
 refine⟨by simp,λi h=>?_,λm hm _=>by rw[<-hm];exact e6.lE m⟩;have:(List.replicate ds.length cb).getD i cb=cb:=by simp[dB,h]
 rw[this];exact a8.lE _
def u2.step{ds:List bD}{l:List a8}(h:u2 ds l){i:Nat}(hi:i<ds.length):u2 ds (l.set i (om (bJ ds) l ds[i]))/\e6 l (l.set i (om (bJ ds) l ds[i])):=by
 have fq:i<l.length:=by rw[h.len];exact hi
 have bz:e6 l (l.set i (om (bJ ds) l ds[i])):=e6.of (by simp) λj an=>by
  rw[HW _ _ _ _ fq];by_cases e:i=j;·subst e;rw[cF rfl];exact h.up i hi
  ·rw[b8 e];exact a8.le_refl _
 refine⟨⟨by simpa using h.len,λj an=>?_,λm hm aJ=>?_⟩,bz⟩
 ·rw[HW _ _ _ _ fq];by_cases e:i=j
  ·subst e;rw[cF rfl];exact QJ bz _
  ·rw[b8 e];exact(h.up j an).trans (QJ bz _)
 ·have HX:=h.least m hm aJ;refine e6.of (by simp[h.len,hm]) λj an=>?_;rw[HW _ _ _ _ fq];by_cases e:i=j
  ·subst e;rw[cF rfl];exact(QJ HX _).trans (aJ i hi)
  ·rw[b8 e];exact HX.getD j
def QK{ds:List bD}:∀ (au bi:List bD) {l:List a8},ds=bi++au->u2 ds l->u2 ds (oo (bJ ds) bi.length au l)/\e6 l (oo (bJ ds) bi.length au l) /\ (oo (bJ ds) bi.length au l=l->∀ i (h:i<ds.length),bi.length<=i->l.getD i cb=om (bJ ds) l ds[i])
 |[],bi,l,lz,h=>⟨h,e6.refl l,λ_ i hi cE=>by rw[lz,eo]at hi;omega⟩
 |d::au,bi,l,lz,h=>by
  have hi:bi.length<ds.length:=by rw[lz];simp
  have ah:ds[bi.length]=d:=by simp[lz]
  have fq:bi.length<l.length:=by rw[h.len];exact hi
  obtain⟨s1,s2⟩:=h.step hi;rw[ah]at s1 s2;obtain⟨hS,fP,hT⟩:=QK au (bi++[d]) (by rw[lz];simp) s1;rw[di,eM,ko,dp]at hS fP hT;refine⟨hS,s2.trans fP,λe i j1 cE=>?_⟩;have aC:l.set bi.length (om (bJ ds) l d)=l:=by refine e6.antisymm ?_ s2;have:oo (bJ ds) bi.length (d::au) l=oo (bJ ds) (bi.length+1) au (l.set bi.length (om (bJ ds) l d)):=rfl;rw[this]at e;rw[e]at fP;exact fP
  have aA:oo (bJ ds) (bi.length+1) au l=l:=by have:oo (bJ ds) bi.length (d::au) l=oo (bJ ds) (bi.length+1) au (l.set bi.length (om (bJ ds) l d)):=rfl;rw[this,aC]at e;exact e
  rw[aC]at hT;by_cases aK:i=bi.length;·subst aK;have aN:=HW l bi.length bi.length (om (bJ ds) l d) fq;rw[aC,cF rfl]at aN;rw[aN,ah]
  ·exact hT aA i j1 (by omega)
structure rs(ds:List bD)(l:List a8):Prop where
 len:l.length=ds.length
 fix:∀ i (h:i<ds.length),l.getD i cb=om (bJ ds) l ds[i]
 least:∀ m:List a8,m.length=ds.length->(∀ i (h:i<ds.length),(om (bJ ds) m ds[i]).le (m.getD i cb))->e6 l m
def u2.done{ds:List bD}{l:List a8}(h:u2 ds l)(ar:oo (bJ ds) 0 ds l=l):rs ds l:=
 ⟨h.len,λi hi=>(QK ds [] rfl h).2.2 ar i hi (bF _),h.least⟩
def rs.unique{ds:List bD}{l c8:List a8}(h:rs ds l)(bg:rs ds c8):l=c8:=
 e6.antisymm (h.least c8 bg.len λi hi=>by rw[<-bg.fix i hi];exact a8.le_refl _) (bg.least l h.len λi hi=>by rw[<-h.fix i hi];exact a8.le_refl _)
def EU(x:a8):Nat:=(bif x.z then 0 else 1)+((bif x.s then 0 else 1)+(bif x.f then 0 else 1))
def AY(l:List a8):Nat:=(l.map EU).sum
def ajc{a b:a8}(h:a.le b):EU b<=EU a/\(EU a<=EU b->a=b):=by
 obtain⟨bW,da,dh⟩:=a;obtain⟨b1,ch,b9⟩:=b;obtain⟨U,aa,af⟩:=h;cases bW<;>cases b1<;>cases da<;>cases ch<;>cases dh<;>cases b9<;>simp_all[EU]
def Ys:∀ {l m:List a8},e6 l m->AY m<=AY l/\(AY l<=AY m->l=m)
 |_,_,.nil=>⟨b2 _,λ_=>rfl⟩| _,_,.cons h t=>by obtain⟨U,aa⟩:=ajc h;obtain⟨t1,t2⟩:=Ys t;simp only[AY,dQ,k']at t1 t2 |-;refine⟨by omega,λh=>?_⟩;rw[aa (by omega),t2 (by omega)]
def ajd{l m:List a8}(h:e6 l m)(bM:m≠l):AY m<AY l:=by obtain⟨U,aa⟩:=Ys h;apply Qj U;intro e;exact bM (aa (by omega)).symm
def zy(nm:ByteArray):List bD->Nat->Option Int
 |[],_=>none| d::ds,i=>bif decide (nm=d.name)then some (i:Int)else zy nm ds (i+1)
def Yt(s n:ByteArray)(v:Int):∀ l:List (ByteArray×Int),eL s (l++[(n,v)])=match eL s l with
  |some x=>some x| none=>bif decide (s=n)then some v else none
 |[]=>rfl
 |p::l=>by
  have be:=Yt s n v l;simp only[py,eL];cases decide (s=p.1)with
  |true=>rfl| false=>simpa using be
def Yu:∀ (ds:List bD) (bc:List (ByteArray×Int)) (i:Nat) (nm:ByteArray),eL nm (xO bc i ds)=match eL nm bc with
  |some x=>some x| none=>zy nm ds i
 |[],bc,i,nm=>by rw[xO,zy];cases eL nm bc<;>rfl
 |d::ds,bc,i,nm=>by
  rw[xO,Yu ds,zy];cases ah:(eL d.name bc).isSome with
  |true=>
   simp only[a4];cases aE:eL nm bc with
   |some x=>rfl
   |none=>
    have:decide (nm=d.name)=false:=by rw[ny];intro e;rw[<-e,aE]at ah;cases ah
    rw[this];rfl
  |false=>
   simp only[aQ,Yt];cases aE:eL nm bc with
   |some x=>rfl| none=>cases decide (nm=d.name)<;>rfl
def QL(ds:List bD)(nm:ByteArray):eL nm (bJ ds)=zy nm ds 0:=Yu ds [] 0 nm
def QM:∀ {ds:List bD} {i:Nat} {nm:ByteArray} {v:Int},zy nm ds i=some v->∃ j:Nat,v=((i+j:Nat):Int)/\j<ds.length
 |d::ds,i,nm,v,h=>by
  unfold zy at h;cases ah:decide (nm=d.name)with
  |true=>rw[ah]at h;simp only[a4,hq]at h;exact⟨0,by rw[<-h];rfl,by simp⟩| false=>rw[ah]at h;obtain⟨j,U,aa⟩:=QM h;exact⟨j+1,by rw[U];congr 1;omega,by simpa using aa⟩
def tH(pl:List (ByteArray×Int))(ns:List bh):Bool:=ns.all λd=>!decide (d.k=3)||(eL d.t pl).isSome
def Yv{ds:List bD}{ns:List bh}(h:tH (bJ ds) ns=true):Yi (bJ ds) ds.length ns:=by intro d ah ae;have:=hI.1 h d ah;simp only[ae,zc,r1,w2]at this;obtain⟨v,aj⟩:=J4.1 this;have nq:=aj;rw[QL]at nq;obtain⟨j,U,aa⟩:=QM nq;rw[dp]at U;exact⟨j,by rw[aj,U],aa⟩
def Yw:∀ (ds:List bD) {bc r:List (ByteArray×Int)} {i:Nat},rj bc i ds=some r->xO bc i ds=r
 |[],bc,r,i,h=>by simp only[rj,hq]at h;exact h
 |d::ds,bc,r,i,h=>by
  unfold rj at h;cases ah:(eL d.name bc).isSome with
  |true=>rw[ah]at h;cases h| false=>rw[ah]at h;rw[xO,ah];exact Yw ds h
def aje{d:bD}{aG:bh}(az:aG∈d.t.ns):∀ (ds:List bD) (i:Nat),d∈ds->∃ j,(j,aG)∈v5 i ds:=by
 intro ds
 induction ds with
 |nil=>intro i ah;cases ah
 |cons x ds be=>
  intro i ah;rcases eu.1 ah with e | ah;·subst e;exact⟨i,dV.2 (.inl (eh.2 ⟨aG,az,rfl⟩))⟩
  ·obtain⟨j,an⟩:=be (i+1) ah;exact⟨j,dV.2 (.inr an)⟩
def ajf(h:e9 aX g=0):∀ d∈g.ds,tH (bJ g.ds) d.t.ns=true:=by
 unfold e9 at h;cases U:decide ((g.n:Int)=0)with
 |true=>rw[U]at h;cases h| false=>
 cases aa:v7 g.ds with
 |false=>rw[U,aa]at h;cases h| true=>
 cases af:uS aX g with
 |true=>rw[U,aa,af]at h;cases h| false=>
 rw[U,aa,af]at h;simp only[aQ,r1]at h;split at h
 ·cases h
 ·rename_i bc mT;have aK:bJ g.ds=bc:=Yw g.ds mT;cases aN:zj bc g.ds with
  |false=>rw[aN]at h;cases h| true=>intro d ah;rw[aK,tH,hI];intro aG bV;obtain⟨j,an⟩:=aje bV g.ds 0 ah;exact hI.1 aN _ an
def ajg(h:e9 aX g=0):v7 g.ds=true:=by
 unfold e9 at h;cases U:decide ((g.n:Int)=0)with
 |true=>rw[U]at h;cases h| false=>
 cases aa:v7 g.ds with
 |false=>rw[U,aa]at h;cases h| true=>rfl
def oi.mono{a:Option Addr}{n:Nat}{ks:List a8}(h:oi I M a n ks)(bX:∀ b o,I b=some o->I' b=some o):oi I' M a n ks:=
 ⟨h.n,λj an=>by
  obtain⟨ad,U,aa⟩:=h.rd j an;exact⟨ad,U,aa.mono bX⟩⟩
def LJ{b:Nat}{l:List a8}(a2:gh b l∈M):oi I M (some ⟨b,0,none⟩) l.length l:=
 ⟨rfl,λj an=>⟨_,rfl,ET a2 an⟩⟩
def AZ(g:cA)(bK:List a8)(t:eH):Option (List a8):=bif decide (bK.length=g.n)&&(right t&&tH (bJ g.ds) t.ns)then some (ep (bJ g.ds) bK t.ns [])else none
def ajh(bO:gu I aX)(aB:g.ok I){t:eH}(aI:t.ok I){bK:List a8}(mw:oi I M0 CM ln bK) :
  Spec Tryz.prog 45 [g.val,.slice CM ln lc,t.val] I M0 λv I' M'=>(∀ b o,I b=some o->I' b=some o) /\
   ((AZ g bK t=none/\v=.tuple #[.slice none 0 0,.bool false]/\M'=M0)\/∃ r b,AZ g bK t=some r/\v=.tuple #[.slice (some ⟨b,0,none⟩) t.n t.n,.bool true]/\M'=gh b r::M0):=by
 refine bY [] aV Tryz.func45 rfl rfl rfl ?_;intro B ay;have gC:=aB.n;have ri:=aI.n;have iH:=aI.bj.cap;have zz:=mw.n;refine c0.mk (λh=>?_) (λh=>?_)
 rotate_left
 ·refine⟨_,_,.refl,λ_ _ h=>h,.inl ⟨?_,rfl,rfl⟩⟩;have bM:¬ (ln:Int)=(g.n:Int):=by simpa using h
  have:decide (bK.length=g.n)=false:=bG (by omega);simp[AZ,this]
 have EV:ln=g.n:=by
  have:(ln:Int)=(g.n:Int):=by simpa using h
  omega
 have fx:decide (bK.length=g.n)=true:=dF (by omega);refine a9.mk [] M0 _ (.refl _) (Cq bO.c aI) ?_;rintro v cW M1 -⟨rfl,rfl,rfl⟩;refine aM.mk (λh=>?_) (λh=>?_)
 ·refine⟨_,_,.refl,λ_ _ h=>h,.inl ⟨?_,rfl,rfl⟩⟩;have:right t=false:=by simpa using h
  simp[AZ,this]
 have al:right t=true:=by simpa using h
 refine a9.mk [] M0 _ (.refl _) (Yf aB) ?_;rintro v eC dU -⟨h5,rfl,iO,rfl,EW⟩;have qu:=aI.mono h5;refine ea.inv (ι:=Nat) (λx=>{ bK:=[(1,.val (.slice CM ln lc)),(3,.ref 3 0),(5,.ref 5 0),(8,.val (.map (some iO))),(27,.val (.slice t.a t.n t.c)),(28,.val (.int .i64 t.n)),(29,.val (.int .i64 x))],cl:=[(3,[.slice g.a g.n g.c]),(5,t.cells)],dz:=eC,d':=M0 }) (λx=>x<=t.n/\∀ d∈t.ns.take x,(!decide (d.k=3)||(eL d.t (bJ g.ds)).isSome)=true) (λx=>t.n-x) ?_ ?_
 ·exact⟨0,⟨bF _,λd ah=>by simp at ah⟩,.refl,mj,.cons rfl (.cons rfl .nil)⟩
 rintro i⟨hi,tg⟩;refine aM.mk (λh=>?_) (λh=>?_)
 ·have a0:i<t.n:=by have:(i:Int)<(t.n:Int):=cm h;omega
  have bZ:i<t.ns.length:=by omega
  obtain⟨ad,b3,br⟩:=qu.bj.row bh.dc a0 bZ;have kO:t.ns.take (i+1)=t.ns.take i++[t.ns[i]]:=iT bZ;have h3:=dr bZ;have next:(!decide (t.ns[i].k=3)||(eL t.ns[i].t (bJ g.ds)).isSome)=true->∀ d∈t.ns.take (i+1),(!decide (d.k=3)||(eL d.t (bJ g.ds)).isSome)=true:=λh d ah=>by
   rw[kO]at ah;rcases dV.1 ah with ah | ah;·exact tg d ah
   ·simp only[jw]at ah;rw[ah];exact h
  refine bl.mk ad i b3 rfl a0 ?_;refine aw.mk _ (br _) ?_;refine aM.mk (λaf=>?_) (λaf=>?_);·refine bb.mk _ (c7 (i:=i) (by omega)) ?_;refine⟨i+1,⟨⟨by omega,next ?_⟩,by omega⟩,.refl,mj,.cons rfl (.cons rfl .nil)⟩;rw[show(!decide (t.ns[i].k=3))=true from af];rfl
  ·refine bE.Ye aV rfl (by simp) rfl rfl rfl rfl (λw=>HG w) (l:=bJ g.ds) (g:=iO) rfl rfl (.inl EW) ?_;refine aM.mk (λaN=>?_) (λaN=>?_)
   ·refine⟨_,_,.refl,h5,.inl ⟨?_,rfl,rfl⟩⟩;have bq:tH (bJ g.ds) t.ns=false:=by
     rw[tH,KV];refine⟨_,h3,?_⟩;have bp:(eL t.ns[i].t (bJ g.ds)).isSome=false:=by simpa using aN
     rw[bp,show(!decide (t.ns[i].k=3))=false from af];simp
    simp[AZ,bq]
   ·refine bb.mk _ (c7 (i:=i) (by omega)) ?_;refine⟨i+1,⟨⟨by omega,next ?_⟩,by omega⟩,.refl,mj,.cons rfl (.cons rfl .nil)⟩;have bp:(eL t.ns[i].t (bJ g.ds)).isSome=true:=by simpa using aN
    rw[bp];simp
 have cE:i=t.n:=by have:¬ (i:Int)<(t.n:Int):=cu h;omega
 rw[gM (by omega)]at tg;have eb:tH (bJ g.ds) t.ns=true:=hI.2 tg;have EX:=Yv eb;rw[gC,<-EV]at EX;refine a9.mk M0 [] _ perm_nil (Ym qu al EW (mw.mono h5) EX) ?_;rintro v la xv -⟨rfl,b,rfl,rfl⟩;rw[eo];exact⟨_,_,.refl,h5,.inr ⟨_,b,by rw[AZ,fx,al,eb];rfl,rfl,rfl⟩⟩
structure wh(g:cA):Prop where
 n:g.ds.length=g.n
 right:∀ d∈g.ds,right d.t=true
 named:∀ d∈g.ds,tH (bJ g.ds) d.t.ns=true
def LK(az:g.ds.length=g.n)(h:e9 aX g=0):wh g:=by refine⟨az,λd ah=>?_,ajf h⟩;have:=hI.1 (ajg h) d ah;simp only[normal,ct]at this;exact this.2.1
def ofM(b6 iO eT hD b1:Nat)(g:cA)(l:List a8):List aF:=[⟨b6,.cells #[.map (some iO)] 96 (0,0)⟩,⟨eT,.cells #[.slice (some ⟨hD,0,none⟩) g.n g.n] 34 (0,0)⟩,gh hD l,⟨b1,.cells #[.slice g.a g.n g.c] 24 (0,0)⟩]
def HY(a b c d:α):[a,b,c,d].Perm ([c]++[a,b,d]):=rn (l₁:=[a,b]) (l₂:=[d])
def aji(x a b c d:α):[x,a,b,c,d].Perm ([c]++[x,a,b,d]):=rn (l₁:=[x,a,b]) (l₂:=[d])
def LL{b:Nat}{f:a8}(a2:(⟨b,.cells f.cells.toArray 46 (0,0)⟩:aF)∈M):cx I M (⟨b,0,none⟩:Addr) 3 f.cells:=⟨rfl,_,_,_,.inr ⟨_,a2,rfl,rfl⟩,rfl,rfl⟩
def Yx{l:List a8}{i:Nat}(hi:i<l.length){x:a8}:Nat.ble (0+i*3+x.cells.length) (l.flatMap a8.cells).length=true:=by rw[og,CN,a8.dc];omega
def cc.av{a:Addr}{K:List aF->Prop}(bi post:List aF)(cs:Array Value)(T:Nat)(a2:M=bi++⟨a.block,.cells cs T (0,0)⟩::post)(ax:a.spot=none)(ag:Nat.ble (a.off+vs.length) cs.size=true)(U:iW vs=true)(cs':List Value)(he:bQ cs.toList a.off vs=cs')(k:K (bi++⟨a.block,.cells cs'.toArray T (0,0)⟩::post)):cc M a vs K:=
 ⟨bi,post,cs,T,a2,ax,bP ag,U,by rw[he];exact k⟩
def ajj(aB:g.ok I)(hm:wh g){b6 eT hD b1:Nat}(EW:I iO=some (ka (bJ g.ds))){dy:List a8}(D8:u2 g.ds dy) :
  Spec Tryz.prog 43 [ptr b1,ptr b6,ptr eT] I (ofM b6 iO eT hD b1 g dy) λv I' M'=>v=.bool (decide (oo (bJ g.ds) 0 g.ds dy≠dy))/\I'=I/\M'=ofM b6 iO eT hD b1 g (oo (bJ g.ds) 0 g.ds dy):=by
 refine bY [] aV Tryz.func43 rfl rfl rfl ?_;intro B ay;have gC:=aB.n;have iH:=aB.bj.cap;have ajk:∀ {M:List aF},(⟨b1,.cells #[.slice g.a g.n g.c] 24 (0,0)⟩:aF)∈M->cx I M ((⟨b1,0,none⟩:Addr).add 0) 1 [.slice g.a g.n g.c]:=λa2=>dt (cs:=[.slice g.a g.n g.c]) (k:=0) (n:=1) a2 (by simp);have ajl:∀ {M:List aF},(⟨b6,.cells #[.map (some iO)] 96 (0,0)⟩:aF)∈M->cx I M (⟨b6,0,none⟩:Addr) 1 [.map (some iO)]:=λa2=>⟨rfl,_,_,_,.inr ⟨_,a2,rfl,rfl⟩,rfl,rfl⟩;have HZ:∀ {M:List aF},(⟨eT,.cells #[.slice (some ⟨hD,0,none⟩) g.n g.n] 34 (0,0)⟩:aF)∈M->cx I M (⟨eT,0,none⟩:Addr) 1 [.slice (some ⟨hD,0,none⟩) g.n g.n]:=λa2=>⟨rfl,_,_,_,.inr ⟨_,a2,rfl,rfl⟩,rfl,rfl⟩;refine aw.mk _ (ajk (by simp[ofM])) ?_;refine ea.inv (ι:=Nat×List a8) (λx=>{ bK:=[(0,.val (ptr b1)),(1,.val (ptr b6)),(2,.val (ptr eT)),(4,.val (.bool (decide (x.2≠dy)))),(9,.val (.slice g.a g.n g.c)),(10,.val (.int .i64 g.n)),(11,.val (.int .i64 x.1))],dz:=I,d':=ofM b6 iO eT hD b1 g x.2 }) (λx=>x.1<=g.n/\u2 g.ds x.2/\e6 dy x.2/\oo (bJ g.ds) 0 g.ds dy=oo (bJ g.ds) x.1 (g.ds.drop x.1) x.2) (λx=>g.n-x.1) ?_ ?_
 ·refine⟨(0,dy),⟨bF _,D8,e6.refl _,rfl⟩,.refl,.cons .refl (.cons .refl (.cons .refl (.cons ?_ (gX)))),.nil⟩;exact LC (by simp)
 rintro⟨i,l⟩⟨hi,cV,bz,jB⟩;simp only at hi cV bz jB;have r5:=cV.len;refine aM.mk (λh=>?_) (λh=>?_)
 rotate_left
 ·have cE:i=g.n:=by have:¬ (i:Int)<(g.n:Int):=cu h;omega
  rw[iG (by omega),oo]at jB;exact⟨_,_,.refl,by rw[jB],rfl,by rw[jB]⟩
 have a0:i<g.n:=by have:(i:Int)<(g.n:Int):=cm h;omega
 have bZ:i<g.ds.length:=by omega
 have fq:i<l.length:=by omega
 obtain⟨ad,b3,br⟩:=aB.bj.row bD.dc a0 bZ;have eI:=dr bZ;have ah:=aB.ds _ eI;have al:=hm.right _ eI;have EX:=Yv (hm.named _ eI);rw[show g.ds.length=l.length from r5.symm]at EX;obtain⟨QN,w8⟩:=cV.step bZ;have zA:oo (bJ g.ds) 0 g.ds dy=oo (bJ g.ds) (i+1) (g.ds.drop (i+1)) (l.set i (om (bJ g.ds) l g.ds[i])):=by rw[jB,fg bZ,oo]
 have H0:om (bJ g.ds) l g.ds[i]=(ep (bJ g.ds) l g.ds[i].t.ns []).getD g.ds[i].t.bR.toNat cb:=rfl;generalize om (bJ g.ds) l g.ds[i]=f at QN w8 zA H0;generalize g.ds[i]=d at br ah al EX H0;have sm:=Cs al;have ri:=ah.t.n;have n7:=HU (bJ g.ds) l d.t.ns [];simp only[ko,dp]at n7;have hA:d.t.bR.toNat<(ep (bJ g.ds) l d.t.ns []).length:=by omega
 have oK:(ep (bJ g.ds) l d.t.ns [])[d.t.bR.toNat]=f:=by rw[H0];simp[dB,hA]
 have QO:=Ym (M0:=[gh hD l]) (ln:=l.length) (lc:=g.n) ah.t al EW (LJ (I:=I) (jw.2 rfl)) EX;rw[show l.length=g.n by omega]at QO;refine bl.mk ad i b3 rfl a0 ?_;refine aw.mk _ (br _) ?_;have ajm:l.getD i cb=l[i]:=by simp[dB,fq]
 have more:(!decide (f=l[i]))=true->decide (l.set i f≠dy)=true:=λh=>by
  have bM:f≠l[i]:=by simpa using h
  rw[eY];intro e;have aA:l.set i f=l:=by refine e6.antisymm ?_ w8;rw[e];exact bz
  have af:=HW l i i f fq;rw[aA,cF rfl,ajm]at af;exact bM af.symm
 have same:(!decide (f=l[i]))=false->l.set i f=l:=λh=>by
  have he:f=l[i]:=by simpa using h
  rw[he];exact List.set_getElem_self fq
 refine cq.draw aV rfl rfl rfl ?_;refine aw.mk _ (ajl (by simp[ofM])) ?_;refine aw.mk _ (HZ (by simp[ofM])) ?_;refine⟨?_,?_⟩
 ·refine hx.qd [gh hD l] [⟨b6,.cells #[.map (some iO)] 96 (0,0)⟩,⟨eT,.cells #[.slice (some ⟨hD,0,none⟩) g.n g.n] 34 (0,0)⟩,⟨b1,.cells #[.slice g.a g.n g.c] 24 (0,0)⟩] _ (HY ..) QO (λv I' M' h x ab=>by obtain⟨-,b,-,rfl⟩:=h;exact .tail _ ab) ?_;rintro v eC dU -⟨rfl,b,rfl,rfl⟩;refine bl.mk ⟨b,0,none⟩ d.t.bR.toNat rfl (by omega) (by omega) ?_;refine aw.mk _ (ET (.head _) hA) ?_;rw[oK];refine cy.mk λb7 QP Yy=>?_;refine cc.av [] [gh b (ep (bJ g.ds) l d.t.ns []),gh hD l,⟨b6,.cells #[.map (some iO)] 96 (0,0)⟩,⟨eT,.cells #[.slice (some ⟨hD,0,none⟩) g.n g.n] 34 (0,0)⟩,⟨b1,.cells #[.slice g.a g.n g.c] 24 (0,0)⟩] _ _ rfl rfl rfl rfl f.cells rfl ?_;refine cq.draw aV rfl rfl rfl ?_;refine aw.mk f.cells (LL (by simp)) ?_;refine aw.mk _ (HZ (by simp)) ?_;refine bl.mk ⟨hD,0,none⟩ i rfl rfl a0 ?_;refine aw.mk _ (ET (by simp) fq) ?_;refine fU.X' (p:=f) (q:=l[i]) ?_;refine aM.mk (λh=>?_) (λh=>?_)
  ·refine aw.mk _ (HZ (by simp)) ?_;refine aw.mk f.cells (LL (by simp)) ?_;refine bl.mk ⟨hD,0,none⟩ i rfl rfl a0 ?_;refine cc.jO [(⟨b7,.cells f.cells.toArray 46 (0,0)⟩:aF),gh b (ep (bJ g.ds) l d.t.ns [])] [⟨b6,.cells #[.map (some iO)] 96 (0,0)⟩,⟨eT,.cells #[.slice (some ⟨hD,0,none⟩) g.n g.n] 34 (0,0)⟩,⟨b1,.cells #[.slice g.a g.n g.c] 24 (0,0)⟩] (l.flatMap a8.cells) _ rfl (Yx fq) rfl ((l.set i f).flatMap a8.cells) (by rw[dp];exact QE l i fq f) ?_;refine bb.mk _ (c7 (i:=i) (by omega)) ?_;refine⟨(i+1,l.set i f),⟨⟨by simp only;omega,QN,bz.trans w8,zA⟩,by simp only;omega⟩,.sub (M1:=[gh hD (l.set i f),⟨b6,.cells #[.map (some iO)] 96 (0,0)⟩,⟨eT,.cells #[.slice (some ⟨hD,0,none⟩) g.n g.n] 34 (0,0)⟩,⟨b1,.cells #[.slice g.a g.n g.c] 24 (0,0)⟩]) (by exact .cons _ (.cons _ (.refl _))) (.perm (HY ..).symm .refl),.cons .refl (.cons .refl (.cons .refl (.cons (LC (more h).symm) (gX)))),.nil⟩
  ·have he:l.set i f=l:=same h;rw[he]at zA;refine bb.mk _ (c7 (i:=i) (by omega)) ?_;exact⟨(i+1,l),⟨⟨by simp only;omega,cV,bz,zA⟩,by simp only;omega⟩,.sub (M1:=[gh hD l,⟨b6,.cells #[.map (some iO)] 96 (0,0)⟩,⟨eT,.cells #[.slice (some ⟨hD,0,none⟩) g.n g.n] 34 (0,0)⟩,⟨b1,.cells #[.slice g.a g.n g.c] 24 (0,0)⟩]) (by exact .cons _ (.cons _ (.refl _))) (.perm (HY ..).symm .refl),mj,.nil⟩
 ·refine cy.mk λb7 QP Yy=>?_;refine hx.qd [gh hD l] [(⟨b7,.cells cb.cells.toArray 46 (0,0)⟩:aF),⟨b6,.cells #[.map (some iO)] 96 (0,0)⟩,⟨eT,.cells #[.slice (some ⟨hD,0,none⟩) g.n g.n] 34 (0,0)⟩,⟨b1,.cells #[.slice g.a g.n g.c] 24 (0,0)⟩] _ (aji ..) QO (λv I' M' h x ab=>by obtain⟨-,b,-,rfl⟩:=h;exact .tail _ ab) ?_;rintro v eC dU -⟨rfl,b,rfl,rfl⟩;refine bl.mk ⟨b,0,none⟩ d.t.bR.toNat rfl (by omega) (by omega) ?_;refine aw.mk _ (ET (.head _) hA) ?_;rw[oK];refine cc.av [gh b (ep (bJ g.ds) l d.t.ns []),gh hD l] [⟨b6,.cells #[.map (some iO)] 96 (0,0)⟩,⟨eT,.cells #[.slice (some ⟨hD,0,none⟩) g.n g.n] 34 (0,0)⟩,⟨b1,.cells #[.slice g.a g.n g.c] 24 (0,0)⟩] _ _ rfl rfl rfl rfl f.cells rfl ?_;refine cq.draw aV rfl rfl rfl ?_;refine aw.mk f.cells (LL (by simp)) ?_;refine aw.mk _ (HZ (by simp)) ?_;refine bl.mk ⟨hD,0,none⟩ i rfl rfl a0 ?_;refine aw.mk _ (ET (by simp) fq) ?_;refine fU.X' (p:=f) (q:=l[i]) ?_;refine aM.mk (λh=>?_) (λh=>?_)
  ·refine aw.mk _ (HZ (by simp)) ?_;refine aw.mk f.cells (LL (by simp)) ?_;refine bl.mk ⟨hD,0,none⟩ i rfl rfl a0 ?_;refine cc.jO [gh b (ep (bJ g.ds) l d.t.ns [])] [(⟨b7,.cells f.cells.toArray 46 (0,0)⟩:aF),⟨b6,.cells #[.map (some iO)] 96 (0,0)⟩,⟨eT,.cells #[.slice (some ⟨hD,0,none⟩) g.n g.n] 34 (0,0)⟩,⟨b1,.cells #[.slice g.a g.n g.c] 24 (0,0)⟩] (l.flatMap a8.cells) _ rfl (Yx fq) rfl ((l.set i f).flatMap a8.cells) (by rw[dp];exact QE l i fq f) ?_;refine bb.mk _ (c7 (i:=i) (by omega)) ?_;refine⟨(i+1,l.set i f),⟨⟨by simp only;omega,QN,bz.trans w8,zA⟩,by simp only;omega⟩,.sub (M1:=[gh hD (l.set i f),⟨b6,.cells #[.map (some iO)] 96 (0,0)⟩,⟨eT,.cells #[.slice (some ⟨hD,0,none⟩) g.n g.n] 34 (0,0)⟩,⟨b1,.cells #[.slice g.a g.n g.c] 24 (0,0)⟩]) (by exact .cons _ (.cons_cons _ (.cons _ (.refl _)))) (.perm (HY ..).symm .refl),.cons .refl (.cons .refl (.cons .refl (.cons (LC (more h).symm) (gX)))),.nil⟩
  ·have he:l.set i f=l:=same h;rw[he]at zA;refine bb.mk _ (c7 (i:=i) (by omega)) ?_;exact⟨(i+1,l),⟨⟨by simp only;omega,cV,bz,zA⟩,by simp only;omega⟩,.sub (M1:=[gh hD l,⟨b6,.cells #[.map (some iO)] 96 (0,0)⟩,⟨eT,.cells #[.slice (some ⟨hD,0,none⟩) g.n g.n] 34 (0,0)⟩,⟨b1,.cells #[.slice g.a g.n g.c] 24 (0,0)⟩]) (by exact .cons _ (.cons_cons _ (.cons _ (.refl _)))) (.perm (HY ..).symm .refl),mj,.nil⟩
def ajn(bO:gu I aX)(aB:g.ok I):Spec Tryz.prog 11 [g.val] I [] λv I' M'=>(∀ b o,I b=some o->I' b=some o) /\
  ((e9 aX g≠0/\v=.tuple #[.slice none 0 0,.int .i64 (e9 aX g)]/\M'=[])\/(e9 aX g=0/\∃ b l,v=.tuple #[.slice (some ⟨b,0,none⟩) g.n g.n,.int .i64 0]/\M'=[gh b l]/\rs g.ds l)):=by
 refine bY [1,5,6] aV Tryz.func11 rfl rfl rfl ?_;intro B ay;have gC:=aB.n;have iH:=aB.bj.cap;refine cy.mk λb1 jN Yz=>?_;refine aw.mk [.slice g.a g.n g.c] ⟨rfl,_,_,_,.inr ⟨_,.head _,rfl,rfl⟩,rfl,rfl⟩ ?_;refine a9.mk [] [⟨b1,.cells #[.slice g.a g.n g.c] 24 (0,0)⟩] _ (.refl _) (Lc bO aB) ?_;rintro v cW M1 -⟨rfl,b4,rfl⟩;refine aM.mk (λh=>?_) (λh=>?_)
 ·have hm:e9 aX g≠0:=by simpa using h
  exact⟨_,_,.sub (eN _) .refl,b4,.inl ⟨hm,rfl,rfl⟩⟩
 have hm:e9 aX g=0:=by simpa using h
 have a2:=LK gC hm;refine aw.mk _ (dt (b:=b1) (cs:=[.slice g.a g.n g.c]) (k:=0) (n:=1) (T:=24) (.head _) (by simp)) ?_;refine qU.mk g.n g.n rfl rfl (b2 _) (by show 3*g.n<=_;omega) (by omega) ?_;refine cy.mk λhD q5 atM=>?_;have e:rowOf cb.cells (g.n*3)=(List.replicate g.ds.length cb).flatMap a8.cells:=by rw[gC];exact Yl g.n
 refine cy.mk λeT Ld PV=>?_;refine cc.av [] _ _ _ rfl rfl rfl rfl [.slice (some ⟨hD,0,none⟩) g.n g.n] rfl ?_;refine aw.mk [.slice g.a g.n g.c] ⟨rfl,_,_,_,.inr ⟨_,.tail _ (.tail _ (.head _)),rfl,rfl⟩,rfl,rfl⟩ ?_;refine a9.mk [] _ _ (.refl _) (Yf (aB.mono b4)) ?_;rintro v eC dU -⟨h5,rfl,iO,rfl,EW⟩;refine cy.mk λb6 K4 Xh=>?_;refine cc.av [] _ _ _ rfl rfl rfl rfl [.map (some iO)] rfl ?_;refine ea.inv (ι:=List a8) (λl=>{ bK:=[(5,.val (ptr eT)),(7,.val (.func (.func 43) #[] #[ptr b1,ptr b6,ptr eT]))],dz:=eC,d':=ofM b6 iO eT hD b1 g l }) (u2 g.ds) AY ?_ ?_
 ·refine⟨List.replicate g.ds.length cb,.start g.ds,?_,Cf,.nil⟩;simp only[ofM,gh];rw[<-e];exact .refl
 intro l aE;refine a9.mk (ofM b6 iO eT hD b1 g l) [] _ (.refl _) (ajj ((aB.mono b4).mono h5) a2 EW aE) ?_;rintro v la xv -⟨rfl,rfl,rfl⟩;obtain⟨hS,fP,-⟩:=QK g.ds [] rfl aE;refine aM.mk (λh=>?_) (λh=>?_)
 ·exact⟨_,⟨hS,ajd fP (cm h)⟩,.refl,Cf,.nil⟩
 ·have ar:oo (bJ g.ds) 0 g.ds l=l:=by have:=cu h;exact Classical.not_not.1 this
  rw[ar];refine aw.mk [.slice (some ⟨hD,0,none⟩) g.n g.n] ⟨rfl,_,_,_,.inr ⟨_,.tail _ (.head _),rfl,rfl⟩,rfl,rfl⟩ ?_;refine⟨la,[gh hD l],.sub (.cons _ (.cons _ (.cons_cons _ (eN _)))) .refl,λb o h=>h5 _ _ (b4 _ _ h),.inr ⟨hm,hD,l,rfl,rfl,aE.done ar⟩⟩
def tI(ns:List bh):List Int:=ns.flatMap (·.aS)
def zB(l:List Int):Prop:=l.Pairwise (·≠·)
def EY(s:List Bool)(l:List Int):Prop:=∀ j,s.getD j false=true ↔ ((j:Int)∈l/\j<s.length)
def YA{i:Nat}:∀ {ks seen:List Int} {s:List Bool},i<=s.length->EY s seen->zB seen -> ((∃ cH,lx i ks s=some cH) ↔ ((∀ k∈ks,0<=k/\k<i)/\zB (seen++ks)))/\∀ cH,lx i ks s=some cH->cH.length=s.length/\EY cH (seen++ks)
 |[],seen,s,hi,hm,ah=>by refine⟨⟨λ_=>⟨λk ae=>by(cases ae),by simpa using ah⟩,λ_=>⟨s,rfl⟩⟩,λcH h=>?_⟩;simp only[lx,hq]at h;subst h;exact⟨rfl,by simpa using hm⟩
 |k::ks,seen,s,hi,hm,ah=>by
  unfold lx;cases ag:decide (k<0)||(decide ((i:Int)<=k)||s.getD k.toNat false)with
  |true=>
   refine⟨⟨λ⟨cH,h⟩=>(by cases h),λ⟨U,aa⟩=>?_⟩,λcH h=>by cases h⟩;exfalso;have af:=U k (.head _);simp only[lq,eY]at ag;rcases ag with ag | ag | ag;·omega
   ·omega
   ·have:=(hm _).1 ag;rw[Aw af.1]at this;exact(Qh.1 aa).2.2 k this.1 k (.head _) rfl
  |false=>
   simp only[n8,ny]at ag;obtain⟨b1,ch,b9⟩:=ag;have ae:k.toNat<s.length:=by omega
   have gE:k ∉ seen:=λh=>by have:=(hm k.toNat).2 ⟨by rw[Aw (by omega)];exact h,ae⟩;rw[b9]at this;cases this
   have tk:EY (s.set k.toNat true) (seen++[k]):=λj=>by
    have:=hm j;simp only[dB,qi,qz,dV,jw]at this |-;by_cases e:k.toNat=j;·subst e;rw[cF rfl,cF ae];simp only[mb,true_iff];exact⟨.inr (by omega),ae⟩
    ·rw[b8 e,this];constructor
     ·rintro⟨U,aa⟩;exact⟨.inl U,aa⟩
     ·rintro⟨U | U,aa⟩
      ·exact⟨U,aa⟩
      ·omega
   have iD:zB (seen++[k]):=Qh.2 ⟨ah,by simp,λa aH b ag e=>by
    simp only[jw]at ag;subst ag;subst e;exact gE aH⟩
   have be:=YA (i:=i) (ks:=ks) (seen:=seen++[k]) (s:=s.set k.toNat true) (by simpa using hi) tk iD;simp only[aQ];rw[gz,HM]at be;refine⟨be.1.trans ⟨λ⟨U,aa⟩=>⟨λx ab=>?_,aa⟩,λ⟨U,aa⟩=>⟨λx ab=>U x (.tail _ ab),aa⟩⟩,λcH h=>?_⟩
   ·rcases eu.1 ab with rfl | ab
    ·omega
    ·exact U x ab
   ·have:=be.2 cH h;simpa using this
def YB:∀ {ds:List bh} {i:Nat} {seen:List Int} {s:List Bool},i+ds.length<=s.length->EY s seen->zB seen -> ((∃ cH,mm i ds s=some cH) ↔ ((∀ j (h:j<ds.length),fits ds[j] ds[j].aS.length=true/\∀ k∈ds[j].aS,0<=k/\k<i+j)/\zB (seen++tI ds)))/\∀ cH,mm i ds s=some cH->cH.length=s.length/\EY cH (seen++tI ds)
 |[],i,seen,s,hi,hm,ah=>by refine⟨⟨λ_=>⟨λj an=>by simp at an,by simpa[tI]using ah⟩,λ_=>⟨s,rfl⟩⟩,λcH h=>?_⟩;simp only[mm,hq]at h;subst h;exact⟨rfl,by simpa[tI]using hm⟩
 |d::ds,i,seen,s,hi,hm,ah=>by
  unfold mm;have ae:=YA (i:=i) (ks:=d.aS) (by simp at hi;omega) hm ah;have gq:tI (d::ds)=d.aS++tI ds:=rfl;cases ar:fits d d.aS.length with
  |false=>refine⟨⟨λ⟨cH,h⟩=>(by cases h),λ⟨U,aa⟩=>?_⟩,λcH h=>by cases h⟩;have:=(U 0 (by simp)).1;simp only[y4]at this;rw[ar]at this;cases this
  |true=>
   simp only[a4];cases aL:lx i d.aS s with
   |none=>
    refine⟨⟨λ⟨cH,h⟩=>(by cases h),λ⟨U,aa⟩=>?_⟩,λcH h=>by cases h⟩;exfalso;have:∃ cH,lx i d.aS s=some cH:=ae.1.2 ⟨λk ae=>by
     have:=(U 0 (by simp)).2 k ae;omega,by
     rw[gq,<-gz]at aa;exact(Qh.1 aa).1⟩
    obtain⟨cH,h⟩:=this;rw[aL]at h;cases h
   |some s1=>
    obtain⟨mA,dI⟩:=ae.2 s1 aL;obtain⟨hS,d1⟩:=ae.1.1 ⟨s1,aL⟩;have be:=YB (ds:=ds) (i:=i+1) (seen:=seen++d.aS) (s:=s1) (by simp at hi;omega) dI d1;rw[gz,<-gq]at be;simp only;refine⟨be.1.trans ⟨λ⟨U,aa⟩=>⟨λj an=>?_,aa⟩,λ⟨U,aa⟩=>⟨λj an=>?_,aa⟩⟩,λcH h=>?_⟩
    ·cases j with
     |zero=>exact⟨ar,λk ae=>by have:=hS k ae;omega⟩| succ j=>have:=U j (by simpa using an);refine⟨this.1,λk ae=>?_⟩;have:=this.2 k ae;omega
    ·have:=U (j+1) (by simpa using an);refine⟨this.1,λk ae=>?_⟩;have:=this.2 k ae;omega
    ·have:=be.2 cH h;exact⟨this.1.trans mA,this.2⟩
def ajo(n:Nat):EY (List.replicate n false) []:=λj=>by
 by_cases h:j<n<;>simp[dB,Qf,h]
structure EZ(t:eH):Prop where
 bR:0<=t.bR/\t.bR<t.ns.length
 fits:∀ j (h:j<t.ns.length),fits t.ns[j] t.ns[j].aS.length=true
 aS:∀ j (h:j<t.ns.length),∀ k∈t.ns[j].aS,0<=k/\k<j
 diff:zB (tI t.ns)
 all:∀ j:Nat,j<t.ns.length->((j:Int)∈tI t.ns ↔ (j:Int)≠t.bR)
def E0{t:eH}:right t=true ↔ EZ t:=by
 have h:=YB (ds:=t.ns) (i:=0) (seen:=[]) (s:=List.replicate t.ns.length false) (by simp) (ajo _) (by simp[zB]);simp only[nz,dp,y5]at h;unfold right;constructor
 ·intro al;simp only[ct,eY]at al;obtain⟨hS,fP,hT⟩:=al;split at hT
  ·rename_i s ax;obtain⟨ed,dP⟩:=h.1.1 ⟨s,ax⟩;obtain⟨dI,m2⟩:=h.2 s ax;refine⟨⟨hS,fP⟩,λj an=>(ed j an).1,λj an k ae=>(by have:=(ed j an).2 k ae;omega),dP,λj an=>?_⟩;have ag:(s.getD j false == decide (((0+j:Nat):Int)=t.bR))=false:=by
    cases ag:(s.getD j false == decide (((0+j:Nat):Int)=t.bR))with
    |false=>rfl| true=>have:=Qw (by omega) ag;rw[this]at hT;cases hT
   rw[dp]at ag;have hm:=m2 j;constructor;·intro ab e;have:=hm.2 ⟨ab,by omega⟩;rw[this,dF e]at ag;cases ag
   ·intro bM;rw[bG bM]at ag;have:s.getD j false=true:=by
     revert ag;cases s.getD j false<;>simp
    exact(hm.1 this).1
  ·cases hT
 ·intro al;obtain⟨s,ax⟩:=h.1.2 ⟨λj an=>⟨al.fits j an,λk ae=>by have:=al.aS j an k ae;omega⟩,al.diff⟩;obtain⟨dI,m2⟩:=h.2 s ax;rw[ax];simp only[ct,eY];refine⟨al.bR.1,al.bR.2,X6 λj an=>?_⟩;rw[dp];have aH:=al.all j (by omega);have hm:=m2 j;by_cases e:(j:Int)=t.bR
  ·have ar:s.getD j false=false:=by
    cases ag:s.getD j false with
    |false=>rfl| true=>exact absurd e (aH.1 (hm.1 ag).1)
   rw[ar,dF e];rfl
  ·have:=hm.2 ⟨aH.2 e,by omega⟩;rw[this,bG e];rfl
section
end
def lg:Nat->List bD->List (Nat×bh)
 |_,[]=>[]| b,d::ds=>d.t.ns.map (λn=>(b,n))++lg (b+d.t.ns.length) ds
def ej:Nat->List bD->List Nat
 |_,[]=>[]| b,d::ds=>(b+d.t.bR.toNat)::ej (b+d.t.ns.length) ds
def bI(ds:List bD):Nat:=(ds.map λd=>d.t.ns.length).sum
def jf(ds:List bD)(b:Nat)(n:bh):List Nat:=bif decide (n.k=3)then [(ej 0 ds).getD (ee n.t ds 0).toNat 0]else n.aS.map λk=>b+k.toNat
def jT(ds:List bD):List pP:=(lg 0 ds).map λp=>⟨p.2,jf ds p.1 p.2⟩
def fk(g:cA)(s:ByteArray)(ai:Nat):bm:=⟨jT g.ds,s,ai⟩
def wi:∀ (b:Nat) (ds:List bD),(lg b ds).length=bI ds
 |b,[]=>rfl| b,d::ds=>by have:=wi (b+d.t.ns.length) ds;simp only[lg,bI,di,eW,dQ,k']at this |-;omega
def xS:∀ (b:Nat) (ds:List bD),(ej b ds).length=ds.length
 |b,[]=>rfl| b,d::ds=>by simp only[ej,eM,xS _ ds]
def H2:∀ (b:Nat) (ds:List bD),(∀ d∈ds,0<=d.t.bR/\d.t.bR<d.t.ns.length)->∀ x∈ej b ds,x<b+bI ds
 |b,[],_,x,ab=>by cases ab
 |b,d::ds,h,x,ab=>by
  have ah:=h d (.head _);have e:bI (d::ds)=d.t.ns.length+bI ds:=by simp[bI]
  rcases eu.1 ab with rfl | ab;·omega
  ·have:=H2 (b+d.t.ns.length) ds (λd ah=>h d (.tail _ ah)) x ab;omega
def QQ:∀ (b:Nat) (ds:List bD) (p:Nat×bh),p∈lg b ds->∃ d∈ds,p.2∈d.t.ns/\p.1+d.t.ns.length<=b+bI ds
 |b,[],p,h=>by cases h
 |b,d::ds,p,h=>by
  have e:bI (d::ds)=d.t.ns.length+bI ds:=by simp[bI]
  rcases dV.1 h with h | h;·obtain⟨n,az,rfl⟩:=eh.1 h;exact⟨d,.head _,az,by show b+d.t.ns.length<=_;omega⟩
  ·obtain⟨zq,U,aa,af⟩:=QQ _ ds p h;exact⟨zq,.tail _ U,aa,by omega⟩
def E1:∀ (n:Nat) (l:List Int),zB l->(∀ k∈l,0<=k/\k<n)->l.length<=n
 |0,[],_,_=>b2 _| 0,k::l,_,h=>by have:=h k (.head _);omega
 |n+1,l,ah,h=>by
  have U:=E1 n (l.filter λk=>decide (k≠(n:Int))) (ah.filter _) λk ae=>by have aa:=yN.1 ae;have af:=cm aa.2;have aN:=h k aa.1;omega
  have aa:∀ l:List Int,zB l->l.length<=(l.filter λk=>decide (k≠(n:Int))).length+1:=by
   intro l
   induction l with
   |nil=>intro _;simp
   |cons a l be=>
    intro ah;obtain⟨d1,d2⟩:=List.pairwise_cons.1 ah;by_cases e:a=(n:Int);·have:l.filter (λk=>decide (k≠(n:Int)))=l:=List.filter_eq_self.2 λk ae=>dF λaA=>d1 k ae (e.trans aA.symm);rw[List.filter_cons_of_neg (by simp[e]),this,eM];exact b2 _
    ·have:=be d2;rw[List.filter_cons_of_pos (by simp[e]),eM,eM];omega
  have:=aa l ah;omega
def LM{nm:ByteArray}:∀ (ds:List bD) (i:Nat),0<=ee nm ds i->ee nm ds i<((i+ds.length:Nat):Int)
 |[],i,h=>by simp[ee]at h
 |d::ds,i,h=>by
  unfold ee at h |-;cases aJ:decide (d.name=nm)with
  |true=>simp only[a4,eM];omega| false=>rw[aJ,aQ]at h;have:=LM ds (i+1) h;simp only[aQ,eM];omega
structure ie(g:cA):Prop where
 n:g.n≠0
 r:∀ d∈g.ds,EZ d.t
 find:∀ d∈g.ds,∀ n∈d.t.ns,n.k=3->0<=ee n.t g.ds 0
 CP:bI g.ds<=1024
 ajp:g.n<=64
def A0(h:e9 aX g=0)(az:∀ d∈g.ds,d.t.ns.length=d.t.n):ie g:=by
 rw[<-aiO]at h;unfold Qu at h;cases U:decide ((g.n:Int)=0)with
 |true=>rw[U]at h;cases h
 |false=>
  rw[U,aQ]at h;cases aa:v7 g.ds with
  |false=>rw[aa]at h;cases h
  |true=>
   rw[aa,r1,aQ]at h;cases af:uS aX g with
   |true=>rw[af]at h;cases h
   |false=>
    rw[af,aQ]at h;cases aN:!(List.range g.ds.length).all (xN g.ds)with
    |true=>rw[aN]at h;cases h
    |false=>
     rw[aN,aQ]at h;cases bq:g.ds.all λd=>d.t.ns.all (HS g.ds)with
     |false=>rw[bq]at h;cases h
     |true=>
      have al:∀ d∈g.ds,right d.t=true:=λd ah=>by have:=hI.1 aa d ah;simp only[normal,ct]at this;exact this.2.1
      refine⟨λe=>by have:=cu U;omega,λd ah=>E0.1 (al d ah),λd ah n az af=>?_,?_,?_⟩;·have:=hI.1 (hI.1 bq d ah) n az;simp only[HS,af,zc,r1,w2,eY]at this;exact this
      ·have e:bI g.ds=CG g:=by unfold bI CG;congr 1;refine xo λd ah=>?_;rw[xH,al d ah,a4];exact az d ah
       unfold uS at af;simp only[n8,ny]at af;omega
      ·unfold uS at af;simp only[n8,ny]at af;omega
def ajq(ay:0<=d.k){n:Nat}(h:fits d n=true):d.k<10/\(d.k=4\/d.k=5->2<=n)/\(6<=d.k->n=1)/\(d.k=6->0<=d.lo/\d.lo<=99/\(d.hi=-1\/(d.lo<=d.hi/\d.hi<=99)))/\(d.k=9->oR d.t=true)/\(d.k=2->d.t.size<=255):=by
 unfold fits at h;cases U:decide (10<=d.k)with
 |true=>rw[U]at h;cases h
 |false=>
  have qn:d.k<10:=by have:=cu U;omega
  rw[U,aQ]at h;cases aa:decide ((n:Int)<sh d.k.toNat)||(decide (0<=mY d.k.toNat)&&decide (mY d.k.toNat<(n:Int)))with
  |true=>rw[aa]at h;cases h
  |false=>
   rw[aa,aQ]at h;simp only[n8,Hl,ny]at aa;refine⟨qn,λae=>?_,λae=>?_,λae=>?_,λae=>?_,λae=>?_⟩
   ·have:sh d.k.toNat=2:=by rcases ae with e | e<;>rw[e]<;>rfl
    omega
   ·have hZ:d.k=6\/d.k=7\/d.k=8\/d.k=9:=by omega
    have aC:sh d.k.toNat=1:=by rcases hZ with e | e | e | e<;>rw[e]<;>rfl
    have aA:mY d.k.toNat=1:=by rcases hZ with e | e | e | e<;>rw[e]<;>rfl
    omega
   ·rw[ae]at h;have bg:((!(decide (d.lo<0)||(decide (99<d.lo)||(decide (d.hi≠-1)&&(decide (d.hi<d.lo)||decide (99<d.hi))))))&&(d.oT&&decide (d.t=⟨#[]⟩)))=true:=h;simp only[ct,pk,n8,Hl,ny,Decidable.not_not]at bg;omega
   ·rw[ae]at h;have bg:(oR d.t&&(d.oT&&(decide (d.lo=0)&&decide (d.hi=0))))=true:=h;simp only[ct]at bg;exact bg.1
   ·rw[ae]at h;have bg:((!(decide (d.t=⟨#[]⟩)||decide (255<d.t.size)))&&(d.oT&&(decide (d.lo=0)&&decide (d.hi=0))))=true:=h;simp only[ct,pk,n8,ny]at bg;omega
def H3:∀ {ns:List bh} {n:bh},n∈ns->n.aS.Sublist (tI ns)
 |d::ns,n,h=>by
  unfold tI;rw[qh];rcases eu.1 h with rfl | h;·exact List.sublist_append_left _ _
  ·exact(H3 h).trans (mU _ _)
def YC(hm:ie g)(e3:∀ d∈g.ds,∀ n∈d.t.ns,0<=n.k){a:pP}(aH:a∈jT g.ds):Lr (fk g s ai) a:=by
 have cg:(fk g s ai).ns.length=bI g.ds:=by simp[fk,jT,wi]
 obtain⟨p,aK,rfl⟩:=eh.1 aH;obtain⟨d,ah,az,ag⟩:=QQ _ _ _ aK;have al:=hm.r d ah;obtain⟨j,an,e⟩:=vR az;have ar:=al.fits j an;rw[e]at ar;obtain⟨f1,f2,f3,f4,-,-⟩:=ajq (e3 d ah _ az) ar;have l0:=al.aS j an;rw[e]at l0;have e4:p.2.aS.length<=j:=E1 j _ (al.diff.sublist (H3 az)) l0;have zC:=hm.CP;by_cases af:p.2.k=3
 ·have sF:jf g.ds p.1 p.2=[(ej 0 g.ds).getD (ee p.2.t g.ds 0).toNat 0]:=by rw[jf,dF af,a4]
  have aL:=hm.find d ah _ az af;have nP:=LM g.ds 0 aL;have gT:(ee p.2.t g.ds 0).toNat<(ej 0 g.ds).length:=by rw[xS];omega
  refine⟨⟨e3 d ah _ az,f1⟩,λx ab=>?_,λh=>?_,λ_=>by simp only[sF];rfl,λh=>?_,by simp only[sF];exact bP rfl⟩;·simp only[sF,jw]at ab;rw[cg,ab,dB,g5 gT,mb];have:=H2 0 g.ds (λd ah=>(hm.r d ah).bR) _ (dr gT);omega
  ·have bg:p.2.k=4\/p.2.k=5:=h;omega
  ·have bg:p.2.k=6:=h;omega
 ·have sF:jf g.ds p.1 p.2=p.2.aS.map λk=>p.1+k.toNat:=by rw[jf,bG af,aQ]
  refine⟨⟨e3 d ah _ az,f1⟩,λx ab=>?_,λh=>?_,λh=>?_,λh=>f4 h,?_⟩;·simp only[sF]at ab;obtain⟨k,ae,rfl⟩:=eh.1 ab;have:=l0 k ae;rw[cg];omega
  ·have:=f2 h;simp only[sF,eW];omega
  ·have bg:p.2.k=3\/6<=p.2.k:=h;have:=f3 (by omega);simp only[sF,eW];exact this
  ·simp only[sF,eW];have:d.t.ns.length<=bI g.ds:=by omega
   omega
def E2(hm:ie g)(e3:∀ d∈g.ds,∀ n∈d.t.ns,0<=n.k)(U:ai<=s.size)(aa:s.size<=4096):iw (fk g s ai):=
 ⟨λa aH=>YC hm e3 aH,U,aa⟩
def eF(g:cA)(rule:Nat):Nat:=(ej 0 g.ds).getD rule 0
def LN(hm:ie g){rule:Nat}(h:rule<g.ds.length)(s:ByteArray)(ai:Nat):eF g rule<(fk g s ai).ns.length:=by
 have aE:rule<(ej 0 g.ds).length:=by rw[xS];exact h
 have e:(fk g s ai).ns.length=bI g.ds:=by simp[fk,jT,wi]
 rw[e,eF,dB,g5 aE,mb];have:=H2 0 g.ds (λd ah=>(hm.r d ah).bR) _ (dr aE);omega
def gU:fJ:=⟨λ_ _=>hC,[],0⟩
def CQ(P:bm):kV P gU:=⟨λf h=>(by cases h),λk p=>⟨bF _,λh=>(by cases h),λ_=>⟨rfl,rfl⟩⟩,trivial⟩
def H4(P:bm):sw P gU:=⟨λk p h=>(by cases h),λf h=>(by cases h),yO⟩
def H5{P:bm}{k a:Nat}(U:k<P.ns.length)(aa:P.aq<=a)(af:a<=P.s.size):l1 P gU (.begin k a):=⟨U,aa,af,λf au e=>(by cases e),rfl⟩
def CR(r a:Nat)(op:List bC):Prop:=∃ f,op.getLast?=some f/\f.aG=r/\f.pl=a
def YD(P:bm)(r a:Nat)(q:nL)(S:fJ):Prop:=(S.op=[]/\q=.begin r a)\/CR r a S.op
def H6(P:bm)(r a:Nat):uX->Prop
 | .stop (.err _)=>True| .stop (.ok c S)=>S.kn r (a-P.aq)=c/\S.op=[]| .more q S=>CR r a S.op
def YE{P:bm}{a:Nat}{c:bo}(h:CR r a S.op):H6 P r a (kT P c S):=by
 obtain⟨f,U,aa,af⟩:=h;unfold kT
 match cX:S.op with
 |[]=>trivial| [x]=>rw[cX]at U;simp only[List.getLast?_singleton,hq]at U;subst U;refine⟨?_,rfl⟩;show hn S.kn x.aG (x.pl-P.aq) c r (a-P.aq)=c;rw[aa,af,nM]| x::y::kY=>rw[cX,Lv]at U;exact⟨f,U,aa,af⟩
def YF{P:bm}{a:Nat}(h:CR r a S.op):H6 P r a (iv P S):=by
 unfold iv;split
 ·trivial
 ·simp only;cases Nat.beq (S.kn (bA P _).1 ((bA P _).2-P.aq)).ao 0 with
  |true=>exact h
  |false=>cases Nat.beq (S.kn (bA P _).1 ((bA P _).2-P.aq)).ao 1 with
   |true=>trivial| false=>exact h
def ajr{P:bm}(cV:iw P)(c2:kV P S){q:nL}(aL:l1 P S q){a:Nat}(h:YD P r a q S):H6 P r a (pQ P q S):=by
 cases q with
 |begin k b=>
  have aE:CR r a (dC P k b S).op:=by
   rcases h with⟨U,aa⟩ | h;·cases aa;exact⟨⟨r,a,0,a,0⟩,by simp[dC,U],rfl,rfl⟩
   ·obtain⟨f,U,aa,af⟩:=h;refine⟨f,?_,aa,af⟩;show(_::S.op).getLast?=_;cases cX:S.op with
    |nil=>rw[cX]at U;cases U| cons x xs=>rw[Lv,<-cX];exact U
  show H6 P r a (tG P k b S);unfold tG;cases ib P k b with
  |some c=>exact YE aE| none=>exact YF aE
 |hand c=>
  obtain⟨f,au,cX,ah,aJ⟩:=aL;have aE:CR r a S.op:=by
   rcases h with⟨U,aa⟩ | h;·cases aa
   ·exact h
  rw[cX]at aE;show H6 P r a (kw P c S);unfold kw;rw[cX];simp only;cases aR:fQ P f c with
  |loop=>trivial
  |on f' c' done=>
   have ax:=(EL cV (c2.op f (by rw[cX];exact .head _)) ah aJ aR).same;have n5:CR r a (f'::au):=by
    obtain⟨x,U,aa,af⟩:=aE;cases au with
    |nil=>simp only[List.getLast?_singleton,hq]at U;subst U;exact⟨f',rfl,by rw[ax.1,aa],by rw[ax.2,af]⟩| cons y kY=>rw[Lv]at U;exact⟨x,by rw[Lv];exact U,aa,af⟩
   cases done with
   |true=>exact YE (S:=⟨S.kn,f'::au,S.aU+1⟩) n5| false=>exact YF (S:=⟨S.kn,f'::au,S.aU+1⟩) n5
def LO{P:bm}(cV:iw P){r a:Nat}:∀ (n:Nat) {q:nL} {S:fJ},kV P S->sw P S->l1 P S q->EO P S q->YD P r a q S->∀ {c:bo} {e5:fJ},ho P n q S=.ok c e5 -> cn c/\kV P e5/\sw P e5/\e5.kn r (a-P.aq)=c/\e5.op=[]
 |0,q,S,_,_,_,_,_,c,e5,h=>by cases h
 |n+1,q,S,U,aa,af,aN,bq,c,e5,h=>by
  have s1:=AX cV U af;have s2:=EQ cV U aa af aN;have eK:=ajr cV U af bq;unfold ho at h;generalize pQ P q S=x at h s1 s2 eK
  match x,h,s1,s2,eK with
  | .stop e,h,s1,s2,eK=>simp only at h;subst h;exact⟨s1.1,s1.2,s2,eK.1,eK.2⟩| .more dP my,h,s1,s2,eK=>exact LO cV n s1.1 s2.1 s1.2 s2.2 (.inr eK) h
def kX.qB{k:Nat}{t a:Nat}{l c8:List (Nat×Nat)}(h:kX kn aq k hi t a l)(bg:kX kn aq k hi t a c8):l=c8:=by
 induction h generalizing c8 with
 |stop U=>
  cases bg with
  |stop=>rfl| fail aa=>exact absurd U aa| more _ aa=>exact absurd U aa
 |fail U aa=>
  cases bg with
  |stop af=>exact absurd af U| fail=>rfl| more _ af aN=>rw[aa]at aN;cases aN
 |more _ U aa r be=>
  cases bg with
  |stop af=>exact absurd af U| fail af aN=>rw[aa]at aN;cases aN| more _ af aN qW=>rw[be qW]
def je.qB{P:bm}{k a:Nat}{l c8:List (Nat×Nat)}(h:je P kn k a l)(bg:je P kn k a c8):l=c8:=by
 unfold je at h bg;by_cases bp:(P.ai k).d.k=6
 ·rw[cF bp]at h bg;exact h.qB bg
 ·rw[b8 bp]at h bg;by_cases bq:(P.ai k).d.k=5
  ·rw[cF bq]at h bg;exact h.2.trans bg.2.symm
  ·rw[b8 bq]at h bg;exact h.2.trans bg.2.symm
def hp.qB{P:bm}{n m:Nat}{l c8:List e'}(h:hp P kn n L l)(bg:hp P kn m L c8):l=c8:=by
 induction h generalizing m c8 with
 |nil=>cases bg;rfl
 |zero af ay r be=>
  cases bg with
  |zero er j4 qW=>exact be qW| node er j4=>exact absurd ay j4
 |node af ay aK r be=>
  cases bg with
  |zero er j4=>exact absurd j4 ay| node er j4 xI qW=>cases aK.qB xI;rw[be qW]
structure o1 where
 ok:Bool
 av:Nat
 mB:List e'
inductive oq where
 |err(e:Int)| ok (o:o1) (aU:Nat)
inductive ot(P:bm)(bR ai fuel:Nat):oq->Prop
 |err{e:Nat}(h:ho P fuel (.begin bR ai) gU=.err e):ot P bR ai fuel (.err (HR e))| fail {c:bo} {S:fJ} (h:ho P fuel (.begin bR ai) gU=.ok c S) (aa:c.ao=2):ot P bR ai fuel (.ok ⟨false,0,[]⟩ S.aU)| many {c:bo} {S:fJ} (h:ho P fuel (.begin bR ai) gU=.ok c S) (af:c.ao=3) (az:65536<c.n):ot P bR ai fuel (.err 40)| zD {c:bo} {S:fJ} (h:ho P fuel (.begin bR ai) gU=.ok c S) (af:c.ao=3) (az:c.n<=65536) (ar:fuel<S.aU+c.n):ot P bR ai fuel (.err 44)| ok {c:bo} {S:fJ} {n:Nat} {l:List e'} (h:ho P fuel (.begin bR ai) gU=.ok c S) (af:c.ao=3) (az:c.n<=65536) (ar:S.aU+c.n<=fuel) (aB:hp P S.kn n [(bR,ai)] l) (aE:l.length=c.n):ot P bR ai fuel (.ok ⟨true,c.av,l⟩ (S.aU+c.n))
def ot.qB{P:bm}{r qW:oq}(h:ot P bR ai fuel r)(bg:ot P bR ai fuel qW):r=qW:=by
 cases h with
 |err U=>
  cases bg with
  |err aa=>rw[U]at aa;cases aa;rfl| _ aa=>rw[U]at aa;cases aa
 |fail U da=>
  cases bg with
  |err aa=>rw[U]at aa;cases aa| fail aa=>rw[U]at aa;cases aa;rfl| _ aa b9=>rw[U]at aa;cases aa;rw[da]at b9;cases b9
 |many U dh j'=>
  cases bg with
  |err aa=>rw[U]at aa;cases aa| fail aa ch=>rw[U]at aa;cases aa;rw[dh]at ch;cases ch| many=>rfl| zD aa b9 E3=>rw[U]at aa;cases aa;omega| ok aa b9 E3=>rw[U]at aa;cases aa;omega
 |zD U dh j' xT=>
  cases bg with
  |err aa=>rw[U]at aa;cases aa| fail aa ch=>rw[U]at aa;cases aa;rw[dh]at ch;cases ch| many aa b9 E3=>rw[U]at aa;cases aa;omega| zD=>rfl| ok aa b9 E3 mC=>rw[U]at aa;cases aa;omega
 |ok U dh j' xT ajs iz=>
  cases bg with
  |err aa=>rw[U]at aa;cases aa| fail aa ch=>rw[U]at aa;cases aa;rw[dh]at ch;cases ch| many aa b9 E3=>rw[U]at aa;cases aa;omega| zD aa b9 E3 mC=>rw[U]at aa;cases aa;omega| ok aa b9 E3 mC ajt hD=>rw[U]at aa;cases aa;rw[ajs.qB ajt]
def aju{P:bm}(cV:iw P)(U:bR<P.ns.length)(aa:P.aq<=ai)(af:ai<=P.s.size){c:bo}(h:ho P fuel (.begin bR ai) gU=.ok c S) :
  cn c/\kV P S/\S.aU<=fuel/\1<=S.aU/\S.kn bR (ai-P.aq)=c/\(c.ao=3->∃ n l,hp P S.kn n [(bR,ai)] l/\(c.n<=65536->l.length=c.n)/\kc ai c.av l):=by
 obtain⟨i1,i2,i3,i4,i5⟩:=LO cV fuel (r:=bR) (a:=ai) (CQ P) (H4 P) (H5 U aa af) trivial (.inl ⟨rfl,rfl⟩) h;obtain⟨gF,gv,-⟩:=go_ok fuel h;refine⟨i1,i2,by show S.aU<=fuel;have:gU.aU=0:=rfl;omega,by have:gU.aU=0:=rfl;omega,i4,λaJ=>?_⟩;obtain⟨n,l,a3,a6,bN⟩:=i3.g bR (ai-P.aq) (by rw[i4];exact aJ);rw[oc aa]at a3 bN;rw[i4]at a6 bN;exact⟨n,l,a3,a6.1,bN⟩
def ajv{P:bm}{o:o1}(h:ot P bR ai fuel (.ok o u)):1<=u/\u<=fuel/\∀ k r,ot P bR ai k r->(u<=k->r=.ok o u)/\(k<u->r=.err 44):=by
 have z:gU.aU=0:=rfl;cases h with
 | @fail c S h aa=>obtain⟨gF,gv,gG⟩:=go_ok fuel h;refine⟨by omega,by omega,λk r al=>⟨λae=>al.qB (.fail ((gG k).1 (by omega)) aa),λae=>al.qB (.err (e:=0) ((gG k).2 (by omega)))⟩⟩
 | @ok c S n l h af az ar aB aE=>
  obtain⟨gF,gv,gG⟩:=go_ok fuel h;refine⟨by omega,by omega,λk r al=>⟨λae=>al.qB (.ok ((gG k).1 (by omega)) af az ae aB aE),λae=>?_⟩⟩;by_cases fI:S.aU<=k;·exact al.qB (.zD ((gG k).1 (by omega)) af az ae)
  ·exact al.qB (.err (e:=0) ((gG k).2 (by omega)))
def fr(a b:Nat):Nat:=min (a+b) 1099511627776
def fV(m:Nat->Nat->bo):List Nat->Nat->Nat->bo
 |[],a,n=>⟨n,a,3⟩| q::L,a,n=>bif Nat.beq (m q a).ao 3 then fV m L (m q a).av (fr n (m q a).n)else⟨0,0,(m q a).ao⟩
def gH(m:Nat->Nat->bo):List Nat->Nat->bo
 |[],_=>hR| q::L,a=>bif Nat.beq (m q a).ao 2 then gH m L a else m q a
def e0(m:Nat->Nat->bo)(q:Nat)(lo hi:Int):Nat->Nat->Nat->Nat->bo
 |0,_,a,n=>bif decide (hi=-1)then hC else⟨n,a,3⟩
 |j+1,i,a,n=>bif Nat.beq (m q a).ao 2 then(bif decide ((i:Int)<lo)then hR else⟨n,a,3⟩)else
   bif Nat.beq (m q a).ao 3 then(bif decide (hi=-1)&&decide ((m q a).av=a)then hC else e0 m q lo hi j (i+1) (m q a).av (fr n (m q a).n))else hC
def m4(P:bm)(d:bh)(a:Nat):Nat:=bif decide (d.hi=-1)then P.s.size+1-a else d.hi.toNat
def ef(P:bm)(m:Nat->Nat->bo)(k a:Nat):bo:=
 let d:=(P.ai k).d
 let q:=(P.ai k).bd.getD 0 0
 bif decide (d.k=0)then⟨0,a,3⟩else
 bif decide (d.k=1)then(match P.s.data[a]? with
  |some b=>bif jS d b.toNat then⟨0,a+1,3⟩else hR| none=>hR)else
 bif decide (d.k=2)then(bif preB P.s d.t a then⟨0,a+d.t.size,3⟩else hR)else
 bif decide (d.k=3)then m q a else
 bif decide (d.k=4)then fV m (P.ai k).bd a 0 else
 bif decide (d.k=5)then gH m (P.ai k).bd a else
 bif decide (d.k=6)then e0 m q d.lo d.hi (m4 P d a) 0 a 0 else
 bif decide (d.k=7)then(bif Nat.beq (m q a).ao 3 then⟨0,a,3⟩else m q a)else
 bif decide (d.k=8)then(bif Nat.beq (m q a).ao 2 then⟨0,a,3⟩else bif Nat.beq (m q a).ao 3 then hR else hC)else
 (bif Nat.beq (m q a).ao 3 then⟨fr (m q a).n 1,(m q a).av,3⟩else m q a)
section
variable{P:bm}{m m':Nat->Nat->bo}{k a lo:Nat}
def xU(h:(P.ai k).d.k=0):ef P m k a=⟨0,a,3⟩:=by simp[ef,h]
def xV(h:(P.ai k).d.k=1):ef P m k a=match P.s.data[a]? with
  |some b=>bif jS (P.ai k).d b.toNat then⟨0,a+1,3⟩else hR| none=>hR:=by simp[ef,h]
def xW(h:(P.ai k).d.k=2):ef P m k a=bif preB P.s (P.ai k).d.t a then⟨0,a+(P.ai k).d.t.size,3⟩else hR:=by simp[ef,h]
def wj(h:(P.ai k).d.k=3):ef P m k a=m ((P.ai k).bd.getD 0 0) a:=by simp[ef,h]
def xX(h:(P.ai k).d.k=4):ef P m k a=fV m (P.ai k).bd a 0:=by simp[ef,h]
def xY(h:(P.ai k).d.k=5):ef P m k a=gH m (P.ai k).bd a:=by simp[ef,h]
def tJ(h:(P.ai k).d.k=6):ef P m k a=e0 m ((P.ai k).bd.getD 0 0) (P.ai k).d.lo (P.ai k).d.hi (m4 P (P.ai k).d a) 0 a 0:=by simp[ef,h]
def wk(h:(P.ai k).d.k=7):ef P m k a=bif Nat.beq (m ((P.ai k).bd.getD 0 0) a).ao 3 then⟨0,a,3⟩else m ((P.ai k).bd.getD 0 0) a:=by simp[ef,h]
def wm(h:(P.ai k).d.k=8):ef P m k a=bif Nat.beq (m ((P.ai k).bd.getD 0 0) a).ao 2 then⟨0,a,3⟩else bif Nat.beq (m ((P.ai k).bd.getD 0 0) a).ao 3 then hR else hC:=by simp[ef,h]
def wo(ay:(P.ai k).d.k≠0)(U:(P.ai k).d.k≠1)(aa:(P.ai k).d.k≠2)(af:(P.ai k).d.k≠3)(aN:(P.ai k).d.k≠4)(bq:(P.ai k).d.k≠5)(bp:(P.ai k).d.k≠6)(ec:(P.ai k).d.k≠7)(eX:(P.ai k).d.k≠8) : ef P m k a=bif Nat.beq (m ((P.ai k).bd.getD 0 0) a).ao 3 then⟨fr (m ((P.ai k).bd.getD 0 0) a).n 1,(m ((P.ai k).bd.getD 0 0) a).av,3⟩else m ((P.ai k).bd.getD 0 0) a:=by simp[ef,ay,U,aa,af,aN,bq,bp,ec,eX]
def CS(d:Int):d=0\/d=1\/d=2\/d=3\/d=4\/d=5\/d=6\/d=7\/d=8\/(d≠0/\d≠1/\d≠2/\d≠3/\d≠4/\d≠5/\d≠6/\d≠7/\d≠8):=by omega
def o2(lo:Nat)(m m':Nat->Nat->bo):Prop:=∀ q b,lo<=b->cn (m q b)->m' q b=m q b
def A1(m:Nat->Nat->bo):Prop:=∀ q b,(m q b).ao=3->b<=(m q b).av
def o2.trans{YG:Nat->Nat->bo}(h:o2 lo m m')(bg:o2 lo m' YG):o2 lo m YG:=λq b ag ah=>by have e:=h q b ag ah;rw[bg q b ag (by rw[e];exact ah),e]
def pR{c:bo}(h:Nat.beq c.ao 3=true):cn c:=.inr (cj h)
def xZ{c:bo}(h:Nat.beq c.ao 2=true):cn c:=.inl (cj h)
def ou:¬ cn hC:=λh=>by rcases h with h | h<;>cases h
def QR(h:o2 lo m m')(aB:A1 m):∀ (L:List Nat) (a n:Nat),lo<=a->cn (fV m L a n)->fV m' L a n=fV m L a n
 |[],a,n,_,_=>rfl
 |q::L,a,n,aH,ah=>by
  cases af:Nat.beq (m q a).ao 3 with
  |true=>have e:=h q a aH (pR af);simp only[fV,e,af,a4]at ah |-;exact QR h aB L _ _ (iU aH (aB q a (cj af))) ah| false=>simp only[fV,af,aQ]at ah;have e:=h q a aH ah;simp only[fV,e,af,aQ]
def QS(h:o2 lo m m'):∀ (L:List Nat) (a:Nat),lo<=a->cn (gH m L a)->gH m' L a=gH m L a
 |[],a,_,_=>rfl
 |q::L,a,aH,ah=>by
  cases aa:Nat.beq (m q a).ao 2 with
  |true=>have e:=h q a aH (xZ aa);simp only[gH,e,aa,a4]at ah |-;exact QS h L a aH ah| false=>simp only[gH,aa,aQ]at ah;have e:=h q a aH ah;simp only[gH,e,aa,aQ]
def QT(h:o2 lo m m')(aB:A1 m){q:Nat}{l u:Int}:∀ (j i a n:Nat),lo<=a->cn (e0 m q l u j i a n)->e0 m' q l u j i a n=e0 m q l u j i a n
 |0,i,a,n,_,_=>rfl
 |j+1,i,a,n,aH,ah=>by
  cases aa:Nat.beq (m q a).ao 2 with
  |true=>have e:=h q a aH (xZ aa);simp only[e0,e,aa,a4]
  |false=>
   cases af:Nat.beq (m q a).ao 3 with
   |true=>
    have e:=h q a aH (pR af);simp only[e0,e,aa,af,a4,aQ]at ah |-;cases hu:decide (u=-1)&&decide ((m q a).av=a)with
    |true=>rfl| false=>rw[hu,aQ]at ah;exact QT h aB j _ _ _ (iU aH (aB q a (cj af))) ah
   |false=>simp only[e0,aa,af,aQ]at ah;exact absurd ah ou
def H7(h:o2 lo m m')(aB:A1 m)(aH:lo<=a)(ah:cn (ef P m k a)):ef P m' k a=ef P m k a:=by
 have one:∀ q:Nat,cn (m q a)->m' q a=m q a:=λq aL=>h q a aH aL;rcases CS (P.ai k).d.k with e | e | e | e | e | e | e | e | e | ⟨b',aC,aA,bx,cU,e8,gg,m5,qC⟩
 ·rw[xU e,xU e]
 ·rw[xV e,xV e]
 ·rw[xW e,xW e]
 ·rw[wj e]at ah |-;rw[wj e];exact one _ ah
 ·rw[xX e]at ah |-;rw[xX e];exact QR h aB _ _ _ aH ah
 ·rw[xY e]at ah |-;rw[xY e];exact QS h _ _ aH ah
 ·rw[tJ e]at ah |-;rw[tJ e];exact QT h aB _ _ _ _ aH ah
 ·rw[wk e]at ah |-;rw[wk e];generalize(P.ai k).bd.getD 0 0=q at ah |-;cases af:Nat.beq (m q a).ao 3 with
  |true=>rw[one q (pR af),af]| false=>rw[af,aQ]at ah;rw[one q ah,af]
 ·rw[wm e]at ah |-;rw[wm e];generalize(P.ai k).bd.getD 0 0=q at ah |-;cases aa:Nat.beq (m q a).ao 2 with
  |true=>rw[one q (xZ aa),aa]
  |false=>
   cases af:Nat.beq (m q a).ao 3 with
   |true=>rw[one q (pR af),aa,af]| false=>rw[aa,af]at ah;exact absurd ah ou
 ·rw[wo b' aC aA bx cU e8 gg m5 qC]at ah |-;rw[wo b' aC aA bx cU e8 gg m5 qC];generalize(P.ai k).bd.getD 0 0=q at ah |-;cases af:Nat.beq (m q a).ao 3 with
  |true=>rw[one q (pR af),af]| false=>rw[af,aQ]at ah;rw[one q ah,af]
end
def jC(z a:Nat)(c:bo):Prop:=c=hC\/c=hR\/(c.ao=3/\a<=c.av/\(a<=z->c.av<=z)/\c.n<=1099511627776)
def jC.m{a av n:Nat}(U:a<=av)(aa:a<=z->av<=z)(af:n<=1099511627776):jC z a ⟨n,av,3⟩:=.inr (.inr ⟨rfl,U,aa,af⟩)
def jC.ge{a:Nat}{c:bo}(h:jC z a c)(af:c.ao=3):a<=c.av/\(a<=z->c.av<=z)/\c.n<=1099511627776:=by
 rcases h with rfl | rfl | h
 ·cases af
 ·cases af
 ·exact h.2
def jC.ao{a:Nat}{c:bo}(h:jC z a c):c.ao=0\/c.ao=2\/c.ao=3:=by
 rcases h with rfl | rfl | h
 ·exact .inl rfl
 ·exact .inr (.inl rfl)
 ·exact .inr (.inr h.1)
def jC.two{a:Nat}{c:bo}(h:jC z a c)(aa:c.ao=2):c=hR:=by
 rcases h with rfl | rfl | h
 ·cases aa
 ·rfl
 ·rw[h.1]at aa;cases aa
def jC.zero{z a:Nat}{c:bo}(h:jC z a c)(aa:¬ cn c):c=hC:=by
 rcases h with rfl | rfl | h
 ·rfl
 ·exact absurd (.inl rfl) aa
 ·exact absurd (.inr h.1) aa
def jC.ajw{a:Nat}{c:bo}(h:jC z a c)(af:Nat.beq c.ao 3=false):(⟨0,0,c.ao⟩:bo)=c:=by
 rcases h with rfl | rfl | h
 ·rfl
 ·rfl
 ·rw[h.1]at af;cases af
def jC.Cd{a b:Nat}{c:bo}(h:jC z b c)(jo:a<=b)(bk:a<=z->b<=z):jC z a c:=by
 rcases h with h | h | ⟨U,aa,af,aN⟩
 ·exact .inl h
 ·exact .inr (.inl h)
 ·exact .inr (.inr ⟨U,by omega,λh=>af (bk h),aN⟩)
def u3(a b:Nat):fr a b<=1099511627776:=AL _ _
section
variable{z:Nat}{m:Nat->Nat->bo}(hm:∀ q b,jC z b (m q b))
include hm
def YH:∀ (L:List Nat) (a n:Nat),n<=1099511627776->jC z a (fV m L a n)
 |[],a,n,az=>.m (b2 _) id az
 |q::L,a,n,az=>by
  cases af:Nat.beq (m q a).ao 3 with
  |true=>simp only[fV,af,a4];obtain⟨a3,a6,bN⟩:=(hm q a).ge (cj af);exact(YH L _ _ (u3 _ _)).Cd a3 a6
  |false=>simp only[fV,af,aQ];rw[(hm q a).ajw af];exact hm q a
def YI:∀ (L:List Nat) (a:Nat),jC z a (gH m L a)
 |[],a=>.inr (.inl rfl)
 |q::L,a=>by
  cases aa:Nat.beq (m q a).ao 2 with
  |true=>simp only[gH,aa,a4];exact YI L a| false=>simp only[gH,aa,aQ];exact hm q a
def YJ{q:Nat}{l u:Int}:∀ (j i a n:Nat),n<=1099511627776->jC z a (e0 m q l u j i a n)
 |0,i,a,n,az=>by
  unfold e0;cases decide (u=-1);·exact .m (b2 _) id az
  ·exact .inl rfl
 |j+1,i,a,n,az=>by
  cases aa:Nat.beq (m q a).ao 2 with
  |true=>
   simp only[e0,aa,a4];cases decide ((i:Int)<l);·exact .m (b2 _) id az
   ·exact .inr (.inl rfl)
  |false=>
   cases af:Nat.beq (m q a).ao 3 with
   |true=>
    simp only[e0,aa,af,a4,aQ];obtain⟨a3,a6,bN⟩:=(hm q a).ge (cj af);cases decide (u=-1)&&decide ((m q a).av=a)with
    |true=>exact .inl rfl| false=>exact(YJ j _ _ _ (u3 _ _)).Cd a3 a6
   |false=>simp only[e0,aa,af,aQ];exact .inl rfl
def QU{P:bm}(bk:P.s.size=z)(k a:Nat):jC z a (ef P m k a):=by
 rcases CS (P.ai k).d.k with e | e | e | e | e | e | e | e | e | ⟨b',aC,aA,bx,cU,e8,gg,m5,qC⟩
 ·rw[xU e];exact .m (b2 _) id (by omega)
 ·rw[xV e];cases ag:P.s.data[a]? with
  |none=>exact .inr (.inl rfl)
  |some b=>
   have a0:a<P.s.data.size:=(ma.1 ag).1;have:P.s.data.size=P.s.size:=rfl;simp only;cases jS (P.ai k).d b.toNat;·exact .inr (.inl rfl)
   ·exact .m (by omega) (by omega) (by omega)
 ·rw[xW e];cases aK:preB P.s (P.ai k).d.t a with
  |false=>exact .inr (.inl rfl)| true=>simp only[preB,ct,eY]at aK;exact .m (by omega) (by omega) (by omega)
 ·rw[wj e];exact hm _ a
 ·rw[xX e];exact YH hm _ _ _ (by omega)
 ·rw[xY e];exact YI hm _ _
 ·rw[tJ e];exact YJ hm _ _ _ _ (by omega)
 ·rw[wk e];cases Nat.beq (m ((P.ai k).bd.getD 0 0) a).ao 3
  ·exact hm _ a
  ·exact .m (b2 _) id (by omega)
 ·rw[wm e];cases Nat.beq (m ((P.ai k).bd.getD 0 0) a).ao 2 with
  |true=>exact .m (b2 _) id (by omega)
  |false=>
   cases Nat.beq (m ((P.ai k).bd.getD 0 0) a).ao 3;·exact .inl rfl
   ·exact .inr (.inl rfl)
 ·rw[wo b' aC aA bx cU e8 gg m5 qC];cases af:Nat.beq (m ((P.ai k).bd.getD 0 0) a).ao 3 with
  |false=>exact hm _ a| true=>obtain⟨a3,a6,bN⟩:=(hm _ a).ge (cj af);exact .m a3 a6 (u3 _ _)
end
def fa(P:bm):Nat->Nat->Nat->bo
 |0,_,_=>hC| n+1,k,a=>ef P (fa P n) k a
def LP(P:bm):∀ (n k a:Nat),jC P.s.size a (fa P n k a)
 |0,_,_=>.inl rfl| n+1,k,a=>QU (LP P n) rfl k a
def E4(P:bm)(n:Nat):A1 (fa P n):=λq b af=>((LP P n q b).ge af).1
def QV(P:bm):∀ n,o2 0 (fa P n) (fa P (n+1))
 |0=>λq b _ ah=>absurd ah ou
 |n+1=>λq b ag ah=>H7 (QV P n) (E4 P n) ag ah
def E5(P:bm){n:Nat}(h:n<=fK):o2 0 (fa P n) (fa P fK):=by
 induction h with
 |refl=>exact λ_ _ _ _=>rfl
 |step _ be=>exact be.trans (QV P _)
open Classical in
noncomputable def bs(P:bm)(k a:Nat):bo:=if h:∃ n,cn (fa P n k a)then fa P h.choose k a else hC
def CT{P:bm}{n k a:Nat}(h:cn (fa P n k a)):bs P k a=fa P n k a:=by have ab:∃ n,cn (fa P n k a):=⟨n,h⟩;unfold bs;rw[dif_pos ab];have aJ:=ab.choose_spec;have aC:=E5 P (Ly n ab.choose) k a (bF _) h;have aA:=E5 P (Lx n ab.choose) k a (bF _) aJ;rw[<-aC,<-aA]
def qD{P:bm}{k a:Nat}(h:cn (bs P k a)):∃ n,fa P n k a=bs P k a:=by
 by_cases ab:∃ n,cn (fa P n k a)
 ·obtain⟨n,az⟩:=ab;exact⟨n,(CT az).symm⟩
 ·unfold bs at h;rw[dif_neg ab]at h;exact absurd h ou
def YK(P:bm)(n:Nat):o2 0 (fa P n) (bs P):=λ_ _ _ ah=>CT ah
def sG(P:bm)(k a:Nat):jC P.s.size a (bs P k a):=by
 by_cases ah:cn (bs P k a)
 ·obtain⟨n,az⟩:=qD ah;rw[<-az];exact LP P n k a
 ·by_cases ab:∃ n,cn (fa P n k a)
  ·obtain⟨n,az⟩:=ab;rw[CT az]at ah;exact absurd az ah
  ·unfold bs;rw[dif_neg ab];exact .inl rfl
section
variable{P:bm}
def QW{n q b:Nat}(h:n<=fK)(e:fa P n q b=bs P q b)(ah:cn (bs P q b)):fa P fK q b=bs P q b:=by rw[<-e]at ah |-;exact E5 P h q b (bF _) ah
def YL:∀ (L:List Nat) (a n:Nat),cn (fV (bs P) L a n)->∃ N,fV (fa P N) L a n=fV (bs P) L a n
 |[],a,n,_=>⟨0,rfl⟩
 |q::L,a,n,ah=>by
  cases af:Nat.beq (bs P q a).ao 3 with
  |true=>obtain⟨gZ,aC⟩:=qD (pR af);simp only[fV,af,a4]at ah |-;obtain⟨hQ,aA⟩:=YL L _ _ ah;refine⟨max gZ hQ,?_⟩;simp only[QW (Ly gZ hQ) aC (pR af),af,a4];rw[<-aA]at ah |-;exact QR (E5 P (Lx gZ hQ)) (E4 P hQ) _ _ _ (bF _) ah
  |false=>simp only[fV,af,aQ]at ah |-;obtain⟨gZ,aC⟩:=qD ah;exact⟨gZ,by simp only[aC,af,aQ]⟩
def YM:∀ (L:List Nat) (a:Nat),cn (gH (bs P) L a)->∃ N,gH (fa P N) L a=gH (bs P) L a
 |[],a,_=>⟨0,rfl⟩
 |q::L,a,ah=>by
  cases aa:Nat.beq (bs P q a).ao 2 with
  |true=>obtain⟨gZ,aC⟩:=qD (xZ aa);simp only[gH,aa,a4]at ah |-;obtain⟨hQ,aA⟩:=YM L _ ah;refine⟨max gZ hQ,?_⟩;simp only[QW (Ly gZ hQ) aC (xZ aa),aa,a4];rw[<-aA]at ah |-;exact QS (E5 P (Lx gZ hQ)) _ _ (bF _) ah
  |false=>simp only[gH,aa,aQ]at ah |-;obtain⟨gZ,aC⟩:=qD ah;exact⟨gZ,by simp only[aC,aa,aQ]⟩
def YN{q:Nat}{l u:Int}:∀ (j i a n:Nat),cn (e0 (bs P) q l u j i a n)->∃ N,e0 (fa P N) q l u j i a n=e0 (bs P) q l u j i a n
 |0,i,a,n,_=>⟨0,rfl⟩
 |j+1,i,a,n,ah=>by
  cases aa:Nat.beq (bs P q a).ao 2 with
  |true=>obtain⟨gZ,aC⟩:=qD (xZ aa);exact⟨gZ,by simp only[e0,aC,aa,a4]⟩
  |false=>
   cases af:Nat.beq (bs P q a).ao 3 with
   |true=>
    obtain⟨gZ,aC⟩:=qD (pR af);simp only[e0,aa,af,a4,aQ]at ah |-;cases hu:decide (u=-1)&&decide ((bs P q a).av=a)with
    |true=>rw[hu]at ah;exact absurd ah ou| false=>rw[hu,aQ]at ah;obtain⟨hQ,aA⟩:=YN j _ _ _ ah;refine⟨max gZ hQ,?_⟩;simp only[QW (Ly gZ hQ) aC (pR af),aa,af,hu,a4,aQ];rw[<-aA]at ah |-;exact QT (E5 P (Lx gZ hQ)) (E4 P hQ) _ _ _ _ (bF _) ah
   |false=>simp only[e0,aa,af,aQ]at ah;exact absurd ah ou
def ajx{k a:Nat}(ah:cn (ef P (bs P) k a)):∃ N,ef P (fa P N) k a=ef P (bs P) k a:=by
 rcases CS (P.ai k).d.k with e | e | e | e | e | e | e | e | e | ⟨b',aC,aA,bx,cU,e8,gg,m5,qC⟩
 ·exact⟨0,by rw[xU e,xU e]⟩
 ·exact⟨0,by rw[xV e,xV e]⟩
 ·exact⟨0,by rw[xW e,xW e]⟩
 ·rw[wj e]at ah |-;obtain⟨n,az⟩:=qD ah;exact⟨n,by rw[wj e,az]⟩
 ·rw[xX e]at ah |-;obtain⟨n,az⟩:=YL _ _ _ ah;exact⟨n,by rw[xX e,az]⟩
 ·rw[xY e]at ah |-;obtain⟨n,az⟩:=YM _ _ ah;exact⟨n,by rw[xY e,az]⟩
 ·rw[tJ e]at ah |-;obtain⟨n,az⟩:=YN _ _ _ _ ah;exact⟨n,by rw[tJ e,az]⟩
 ·rw[wk e]at ah |-;have U:cn (bs P ((P.ai k).bd.getD 0 0) a):=by
   cases af:Nat.beq (bs P ((P.ai k).bd.getD 0 0) a).ao 3 with
   |true=>exact pR af| false=>rwa [af,aQ]at ah
  obtain⟨n,az⟩:=qD U;exact⟨n,by rw[wk e,az]⟩
 ·rw[wm e]at ah |-;have U:cn (bs P ((P.ai k).bd.getD 0 0) a):=by
   cases aa:Nat.beq (bs P ((P.ai k).bd.getD 0 0) a).ao 2 with
   |true=>exact xZ aa
   |false=>
    cases af:Nat.beq (bs P ((P.ai k).bd.getD 0 0) a).ao 3 with
    |true=>exact pR af| false=>rw[aa,af]at ah;exact absurd ah ou
  obtain⟨n,az⟩:=qD U;exact⟨n,by rw[wm e,az]⟩
 ·rw[wo b' aC aA bx cU e8 gg m5 qC]at ah |-;have U:cn (bs P ((P.ai k).bd.getD 0 0) a):=by
   cases af:Nat.beq (bs P ((P.ai k).bd.getD 0 0) a).ao 3 with
   |true=>exact pR af| false=>rwa [af,aQ]at ah
  obtain⟨n,az⟩:=qD U;exact⟨n,by rw[wo b' aC aA bx cU e8 gg m5 qC,az]⟩
def QX{k a:Nat}(ah:cn (ef P (bs P) k a)):bs P k a=ef P (bs P) k a:=by
 obtain⟨N,e⟩:=ajx ah;have:cn (fa P (N+1) k a):=by show cn (ef P (fa P N) k a);rw[e];exact ah
 rw[CT this];exact e
def ajy{k a:Nat}(ah:cn (bs P k a)):ef P (bs P) k a=bs P k a:=by
 obtain⟨n,az⟩:=qD ah;cases n with
 |zero=>rw[<-az]at ah;exact absurd ah ou| succ n=>rw[<-az]at ah |-;exact H7 (YK P n) (E4 P n) (bF _) ah
def LQ{k a:Nat}:ef P (bs P) k a=bs P k a:=by
 by_cases ah:cn (bs P k a)
 ·exact ajy ah
 ·by_cases iD:cn (ef P (bs P) k a)
  ·exact(QX iD).symm
  ·rw[(sG P k a).zero ah,(QU (sG P) rfl k a).zero iD]
def ajz{m:Nat->Nat->bo}{lo:Nat}(h:∀ k a,lo<=a->cn (ef P m k a)->m k a=ef P m k a):o2 lo (bs P) m:=by
 have step:∀ n,o2 lo (fa P n) m:=λn=>by
  induction n with
  |zero=>exact λ_ _ _ ah=>absurd ah ou
  |succ n be=>
   intro k a aH ah;have e:=H7 be (E4 P n) aH ah;have iD:cn (ef P m k a):=by rw[e];exact ah
   rw[h k a aH iD,e];rfl
 intro k a aH ah;obtain⟨n,az⟩:=qD ah;rw[<-az]at ah |-;exact step n k a aH ah
end
structure cP where
 n:Nat
 av:Nat
 ao:Nat
 bu:Nat
def kx:cP:=⟨0,0,0,0⟩
def pS(av:Nat):cP:=⟨0,av,2,0⟩
def x0:cP:=⟨0,0,1,0⟩
def cP.ce(c:cP):bo:=bif Nat.beq c.ao 2 then⟨c.n,c.av,3⟩else bif Nat.beq c.ao 1 then hR else hC
def ru(T:Nat->Nat->cP):List Nat->Nat->Nat->cP
 |[],a,n=>⟨n,a,2,0⟩| q::L,a,n=>bif Nat.beq (T q a).ao 2 then ru T L (T q a).av (fr n (T q a).n)else⟨0,0,(T q a).ao,0⟩
def ry(T:Nat->Nat->cP):List Nat->Nat->cP
 |[],_=>x0| q::L,a=>bif Nat.beq (T q a).ao 1 then ry T L a else T q a
def qE(T:Nat->Nat->cP)(q:Nat)(lo:Int):Nat->Nat->Nat->Nat->cP
 |0,_,a,n=>⟨n,a,2,0⟩
 |j+1,i,a,n=>bif Nat.beq (T q a).ao 0||(Nat.beq (T q a).ao 1&&decide ((i:Int)<lo))then⟨0,0,(T q a).ao,0⟩else
   bif Nat.beq (T q a).ao 1 then⟨n,a,2,0⟩else qE T q lo j (i+1) (T q a).av (fr n (T q a).n)
def o3(lo:Int)(c:cP):cP:=bif decide ((c.bu:Int)<lo)then { c with ao:=1 }else c
def zE(T:Nat->Nat->cP)(k q:Nat)(lo:Int)(a:Nat):cP:=
 bif Nat.beq (T q a).ao 0||(Nat.beq (T q a).ao 2&&Nat.beq (T q a).av a)then kx else
 bif Nat.beq (T q a).ao 2 then(bif Nat.beq (T k (T q a).av).ao 0 then kx else o3 lo ⟨fr (T q a).n (T k (T q a).av).n,(T k (T q a).av).av,2,min ((T k (T q a).av).bu+1) 99⟩)else o3 lo (pS a)
def eG(P:bm)(T:Nat->Nat->cP)(k a:Nat):cP:=
 let d:=(P.ai k).d
 let q:=(P.ai k).bd.getD 0 0
 bif decide (d.k=0)then pS a else
 bif decide (d.k=1)then(match P.s.data[a]? with
  |some b=>bif jS d b.toNat then pS (a+1)else x0| none=>x0)else
 bif decide (d.k=2)then(bif preB P.s d.t a then pS (a+d.t.size)else x0)else
 bif decide (d.k=3)then T q a else
 bif decide (d.k=4)then ru T (P.ai k).bd a 0 else
 bif decide (d.k=5)then ry T (P.ai k).bd a else
 bif decide (d.k=6)then(bif decide (d.hi=-1)then zE T k q d.lo a else qE T q d.lo d.hi.toNat 0 a 0)else
 bif decide (d.k=7)then(bif Nat.beq (T q a).ao 2 then pS a else⟨0,0,(T q a).ao,0⟩)else
 bif decide (d.k=8)then(bif Nat.beq (T q a).ao 1 then pS a else bif Nat.beq (T q a).ao 2 then x0 else kx)else
 (bif Nat.beq (T q a).ao 2 then { T q a with n:=fr (T q a).n 1 }else T q a)
def iA(T:Nat->Nat->cP):Nat->Nat->bo:=λk a=>(T k a).ce
def sH{c:cP}(h:c.ao<=2):(c.ao=0/\c.ce=hC)\/(c.ao=1/\c.ce=hR)\/(c.ao=2/\c.ce=⟨c.n,c.av,3⟩):=by
 have:c.ao=0\/c.ao=1\/c.ao=2:=by omega
 rcases this with e | e | e
 ·exact .inl ⟨e,by simp only[cP.ce,e];rfl⟩
 ·exact .inr (.inl ⟨e,by simp only[cP.ce,e];rfl⟩)
 ·exact .inr (.inr ⟨e,by simp only[cP.ce,e];rfl⟩)
def CU{c:cP}(h:c.ao<=2):cn c.ce ↔ c.ao≠0:=by
 rcases sH h with⟨e,a'⟩ | ⟨e,a'⟩ | ⟨e,a'⟩<;>rw[a']<;>simp[cn,hC,hR,e]
section
variable{T:Nat->Nat->cP}(bO:∀ k a,(T k a).ao<=2)
include bO
def YO:∀ (L:List Nat) (a n:Nat),(ru T L a n).ce=fV (iA T) L a n
 |[],a,n=>rfl
 |q::L,a,n=>by
  rcases sH (bO q a)with⟨e,a'⟩ | ⟨e,a'⟩ | ⟨e,a'⟩;·simp only[ru,fV,iA,e,a'];rfl
  ·simp only[ru,fV,iA,e,a'];rfl
  ·have be:=YO L (T q a).av (fr n (T q a).n);simp only[ru,fV,iA,e,a']at be |-;exact be
def YP:∀ (L:List Nat) (a:Nat),(ry T L a).ce=gH (iA T) L a
 |[],a=>rfl
 |q::L,a=>by
  rcases sH (bO q a)with⟨e,a'⟩ | ⟨e,a'⟩ | ⟨e,a'⟩;·simp only[ry,gH,iA,e,a'];exact a'
  ·have be:=YP L a;simp only[ry,gH,iA,e,a']at be |-;exact be
  ·simp only[ry,gH,iA,e,a'];exact a'
def YQ{q:Nat}{lo hi:Int}(aR:hi≠-1):∀ (j i a n:Nat),(qE T q lo j i a n).ce=e0 (iA T) q lo hi j i a n
 |0,i,a,n=>by simp only[qE,e0,bG aR,aQ];rfl
 |j+1,i,a,n=>by
  rcases sH (bO q a)with⟨e,a'⟩ | ⟨e,a'⟩ | ⟨e,a'⟩;·simp only[qE,e0,iA,e,a'];rfl
  ·simp only[qE,e0,iA,e,a'];cases decide ((i:Int)<lo)<;>rfl
  ·have be:=YQ (q:=q) (lo:=lo) aR j (i+1) (T q a).av (fr n (T q a).n);simp only[qE,e0,iA,e,a',bG aR]at be |-;exact be
def YR{P:bm}{k a:Nat}(h:(P.ai k).d.k=6->(P.ai k).d.hi≠-1):(eG P T k a).ce=ef P (iA T) k a:=by
 rcases CS (P.ai k).d.k with e | e | e | e | e | e | e | e | e | ⟨b',aC,aA,bx,cU,e8,gg,m5,qC⟩
 ·rw[xU e];simp only[eG,e];rfl
 ·rw[xV e];simp only[eG,e];cases ag:P.s.data[a]? with
  |none=>rfl
  |some b=>
   simp only;cases jS (P.ai k).d b.toNat<;>rfl
 ·rw[xW e];simp only[eG,e];cases preB P.s (P.ai k).d.t a<;>rfl
 ·rw[wj e];simp[eG,e,iA]
 ·rw[xX e,<-YO bO];simp[eG,e]
 ·rw[xY e,<-YP bO];simp[eG,e]
 ·have aR:=h e;rw[tJ e,<-YQ bO aR];simp[eG,e,aR,m4]
 ·rw[wk e];generalize aL:(P.ai k).bd.getD 0 0=q;rcases sH (bO q a)with⟨g,eD⟩ | ⟨g,eD⟩ | ⟨g,eD⟩
  ·simp only[eG,e,aL,g,iA,eD];rfl
  ·simp only[eG,e,aL,g,iA,eD];rfl
  ·simp only[eG,e,aL,g,iA,eD];rfl
 ·rw[wm e];generalize aL:(P.ai k).bd.getD 0 0=q;rcases sH (bO q a)with⟨g,eD⟩ | ⟨g,eD⟩ | ⟨g,eD⟩
  ·simp only[eG,e,aL,g,iA,eD];rfl
  ·simp only[eG,e,aL,g,iA,eD];rfl
  ·simp only[eG,e,aL,g,iA,eD];rfl
 ·rw[wo b' aC aA bx cU e8 gg m5 qC];generalize aL:(P.ai k).bd.getD 0 0=q;have aD:eG P T k a=bif Nat.beq (T q a).ao 2 then { T q a with n:=fr (T q a).n 1 }else T q a:=by simp only[eG,aL,bG b',bG aC,bG aA,bG bx,bG cU,bG e8,bG gg,bG m5,bG qC,aQ]
  rw[aD];rcases sH (bO q a)with⟨g,eD⟩ | ⟨g,eD⟩ | ⟨g,eD⟩;·simp only[g,iA,eD];exact eD
  ·simp only[g,iA,eD];exact eD
  ·simp only[g,iA,eD];simp[cP.ce,g]
end
inductive ov(m:Nat->Nat->bo)(q:Nat):Nat->Nat->Nat->Nat->Prop
 |stop{a}(h:(m q a).ao=2):ov m q a 0 a 0| more {a t av n} (h:(m q a).ao=3) (az:(m q a).av≠a) (r:ov m q (m q a).av t av n):ov m q a (t+1) av (fr (m q a).n n)
def ajA(a b c:Nat):fr a (fr b c)=fr (fr a b) c:=by unfold fr;omega
def ov.mono{m m':Nat->Nat->bo}{q a t av n lo:Nat}(h:o2 lo m m')(aB:A1 m)(aJ:ov m q a t av n)(aH:lo<=a):ov m' q a t av n:=by
 induction aJ with
 |stop U=>exact .stop (by rw[h q _ aH (.inl U)];exact U)| @more a t av n U az r be=>have e:=h q a aH (.inr U);have:=ov.more (m:=m') (q:=q) (a:=a) (by rw[e];exact U) (by rw[e];exact az) (by rw[e];exact be (iU aH (aB q a U)));rwa [e]at this
def ov.len{m:Nat->Nat->bo}{q a t av n:Nat}(hm:∀ q b,jC z b (m q b))(aJ:ov m q a t av n):a+t<=av/\(a<=z->av<=z)/\n<=1099511627776:=by
 induction aJ with
 |stop U=>exact⟨b2 _,id,bF _⟩| @more a t av n U az r be=>obtain⟨a3,a6,bN⟩:=(hm q a).ge U;obtain⟨i1,i2,i3⟩:=be;exact⟨by omega,λh=>i2 (a6 h),u3 _ _⟩
def ajB{m:Nat->Nat->bo}{q:Nat}{a t av c:Nat}(aJ:ov m q a t av c):∀ (j i n:Nat),t<j->n<=1099511627776 ->
  e0 m q lo (-1) j i a n=bif decide (((i+t:Nat):Int)<lo)then hR else⟨fr n c,av,3⟩:=by
 induction aJ with
 | @stop a U=>
  intro j i n an az;obtain⟨j,rfl⟩:∃ x,j=x+1:=⟨j-1,by omega⟩;have e:fr n 0=n:=by unfold fr;omega
  simp only[e0,U,e];rfl
 | @more a t av c U bM r be=>intro j i n an az;obtain⟨j,rfl⟩:∃ x,j=x+1:=⟨j-1,by omega⟩;have aa:=be j (i+1) (fr n (m q a).n) (by omega) (u3 _ _);simp only[e0,U,bG bM];rw[show Nat.beq 3 2=false from rfl,aQ,show Nat.beq 3 3=true from rfl,a4,HN,aQ,aa,<-ajA];rw[show i+1+t=i+(t+1) by omega]
def YS{m:Nat->Nat->bo}{q:Nat}{lo:Int}:∀ (j i a n:Nat),cn (e0 m q lo (-1) j i a n)->∃ t av c,ov m q a t av c/\t<j
 |0,i,a,n,ah=>absurd ah ou
 |j+1,i,a,n,ah=>by
  cases aa:Nat.beq (m q a).ao 2 with
  |true=>exact⟨0,a,0,.stop (cj aa),by omega⟩
  |false=>
   cases af:Nat.beq (m q a).ao 3 with
   |false=>simp only[e0,aa,af,aQ]at ah;exact absurd ah ou
   |true=>
    simp only[e0,aa,af,aQ,a4]at ah;cases he:decide ((m q a).av=a)with
    |true=>rw[he]at ah;exact absurd ah ou| false=>rw[he]at ah;obtain⟨t,av,c,h,a0⟩:=YS j _ _ _ ah;exact⟨t+1,av,_,.more (cj af) (cu he) h,by omega⟩
def YT{P:bm}{k a t av c:Nat}(bp:(P.ai k).d.k=6)(aR:(P.ai k).d.hi=-1)(aH:a<=P.s.size)(aJ:ov (bs P) ((P.ai k).bd.getD 0 0) a t av c) :
  bs P k a=bif decide ((t:Int)<(P.ai k).d.lo)then hR else⟨c,av,3⟩:=by
 obtain⟨mA,kZ,atN⟩:=aJ.len (sG P);have bk:=kZ aH;rw[<-LQ,tJ bp,aR,m4,aR,dF rfl,a4,ajB aJ _ _ _ (by omega) (by omega),dp];rw[show fr 0 c=c by unfold fr;omega]
structure kd(P:bm)(N:Nat)(T:Nat->Nat->cP):Prop where
 ao:∀ k a,(T k a).ao<=2
 snd:∀ k a,(T k a).ao≠0->bs P k a=(T k a).ce
 vB:∀ k a,k<N->a<=P.s.size->(P.ai k).d.k=6->(P.ai k).d.hi=-1->(T k a).ao≠0->∃ t,ov (bs P) ((P.ai k).bd.getD 0 0) a t (T k a).av (T k a).n/\(T k a).bu=min t 99
 rg:∀ k a,k<N->a<=P.s.size->(T k a).n<=1099511627776/\(T k a).av<=P.s.size/\(T k a).bu<=99
 out:∀ k a,¬ (k<N/\a<=P.s.size)->(T k a).ce=bs P k a
def g8(T:Nat->Nat->cP)(k p:Nat)(c:cP):Nat->Nat->cP:=λcO hc=>bif Nat.beq cO k&&Nat.beq hc p then c else T cO hc
def E6(T:Nat->Nat->cP)(k p:Nat)(c:cP):g8 T k p c k p=c:=by simp[g8]
def zF{T:Nat->Nat->cP}{k:Nat}{c:cP}(h:¬ (cO=k/\hc=p)):g8 T k p c cO hc=T cO hc:=by
 unfold g8;have:(Nat.beq cO k&&Nat.beq hc p)=false:=by rw[lB];intro e;simp only[ct,Nat.beq_eq]at e;exact h e
 rw[this];rfl
structure x1(P:bm)(N:Nat)(k:Nat):Prop where
 qx:0<=(P.ai k).d.k
 one:(P.ai k).d.k=3\/6<=(P.ai k).d.k->(P.ai k).bd.getD 0 0<N
 bd:∀ q∈(P.ai k).bd,q<N
 kR:(P.ai k).d.k=6->(P.ai k).d.lo<=99
section
variable{P:bm}{N:Nat}{T:Nat->Nat->cP}
def kd.le(h:kd P N T):o2 0 (iA T) (bs P):=λq b _ ah=>h.snd q b ((CU (h.ao q b)).1 ah)
def kd.YU(h:kd P N T)(q b:Nat):jC P.s.size b (iA T q b):=by
 by_cases e:(T q b).ao=0
 ·rcases sH (h.ao q b)with⟨_,a'⟩ | ⟨aA,_⟩ | ⟨aA,_⟩
  ·exact .inl a'
  ·omega
  ·omega
 ·show jC _ _ (T q b).ce;rw[<-h.snd q b e];exact sG P q b
def kd.ge(h:kd P N T):A1 (iA T):=λq b af=>((h.YU q b).ge af).1
def ajC{t:Nat}(h:lo<=99):decide (((min t 99:Nat):Int)<lo)=decide ((t:Int)<lo):=by rw[nZ];simp only[eY];omega
def YV(lo:Int)(n av t:Nat):(o3 lo ⟨n,av,2,t⟩).ce=bif decide ((t:Int)<lo)then hR else⟨n,av,3⟩:=by
 unfold o3;cases decide ((t:Int)<lo)<;>rfl
def YW(lo:Int)(c:cP):(o3 lo c).n=c.n/\(o3 lo c).av=c.av/\(o3 lo c).bu=c.bu:=by
 unfold o3;cases decide ((c.bu:Int)<lo)<;>exact⟨rfl,rfl,rfl⟩
def YX(lo:Int)(c:cP)(h:c.ao=2):(o3 lo c).ao<=2:=by
 unfold o3;cases decide ((c.bu:Int)<lo)
 ·exact Nat.le_of_eq h
 ·show 1<=2;omega
def ajD(h:kd P N T){k a:Nat}(ae:k<N)(aH:a<=P.s.size)(az:x1 P N k)(bp:(P.ai k).d.k=6)(aR:(P.ai k).d.hi=-1){c:cP}(aJ:zE T k ((P.ai k).bd.getD 0 0) (P.ai k).d.lo a=c) :
  c.ao<=2/\c.n<=1099511627776/\c.av<=P.s.size/\c.bu<=99/\(c.ao≠0->bs P k a=c.ce/\∃ t,ov (bs P) ((P.ai k).bd.getD 0 0) a t c.av c.n/\c.bu=min t 99):=by
 have dg:=az.kR bp;have ajE:=az.one (.inr (by omega));generalize aL:(P.ai k).bd.getD 0 0=q at aJ ajE |-;have jr:=fun {t av c} (h:ov (bs P) q a t av c)=>YT bp aR aH (by rw[aL];exact h);unfold zE at aJ;rcases sH (h.ao q a)with⟨e,a'⟩ | ⟨e,a'⟩ | ⟨e,a'⟩
 ·simp only[e]at aJ;subst aJ;exact⟨bF _,bF _,bF _,bF _,λh=>absurd rfl h⟩
 ·have aE:=h.snd q a (by omega);rw[a']at aE;have fm:ov (bs P) q a 0 a 0:=.stop (by rw[aE];rfl);simp only[e]at aJ;have vF:o3 (P.ai k).d.lo (pS a)=c:=aJ;obtain⟨f1,f2,f3⟩:=YW (P.ai k).d.lo (pS a);rw[<-vF];refine⟨YX _ _ rfl,by rw[f1];exact bF _,by rw[f2];exact aH,by rw[f3];exact bF _,λ_=>⟨?_,0,by rw[f1,f2];exact fm,by rw[f3];rfl⟩⟩;rw[jr fm];exact(YV _ 0 a 0).symm
 ·have aE:=h.snd q a (by omega);rw[a']at aE;have hk:=sG P q a;rw[aE]at hk;obtain⟨a3,a6,bN⟩:=hk.ge rfl;simp only at a3 a6 bN;simp only[e]at aJ;cases ag:Nat.beq (T q a).av a with
  |true=>rw[ag]at aJ;have vF:kx=c:=aJ;subst vF;exact⟨bF _,bF _,bF _,bF _,λh=>absurd rfl h⟩
  |false=>
   have bM:(T q a).av≠a:=λe=>by rw[e]at ag;simp at ag
   rw[ag]at aJ;have vF:(bif Nat.beq (T k (T q a).av).ao 0 then kx else o3 (P.ai k).d.lo ⟨fr (T q a).n (T k (T q a).av).n,(T k (T q a).av).av,2,min ((T k (T q a).av).bu+1) 99⟩)=c:=aJ;cases ay:Nat.beq (T k (T q a).av).ao 0 with
   |true=>rw[ay,a4]at vF;subst vF;exact⟨bF _,bF _,bF _,bF _,λh=>absurd rfl h⟩
   |false=>
    rw[ay,aQ]at vF;have ix:=a6 aH;obtain⟨t,fj,aI⟩:=h.vB k (T q a).av ae ix bp aR λe=>by rw[e]at ay;cases ay
    rw[aL]at fj;obtain⟨hS,fP,hT⟩:=h.rg k (T q a).av ae ix;have fm:ov (bs P) q a (t+1) (T k (T q a).av).av (fr (T q a).n (T k (T q a).av).n):=by have:=ov.more (m:=bs P) (q:=q) (a:=a) (by rw[aE]) (by rw[aE];exact bM) (by rw[aE];exact fj);rwa [aE]at this
    generalize ab:(⟨fr (T q a).n (T k (T q a).av).n,(T k (T q a).av).av,2,min ((T k (T q a).av).bu+1) 99⟩:cP)=x at vF;obtain⟨f1,f2,f3⟩:=YW (P.ai k).d.lo x;rw[<-vF];subst ab;have hm:min ((T k (T q a).av).bu+1) 99=min (t+1) 99:=by omega
    refine⟨YX _ _ rfl,by rw[f1];exact u3 _ _,by rw[f2];exact fP,by rw[f3];exact AL _ _,λ_=>⟨?_,t+1,by rw[f1,f2];exact fm,by rw[f3];exact hm⟩⟩;rw[jr fm,YV,hm,ajC dg]
def YY(h:kd P N T):∀ (L:List Nat) (a n:Nat),(∀ q∈L,q<N)->a<=P.s.size->n<=1099511627776->(ru T L a n).ao<=2/\(ru T L a n).n<=1099511627776/\(ru T L a n).av<=P.s.size/\(ru T L a n).bu<=99
 |[],a,n,_,aH,az=>⟨b2 _,az,aH,bF _⟩
 |q::L,a,n,c4,aH,az=>by
  unfold ru;cases Nat.beq (T q a).ao 2 with
  |true=>exact YY h L _ _ (λq aL=>c4 q (.tail _ aL)) (h.rg q a (c4 q (.head _)) aH).2.1 (u3 _ _)| false=>exact⟨h.ao q a,bF _,bF _,bF _⟩
def YZ(h:kd P N T):∀ (L:List Nat) (a:Nat),(∀ q∈L,q<N)->a<=P.s.size->(ry T L a).ao<=2/\(ry T L a).n<=1099511627776/\(ry T L a).av<=P.s.size/\(ry T L a).bu<=99
 |[],a,_,aH=>⟨by show 1<=2;omega,bF _,bF _,bF _⟩
 |q::L,a,c4,aH=>by
  unfold ry;cases Nat.beq (T q a).ao 1 with
  |true=>exact YZ h L _ (λq aL=>c4 q (.tail _ aL)) aH| false=>exact⟨h.ao q a,h.rg q a (c4 q (.head _)) aH⟩
def Y0(h:kd P N T){q:Nat}(aL:q<N){lo:Int}:∀ (j i a n:Nat),a<=P.s.size->n<=1099511627776->(qE T q lo j i a n).ao<=2/\(qE T q lo j i a n).n<=1099511627776/\(qE T q lo j i a n).av<=P.s.size/\(qE T q lo j i a n).bu<=99
 |0,i,a,n,aH,az=>⟨b2 _,az,aH,bF _⟩
 |j+1,i,a,n,aH,az=>by
  unfold qE;cases Nat.beq (T q a).ao 0||(Nat.beq (T q a).ao 1&&decide ((i:Int)<lo))with
  |true=>exact⟨h.ao q a,bF _,bF _,bF _⟩
  |false=>
   cases Nat.beq (T q a).ao 1 with
   |true=>exact⟨b2 _,az,aH,bF _⟩| false=>exact Y0 h aL j _ _ _ (h.rg q a aL aH).2.1 (u3 _ _)
def QY(h:kd P N T){k a:Nat}(ae:k<N)(aH:a<=P.s.size)(az:x1 P N k){c:cP}(aJ:eG P T k a=c) :
  c.ao<=2/\c.n<=1099511627776/\c.av<=P.s.size/\c.bu<=99/\(c.ao≠0->bs P k a=c.ce/\((P.ai k).d.k=6->(P.ai k).d.hi=-1->∃ t,ov (bs P) ((P.ai k).bd.getD 0 0) a t c.av c.n/\c.bu=min t 99)):=by
 by_cases aW:(P.ai k).d.k=6/\(P.ai k).d.hi=-1
 ·have e:eG P T k a=zE T k ((P.ai k).bd.getD 0 0) (P.ai k).d.lo a:=by simp[eG,aW.1,aW.2]
  rw[e]at aJ;obtain⟨U,aa,af,aN,bq⟩:=ajD h ae aH az aW.1 aW.2 aJ;exact⟨U,aa,af,aN,λay=>⟨(bq ay).1,λ_ _=>(bq ay).2⟩⟩
 have QZ:(P.ai k).d.k=6->(P.ai k).d.hi≠-1:=λU aa=>aW ⟨U,aa⟩;have al:c.ao<=2/\c.n<=1099511627776/\c.av<=P.s.size/\c.bu<=99:=by
  subst aJ;rcases CS (P.ai k).d.k with e | e | e | e | e | e | e | e | e | ⟨b',aC,aA,bx,cU,e8,gg,m5,qC⟩;·simp only[eG,e];exact⟨b2 _,bF _,aH,bF _⟩
  ·simp only[eG,e];cases ag:P.s.data[a]? with
   |none=>exact⟨by show 1<=2;omega,bF _,bF _,bF _⟩
   |some b=>
    have a0:a<P.s.data.size:=(ma.1 ag).1;have aA:P.s.data.size=P.s.size:=rfl;simp only;cases jS (P.ai k).d b.toNat;·exact⟨by show 1<=2;omega,bF _,bF _,bF _⟩
    ·exact⟨b2 _,bF _,by show a+1<=_;omega,bF _⟩
  ·simp only[eG,e];cases aK:preB P.s (P.ai k).d.t a with
   |false=>exact⟨by show 1<=2;omega,bF _,bF _,bF _⟩| true=>simp only[preB,ct,eY]at aK;exact⟨b2 _,bF _,aK.1,bF _⟩
  ·simp only[eG,e];exact⟨h.ao _ _,h.rg _ _ (az.one (.inl e)) aH⟩
  ·simp only[eG,e];exact YY h _ _ _ az.bd aH (bF _)
  ·simp only[eG,e];exact YZ h _ _ az.bd aH
  ·simp only[eG,e,bG (QZ e)];exact Y0 h (az.one (.inr (by omega))) _ _ _ _ aH (bF _)
  ·simp only[eG,e];have:=h.ao ((P.ai k).bd.getD 0 0) a;cases Nat.beq (T ((P.ai k).bd.getD 0 0) a).ao 2
   ·exact⟨this,bF _,bF _,bF _⟩
   ·exact⟨b2 _,bF _,aH,bF _⟩
  ·simp only[eG,e];cases Nat.beq (T ((P.ai k).bd.getD 0 0) a).ao 1 with
   |true=>exact⟨b2 _,bF _,aH,bF _⟩
   |false=>
    cases Nat.beq (T ((P.ai k).bd.getD 0 0) a).ao 2;·exact⟨bF _,bF _,bF _,bF _⟩
    ·exact⟨by show 1<=2;omega,bF _,bF _,bF _⟩
  ·have aD:eG P T k a=bif Nat.beq (T ((P.ai k).bd.getD 0 0) a).ao 2 then { T ((P.ai k).bd.getD 0 0) a with n:=fr (T ((P.ai k).bd.getD 0 0) a).n 1 }else T ((P.ai k).bd.getD 0 0) a:=by simp only[eG,bG b',bG aC,bG aA,bG bx,bG cU,bG e8,bG gg,bG m5,bG qC,aQ]
   rw[aD];by_cases bp:6<=(P.ai k).d.k
   ·have U:=h.ao ((P.ai k).bd.getD 0 0) a;obtain⟨aa,af,aN⟩:=h.rg ((P.ai k).bd.getD 0 0) a (az.one (.inr bp)) aH;cases Nat.beq (T ((P.ai k).bd.getD 0 0) a).ao 2
    ·exact⟨U,aa,af,aN⟩
    ·exact⟨U,u3 _ _,af,aN⟩
   ·have:=az.qx;omega
 refine⟨al.1,al.2.1,al.2.2.1,al.2.2.2,λay=>⟨?_,λbp aR=>absurd aR (QZ bp)⟩⟩;have ah:cn c.ce:=(CU al.1).2 ay;rw[<-aJ,YR h.ao QZ]at ah |-;have:=H7 h.le h.ge (bF _) ah;rw[<-this]at ah |-;exact QX ah
def kd.set(h:kd P N T){k a:Nat}(ae:k<N)(aH:a<=P.s.size)(az:x1 P N k){c:cP}(aJ:eG P T k a=c)(ay:c.ao≠0):kd P N (g8 T k a c):=by
 obtain⟨E7,LR,Y1,Y2,H8⟩:=QY h ae aH az aJ;obtain⟨H8,ajF⟩:=H8 ay;refine⟨λcO cf=>?_,λcO cf=>?_,λcO cf=>?_,λcO cf=>?_,λcO cf=>?_⟩
 ·by_cases e:cO=k/\cf=a
  ·obtain⟨rfl,rfl⟩:=e;rw[E6];exact E7
  ·rw[zF e];exact h.ao _ _
 ·by_cases e:cO=k/\cf=a
  ·obtain⟨rfl,rfl⟩:=e;rw[E6];exact λ_=>H8
  ·rw[zF e];exact h.snd _ _
 ·by_cases e:cO=k/\cf=a
  ·obtain⟨rfl,rfl⟩:=e;rw[E6];exact λ_ _ bp aR _=>ajF bp aR
  ·rw[zF e];exact h.vB _ _
 ·by_cases e:cO=k/\cf=a
  ·obtain⟨rfl,rfl⟩:=e;rw[E6];exact λ_ _=>⟨LR,Y1,Y2⟩
  ·rw[zF e];exact h.rg _ _
 ·intro ab;rw[zF λe=>ab (by rw[e.1,e.2];exact⟨ae,aH⟩)];exact h.out _ _ ab
def Y3{k a:Nat}(bp:(P.ai k).d.k=6)(aR:(P.ai k).d.hi=-1):eG P T k a=zE T k ((P.ai k).bd.getD 0 0) (P.ai k).d.lo a:=by simp[eG,bp,aR]
def Y4(lo:Int)(c:cP)(h:c.ao=2):(o3 lo c).ao≠0:=by
 unfold o3;cases decide ((c.bu:Int)<lo)
 ·rw[aQ,h];omega
 ·exact λh=>by cases h
def Y5{k q a:Nat}(h:(T q a).ao=1\/((T q a).ao=2/\(T q a).av≠a/\(T k (T q a).av).ao≠0)):(zE T k q lo a).ao≠0:=by
 unfold zE;rcases h with h | ⟨U,aa,af⟩
 ·simp only[h];exact Y4 _ _ rfl
 ·have ag:Nat.beq (T q a).av a=false:=by rw[lB];exact λe=>aa (cj e)
  have zd:Nat.beq (T k (T q a).av).ao 0=false:=by rw[lB];exact λe=>af (cj e)
  simp only[U,ag,zd];exact Y4 _ _ rfl
def ajG(h:kd P N T)(az:∀ k,k<N->x1 P N k){a:Nat}(CV:∀ k b,a<b->(T k b).ce=bs P k b)(ft:∀ k,k<N->(T k a).ao=0->(eG P T k a).ao=0)(aH:a<=P.s.size)(k:Nat):(T k a).ce=bs P k a:=by
 have bz:o2 a (bs P) (iA T):=ajz λk b ag ah=>by
  have aC:ef P (bs P) k b=ef P (iA T) k b:=H7 h.le h.ge (bF _) ah;have aE:bs P k b=ef P (iA T) k b:=by rw[<-aC];exact QX (by rw[aC];exact ah)
  by_cases zG:b=a
  ·subst zG;by_cases ay:(T k b).ao=0
   ·exfalso;by_cases ae:k<N
    ·have aJ:=ft k ae ay;by_cases aW:(P.ai k).d.k=6/\(P.ai k).d.hi=-1
     ·rw[Y3 aW.1 aW.2]at aJ;rw[tJ aW.1,aW.2]at ah;obtain⟨t,av,c,jr,-⟩:=YS _ _ _ _ ah;generalize aL:(P.ai k).bd.getD 0 0=q at jr aJ;cases jr with
      |stop U=>
       refine Y5 (.inl ?_) aJ;rcases sH (h.ao q b)with⟨e,a'⟩ | ⟨e,a'⟩ | ⟨e,a'⟩;·simp only[iA,a',hC]at U;cases U
       ·exact e
       ·simp only[iA,a']at U;cases U
      |more U bM r=>
       rcases sH (h.ao q b)with⟨e,a'⟩ | ⟨e,a'⟩ | ⟨e,a'⟩;·simp only[iA,a',hC]at U;cases U
       ·simp only[iA,a',hR]at U;cases U
       ·have hk:=h.YU q b;simp only[iA,a']at hk bM r;obtain⟨a3,a6,bN⟩:=hk.ge rfl;simp only at a3 a6;refine Y5 (.inr ⟨e,bM,λb'=>?_⟩) aJ;have fP:=r.mono h.le h.ge (bF _);have aA:=YT aW.1 aW.2 (a6 aH) (by rw[aL];exact fP);have bx:=CV k (T q b).av (by omega);have nI:cn (bs P k (T q b).av):=by
         rw[aA];cases decide ((_:Int)<(P.ai k).d.lo);·exact .inr rfl
         ·exact .inl rfl
        rw[<-bx]at nI;exact(CU (h.ao _ _)).1 nI b'
     ·rw[<-YR h.ao λU aa=>aW ⟨U,aa⟩]at ah;obtain⟨E7,-⟩:=QY h ae aH (az k ae) rfl;exact(CU E7).1 ah aJ
    ·have:=h.out k b λe=>ae e.1;rw[aE]at this;rw[<-this]at ah;exact(CU (h.ao _ _)).1 ah ay
   ·show(T k b).ce=_;rw[<-h.snd k b ay];exact aE
  ·show(T k b).ce=_;rw[CV k b (by omega)];exact aE
 by_cases ah:cn (bs P k a)
 ·exact bz k a (b2 _) ah
 ·by_cases ay:(T k a).ao=0
  ·rw[(sG P k a).zero ah];rcases sH (h.ao k a)with⟨e,a'⟩ | ⟨e,a'⟩ | ⟨e,a'⟩
   ·exact a'
   ·omega
   ·omega
  ·exact(h.snd k a ay).symm
def ajH(h:kd P N T){k a:Nat}(ae:k<N)(aH:a<=P.s.size)(az:x1 P N k)(he:(T k a).ce=bs P k a)(ay:(T k a).ao=0):(eG P T k a).ao=0:=by obtain⟨E7,LR,Y1,Y2,H8⟩:=QY h ae aH az rfl;refine DY λbM=>?_;have e:=(H8 bM).1;rw[<-he]at e;have ah:=(CU E7).2 bM;rw[<-e]at ah;exact(CU (h.ao _ _)).1 ah ay
end
end Go.V
