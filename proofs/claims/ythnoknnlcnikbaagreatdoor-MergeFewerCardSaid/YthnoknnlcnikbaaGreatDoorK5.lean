/- Part 5 of what the proofs of this seat share: the executor, data in memory, walks.
-/
import Derived.Test.YthnoknnlcnikbaaGreatDoorK4
import Derived.Test.YthnoknnlcnikbaaGreatDoorK2
import Derived.Laws.IdiomStrings
import Derived.Test.YthnoknnlcnikbaaGreatDoorK3
set_option linter.all false
set_option maxHeartbeats 8000000
set_option maxRecDepth 100000
namespace Go.V
open Go
def nS:=@List.mem_cons_of_mem
def o5:=@List.length_singleton
def s4:=@List.drop_of_length_le
def vt:=@List.append_of_mem
def w2:=@List.length_range
def EL:=@Nat.ble_eq_true_of_le
def EM:=@List.filter_append
def Ig:=@List.drop_succ_cons
def Q9:=@List.drop_append_of_le_length
def LX:=@List.length_take_of_le
def Ih:=@Int.natCast_nonneg
def EN:=@List.range_succ
def LY:=@List.getElem?_of_mem
def Ak:=@Nat.add_eq
def LZ:=@decide_eq_decide
def Q':=@Nat.pow_lt_pow_right
def EO:=@Nat.mul_eq
def EP:=@Nat.sub_eq
def L0:=@Bool.or_true
def Ra:=@List.drop_left
variable{x y s p3:Operand}{jT m:List et}{src dst f t c' j g off sz T clock:Nat}{c6:Option dR}{aG L1:dR}{aP:Addr}{foot:List Nat}{P:Program}{args xs cs vs aU:List Value}{I:aJ}{M M0:List aF}{K:Value->Prop}{b:Bool}{R α:Type}{a:Int}{r:Option Nat}{E:Env}{fu:IntKind}{other:Prop}{os:aQ}{w:Value}
def jU(x y:et):Prop:=∀ i,i<64->x.getLsbD i=true->y.getLsbD i=true
def jU.refl(x:et):jU x x:=λ_ _ h=>h
def jU.trans{x y z:et}(h:jU x y)(bj:jU y z):jU x z:=λi hi ad=>bj i hi (h i hi ad)
def jU.or(x y:et):jU x (x ||| y):=λi hi h=>by rw[Ck,h];rfl
def jU.or'(x y:et):jU y (x ||| y):=λi hi h=>by rw[Ck,h,L0]
def jU.Zr{x y:et}(h:jU x y)(bj:jU y x):x=y:=Qc λi hi=>by
 have aa:=h i hi;have ab:=bj i hi;cases ad:x.getLsbD i<;>cases aE:y.getLsbD i<;>simp_all
def jU.and{x y:et}(h:jU x y):x &&& y=x:=Qc λi hi=>by
 have aa:=h i hi;rw[Qe];cases ad:x.getLsbD i<;>simp_all
def Ii(m:List et):∀ (f k:Nat) (w:et),jU w (nc m k f w)
 |0,k,w=>jU.refl w
 |f+1,k,w=>by
  rw[nc];cases w.getLsbD k with
  |true=>exact(jU.or _ _).trans (Ii m f (k+1) _)| false=>exact Ii m f (k+1) _
def Rb{m:List et}{P:Nat->Prop}(hm:∀ j,P j->∀ x,x<64->(m.getD j 0).getLsbD x=true->P x):∀ (f k:Nat) (w:et),k+f<=64->(∀ x,x<64->w.getLsbD x=true->P x)->∀ x,x<64->(nc m k f w).getLsbD x=true->P x
 |0,k,w,_,hw=>hw
 |f+1,k,w,ae,hw=>by
  rw[nc];cases ag:w.getLsbD k with
  |true=>
   refine Rb hm f (k+1) _ (by omega) λx ad h=>?_;rw[cp,Ck,kq]at h;rcases h with h | h;·exact hw x ad h
   ·exact hm k (hw k (by omega) ag) x ad h
  |false=>exact Rb hm f (k+1) _ (by omega) hw
def Rc{m:List et}:∀ (f k:Nat) {w:et},nc m k f w=w->∀ j,k<=j->j<k+f->w.getLsbD j=true->jU (m.getD j 0) w
 |0,k,w,_,j,aa,ab,_=>by omega
 |f+1,k,w,h,j,aa,ab,ak=>by
  rw[nc]at h;cases ag:w.getLsbD k with
  |true=>
   rw[ag,cp]at h;have e:w ||| m.getD k 0=w:=by refine jU.Zr ?_ (jU.or _ _);have:=Ii m f (k+1) (w ||| m.getD k 0);rwa [h]at this
   by_cases Rd:j=k;·subst Rd;have:=jU.or' w (m.getD j 0);rwa [e]at this
   ·rw[e]at h;exact Rc f (k+1) h j (by omega) (by omega) ak
  |false=>
   rw[ag,cb]at h;by_cases Rd:j=k;·subst Rd;rw[ag]at ak;cases ak
   ·exact Rc f (k+1) h j (by omega) (by omega) ak
def Zy(m:List et):(r4 m).length=64:=by simp[r4]
def L2(m:List et){i:Nat}(h:i<64):(r4 m).getD i 0=nc m 0 64 (m.getD i 0):=by simp[r4,bM,h]
structure Al(jT m:List et):Prop where
 len:m.length=64
 le:∀ i,i<64->jU (jT.getD i 0) (m.getD i 0)
 ok:∀ i,i<64->∀ k,k<64->(m.getD i 0).getLsbD k=true->qU jT i k
def Al.start(h:jT.length=64):Al jT jT:=⟨h,λi _=>jU.refl _,λi _ k ae ag=>.one ae ag⟩
def Al.next(h:Al jT m):Al jT (r4 m):=by
 refine⟨Zy m,λi hi=>?_,λi hi k ae ag=>?_⟩
 ·rw[L2 m hi];exact(h.le i hi).trans (Ii m 64 0 _)
 ·rw[L2 m hi]at ag;refine Rb (P:=λx=>x<64/\qU jT i x) (λj ak x ad ag=>⟨ad,ak.2.trans (h.ok j ak.1 x ad ag)⟩) 64 0 _ (b2 _) (λx ad ag=>⟨ad,h.ok i hi x ad ag⟩) k ae ag |>.2
def Al.done(h:Al jT m)(aB:r4 m=m){i k:Nat}(hi:i<64)(ae:k<64):(m.getD i 0).getLsbD k=true ↔ qU jT i k:=by
 refine⟨h.ok i hi k ae,λao=>?_⟩;have dm:∀ i,i<64->∀ j,j<64->(m.getD i 0).getLsbD j=true->jU (m.getD j 0) (m.getD i 0):=λi hi j ak ag=>by have:=L2 m hi;rw[aB]at this;exact Rc 64 0 this.symm j (dj _) (by omega) ag
 revert hi
 induction ao with
 |one hR ag=>exact λhi=>h.le _ hi _ hR ag
 |step ag ak t aN=>exact λhi=>dm _ hi _ ak (h.le _ hi _ ak ag) _ ae (aN ae ak)
def Am(m:List et):Nat:=(m.map Ie).sum
def Zz:∀ {m n:List et},m.length=n.length->(∀ i,i<m.length->jU (m.getD i 0) (n.getD i 0))->Am n<=Am m/\(Am m<=Am n->m=n)
 |[],[],_,_=>⟨b2 _,λ_=>rfl⟩| [],_::_,h,_=>by simp at h
 |_::_,[],h,_=>by simp at h
 |a::m,b::n,h,av=>by
  have aw:jU a b:=by simpa using av 0 (by simp)
  obtain⟨aa,ab⟩:=alE aw.and;obtain⟨t1,t2⟩:=Zz (m:=m) (n:=n) (by simpa using h) λi hi=>by simpa using av (i+1) (by simpa using hi)
  simp only[Am,ca,hz]at t1 t2 |-;refine⟨by omega,λbk=>?_⟩;rw[ab (by omega),t2 (by omega)]
def alO(aA:m.length=64)(h:r4 m≠m):Am (r4 m)<Am m:=by
 have av:=Zz (m:=m) (n:=r4 m) (by rw[aA,Zy]) λi hi=>by rw[L2 m (by omega)];exact Ii m 64 0 _
 refine Nat.lt_of_le_of_ne av.1 λe=>h (av.2 (by omega)).symm
def Re(m:List et):et:=(List.range 64).foldl (λw i=>w ||| ((m.getD i 0) &&& lB i)) 0
def ZA(m:List et):∀ (l:List Nat) (w:et) {i:Nat},i<64->(∀ k∈l,k<64)->(l.foldl (λw i=>w ||| ((m.getD i 0) &&& lB i)) w).getLsbD i=(w.getLsbD i||(l.contains i&&(m.getD i 0).getLsbD i))
 |[],w,i,hi,_=>by simp
 |k::l,w,i,hi,aA=>by
  rw[kl,ZA m l _ hi λk ae=>aA k (.tail _ ae),Ck,Qe,LW hi,List.contains_cons];by_cases e:i=k
  ·subst e;simp;cases w.getLsbD i<;>cases(m.getD i 0).getLsbD i<;>simp
  ·have cU:(i == k)=false:=by simpa using e
   rw[fo e,cU];simp
def alP(m:List et){i:Nat}(hi:i<64):(Re m).getLsbD i=(m.getD i 0).getLsbD i:=by
 unfold Re;rw[ZA m _ _ hi λk ae=>j0.1 ae];have:(List.range 64).contains i=true:=by simpa using hi
 rw[this];simp
def bitsOf(w:et)(n:Nat):List Nat:=(List.range n).filter λi=>w.getLsbD i
def ZB(w:et)(n:Nat):bitsOf w (n+1)=bitsOf w n++(bif w.getLsbD n then [n]else []):=by
 unfold bitsOf;rw[EN,EM];cases h:w.getLsbD n<;>simp[h]
def alQ(w:et)(n:Nat):(bitsOf w n).length<=n:=by unfold bitsOf;have:=DR (λi=>w.getLsbD i) (List.range n);simpa using this
section
variable{X:c1}{o:Oper}{F:Fr}{C:dO}{I:aJ}{M:List aF}{K:gr}
def bF.alR(aO:cX X.P X.E){e:Nat}(aC:o.op=.convert src dst x)(ah:∀ d,o.dst=some d->d<X.n)
 {c6:dR} (au:X.E src=some c6) (dz:c6.bQ=.slice e) (he:X.E e=some aG) (kr:aG.bQ=.int .u8) (kS:X.E dst=some L1) (fD:L1.bQ=.string)
 {n c:Nat} {l:List UInt8} (ad:bH F x=.val (.slice (some aP) n c)) (aD:l.length=n) (bt:cY I M aP n (l.map λb=>.int .u8 b.toNat))
  (h:K (put o.dst (.val (.string ⟨l.toArray⟩)) F) C I M):bF X o F C I M K:=by
 subst aD;refine⟨λa w Q ⟨β,aX⟩=>?_⟩;obtain⟨av,cs,T,an,ae,aj,aA⟩:=bt;have ax:=ae.heap aX.holds;obtain⟨d,fM,fk⟩:=(aO _ _ au).ft;have aa:d=.slice e:=by rw[dz]at fk;cases d<;>simp_all[fs]
 subst aa;obtain⟨d2,Rf,sT⟩:=(aO _ _ he).ft;have ab:d2=.int .u8:=by rw[kr]at sT;cases d2<;>simp_all[fs]
 subst ab;obtain⟨d3,Rg,LA⟩:=(aO _ _ kS).ft;have ai:d3=.string:=by rw[fD]at LA;cases d3<;>simp_all[fs]
 subst ai;have ao:∀ j (ak:j<l.length),w.cell? (aP.add j)=some (.int .u8 (l[j].toNat:Int)):=by
  intro j ak;rw[eO aP av,ts ax];have jM:(l.map λb=>Value.int .u8 b.toNat)[j]?=some (.int .u8 (l[j].toNat:Int)):=by simp[ak]
  rw[<-aj,k9,bT ak,nw]at jM;simpa using jM
 have ex:=dh aX.an ad;refine wk aX ah (by rw[aC];simp) ?_ h;unfold execOp;simp only[aC,cu,c7,ex,run_convert_bytes_back w src dst e aP c l fM Rf Rg ao,bY]
end
section
variable{X:c1}{F:Fr}{C:dO}{I:aJ}{M:List aF}{o:Oper}{K:gr}
def bF.alS(aO:cX X.P X.E){e:Nat}(aC:o.op=.convert src dst x)(ah:∀ d,o.dst=some d->d<X.n)
 {c6:dR} (au:X.E src=some c6) (dz:c6.bQ=.slice e) (he:X.E e=some aG) (kr:aG.bQ=.int .u8) (kS:X.E dst=some L1) (fD:L1.bQ=.string)
  {c:Nat} (ad:bH F x=.val (.slice none 0 c))
  (h:K (put o.dst (.val (.string ⟨#[]⟩)) F) C I M):bF X o F C I M K:=by
 refine⟨λa w Q ⟨β,aX⟩=>?_⟩;obtain⟨d,fM,fk⟩:=(aO _ _ au).ft;have aa:d=.slice e:=by rw[dz]at fk;cases d<;>simp_all[fs]
 subst aa;obtain⟨d2,Rf,sT⟩:=(aO _ _ he).ft;have ab:d2=.int .u8:=by rw[kr]at sT;cases d2<;>simp_all[fs]
 subst ab;obtain⟨d3,Rg,LA⟩:=(aO _ _ kS).ft;have ai:d3=.string:=by rw[fD]at LA;cases d3<;>simp_all[fs]
 subst ai;have ex:=dh aX.an ad;refine wk aX ah (by rw[aC];simp) ?_ h;unfold execOp;have e':(convert src dst (.slice none 0 c)).run X.P w=.ok (.string ⟨#[]⟩) w:=by rw[run_convert_bytes_string w src dst e none 0 c fM Rf Rg];rfl
 simp only[aC,cu,c7,ex,e',bY]
end
def bc.whole{K:Value->aJ->List aF->Prop}(post:Value->aJ->List aF->Prop)(av:Spec P f args I M post)(k:∀ v I' M',(∀ b o,I b=some o->I' b=some o)->post v I' M'->K v I' M'):bc foot P f args I M K:=
 .mk M [] post (by simp) av λv I' M' aa ab=>by rw[dD];exact k v I' M' aa ab
def eH.whole{soft:Bool}{K:Value->aJ->List aF->Prop}(post:Value->aJ->List aF->Prop)(av:Spec P f args I M post)(nB:∀ v I' M',post v I' M'->∀ x∈M,x∈M')(k:∀ v I' M',(∀ b o,I b=some o->I' b=some o)->post v I' M'->K v I' M'):eH soft foot P f args I M K:=
 .oJ M [] post (by simp) av nB λv I' M' aa ab=>by rw[dD];exact k v I' M' aa ab
section
variable{X:c1}{β:Nat->Nat}{a:Act}{w:World}{F:Fr}{C:dO}{I:aJ}{M:List aF}{o:Oper}{K:gr}
def h6.l6{I:aJ}{M M':List aF}(h:M=M'):h6 foot I M I M':=by subst h;exact .refl
def bF.h7(h:bF X o F C I M λF C I M=>∃ I' M',h6 X.foot I M I' M'/\K F C I' M'):bF X o F C I M K:=by obtain⟨h⟩:=h;refine⟨λa w Q aX=>tk ?_ (h a w Q aX)⟩;rintro bN w'⟨c9,C',I',M',⟨β,af⟩,eE,dy,hw,ae⟩;exact⟨c9,C',eE,dy,⟨β,af.h7 hw⟩,ae⟩
def bF.l7(aO:cX X.P X.E)(aC:o.op=.call { callee:=.builtin .append,args:=#[s,x],argTypes:=#[t,t] })(ah:∀ d,o.dst=some d->d<X.n)
  {e:Nat} {c6:dR} (au:X.E t=some c6) (dz:c6.bQ=.slice e) (he:X.E e=some aG)
  (os:aQ) (bi:os.ok aG.size xs) (av:bH F s=.val os.val)
  {b9:Nat} (ad:bH F x=.val (.slice (some ⟨b9,0,none⟩) 1 c')) (aA:cs.length=aG.size) (aa:fJ cs=true)
  (a9 post:List aF) (bb:M=⟨b9,.cells cs.toArray e (0,0)⟩::(a9++(os.ar e++post))) (b1:os.n+1<=9223372036854775807) (bW:(os.n+1)*aG.bytes<=140737488355328)
  (k:∀ bu:aQ,bu.n=os.n+1->(∀ g,bu.a=some g->I g=none)->bu.ok aG.size (xs++cs)->K (put o.dst (.val bu.val) F) C I (a9++(bu.ar e++post))):bF X o F C I M K:=by
 refine .h7 (.WN aO aC ah au dz he os bi av (m:=1) (b3:=cs) ad (by decide) ?_ aa (Mr:=⟨b9,.cells cs.toArray e (0,0)⟩::(a9++post)) ?_ (by unfold maxLen;exact b1) bW ?_)
 ·rw[oI];refine⟨rfl,_,_,_,.inr ⟨⟨b9,.cells cs.toArray e (0,0)⟩,by rw[bb];exact .head _,rfl,rfl⟩,?_,aA⟩;simp only[tA];exact fS (by omega)
 ·rw[bb];have ab:(⟨b9,.cells cs.toArray e (0,0)⟩::(a9++(os.ar e++post)):List aF).Perm (⟨b9,.cells cs.toArray e (0,0)⟩::(os.ar e++(a9++post))):=.cons _ (yn _ _ _);exact ab.trans na.symm
 ·intro g c aU bB ew e9 fb jS;refine⟨I,a9++((⟨some g,os.n+1,c,aU⟩:aQ).ar e++post),.sub (M1:=⟨g,.cells aU.toArray e (0,0)⟩::(a9++post)) (.cons_cons _ (.cons _ (.refl _))) (.perm ?_ .refl),k ⟨some g,os.n+1,c,aU⟩ rfl (λeu ax=>by cases ax;exact bB) ⟨?_,(λh=>by cases h),λeu ax=>?_⟩⟩
  ·exact na.symm
  ·rw[cm,bi.len,aA,lT,oI]
  ·cases ax;exact⟨ew,e9,fb,jS⟩
def bF.An(aO:cX X.P X.E)(aC:o.op=.call { callee:=.builtin .append,args:=#[s,x],argTypes:=#[t,t] })(ah:∀ d,o.dst=some d->d<X.n)
  {e:Nat} {c6:dR} (au:X.E t=some c6) (dz:c6.bQ=.slice e) (he:X.E e=some aG)
  (os:aQ) (bi:os.ok aG.size xs) (av:bH F s=.val os.val)
  {sa:Option Addr} {m:Nat} {b3:List Value} (ad:bH F x=.val (.slice sa m c')) (aA:b3.length=m*aG.size) (aD:0<m->∃ aP,sa=some aP/\cY I M aP (m*aG.size) b3) (aa:fJ b3=true)
  (a9 post:List aF) (bb:M=a9++(os.ar e++post)) (b1:os.n+m<=9223372036854775807) (bW:(os.n+m)*aG.bytes<=140737488355328)
  (k:∀ bu:aQ,bu.n=os.n+m->(0<m->∀ g,bu.a=some g->I g=none)->bu.ok aG.size (xs++b3)->K (put o.dst (.val bu.val) F) C I (a9++(bu.ar e++post))):bF X o F C I M K:=by
 by_cases aw:m=0
 ·subst aw;have lq:b3=[]:=iD (by simpa using aA);subst lq;refine .PN aO aC ah au dz au (λk=>by rw[dz];simp) he (sa:=os.a.map λg=>⟨g,0,none⟩) (n:=os.n) (c:=os.c) av ?_ ad (.inl ⟨_,_,rfl⟩) ?_
  ·cases a6:os.a with
   |none=>obtain⟨ew,e9⟩:=bi.nil a6;omega
   |some g=>exact(bi.cap g a6).2.1
  ·have:=k os rfl (λh=>by omega) (by rw[dD];exact bi);rw[bb];exact this
 obtain⟨aP,rfl,bt⟩:=aD (by omega);refine .h7 (.WN aO aC ah au dz he os bi av (m:=m) (b3:=b3) ad (by omega) bt aa (Mr:=a9++post) ?_ (by unfold maxLen;exact b1) bW ?_)
 ·rw[bb];exact(yn _ _ _)
 ·intro g c aU bB ew e9 fb jS;refine⟨I,a9++((⟨some g,os.n+m,c,aU⟩:aQ).ar e++post),.perm ?_ .refl,k ⟨some g,os.n+m,c,aU⟩ rfl (λ_ eu ax=>by cases ax;exact bB) ⟨?_,(λh=>by cases h),λeu ax=>?_⟩⟩
  ·exact na.symm
  ·rw[cm,bi.len,aA,lT]
  ·cases ax;exact⟨ew,e9,fb,jS⟩
end
noncomputable section
inductive bm(α:Type) where
 |nil| node (x:Option α) (l r:bm α)
def b4{α:Type}(b:Bool)(x y:α):α:=@Bool.rec (λ_=>α) y x b
def bx{α R:Type}(o:Option α)(x:R)(f:α->R):R:=@Option.rec α (λ_=>R) x f o
section
variable{α R:Type}
def bm.get(t:bm α):Nat->Option α:=@bm.rec α (λ_=>Nat->Option α) (λ_=>none) (λx _ _ alT EQ k=>b4 (Nat.beq k 0) x (b4 (Nat.beq (Nat.mod k 2) 1) (alT (Nat.div k 2)) (EQ (Nat.sub (Nat.div k 2) 1)))) t
def bm.nT(v:Option α)(t:bm α):Nat->(bm α->R)->R:=@bm.rec α (λ_=>Nat->(bm α->R)->R) (λk K=>b4 (Nat.beq k 0) (K (.node v .nil .nil)) (K .nil)) (λx l r sl alU k K=>b4 (Nat.beq k 0) (K (.node v l r)) (b4 (Nat.beq (Nat.mod k 2) 1) (sl (Nat.div k 2) λl=>K (.node x l r)) (alU (Nat.sub (Nat.div k 2) 1) λr=>K (.node x l r)))) t
def bm.ER(t:bm α)(off n:Nat):(List α->Option R)->Option R:=@Nat.rec (λ_=>Nat->(List α->Option R)->Option R) (λ_ K=>K []) (λ_ aN off K=>bx (t.get off) none λv=>aN (Nat.add off 1) λl=>K (v::l)) n off
def bm.yF(l:List α)(t:bm α)(off:Nat)(K:bm α->R):R:=@List.rec α (λ_=>bm α->Nat->R) (λt _=>K t) (λv _ aN t off=>t.nT (some v) off λt=>aN t (Nat.add off 1)) l t off
def bm.bare:Nat->bm α
 |0=>.nil| n+1=>.node none (bm.bare n) (bm.bare n)
end
inductive ap where
 |b(x:Bool) | i (k:IntKind) (n:Int) | s (l:List UInt8)| pn | p (id off:Nat) | g (n off:Nat)| sn | sl (id off n c:Nat) | sx (id off e n:Nat) | gs (g off n c:Nat) | so| mn | m (id:Nat)| f (g:Nat) (l r:List ap) | y (id:Nat) | fn| ni | Ij (t:Nat) (v:ap)| t (l:List ap) | a (l:List ap)
def ap.cells:ap->List ap
 | .a l=>l| v=>[v]
def ap.one:ap->Bool
 | .a _ | .t _=>false| _=>true
def Ik:Value->Option ap
 | .bool x=>some (.b x)| .int k n=>some (.i k n)| .string q=>some (.s q.data.toList)| .pointer none=>some .pn| .slice none 0 0=>some .sn| .map none=>some .mn| .nilFunc=>some .fn| .nilIface=>some .ni| _=>none
def yG:List Value->Option (List ap)
 |[]=>some []
 |v::vs=>match Ik v,yG vs with
  |some x,some l=>some (x::l)| _,_=>none
def ES:Value->Option ap
 | .agg cs=>match yG cs.toList with
  |some l=>some (.a l)| none=>none
 |v=>Ik v
def ap.nat:ap->Option Nat
 | .i _ (.ofNat n)=>some n| _=>none
inductive fx where
 |cells(cs:bm ap)(T fN:Nat)| map (es:List (ap×ap))| loop (busy:Bool) (n:Nat) (an:bm ap) (ps:List Nat) (fj body:Code)| done (c:Code) (n:Nat) (an:bm ap) (ps:List Nat) (fj body:Code)
structure bz where
 t:bm fx
 n:Nat
def s5:Int->Int->Bool
 | .ofNat a,.ofNat b=>Nat.beq a b| .negSucc a,.negSucc b=>Nat.beq a b| _,_=>false
def CB:Int->Int->Bool
 | .ofNat a,.ofNat b=>Nat.ble a b| .negSucc a,.negSucc b=>Nat.ble b a| .negSucc _,.ofNat _=>true| .ofNat _,.negSucc _=>false
def DJ(a b:Int):Bool:=!CB b a
def Rh(op:BinOp)(x y:Int):Option Bool:=match op with
 | .eql=>some (s5 x y)| .neq=>some (!s5 x y)| .lss=>some (DJ x y)| .leq=>some (CB x y)| .gtr=>some (DJ y x)| .geq=>some (CB y x)| _=>none
def L3:IntKind->Nat
 | .i8=>127 | .i16=>32767 | .i32=>2147483647 | .i64=>9223372036854775807| .u8=>255 | .u16=>65535 | .u32=>4294967295 | .u64=>18446744073709551615
def w3(k:IntKind):Int->Int
 | .ofNat n=>bif Nat.ble n (L3 k)then .ofNat n else k.wrap (.ofNat n)| n=>k.wrap n
def ZC:Int->Int->Int
 | .ofNat a,.ofNat b=>.ofNat (Nat.add a b)| a,b=>a+b
def Ri:Int->Int->Int
 | .ofNat a,.ofNat b=>bif Nat.ble b a then .ofNat (Nat.sub a b)else(.ofNat a:Int) - .ofNat b| a,b=>a-b
def ZD:Int->Int->Int
 | .ofNat a,.ofNat b=>.ofNat (Nat.mul a b)| a,b=>a*b
def ZE:Int->Int->Int
 | .ofNat a,.ofNat b=>.ofNat (Nat.div a b)| a,b=>a.tdiv b
def ZF:Int->Int->Int
 | .ofNat a,.ofNat b=>.ofNat (Nat.mod a b)| a,b=>a.tmod b
def ZG:Int->Nat->Int
 | .ofNat a,j=>.ofNat (Nat.mul a (Nat.pow 2 j))| a,j=>a*2^j
def ZH:Int->Nat->Int
 | .ofNat a,j=>.ofNat (Nat.div a (Nat.pow 2 j))| a,j=>a.fdiv (2^j)
def ET(op:BinOp)(k:IntKind)(x y:Int):Option Int:=
 match k,x,y with
 | .u64,.ofNat a,.ofNat b=>
  bif Nat.ble a 18446744073709551615&&Nat.ble b 18446744073709551615 then
   (match op with
   | .and=>some (.ofNat (Nat.land a b))| .or=>some (.ofNat (Nat.lor a b))| .xor=>some (.ofNat (Nat.xor a b))| .andNot=>some (.ofNat (Nat.land a (Nat.sub 18446744073709551615 b)))| _=>none)
  else none
 |_,_,_=>uK op k x y
def Rj(a b:UInt8):Bool:=Nat.beq a.toNat b.toNat
def vu:List UInt8->List UInt8->Bool
 |[],[]=>true| a::l,b::m=>bif Rj a b then vu l m else false| _,_=>false
def EU:ap->ap->Option Bool
 | .b x,.b w=>some (x == w)| .i k x,.i l w=>b4 (IntKind.lP k l) (some (s5 x w)) none| .s x,.s w=>some (vu x w)| _,_=>none
def ZI:List ap->List ap->Option Bool
 |[],[]=>some true
 |x::l,w::m=>match EU x w with
  |some true=>ZI l m
  |some false=>(match ZI l m with
   |some _=>some false| none=>none)
  |none=>none
 |_,_=>none
def axv:ap->ap->Option Bool
 | .pn,.pn=>some true| .pn,.p _ _=>some false| .p _ _,.pn=>some false| .pn,.g _ _=>some false| .g _ _,.pn=>some false| _,_=>none
def Rk(op:BinOp)(k fu:IntKind)(a b:Int):Option ap:=match op with
 | .shl=>(match b with
  | .ofNat j=>some (.i k (w3 k (ZG a (b4 (Nat.ble j k.bits) j k.bits))))| _=>none)
 | .shr=>(match b with
  | .ofNat j=>some (.i k (ZH a (b4 (Nat.ble j k.bits) j k.bits)))| _=>none)
 | .add=>b4 (IntKind.lP k fu) (some (.i k (w3 k (ZC a b)))) none| .sub=>b4 (IntKind.lP k fu) (some (.i k (w3 k (Ri a b)))) none| .mul=>b4 (IntKind.lP k fu) (some (.i k (w3 k (ZD a b)))) none| .quo=>b4 (IntKind.lP k fu) (b4 (s5 b 0) none (some (.i k (w3 k (ZE a b))))) none| .rem=>b4 (IntKind.lP k fu) (b4 (s5 b 0) none (some (.i k (ZF a b)))) none| .and=>b4 (IntKind.lP k fu) (bx (ET .and k a b) none λr=>some (.i k r)) none| .or=>b4 (IntKind.lP k fu) (bx (ET .or k a b) none λr=>some (.i k r)) none| .xor=>b4 (IntKind.lP k fu) (bx (ET .xor k a b) none λr=>some (.i k r)) none| .andNot=>b4 (IntKind.lP k fu) (bx (ET .andNot k a b) none λr=>some (.i k r)) none| op=>b4 (IntKind.lP k fu) (bx (Rh op a b) none λr=>some (.b r)) none
def Rl(op:BinOp)(a b:List UInt8):Option ap:=match op with
 | .eql=>some (.b (vu a b))| .neq=>some (.b (b4 (vu a b) false true))| .add=>b4 (Nat.ble (Nat.add a.length b.length) 9223372036854775807) (some (.s (a++b))) none| _=>none
def Rm(op:BinOp)(c6:Option dR)(a b:Bool):Option ap:=match c6 with
 |some { bQ:=.bool,.. }=>
  (match op with
  | .eql=>some (.b (a == b))| .neq=>some (.b (!(a == b)))| _=>none)
 |_=>none
def EV(agg:Bool)(l:List ap):Option ap:=bif agg then some (.a l)else match l with
 |[v]=>some v| _=>none
def CC:Nat->List ap->Option (List ap)
 |0,_=>some []| _+1,[]=>none
 |n+1,v::l=>match CC n l with
  |some r=>some (v::r)| none=>none
def CD{α:Type}:List α->Nat->List α
 |[],_=>[]| v::l,n=>bif Nat.beq n 0 then v::l else CD l (Nat.sub n 1)
def Ao(E:Env)(t o:Nat)(l:List ap):Option ap:=bx (E t) none λi=>b4 (Nat.beq i.size 0) none <| bx (CC i.size (CD l o)) none λr=>EV i.bQ.agg r
def CE(F:Nat->ap->ap->Option Bool)(E:Env)(l m:List ap):List (Nat×Nat)->Option Bool
 |[]=>some true|(t,o)::r=>bx (Ao E t o l) none λx=>bx (Ao E t o m) none λy=>bx (F t x y) none λb=>b4 b (CE F E l m r) (some false)
def ZJ(P:Program)(t:Nat):Bool:=match P.underlying t with
 |some (.struct cO)=>!P.stoodInHeld t&&cO.toList.all λf=>decide (f.name ≠ "_")
 |_=>false
def yH(P:Program)(E:Env):Nat->Nat->ap->ap->Option Bool
 |0,_,_,_=>none
 |d+1,t,x,y=>bx (E t) none λi=>match i.bQ,x,y with
  | .bool,.b a,.b b=>some (a == b)| .int _,.i k a,.i fu b=>b4 (IntKind.lP k fu) (some (s5 a b)) none| .string,.s a,.s b=>some (vu a b)| .struct cO,.a l,.a m=>b4 (ZJ P t) (CE (yH P E d) E l m cO) none| .array n e,.a l,.a m=>bx (E e) none λaG=>CE (yH P E d) E l m ((List.range n).map λi=>(e,i*aG.size))
  |_,_,_=>none
def Il(P:Program)(E:Env)(op:BinOp)(t:Nat)(l m:List ap):Option ap:=b4 (P.eqGuardType P.depth t) none (bx (yH P E 8 t (.a l) (.a m)) none λb=>match op with
 | .eql=>some (.b b)| .neq=>some (.b (!b))| _=>none)
def Rn:ap->Option Bool
 | .sn=>some true| .sl .. | .sx .. | .gs .. | .so=>some false| _=>none
def Ro:ap->Option Bool
 | .pn=>some true| .p .. | .g ..=>some false| _=>none
def L4(op:BinOp)(b:Bool):Option ap:=match op with
 | .eql=>some (.b b)| .neq=>some (.b (!b))| _=>none
def Rp(P:Program)(E:Env)(op:BinOp)(t:Nat)(x y:ap):Option ap:=
 match x,y with
 | .i k a,.i fu b=>Rk op k fu a b| .s a,.s b=>Rl op a b| .b a,.b b=>Rm op (E t) a b| .a l,.a m=>Il P E op t l m
 |x,.sn=>bx (E t) none λi=>(match i.bQ with
  | .slice _=>bx (Rn x) none λb=>L4 op b
  |_=>none)
 |x,.pn=>bx (E t) none λi=>(match i.bQ with
  | .pointer _=>bx (Ro x) none λb=>L4 op b
  |_=>none)
 |_,_=>none
def w4{α:Type}:List α->Nat->Option α
 |[],_=>none| v::l,n=>bif Nat.beq n 0 then some v else w4 l (Nat.sub n 1)
def yI:List ap->Nat->List ap->Option (List ap)
 |cs,0,[]=>some cs
 |_::cs,0,v::vs=>match yI cs 0 vs with
  |some r=>some (v::r)| none=>none
 |c::cs,n+1,vs=>match yI cs n vs with
  |some r=>some (c::r)| none=>none
 |[],_,_=>none
def Ap(place:Nat->Option (Nat×Nat)):List ap->List (Nat×ap)->Option (List ap)
 |cells,[]=>some cells
 |cells,(i,v)::bo=>match place i with
  |none=>none
  |some (off,size)=>bif Nat.beq v.cells.length size then(match yI cells off v.cells with
   |some cs=>Ap place cs bo| none=>none)else none
def dv(an:bm ap):Operand->Option ap
 | .tmp t=>an.get t| .const v=>ES v| .global g=>some (.g g 0)| .func f=>some (.f f [] [])
def od(an:bm ap):List Operand->Option (List ap)
 |[]=>some []
 |x::xs=>match dv an x,od an xs with
  |some v,some l=>some (v::l)| _,_=>none
def EW(an:bm ap):List (Nat×Operand)->Option (List (Nat×ap))
 |[]=>some []
 |(i,x)::xs=>match dv an x,EW an xs with
  |some v,some l=>some ((i,v)::l)| _,_=>none
abbrev GT:=Nat->Option (bm ap)
def uf{R:Type}(G:GT)(m:bm fx)(x:ap)(n:Nat)(K:List ap->Option R):Option R:=match x with
 | .p id off=>(match m.get id with
  |some (.cells cs _ fN)=>bif Nat.ble (Nat.add off n) fN then cs.ER off n K else none| _=>none)
 | .g g off=>(match G g with
  |some cs=>cs.ER off n K| none=>none)
 |_=>none
def Im(x:ap)(n:Nat):Option ap:=match x with
 | .p id off=>some (.p id (Nat.add off n))| .g g off=>some (.g g (Nat.add off n))| _=>none
def L5(x:ap)(j sz:Nat):Option ap:=match x with
 | .sl id off n _=>bif Nat.blt j n then some (.p id (Nat.add off (Nat.mul j sz)))else none| .sx id off _ n=>bif Nat.blt j n then some (.p id (Nat.add off (Nat.mul j sz)))else none| .gs g off n _=>bif Nat.blt j n then some (.g g (Nat.add off (Nat.mul j sz)))else none| _=>none
def w5:ap->Option Nat
 | .sn | .so=>some 0| .sl _ _ n _ | .sx _ _ _ n | .gs _ _ n _=>some n| _=>none
def s6(v:ap):Option Nat:=match v with
 | .s l=>some l.length| v=>w5 v
def Rq(x:ap)(sz l:Nat)(h:Option Nat):Option ap:=match x with
 | .sn=>bif Nat.beq l 0&&Nat.beq (h.getD 0) 0 then some .sn else none
 | .sl id off n c=>let h:=h.getD n
  bif Nat.ble l h&&Nat.ble h c then bif Nat.beq c l then some (.sl id off (Nat.sub h l) 0)else some (.sl id (Nat.add off (Nat.mul l sz)) (Nat.sub h l) (Nat.sub c l))else none
 | .sx id off e n=>let h:=h.getD n
  bif Nat.ble l h&&Nat.ble h n then(bif Nat.beq l 0||Nat.blt l n then some (.sx id (Nat.add off (Nat.mul l sz)) (Nat.add e l) (Nat.sub h l))else some .so)else none
 |_=>none
def CF(o:Option (Option ap)):Option (Option Nat):=match o with
 |none=>some none
 |some (some v)=>(match v.nat with
  |some n=>some (some n)| none=>none)
 |some none=>none
def Rr(l:List UInt8)(lo hi:Nat):List UInt8:=(CD l lo).take (Nat.sub hi lo)
def ZK(c a b:Option ap):Option ap:=match c,a,b with
 |some (.b c),some u,some v=>some (b4 c u v)| _,_,_=>none
def ZL(op:UnOp)(x:Option ap):Option ap:=match op,x with
 | .not,some (.b b)=>some (.b (b4 b false true))| .neg,some (.i k n)=>some (.i k (w3 k (0-n)))| _,_=>none
def ZM(P:Program)(E:Env)(op:BinOp)(t:Nat)(x y:Option ap):Option ap:=bx x none λx=>bx y none λy=>Rp P E op t x y
def ZN(G:GT)(m:bm fx)(i:Option dR)(x:Option ap):Option ap:=bx i none λi=>bx x none λx=>uf G m x i.size λl=>EV i.bQ.agg l
def ZO(x:Option ap):Option ap:=match x with
 |some (.p id off)=>some (.p id off)| some (.g g off)=>some (.g g off)| _=>none
def L6(E:Env)(t i:Nat):Option (Nat×dR):=match E t with
 |some { bQ:=.struct cO,.. }=>(match w4 cO i with
  |some (fy,off)=>(match E fy with
   |some hv=>some (off,hv)| none=>none)
  |none=>none)
 |_=>none
def ZP(r:Option (Nat×dR))(x:Option ap):Option ap:=bx r none λr=>bx x none λx=>b4 (Nat.beq r.2.size 0) none (Im x r.1)
def L7(aG:dR)(cs:List ap)(off:Nat):Option ap:=b4 (Nat.beq aG.size 0) none <| bx (CC aG.size (CD cs off)) none λl=>EV aG.bQ.agg l
def ZQ(r:Option (Nat×dR))(x:Option ap):Option ap:=match r,x with
 |some (off,hv),some (.a cs)=>L7 hv cs off| _,_=>none
def Rs(E:Env)(t:Nat):Option (Option Nat×dR):=match E t with
 |some { bQ:=.slice e,.. }=>(match E e with
  |some aG=>some (none,aG)| none=>none)
 |some { bQ:=.array n e,.. }=>(match E e with
  |some aG=>some (some n,aG)| none=>none)
 |_=>none
def ZR(r:Option (Option Nat×dR))(x i:Option ap):Option ap:=bx r none λr=>bx x none λx=>bx i none λi=>bx i.nat none λj=>
 bx r.1 (L5 x j r.2.size) λn=>b4 (Nat.blt j n) (Im x (Nat.mul j r.2.size)) none
def Rt(l:List UInt8)(j:Nat):Option ap:=bx (w4 l j) none λb=>some (.i .u8 (.ofNat b.toNat))
def ZS(cs:List ap)(j n:Nat)(aG:dR):Option ap:=b4 (Nat.beq (Nat.mul n aG.size) cs.length&&Nat.blt j n) (L7 aG cs (Nat.mul j aG.size)) none
def Io(E:Env)(t:Nat)(x i:Option ap):Option ap:=match E t,x,i with
 |some { bQ:=.string,.. },some (.s l),some i=>bx i.nat none λj=>Rt l j
 |some { bQ:=.array n e,.. },some (.a cs),some i=>bx (E e) none λaG=>bx i.nat none λj=>ZS cs j n aG
 |_,_,_=>none
def Ip(o:Option (List ap)):Option ap:=bx o none λl=>some (.a l)
def ZT(E:Env)(t:Nat)(ps:Option (List (Nat×ap))):Option ap:=match E t,ps with
 |some i,some vs=>bx (yG i.zero) none λz=>(match i.bQ with
  | .struct cO=>b4 (DH E cO) (Ip (Ap (places E cO) z vs)) none| .array _ e=>bx (E e) none λaG=>Ip (Ap (λj=>some (j*aG.size,aG.size)) z vs)
  |_=>none)
 |_,_=>none
def ZU(f:Fn)(cO cs:Option (List ap)):Option ap:=match f,cO,cs with
 | .func g,some cO,some cs=>some (.f g cO cs)| _,_,_=>none
def Ru(aG:dR)(x:ap)(lo hi:Option Nat):Option ap:=match lo,hi with
 |none,none=>(match x with
  | .sn | .sl .. | .sx .. | .so=>some x| _=>none)
 |lo,hi=>Rq x aG.size (lo.getD 0) hi
def Rv(l:List UInt8)(lo hi:Option Nat):Option ap:=match lo,hi with
 |none,none=>some (.s l)| lo,hi=>b4 (Nat.ble (lo.getD 0) (hi.getD l.length)&&Nat.ble (hi.getD l.length) l.length) (some (.s (Rr l (lo.getD 0) (hi.getD l.length)))) none
def Iq(E:Env)(t:Nat)(x:Option ap)(lo hi:Option (Option Nat)):Option ap:=match E t,x,lo,hi with
 |some { bQ:=.slice e,.. },some x,some lo,some hi=>bx (E e) none λaG=>Ru aG x lo hi
 |some { bQ:=.string,.. },some (.s l),some lo,some hi=>Rv l lo hi| _,_,_,_=>none
def ZV(x:Option ap)(i:Nat):Option ap:=match x with
 |some (.t vs)=>w4 vs i| _=>none
def ZW(E:Env)(s d:Nat)(x:Option ap):Option ap:=match E s,E d,x with
 |some _,some { bQ:=.int k,.. },some (.i _ n)=>some (.i k (w3 k n))| _,_,_=>none
def L8(o:Option Nat):Option ap:=bx o none λn=>some (.i .i64 (.ofNat n))
def ZX(E:Env)(e7:List Nat)(l:Option (List ap)):Option ap:=match e7,l with
 |[t],some [v]=>(match E t,v with
  |some { bQ:=.slice _,.. },v=>L8 (w5 v)| some { bQ:=.string,.. },.s l=>L8 (some l.length)| some { bQ:=.array n _,.. },_=>L8 (some n)| _,_=>none)
 |_,_=>none
def ZY(l:Option (List ap)):Option ap:=match l with
 |some [.i k a,.i _ b]=>some (.i k (b4 (CB a b) b a))| _=>none
def ZZ(l:Option (List ap)):Option ap:=match l with
 |some [.i k a,.i _ b]=>some (.i k (b4 (CB a b) a b))| _=>none
def Z0(E:Env)(e7:List Nat)(l:Option (List ap)):Option ap:=match e7,l with
 |[t],some [.sl _ _ _ c]=>(match E t with
  |some { bQ:=.slice _,.. }=>some (.i .i64 (.ofNat c))| _=>none)
 |_,_=>none
def Z1(l:Option (List ap)):Option ap:=match l with
 |some [.sn]=>some .pn| some [.sl id off n c]=>b4 (Nat.beq c 0) none (some (.p id off))| some [.sx id off e n]=>b4 (Nat.beq n 0) none (some (.p id off))| _=>none
def Rw(E:Env)(b:Builtin)(e7:List Nat)(l:Option (List ap)):Option ap:=match b with
 | .len=>ZX E e7 l| .max=>ZY l| .min=>ZZ l| .cap=>Z0 E e7 l| .unsafeSliceData=>Z1 l| _=>none
def Rx(P:Program)(E:Env)(G:GT)(m:bm fx)(op:Op)(an:bm ap):Option ap:=
 match op with
 | .move x=>dv an x| .assign x=>dv an x| .pick c a b=>ZK (dv an c) (dv an a) (dv an b)| .unOp op _ x=>ZL op (dv an x)| .binOp op t x y _=>ZM P E op t (dv an x) (dv an y)| .load t x=>ZN G m (E t) (dv an x)| .nilCheck x=>ZO (dv an x)| .fieldAddr t x i=>ZP (L6 E t i) (dv an x)| .field t x i=>ZQ (L6 E t i) (dv an x)| .indexAddr t x i=>ZR (Rs E t) (dv an x) (dv an i)| .index t x i=>Io E t (dv an x) (dv an i)| .build t parts=>ZT E t (EW an parts.toList)| .makeFunc f first captured=>ZU f (od an first.toList) (od an captured.toList)
 | .slice t x lo hi none=>Iq E t (dv an x) (CF (lo.map (dv an))) (CF (hi.map (dv an)))| .extract x i=>ZV (dv an x) i| .convert s d x=>ZW E s d (dv an x)| .call { callee:=.builtin b,args,argTypes }=>Rw E b argTypes.toList (od an args.toList)| _=>none
def Ry(E:Env)(t:Nat)(x hi mx:Option ap):Option ap:=match E t,x,hi,mx with
 |some { bQ:=.slice e,.. },some (.sl id off n c),some (.i _ (.ofNat h)),some (.i _ (.ofNat k))=>bx (E e) none λaG=>
  b4 (Nat.ble h k&&(Nat.ble k c&&Nat.blt 0 k)) (some (.sl id off h k)) none
 |some { bQ:=.slice e,.. },some (.sx id off a7 n),some (.i _ (.ofNat h)),some (.i _ (.ofNat k))=>bx (E e) none λaG=>
  b4 (Nat.ble h k&&(Nat.ble k n&&Nat.blt 0 k)) (some (.sl id off h k)) none
 |_,_,_,_=>none
def Rz(E:Env)(t:Nat)(x lo hi mx:Option ap):Option ap:=match E t,x,lo,hi,mx with
 |some { bQ:=.slice e,.. },some (.sl id off n c),some (.i _ (.ofNat l)),some (.i _ (.ofNat h)),some (.i _ (.ofNat k))=>bx (E e) none λaG=>
  b4 (Nat.ble l h&&(Nat.ble h k&&(Nat.ble k c&&Nat.blt l k))) (some (.sl id (Nat.add off (Nat.mul l aG.size)) (Nat.sub h l) (Nat.sub k l))) none
 |_,_,_,_,_=>none
def RA(x:Option ap):Option ap:=match x with
 |some (.i .u64 n)=>some (.i .u64 (jA n))| _=>none
def vv(P:Program)(E:Env)(G:GT)(m:bm fx)(op:Op)(an:bm ap):Option ap:=
 match op with
 | .unOp .xor t x=>RA (dv an x)| .slice t x (some lo) (some hi) (some mx)=>Rz E t (dv an x) (dv an lo) (dv an hi) (dv an mx)| .slice t x none (some hi) (some mx)=>Ry E t (dv an x) (dv an hi) (dv an mx)| op=>Rx P E G m op an
def r5{R:Type}(n:Nat)(K:Nat->R):R:=Nat.casesOn (Nat.add n 1) (K 0) K
def Z2{R:Type}(n:Int)(K:Int->R):R:=match n with
 | .ofNat n=>r5 n λn=>K (.ofNat n)
 | .negSucc n=>r5 n λn=>K (.negSucc n)
def Z3{R:Type}(b:Bool)(K:Bool->R):R:=b4 b (K true) (K false)
def RB{R:Type}(v:ap)(K:ap->R):R:=match v with
 | .b x=>Z3 x λx=>K (.b x)
 | .i k n=>Z2 n λn=>K (.i k n)
 | .p id off=>r5 off λoff=>K (.p id off)
 | .g id off=>r5 off λoff=>K (.g id off)
 | .sl id off n c=>r5 off λoff=>r5 n λn=>r5 c λc=>K (.sl id off n c)
 | .sx id off e n=>r5 off λoff=>r5 e λe=>r5 n λn=>K (.sx id off e n)
 |v=>K v
def CG{R:Type}(m:bz)(e:fx)(K:Nat->bz->R):R:=r5 m.n λn=>m.t.nT (some e) n λt=>K n ⟨t,Nat.add n 1⟩
def vw{R:Type}(m:bz)(l:List ap)(T:Nat)(K:Nat->bz->R):R:=bm.yF l .nil 0 λcs=>CG m (.cells cs T l.length) K
def yJ{R:Type}(m:bz)(x:ap)(l:List ap)(K:bz->Option R):Option R:=match x with
 | .p id off=>(match m.t.get id with
  |some (.cells cs T fN)=>bif Nat.ble (Nat.add off l.length) fN&&l.all ap.one then bm.yF l cs off λcs=>m.t.nT (some (.cells cs T fN)) id λt=>K ⟨t,m.n⟩else none
  |_=>none)
 |_=>none
def CH:Nat->List ap->List ap
 |0,_=>[]| n+1,z=>z++CH n z
def EX(i:Option dR):Bool:=match i with
 |some { bQ:=.int .u8,.. }=>true| _=>false
def w6(u:Option dR)(aG:dR)(x:ap):Bool:=match u,x with
 |some { bQ:=.slice _,.. },.sn=>true| some { bQ:=.slice _,.. },.so=>true| some { bQ:=.slice _,.. },.sl ..=>true| some { bQ:=.slice _,.. },.sx ..=>true| some { bQ:=.string,.. },.s _=>Nat.beq aG.size 1| _,_=>false
def EY(G:GT)(m:bm fx)(x:ap)(sz:Nat){R:Type}(K:List ap->Option R):Option R:=match x with
 | .sn | .so=>K []| .sl id off n _ | .sx id off _ n=>uf G m (.p id off) (Nat.mul n sz) K| .s l=>K (l.map λb=>.i .u8 (.ofNat b.toNat))| _=>none
def RC(G:GT)(m:bz)(id off n c:Nat)(l:List ap)(k sz T:Nat):Option (ap×bz):=
 b4 (Nat.ble (Nat.add n k) c) (yJ m (.p id (Nat.add off (Nat.mul n sz))) l λm=>some (.sl id off (Nat.add n k) c,m)) (uf G m.t (.p id off) (Nat.mul n sz) λdK=>vw m (dK++l) T λid m=>some (.sx id 0 0 (Nat.add n k),m))
def RD(m:bz)(id:Nat)(n:Nat)(cs:bm ap)(fN:Nat)(l:List ap)(k sz T:Nat):Option (ap×bz):=
 b4 (Nat.ble (Nat.mul n sz) fN) (m.t.nT none id λt=>bm.yF l cs (Nat.mul n sz) λcs=>CG ⟨t,m.n⟩ (.cells cs T (Nat.mul (Nat.add n k) sz)) λid m=>some (.sx id 0 0 (Nat.add n k),m)) none
def Ir(G:GT)(m:bz)(s:ap)(l:List ap)(k sz bytes T:Nat):Option (ap×bz):=match s with
 | .sn=>b4 (Nat.ble (Nat.mul k bytes) 140737488355328&&Nat.ble k 9223372036854775807) (vw m l T λid m=>some (.sx id 0 0 k,m)) none| .sl id off n c=>b4 (Nat.ble (Nat.mul (Nat.add n k) bytes) 140737488355328&&Nat.ble (Nat.add n k) 9223372036854775807) (RC G m id off n c l k sz T) none
 | .sx id off e n=>(match m.t.get id with
  |some (.cells cs ml fN)=>b4 ((Nat.beq off 0&&Nat.beq e 0)&&(Nat.beq ml T&&(Nat.ble (Nat.mul (Nat.add n k) bytes) 140737488355328&&Nat.ble (Nat.add n k) 9223372036854775807))) (RD m id n cs fN l k sz T) none| _=>none)
 |_=>none
def Is:List ap->List UInt8->Option (List UInt8)
 |[],aZ=>some aZ.reverse| .i .u8 (.ofNat n)::l,aZ=>bif Nat.ble n 255 then Is l (UInt8.ofNat n::aZ)else none| _,_=>none
def RE(l:List ap):Option (List UInt8):=Is l []
def It:ap->List (ap×ap)->Option (Option ap)
 |_,[]=>some none
 |k,(x,v)::l=>match EU k x with
  |some true=>some (some v)| some false=>It k l| none=>none
def Iu(k v:ap):List (ap×ap)->Option (List (ap×ap))
 |[]=>some [(k,v)]
 |(x,u)::l=>match EU k x with
  |some true=>some ((k,v)::l)
  |some false=>(match Iu k v l with
   |some r=>some ((x,u)::r)| none=>none)
  |none=>none
abbrev l8:=Nat->List ap->bz->Option (ap×bz)
structure gU where
 P:Program
 E:Env
 G:GT
 pr:l8
def Z4(i:Option dR)(t:Nat)(x:Option ap):Option (List ap×Nat×Nat×(Nat->ap)):=bx i none λi=>bx x none λv=>b4 (Nat.beq v.cells.length i.size) (some (v.cells,t,1,λid=>.p id 0)) none
def Z5(i:Option dR)(t:Nat):Option (List ap×Nat×Nat×(Nat->ap)):=bx i none λi=>bx (yG i.zero) none λz=>some (z,t,1,λid=>.p id 0)
def Z6(E:Env)(t len:Nat)(ps:Option (List (Nat×ap))):Option (List ap×Nat×Nat×(Nat->ap)):=match E t,ps with
 |some { bQ:=.slice e,.. },some vs=>bx (E e) none λaG=>bx (yG aG.zero) none λz=>
  b4 (Nat.ble (Nat.mul len aG.size) 16777216&&Nat.blt 0 (Nat.mul len aG.size)) (bx (Ap (λj=>some (j*aG.size,aG.size)) (CH len z) vs) none λcs=>some (cs,e,len,λid=>.sl id 0 len len)) (b4 (Nat.beq len 0&&vs.isEmpty) (some ([],e,0,λid=>.sl id 0 0 0)) none)
 |_,_=>none
def Z7(E:Env)(t:Nat)(l c:Option ap):Option (List ap×Nat×Nat×(Nat->ap)):=match E t,l,c with
 |some { bQ:=.slice e,.. },some l,some c=>bx (E e) none λaG=>bx l.nat none λn=>bx c.nat none λk=>bx (yG aG.zero) none λz=>
  b4 (Nat.ble n k&&(Nat.ble (Nat.mul aG.bytes k) 140737488355328&&Nat.ble k 9223372036854775807)) (some (CH k z,e,k,λid=>.sl id 0 n k)) none
 |_,_,_=>none
def CI(E:Env)(o:Oper)(an:bm ap):Option (List ap×Nat×Nat×(Nat->ap)):=
 match o.op with
 | .box t x=>Z4 (E t) t (dv an x)| .alloc t=>Z5 (E t) t| .buildSlice t len parts=>Z6 E t len (EW an parts.toList)| .makeSlice t l c=>Z7 E t (dv an l) (dv an c)| _=>none
def L9(i:Option dR)(m:bz)(x y:Option ap):Option (ap×bz):=bx i none λi=>bx x none λx=>bx y none λv=>b4 (Nat.beq v.cells.length i.size) (yJ m x v.cells λm=>some (.t [],m)) none
def L'(i:Option dR)(m:bz):Option (ap×bz):=match i with
 |some { bQ:=.map k e,.. }=>CG m (.map []) λid m=>some (.m id,m)
 |_=>none
def Ma(i:Option dR)(v:ap):Bool:=match i,v with
 |some { bQ:=.int k,.. },.i fu _=>IntKind.lP k fu| some { bQ:=.string,.. },.s _=>true| _,_=>false
def Z8(ok:Bool)(z:ap)(r:Option ap):ap:=b4 ok (bx r (.t [z,.b false]) λv=>.t [v,.b true]) (bx r z λv=>v)
def RF(P:Program)(E:Env)(t:Nat)(m:bz)(x y:Option ap)(ok:Bool):Option (ap×bz):=match E t,x,y with
 |some { bQ:=.map k e,.. },some (.m id),some y=>b4 (Ma (E k) y) (match m.t.get id with
  |some (.map es)=>bx (It y es) none λr=>bx (P.info? e) none λinf=>bx inf.zero none λz=>bx (ES z) none λz=>some (Z8 ok z r,m)
  |_=>none) none
 |_,_,_=>none
def Iv(E:Env)(t:Nat)(m:bz)(x y z:Option ap):Option (ap×bz):=match E t,x,y,z with
 |some { bQ:=.map k e,.. },some (.m id),some y,some v=>b4 (Ma (E k) y) (match m.t.get id with
  |some (.map es)=>bx (Iu y v es) none λes=>m.t.nT (some (.map es)) id λt=>some (.t [],⟨t,m.n⟩)
  |_=>none) none
 |_,_,_,_=>none
def Mb(G:GT)(m:bz)(id off n:Nat):Option (ap×bz):=uf G m.t (.p id off) n λl=>bx (RE l) none λl=>some (.s l,m)
def Mc(Y:gU)(m:bz)(s d:Nat)(x:Option ap):Option (ap×bz):=match Y.E s,Y.E d,x with
 |some { bQ:=.slice e,.. },some { bQ:=.string,.. },some (.sl id off n _)=>b4 (EX (Y.E e)) (Mb Y.G m id off n) none| some { bQ:=.slice e,.. },some { bQ:=.string,.. },some (.sx id off _ n)=>b4 (EX (Y.E e)) (Mb Y.G m id off n) none| some { bQ:=.slice e,.. },some { bQ:=.string,.. },some .sn=>b4 (EX (Y.E e)) (some (.s [],m)) none| _,_,_=>none
def EZ:ap->Bool
 | .sn | .so | .sx ..=>true| .sl _ _ n c=>Nat.ble n c| _=>false
def RG(Y:gU)(m:bz)(e7:List Nat)(l:Option (List ap)):Option (ap×bz):=match e7,l with
 |[t,u],some [s,x]=>(match Y.E t with
  |some { bQ:=.slice e,.. }=>bx (Y.E e) none λaG=>b4 (w6 (Y.E u) aG x) (EY Y.G m.t x aG.size λl=>bx (s6 x) none λk=>
    b4 (Nat.beq k 0) (b4 (EZ s) (some (s,m)) none) (b4 (l.all ap.one) (Ir Y.G m s l k aG.size aG.bytes e) none)) none
  |_=>none)
 |_,_=>none
def RH(Y:gU)(m:bz)(e7:List Nat)(l:Option (List ap)):Option (ap×bz):=match e7,l with
 |[t,u],some [.sl id off n c,.s q]=>(match Y.E t with
  |some { bQ:=.slice e,.. }=>bx (Y.E e) none λaG=>b4 (Nat.beq aG.size 1&&Nat.ble q.length n) (yJ m (.p id off) (q.map λb=>.i .u8 (.ofNat b.toNat)) λm=>some (.i .i64 (.ofNat q.length),m)) none
  |_=>none)
 |_,_=>none
def RI(Y:gU)(m:bz)(e7:List Nat)(l:Option (List ap)):Option (ap×bz):=match e7,l with
 |[uU,it],some [.pn,.i .i64 (.ofNat 0)]=>some (.s [],m)
 |[uU,it],some [.p id 0,.i .i64 (.ofNat n)]=>(match Y.E uU,m.t.get id with
  |some { bQ:=.pointer e,.. },some (.cells cs T fN)=>bx (Y.E e) none λaG=>
   b4 (Nat.beq aG.size 1&&(Nat.beq T e&&Nat.blt 0 n)) (uf Y.G m.t (.p id 0) n λl=>bx (RE l) none λl=>b4 (Nat.ble n 9223372036854775807) (m.t.nT none id λt=>some (.s l,⟨t,m.n⟩)) none) none
  |_,_=>none)
 |_,_=>none
def Z9(Y:gU)(m:bz)(b:Builtin)(e7:List Nat)(l:Option (List ap)):Option (ap×bz):=match b with
 | .append=>RG Y m e7 l| .copy=>RH Y m e7 l| .unsafeString=>RI Y m e7 l| _=>none
def RJ(Y:gU)(m:bz)(o:Oper)(an:bm ap):Option (ap×bz):=
 match o.op with
 | .store t x y=>bx o.dst (L9 (Y.E t) m (dv an x) (dv an y)) λ_=>none
 | .makeMap t none=>L' (Y.E t) m
 | .makeMap t (some x)=>(match dv an x with
  |some (.i _ _)=>L' (Y.E t) m| _=>none)
 | .lookup t x y ok=>RF Y.P Y.E t m (dv an x) (dv an y) ok| .mapUpdate t x y z=>bx o.dst (Iv Y.E t m (dv an x) (dv an y) (dv an z)) λ_=>none
 | .insert t x y z=>bx o.dst (Iv Y.E t m (dv an x) (dv an y) (dv an z)) λ_=>none
 | .convert s d x=>Mc Y m s d (dv an x)| .call { callee:=.builtin b,args,argTypes }=>Z9 Y m b argTypes.toList (od an args.toList)| _=>none
def lC(E:Env)(op:Op):Nat:=match op with
 | .move _ | .assign _ | .pick .. | .binOp .. | .load .. | .nilCheck _ | .fieldAddr .. | .field .. | .indexAddr .. | .index .. | .build .. | .makeFunc .. | .extract .. | .unOp .. | .slice ..=>0| .alloc _ | .box .. | .buildSlice .. | .makeSlice ..=>1
 | .convert s d _=>(match E d with
  |some { bQ:=.int _,.. }=>0| _=>2)
 | .call { callee:=.builtin .len,argTypes,.. }=>(match argTypes.toList with
  |[t]=>(match E t with
   |some { bQ:=.map ..,.. }=>2| _=>0)
  |_=>2)
 | .call { callee:=.builtin .cap,.. }=>0| .call { callee:=.builtin .max,.. }=>0| .call { callee:=.builtin .min,.. }=>0| .call { callee:=.builtin .unsafeSliceData,.. }=>0| _=>2
def p6{R:Type}(dst:Option Nat)(an:bm ap)(v:ap)(K:bm ap->Option R):Option R:=bx dst (K an) λd=>RB v λv=>an.nT (some v) d K
def Z'{R:Type}(call:ap->List ap->bz->Option (ap×bz))(dst:Option Nat)(f:Option ap)(l:Option (List ap))(an:bm ap)(m:bz)(K:bm ap->bz->Option R):Option R:=
 bx f none λf=>bx l none λl=>bx (call f l m) none λr=>b4 (Nat.ble m.n r.2.n) (p6 dst an r.1 λan=>K an r.2) none
def aaa{R:Type}(dst:Option Nat)(r:Option (List ap×Nat×Nat×(Nat->ap)))(an:bm ap)(m:bz)(K:bm ap->bz->Option R):Option R:=
 bx dst none λd=>bx r none λr=>vw m r.1 r.2.1 λid m=>p6 (some d) an (r.2.2.2 id) λan=>K an m
def aab{R:Type}(dst:Option Nat)(v:Option ap)(an:bm ap)(m:bz)(K:bm ap->bz->Option R):Option R:=
 bx v none λv=>p6 dst an v λan=>K an m
def aac{R:Type}(dst:Option Nat)(n:Nat)(r:Option (ap×bz))(an:bm ap)(K:bm ap->bz->Option R):Option R:=
 bx r none λr=>b4 (Nat.ble n r.2.n) (p6 dst an r.1 λan=>K an r.2) none
def aad{R:Type}(Y:gU)(k:Nat)(o:Oper)(an:bm ap)(m:bz)(K:bm ap->bz->Option R):Option R:=match k with
 |0=>aab o.dst (vv Y.P Y.E Y.G m.t o.op an) an m K| 1=>aaa o.dst (CI Y.E o an) an m K| _=>aac o.dst m.n (RJ Y m o an) an K
def Aq{R:Type}(Y:gU)(call:ap->List ap->bz->Option (ap×bz))(o:Oper)(an:bm ap)(m:bz)(K:bm ap->bz->Option R):Option R:=
 match o.op with
 | .call { callee:=.value f,args,.. }=>Z' call o.dst (dv an f) (od an args.toList) an m K| op=>aad Y (lC Y.E op) o an m K
def CJ{R:Type}(o:Oper)(an:bm ap)(K:bm ap->Option R):Option R:=match o.dst with
 |none=>K an| some d=>an.nT (some (.t [])) d K
def vx(ops:List Oper)(o:Oper)(an:bm ap):Option Bool:=match o.guard with
 |none=>some true
 |some (j,b)=>match(w4 ops j).bind (·.dst)with
  |none=>none
  |some d=>match an.get d with
   |some (.b c)=>some (c == b)| some (.t _)=>some false| _=>none
def E0(Y:gU)(call:ap->List ap->bz->Option (ap×bz))(ops:List Oper)(l:List Oper):bm ap->bz->Option (bm ap×bz):=
 @List.rec Oper (λ_=>bm ap->bz->Option (bm ap×bz)) (λan m=>some (an,m)) (λo _ aN an m=>bx (vx ops o an) none λw=>b4 w (Aq Y call o an m aN) (CJ o an λan=>aN an m)) l
def CK(E:Env)(ops:List Oper)(i:Nat):Nat:=bx (w4 ops i) 2 λo=>lC E o.op
def yK(E:Env)(ops:List Oper):List Nat:=(List.range ops.length).filter λi=>Nat.beq (CK E ops i) 2
def E1(es g0:List Nat)(i:Nat):Nat:=(es.filter λe=>(g0.getD i 0).testBit e).length
def lD(es g0:List Nat)(i:Nat):Nat:=(es.filter λe=>!(g0.getD e 0).testBit i).length
def aae(E:Env)(ops:List Oper)(es g0:List Nat)(j:Nat):List (Nat×Nat):=((List.range ops.length).filter λi=>!Nat.beq (CK E ops i) 2&&Nat.beq (E1 es g0 i) j).map λi=>(i,CK E ops i)
def aaf(E:Env)(ops:List Oper)(es g0:List Nat):List Nat->Nat->List (Nat×Nat)
 |[],j=>aae E ops es g0 j| e::l,j=>aae E ops es g0 j++(e,2)::aaf E ops es g0 l (j+1)
def Iw(E:Env)(ops:List Oper):List (Nat×Nat):=aaf E ops (yK E ops) (ll ops) (yK E ops) 0
def w7(ops:List Oper):List (Nat×Nat)->Nat->Bool
 |[],k=>Nat.beq k (2^ops.length-1)
 |(i,_)::l,k=>!k.testBit i&&(match ops[i]? with
  |some o=>GW o k&&w7 ops l (k ||| 2^i)| none=>false)
def Md(g0:List Nat):List Nat->Bool
 |[]=>true| x::l=>l.all (λy=>(g0.getD y 0).testBit x)&&Md g0 l
def aag(E:Env)(ops:List Oper):Bool:=BL ops&&(w7 ops (Iw E ops) 0&&(Md (ll ops) (yK E ops)&&(((Iw E ops).filter λr=>Nat.beq r.2 2).map (·.1) == yK E ops)))
mutual
def E2:ap->ap->Bool
 | .b x,.b w=>x == w| .i k x,.i l w=>IntKind.lP k l&&s5 x w| .s x,.s w=>vu x w| .pn,.pn=>true| .p i x,.p j w=>Nat.beq i j&&Nat.beq x w| .g i x,.g j w=>Nat.beq i j&&Nat.beq x w| .sn,.sn=>true| .sl i x n c,.sl j w m d=>Nat.beq i j&&(Nat.beq x w&&(Nat.beq n m&&Nat.beq c d))| .sx i x n c,.sx j w m d=>Nat.beq i j&&(Nat.beq x w&&(Nat.beq n m&&Nat.beq c d))| .gs i x n c,.gs j w m d=>Nat.beq i j&&(Nat.beq x w&&(Nat.beq n m&&Nat.beq c d))| .mn,.mn=>true| .m i,.m j=>Nat.beq i j| .f g l r,.f h m s=>Nat.beq g h&&(w8 l m&&w8 r s)| .y i,.y j=>Nat.beq i j| .fn,.fn=>true| .ni,.ni=>true| .t l,.t m=>w8 l m| .a l,.a m=>w8 l m| _,_=>false
def w8:List ap->List ap->Bool
 |[],[]=>true| x::l,w::m=>E2 x w&&w8 l m| _,_=>false
end
inductive qV where
 |made(i id:Nat)(l:List ap)(T:Nat)| load (i:Nat) (o:Oper) (an:bm ap) (v:ap)
def o6(Y:gU)(call:ap->List ap->bz->Option (ap×bz))(ops:List Oper):List (Nat×Nat)->bm ap->bz->List bz->List qV->Option (bm ap×bz×List bz×List qV)
 |[],an,m,S,A=>some (an,m,m::S,A)|(i,k)::bo,an,m,S,A=>bx (w4 ops i) none λo=>bx (vx ops o an) none λw=>b4 (Nat.beq (lC Y.E o.op) k) (b4 w (b4 (Nat.beq k 0) (bx (vv Y.P Y.E Y.G m.t o.op an) none λv=>p6 o.dst an v λdd=>o6 Y call ops bo dd m S (b4 (qz o.op) (.load i o an v::A) A)) (b4 (Nat.beq k 1) (bx o.dst none λd=>bx (CI Y.E o an) none λr=>vw m r.1 r.2.1 λid m=>p6 (some d) an (r.2.2.2 id) λan=>o6 Y call ops bo an m S (.made i id r.1 r.2.1::A)) (Aq Y call o an m λan m'=>o6 Y call ops bo an m' (m::S) A))) (CJ o an λan=>o6 Y call ops bo an m (b4 (Nat.beq k 2) (m::S) S) A)) none
def E3(S:List bz)(lo hi:Nat)(p:bz->Bool):Bool:=((S.drop lo).take (hi+1-lo)).all p
def RK(Y:gU)(o:Oper)(an:bm ap)(v:ap)(m:bz):Bool:=match vv Y.P Y.E Y.G m.t o.op an with
 |some u=>E2 u v| none=>false
def RL(id:Nat)(l:List ap)(T:Nat)(m:bz):Bool:=Nat.blt id m.n&&(match m.t.get id with
 |some (.cells cs ml fN)=>Nat.beq ml T&&(Nat.beq fN l.length&&(match cs.ER 0 l.length (λdC=>some dC)with
  |some dC=>w8 l dC| none=>false))
 |_=>false)
def RM(Y:gU)(es g0:List Nat)(S:List bz):qV->Bool
 | .made i id l T=>E3 S (E1 es g0 i) (lD es g0 i) (RL id l T)| .load i o an v=>E3 S (E1 es g0 i) (lD es g0 i) (RK Y o an v)
def RN(Y:gU)(call:ap->List ap->bz->Option (ap×bz))(ops:List Oper)(an:bm ap)(m:bz):Option (bm ap×bz):=
 b4 (aag Y.E ops) (match o6 Y call ops (Iw Y.E ops) an m [] []with
  |none=>none| some (an,m,S,A)=>b4 (A.all (RM Y (yK Y.E ops) (ll ops) S.reverse)) (some (an,m)) none) none
def E4{R:Type}:List Nat->List ap->bm ap->(bm ap->Option R)->Option R
 |[],[],an,K=>K an| t::ps,v::vs,an,K=>an.nT (some v) t λan=>E4 ps vs an K
 |_,_,_,_=>none
def Ar(Y:gU)(an:bm ap)(m:bm fx):List ResultVar->Option (List ap)
 |[]=>some []
 | .tmp t::l=>(match an.get t,Ar Y an m l with
  |some v,some vs=>some (v::vs)| _,_=>none)
 | .cell t ty::l=>(match an.get t,Y.E ty,Ar Y an m l with
  |some x,some i,some vs=>(match uf Y.G m x i.size λl=>EV i.bQ.agg l with
   |some v=>some (v::vs)| none=>none)
  |_,_,_=>none)
abbrev p7:=tv×bm ap×bz
abbrev ug:=Bool->Nat->Code->bm ap->bz->Option p7
def aah:List ap->ap
 |[v]=>v| vs=>.t vs
def Me(Y:gU)(an:bm ap)(m:bz)(ba:List ResultVar):Option (ap×bz):=bx (Ar Y an m.t ba) none λvs=>some (aah vs,m)
def aai(Y:gU)(r:Option p7)(ba:List ResultVar):Option (ap×bz):=match r with
 |some (.normal,an,m)=>Me Y an m ba| some (.ret,an,m)=>Me Y an m ba| _=>none
def Mf(Y:gU)(rec:ug)(g:Nat)(args:List ap)(m:bz):Option (ap×bz):=
 bx (Y.P.funcs[g]?) none λfn=>bx fn.body none λc=>b4 (Nat.ble args.length fn.ntmps) (bm.yF args (bm.bare 12) 0 λan=>aai Y (rec true fn.ntmps c an m) fn.results.toList) none
def yL(Y:gU)(rec:ug)(g:Nat)(args:List ap)(m:bz):Option (ap×bz):=bx (Y.pr g args m) (Mf Y rec g args m) some
def RO(l:Nat)(e:Option fx)(jump:Option Code)(m:bz):Option (ap×bz):=match e with
 |some (.loop true n nd ps fj body)=>m.t.nT (some (bx jump (.loop false n nd ps fj body) λc=>.done c n nd ps fj body)) l λt=>some (.b jump.isNone,⟨t,m.n⟩)
 |_=>none
def aaj(l:Nat)(r:Option p7):Option (ap×bz):=bx r none λr=>RO l (r.2.2.t.get l) (D2 r.1) r.2.2
def RP(rec:ug)(l n:Nat)(body:Code)(e:Option fx)(an:bm ap)(m:bz):Option (ap×bz):=match e with
 |some (.loop false gA nd ps fj RQ)=>m.t.nT (some (.loop true gA nd ps fj RQ)) l λt=>aaj l (rec false n body an ⟨t,m.n⟩)
 |_=>none
def aak(rec:ug)(l n:Nat)(body:Code)(r:Option p7):Option (ap×bz):=match r with
 |some (.normal,an,m)=>RP rec l n body (m.t.get l) an m| _=>none
def RR(rec:ug)(l:Nat)(args:List ap)(m:bz):Option (ap×bz):=match m.t.get l with
 |some (.loop false n nd ps fj body)=>E4 ps args nd λan=>aak rec l n body (rec false n fj an m)
 |_=>none
def Mg(Y:gU)(rec:ug)(f:ap)(args:List ap)(m:bz):Option (ap×bz):=match f with
 | .f g l r=>yL Y rec g (l++(args++r)) m| .y l=>RR rec l args m| _=>none
def RS:Code->Option tv
 | .exit id=>some (.exit id)| .goto l=>some (.goto l)| .ret=>some .ret| _=>none
def Ix(r:Option p7)(k:bm ap->bz->Option p7):Option p7:=match r with
 |some (.normal,an,m)=>k an m| r=>r
def aal(id:Nat)(r:Option p7):Option p7:=match r with
 |some (.exit j,an,m)=>b4 (Nat.beq j id) (some (.normal,an,m)) (some (.exit j,an,m))| r=>r
def Mh(r:Option (bm ap×bz)):Option p7:=bx r none λr=>some (.normal,r.1,r.2)
def aam(v:Option ap)(x y:Option p7):Option p7:=match v with
 |some (.b b)=>b4 b x y| _=>none
def Iy(rec:ug)(gF:Bool)(n:Nat)(c:Code)(k:Nat):Code->bm ap->bz->Option p7:=@Nat.rec (λ_=>Code->bm ap->bz->Option p7) (λ_ _ _=>none)
 (λ_ aN x an m=>match rec gF n x an m with
  |some (.goto l,an,m)=>bx (findLabel c l) none λbo=>aN bo an m
  |r=>r) k
def aan(l:Nat)(an:bm ap)(r:Option (ap×bz)):Option p7:=bx r none λr=>match r.2.t.get l with
 |some (.loop false ..)=>r.2.t.nT none l λt=>some (.normal,an,⟨t,r.2.n⟩)
 |some (.done c ..)=>bx (RS c) none λex=>r.2.t.nT none l λt=>some (ex,an,⟨t,r.2.n⟩)
 |_=>none
def RT(Y:gU)(rec:ug)(gF:Bool)(n:Nat)(v:Option ap)(ps:List Nat)(fj body:Code)(an:bm ap)(m:bz):Option p7:=match gF,v with
 |true,some (.f g [] r)=>CG m (.loop false n an ps fj body) λl m=>aan l an (Mf Y rec g (.y l::r) m)
 |_,_=>none
def RU(Y:gU)(f:Nat)(rec:ug):ug:=λgF n c an m=>match c with
 | .skip=>some (.normal,an,m)| .label _=>some (.normal,an,m)| .ret=>some (.ret,an,m)| .exit id=>some (.exit id,an,m)| .goto l=>some (.goto l,an,m)| .seq x y=>Ix (rec gF n x an m) (rec gF n y)| .block id c=>aal id (rec gF n c an m)| .cond c x y=>aam (dv an c) (rec gF n x an m) (rec gF n y an m)| .loop c=>Ix (rec gF n c an m) (rec gF n (.loop c))| .region _ ops false=>Mh (E0 Y (Mg Y rec) ops.toList ops.toList an m)| .region _ ops true=>Mh (RN Y (Mg Y rec) ops.toList an m)| .scope c=>Iy rec gF n c f c an m| .rangeFunc x ps fj body=>RT Y rec gF n (dv an x) ps.toList fj body an m| .refuse _=>none
def lE(Y:gU)(f:Nat):ug:=@Nat.rec (λ_=>ug) (λ_ _ _ _ _=>none) (λf aN=>RU Y f aN) f
end
section
variable{α R:Type}
def kx{α:Type}(b:Bool)(x y:α):b4 b x y=bif b then x else y:=by cases b<;>rfl
def cy{α R:Type}{o:Option α}{f:α->Option R}{r:R}(h:bx o none f=some r):∃ v,o=some v/\f v=some r:=by
 cases o with
 |none=>cases h| some v=>exact⟨v,rfl,h⟩
def fZ{α:Type}{x:Option α}{r:α}(h:b4 b x none=some r):b=true/\x=some r:=by
 cases b with
 |true=>exact⟨rfl,h⟩| false=>cases h
def As{α:Type}{x:Option α}{r:α}(h:b4 b none x=some r):b=false/\x=some r:=by
 cases b with
 |false=>exact⟨rfl,h⟩| true=>cases h
def bm.Iz(x:Option α)(l r:bm α)(k:Nat):(bm.node x l r).get k=bif Nat.beq k 0 then x else bif Nat.beq (k%2) 1 then l.get (k/2)else r.get (k/2-1):=by show b4 _ _ (b4 _ _ _)=_;rw[kx,kx];rfl
def bm.o7(v:Option α):∀ (t:bm α) (k:Nat),∃ bf:bm α,(∀ {R:Type} (K:bm α->R),t.nT v k K=K bf)/\∀ j x,bf.get j=some x->(j=k/\v=some x)\/(j≠k/\t.get j=some x)
 | .nil,k=>by
  cases ae:Nat.beq k 0 with
  |true=>
   have:=dJ ae;subst this;refine⟨.node v .nil .nil,λK=>rfl,λj x h=>?_⟩;rw[bm.Iz]at h;cases ak:Nat.beq j 0 with
   |true=>rw[ak]at h;exact .inl ⟨dJ ak,h⟩
   |false=>
    rw[ak]at h;cases hm:Nat.beq (j%2) 1<;>(rw[hm]at h;cases h)
  |false=>refine⟨.nil,λK=>?_,λj x h=>by cases h⟩;show b4 _ _ _=_;rw[kx,ae];rfl
 | .node x l r,k=>by
  cases ae:Nat.beq k 0 with
  |true=>
   have:=dJ ae;subst this;refine⟨.node v l r,λK=>rfl,λj y h=>?_⟩;rw[bm.Iz]at h |-;cases ak:Nat.beq j 0 with
   |true=>rw[ak]at h;exact .inl ⟨dJ ak,h⟩| false=>rw[ak]at h;exact .inr ⟨(λe=>by subst e;cases ak),h⟩
  |false=>
   have lv:k≠0:=λe=>by subst e;cases ae
   cases hm:Nat.beq (k%2) 1 with
   |true=>
    have sH:=dJ hm;obtain⟨dC,aa,ab⟩:=bm.o7 v l (k/2);refine⟨.node x dC r,λK=>?_,λj y h=>?_⟩;·show b4 _ _ (b4 _ _ _)=_;rw[kx,kx,ae];show(bif Nat.beq (k%2) 1 then _ else _)=_;rw[hm];exact aa _
    ·rw[bm.Iz]at h |-;cases ak:Nat.beq j 0 with
     |true=>rw[ak]at h;exact .inr ⟨λe=>by have:=dJ ak;omega,h⟩
     |false=>
      rw[ak]at h;have RV:j≠0:=λe=>by subst e;cases ak
      cases uh:Nat.beq (j%2) 1 with
      |true=>
       have alV:=dJ uh;rw[uh]at h;rcases ab _ _ h with⟨e,aj⟩ | ⟨e,aj⟩;·exact .inl ⟨by omega,aj⟩
       ·exact .inr ⟨λcU=>e (by rw[cU]),aj⟩
      |false=>rw[uh]at h;exact .inr ⟨(λe=>by subst e;rw[hm]at uh;cases uh),h⟩
   |false=>
    have sH:k%2≠1:=λe=>by rw[e]at hm;cases hm
    obtain⟨mR,aa,ab⟩:=bm.o7 v r (k/2-1);refine⟨.node x l mR,λK=>?_,λj y h=>?_⟩;·show b4 _ _ (b4 _ _ _)=_;rw[kx,kx,ae];show(bif Nat.beq (k%2) 1 then _ else _)=_;rw[hm];exact aa _
    ·rw[bm.Iz]at h |-;cases ak:Nat.beq j 0 with
     |true=>rw[ak]at h;exact .inr ⟨λe=>by have:=dJ ak;omega,h⟩
     |false=>
      rw[ak]at h;have RV:j≠0:=λe=>by subst e;cases ak
      cases uh:Nat.beq (j%2) 1 with
      |true=>rw[uh]at h;exact .inr ⟨(λe=>by subst e;rw[hm]at uh;cases uh),h⟩
      |false=>
       have alV:j%2≠1:=λe=>by rw[e]at uh;cases uh
       rw[uh]at h;rcases ab _ _ h with⟨e,aj⟩ | ⟨e,aj⟩;·exact .inl ⟨by omega,aj⟩
       ·exact .inr ⟨λcU=>e (by rw[cU]),aj⟩
def bm.E5(t:bm α):∀ (n off:Nat) (K:List α->Option R) (r:R),t.ER off n K=some r->∃ l,l.length=n/\(∀ i,i<n->t.get (off+i)=l[i]?)/\K l=some r
 |0,off,K,r,h=>⟨[],rfl,λi hi=>by omega,h⟩
 |n+1,off,K,r,h=>by
  have bj:bx (t.get off) none (λv=>t.ER (off+1) n λl=>K (v::l))=some r:=h;obtain⟨v,aj,bj⟩:=cy bj;obtain⟨l,aa,ab,ai⟩:=bm.E5 t n (off+1) _ r bj;refine⟨v::l,by simp[aa],λi hi=>?_,ai⟩;cases i with
  |zero=>simpa using aj| succ i=>have:=ab i (by omega);rw[show off+(i+1)=off+1+i by omega,this];simp
def bm.yM:∀ (l:List α) (t:bm α) (off:Nat),∃ bf:bm α,(∀ {R:Type} (K:bm α->R),bm.yF l t off K=K bf) /\ ∀ j x,bf.get j=some x->(off<=j/\l[j-off]?=some x)\/((j<off\/off+l.length<=j)/\t.get j=some x)
 |[],t,off=>⟨t,λK=>rfl,λj x h=>.inr ⟨by simp;omega,h⟩⟩
 |v::l,t,off=>by
  obtain⟨t1,aa,ab⟩:=bm.o7 (some v) t off;obtain⟨t2,ai,aL⟩:=bm.yM l t1 (off+1);refine⟨t2,λK=>(aa _).trans (ai K),λj x h=>?_⟩;rcases aL j x h with⟨a',bg⟩ | ⟨a',bg⟩;·exact .inl ⟨by omega,by rw[show j-off=(j-(off+1))+1 by omega];simpa using bg⟩
  ·rcases ab j x bg with⟨rfl,e⟩ | ⟨e,b5⟩
   ·exact .inl ⟨b2 _,by simp at e;simp[e]⟩
   ·exact .inr ⟨by simp only[eo];omega,b5⟩
end
def RW(n:Nat)(K:Nat->R):r5 n K=K n:=rfl
def alW(n:Int)(K:Int->R):Z2 n K=K n:=by cases n<;>rfl
def alX(b:Bool)(K:Bool->R):Z3 b K=K b:=by cases b<;>rfl
def alY(v:ap)(K:ap->R):RB v K=K v:=by
 cases v with
 |b x=>exact alX x λx=>K (.b x)
 |i k n=>exact alW n λn=>K (.i k n)
 |_=>rfl
def RX(a b:Nat):Nat.beq a b=decide (a=b):=by
 by_cases h:a=b
 ·subst h;simp
 ·rw[hF h];simp[h]
def Mi(a b:Nat):Nat.ble a b=decide (a<=b):=by
 by_cases h:a<=b
 ·rw[EL h];simp[h]
 ·cases ag:Nat.ble a b with
  |false=>simp[h]| true=>exact absurd (bK ag) h
def CL(a b:Int):s5 a b=decide (a=b):=by
 cases a<;>cases b<;>simp only[s5,RX]<;>simp
 omega
def Mj(a b:Int):CB a b=decide (a<=b):=by
 cases a<;>cases b<;>simp only[CB]
 ·rw[Mi];simp only[LZ];exact Int.ofNat_le.symm
 ·symm;simp only[sE];rename_i a b;have:=Int.negSucc_lt_zero b;have:(0:Int)<=Int.ofNat a:=Ih a;omega
 ·symm;simp only[hS];rename_i a b;have:=Int.negSucc_lt_zero a;have:(0:Int)<=Int.ofNat b:=Ih b;omega
 ·rw[Mi];simp only[LZ,Int.negSucc_eq];omega
def alZ(a b:Int):DJ a b=decide (a<b):=by
 unfold DJ;rw[Mj];by_cases h:a<b
 ·simp[h]
 ·simp[h];omega
def al0(op:BinOp)(x y:Int):Rh op x y=xP op x y:=by cases op<;>simp only[Rh,xP,CL,alZ,Mj]
def At(k:IntKind)(n:Int):w3 k n=k.wrap n:=by
 cases n with
 |negSucc n=>rfl
 |ofNat n=>
  simp only[w3];cases h:Nat.ble n (L3 k)with
  |false=>rfl
  |true=>
   have bj:=bK h;simp only[cp];cases k<;>simp only[L3]at bj<;>simp only[IntKind.wrap,IntKind.signed,IntKind.bits]<;>simp<;>omega
def al1(a b:Int):ZC a b=a+b:=by cases a<;>cases b<;>rfl
def al2(a b:Int):Ri a b=a-b:=by
 cases a<;>cases b<;>try rfl
 rename_i a b;simp only[Ri];cases h:Nat.ble b a with
 |false=>rfl| true=>have:=bK h;show((a-b:Nat):Int)=(a:Int)-b;omega
def al3(a b:Int):ZD a b=a*b:=by cases a<;>cases b<;>rfl
def al4(a b:Int):ZE a b=a.tdiv b:=by cases a<;>cases b<;>rfl
def al5(a b:Int):ZF a b=a.tmod b:=by cases a<;>cases b<;>rfl
def al6(a:Int)(j:Nat):ZG a j=a*2^j:=by
 cases a with
 |negSucc a=>rfl| ofNat a=>show((a*2^j:Nat):Int)=(a:Int)*2^j;simp
def al7(a:Int)(j:Nat):ZH a j=a.fdiv (2^j):=by
 cases a with
 |negSucc a=>rfl| ofNat a=>show((a/2^j:Nat):Int)=(a:Int).fdiv (2^j);rw[show(2:Int)^j=((2^j:Nat):Int) by simp];rw[K8 _ (Ih _)];simp
def aao(j b:Nat):(bif Nat.ble j b then j else b)=min j b:=by
 rw[Mi];by_cases h:j<=b
 ·simp[h,pC h]
 ·simp[h];omega
def Au{a:Nat}(h:a<=18446744073709551615):(BitVec.ofInt IntKind.u64.bits (Int.ofNat a)).toNat=a:=by show(BitVec.ofInt 64 (a:Int)).toNat=a;rw[BitVec.ofInt_natCast,En];omega
def wrap64{a:Nat}(h:a<=18446744073709551615):IntKind.u64.wrap (a:Int)=Int.ofNat a:=by show IntKind.u64.wrap (.ofNat a)=_;rw[<-At];simp only[w3,L3,EL h,cp]
def Mk{op:BinOp}{k:IntKind}{x y r:Int}(h:ET op k x y=some r):uK op k x y=some r:=by
 unfold ET at h;split at h
 ·rename_i a b;cases ao:(Nat.ble a 18446744073709551615&&Nat.ble b 18446744073709551615)with
  |false=>rw[ao]at h;cases h
  |true=>
   rw[ao]at h;rw[cw]at ao;have a6:=bK ao.1;have ag:=bK ao.2;have EI:a<2^64:=by omega
   have Ml:b<2^64:=by omega
   simp only[cp]at h;split at h;·rw[<-h];simp only[uK,K',Au a6,Au ag];rw[wrap64 (by have:=Nat.and_lt_two_pow a Ml;omega)];rfl
   ·rw[<-h];simp only[uK,BitVec.toNat_or,Au a6,Au ag];rw[wrap64 (by have:=Nat.or_lt_two_pow EI Ml;omega)];rfl
   ·rw[<-h];simp only[uK,BitVec.toNat_xor,Au a6,Au ag];rw[wrap64 (by have:=Nat.xor_lt_two_pow EI Ml;omega)];rfl
   ·rw[<-h];have aD:(~~~(BitVec.ofInt IntKind.u64.bits (Int.ofNat b))).toNat=18446744073709551615-b:=by rw[BitVec.toNat_not,Au ag];rfl
    simp only[uK,K',Au a6,aD];rw[wrap64 (by have:=Nat.and_lt_two_pow a (show 18446744073709551615-b<2^64 by omega);omega)];rfl
   ·cases h
 ·exact h
def al8(a b:UInt8):Rj a b=decide (a=b):=by unfold Rj;rw[RX];simp only[LZ];exact UInt8.toNat_inj
def E6:∀ (l m:List UInt8),vu l m=decide (l=m)
 |[],[]=>by simp[vu]
 |[],_::_=>by simp[vu]
 |_::_,[]=>by simp[vu]
 |a::l,b::m=>by
  simp only[vu,al8,E6 l m];by_cases h:a=b;·subst h;simp
  ·simp[h]
def Av{α:Type}:∀ (l:List α) (n:Nat),w4 l n=l[n]?
 |[],n=>by simp[w4]
 |v::l,n=>by
  unfold w4;cases n with
  |zero=>rfl| succ n=>exact(Av l n).trans (by simp)
def IA{α:Type}:∀ (l:List α) (n:Nat),CD l n=l.drop n
 |[],n=>by simp[CD]
 |v::l,n=>by
  unfold CD;cases n with
  |zero=>rfl| succ n=>exact(IA l n).trans (by simp)
def aap{n:Nat}{l r:List ap}(h:CC n l=some r):r=l.take n/\r.length=n:=by
 induction n generalizing l r with
 |zero=>simp[CC]at h;subst h;simp
 |succ n aN=>
  cases l with
  |nil=>simp[CC]at h
  |cons v l=>
   simp only[CC]at h;split at h;·rename_i q aM;obtain⟨rfl,ab⟩:=aN aM;cases h;simp at ab |-;omega
   ·cases h
structure Loc where
 b:Nat
 o:Nat
 c:Nat
abbrev bS:=Nat->Option Loc
def bS.le(D bG:bS):Prop:=∀ i a,D i=some a->bG i=some a
mutual
def aW(D:bS):ap->Value->Prop
 | .b x,u=>u=.bool x| .i k n,u=>u=.int k n| .s l,u=>u=.string ⟨l.toArray⟩| .pn,u=>u=.pointer none| .p id off,u=>∃ a,D id=some a/\u=.pointer (some ⟨a.b,a.o+off,none⟩)| .g n off,u=>u=.pointer (some ⟨n,off,none⟩)| .sn,u=>u=.slice none 0 0| .sl id off n c,u=>∃ a,D id=some a/\u=.slice (some ⟨a.b,a.o+off,none⟩) n c| .sx id off e n,u=>∃ a,D id=some a/\e+n<=a.c/\u=.slice (some ⟨a.b,a.o+off,none⟩) n (a.c-e)| .gs n off k c,u=>u=.slice (some ⟨n,off,none⟩) k c| .so,u=>∃ a c,u=.slice (some a) 0 c| .mn,u=>u=.map none| .m id,u=>∃ a,D id=some a/\u=.map (some a.b)| .f g l r,u=>∃ vs ws,bO D l vs/\bO D r ws/\u=.func (.func g) vs.toArray ws.toArray| .y id,u=>∃ a,D id=some a/\u=.func (.yield a.b) #[] #[]| .fn,u=>u=.nilFunc| .ni,u=>u=.nilIface| .Ij t v,u=>∃ x,aW D v x/\u=.iface t x| .t l,u=>∃ vs,bO D l vs/\u=.tuple vs.toArray| .a l,u=>∃ vs,bO D l vs/\u=.agg vs.toArray
def bO(D:bS):List ap->List Value->Prop
 |[],us=>us=[]| v::l,us=>∃ x xs,aW D v x/\bO D l xs/\us=x::xs
end
section
variable{D bG:bS}
mutual
def aW.mono(h:D.le bG):∀ {v:ap} {u:Value},aW D v u->aW bG v u
 | .b _,_,aj | .i _ _,_,aj | .s _,_,aj | .pn,_,aj | .g _ _,_,aj | .sn,_,aj | .gs ..,_,aj | .so,_,aj | .mn,_,aj | .fn,_,aj | .ni,_,aj=>by simpa only[aW]using aj
 | .p ..,_,aj | .sl ..,_,aj | .m _,_,aj | .y _,_,aj=>by simp only[aW]at aj |-;obtain⟨a,aa,ab⟩:=aj;exact⟨a,h _ _ aa,ab⟩
 | .sx ..,_,aj=>by simp only[aW]at aj |-;obtain⟨a,aa,ab⟩:=aj;exact⟨a,h _ _ aa,ab⟩
 | .f _ l r,_,aj=>by simp only[aW]at aj |-;obtain⟨vs,ws,aa,ab,ai⟩:=aj;exact⟨vs,ws,bO.mono h aa,bO.mono h ab,ai⟩
 | .Ij _ v,_,aj=>by simp only[aW]at aj |-;obtain⟨x,aa,ab⟩:=aj;exact⟨x,aW.mono h aa,ab⟩
 | .t l,_,aj=>by simp only[aW]at aj |-;obtain⟨x,aa,ab⟩:=aj;exact⟨x,bO.mono h aa,ab⟩
 | .a l,_,aj=>by simp only[aW]at aj |-;obtain⟨x,aa,ab⟩:=aj;exact⟨x,bO.mono h aa,ab⟩
def bO.mono(h:D.le bG):∀ {l:List ap} {us:List Value},bO D l us->bO bG l us
 |[],_,aj=>by simpa only[bO]using aj
 |v::l,_,aj=>by simp only[bO]at aj |-;obtain⟨x,xs,aa,ab,ai⟩:=aj;exact⟨x,xs,aW.mono h aa,bO.mono h ab,ai⟩
end
def bO.nil:bO D [] []:=by simp[bO]
def bO.cons{v:ap}{l:List ap}{x:Value}{xs:List Value}(h:aW D v x)(k:bO D l xs):bO D (v::l) (x::xs):=by simp only[bO];exact⟨x,xs,h,k,rfl⟩
def bO.ky{v:ap}{l:List ap}{us:List Value}(h:bO D (v::l) us):∃ x xs,aW D v x/\bO D l xs/\us=x::xs:=by simpa only[bO]using h
def bO.nU{us:List Value}(h:bO D [] us):us=[]:=by simpa only[bO]using h
def bO.len:∀ {l:List ap} {us:List Value},bO D l us->us.length=l.length
 |[],_,h=>by rw[h.nU];rfl
 |v::l,_,h=>by obtain⟨x,xs,aa,ab,rfl⟩:=h.ky;simp[bO.len ab]
def bO.get:∀ {l:List ap} {us:List Value} {i:Nat} {v:ap},bO D l us->l[i]?=some v->∃ x,us[i]?=some x/\aW D v x
 |[],_,i,v,h,hi=>by simp at hi
 |w::l,_,i,v,h,hi=>by
  obtain⟨x,xs,aa,ab,rfl⟩:=h.ky;cases i with
  |zero=>simp at hi;subst hi;exact⟨x,rfl,aa⟩| succ i=>simpa using bO.get ab (by simpa using hi)
def bO.IB:∀ {l:List ap} {us:List Value},us.length=l.length->(∀ (i:Nat) (v:ap),l[i]?=some v->∃ x,us[i]?=some x/\aW D v x)->bO D l us
 |[],us,aA,h=>by have:us=[]:=iD (by simpa using aA);subst this;exact .nil
 |w::l,us,aA,h=>by
  cases us with
  |nil=>simp at aA| cons x xs=>obtain⟨y,aE,aa⟩:=h 0 w rfl;simp at aE;subst aE;exact .cons aa (bO.IB (by simpa using aA) λi v hi=>by simpa using h (i+1) v (by simpa using hi))
def bO.append:∀ {l:List ap} {us:List Value} {m:List ap} {ws:List Value},bO D l us->bO D m ws->bO D (l++m) (us++ws)
 |[],_,m,ws,h,k=>by rw[h.nU];exact k
 |w::l,_,m,ws,h,k=>by obtain⟨x,xs,aa,ab,rfl⟩:=h.ky;exact .cons aa (bO.append ab k)
def bO.take:∀ {l:List ap} {us:List Value} (n:Nat),bO D l us->bO D (l.take n) (us.take n)
 |[],_,n,h=>by rw[h.nU];simpa using bO.nil
 |w::l,_,n,h=>by
  obtain⟨x,xs,aa,ab,rfl⟩:=h.ky;cases n with
  |zero=>simpa using bO.nil| succ n=>simpa using bO.cons aa (bO.take n ab)
def bO.drop:∀ {l:List ap} {us:List Value} (n:Nat),bO D l us->bO D (l.drop n) (us.drop n)
 |[],_,n,h=>by rw[h.nU];simpa using bO.nil
 |w::l,us,n,h=>by
  cases n with
  |zero=>simpa using h| succ n=>obtain⟨x,xs,aa,ab,rfl⟩:=h.ky;simpa using bO.drop n ab
def bO.Hv{l:List ap}{us:List Value}(h:bO D l us):∀ n,bO D (CH n l) ((List.replicate n us).flatten)
 |0=>by simpa[CH]using bO.nil
 |n+1=>by rw[Qd,Qg];exact h.append (bO.Hv h n)
def aW.bool{x:Bool}{u:Value}(h:aW D (.b x) u):u=.bool x:=by simpa only[aW]using h
def aW.int{k:IntKind}{n:Int}{u:Value}(h:aW D (.i k n) u):u=.int k n:=by simpa only[aW]using h
def aW.str{l:List UInt8}{u:Value}(h:aW D (.s l) u):u=.string ⟨l.toArray⟩:=by simpa only[aW]using h
def aW.ptr{id off:Nat}{u:Value}(h:aW D (.p id off) u):∃ a,D id=some a/\u=.pointer (some ⟨a.b,a.o+off,none⟩):=by simpa only[aW]using h
def aW.qW{id off:Nat}{u:Value}(h:aW D (.g id off) u):u=.pointer (some ⟨id,off,none⟩):=by simpa only[aW]using h
def aW.s7{id off n c:Nat}{u:Value}(h:aW D (.sl id off n c) u):∃ a,D id=some a/\u=.slice (some ⟨a.b,a.o+off,none⟩) n c:=by simpa only[aW]using h
def aW.vy{id off e n:Nat}{u:Value}(h:aW D (.sx id off e n) u):∃ a,D id=some a/\e+n<=a.c/\u=.slice (some ⟨a.b,a.o+off,none⟩) n (a.c-e):=by simpa only[aW]using h
def aW.RY{id off n c:Nat}{u:Value}(h:aW D (.gs id off n c) u):u=.slice (some ⟨id,off,none⟩) n c:=by simpa only[aW]using h
def aW.Mm{u:Value}(h:aW D .so u):∃ a c,u=.slice (some a) 0 c:=by simpa only[aW]using h
def aW.CM{u:Value}(h:aW D .sn u):u=.slice none 0 0:=by simpa only[aW]using h
def aW.agg{l:List ap}{u:Value}(h:aW D (.a l) u):∃ vs,bO D l vs/\u=.agg vs.toArray:=by simpa only[aW]using h
def aW.RZ{l:List ap}{u:Value}(h:aW D (.t l) u):∃ vs,bO D l vs/\u=.tuple vs.toArray:=by simpa only[aW]using h
def aW.Mn{l:List ap}(h:bO D l vs):aW D (.a l) (.agg vs.toArray):=by simp only[aW];exact⟨vs,h,rfl⟩
def aW.Mo{l:List ap}(h:bO D l vs):aW D (.t l) (.tuple vs.toArray):=by simp only[aW];exact⟨vs,h,rfl⟩
def aW.undef:aW D (.t []) undef:=by simp only[aW];exact⟨[],.nil,rfl⟩
def aW.cells{v:ap}{u:Value}(h:aW D v u):bO D v.cells u.cells.toList:=by
 cases v<;>simp only[ap.cells]
 case a l=>obtain⟨vs,aa,rfl⟩:=h.agg;simpa[Value.cells]using aa
 all_goals
  have key:∀ w:Value,(∀ cs,w≠.agg cs)->w.cells.toList=[w]:=λw hw=>by cases w<;>first | rfl | exact(hw _ rfl).elim
  rw[key u ?_];·exact .cons h .nil
  ·rintro cs rfl;simp[aW]at h
def aW.one{v:ap}{u:Value}(h:aW D v u)(aC:v.one=true):u.oneCell'=true:=by
 cases v<;>simp only[ap.one,k']at aC<;>simp only[aW]at h
 all_goals first
  |(subst h;rfl)|(obtain⟨_,_,rfl⟩:=h;rfl)|(obtain⟨_,_,_,rfl⟩:=h;rfl)|(obtain⟨_,_,_,_,rfl⟩:=h;rfl)
def bO.one{l:List ap}{us:List Value}(h:bO D l us)(aC:l.all ap.one=true):fJ us=true:=by refine fV.2 λx ad=>?_;obtain⟨i,hi⟩:=LY ad;have a4:=(iz.1 hi).1;rw[h.len]at a4;obtain⟨y,aE,aj⟩:=h.get (dt a4);rw[hi]at aE;cases aE;exact aj.one (fV.1 aC _ (bJ a4))
def aW.aaq{u:Value}{v:ap}(h:Ik u=some v):aW D v u:=by
 unfold Ik at h;split at h<;>cases h<;>simp[aW]
def bO.E7:∀ {us:List Value} {l:List ap},yG us=some l->bO D l us
 |[],l,h=>by simp only[yG]at h;cases h;exact .nil
 |u::us,l,h=>by
  simp only[yG]at h;split at h;·rename_i x m aa ab;cases h;exact .cons (.aaq aa) (bO.E7 ab)
  ·cases h
def aW.of{u:Value}{v:ap}(h:ES u=some v):aW D v u:=by
 unfold ES at h;split at h
 ·split at h
  ·rename_i l aA;cases h;have:=bO.E7 (D:=D) aA;simpa using aW.Mn this
  ·cases h
 ·exact .aaq h
def Mp{agg:Bool}{l:List ap}{v:ap}(h:EV agg l=some v)(aA:bO D l vs):aW D v (pack agg vs):=by
 unfold EV at h;cases agg with
 |true=>simp only[cp]at h;cases h;exact .Mn aA
 |false=>
  simp only[cb]at h;split at h;·cases h;obtain⟨x,xs,aa,ab,rfl⟩:=aA.ky;rw[ab.nU];exact aa
  ·cases h
def R0:∀ {cs:List ap} {off:Nat} {vs r:List ap} {us xs:List Value},yI cs off vs=some r->bO D cs us->bO D vs xs->bO D r (cq us off xs)/\off+xs.length<=us.length
 |cs,0,[],r,us,xs,h,ao,aj=>by simp[yI]at h;subst h;rw[aj.nU];exact⟨by simpa[cq]using ao,by simp⟩
 |[],0,_::_,r,us,xs,h,ao,aj=>by simp[yI]at h
 |[],_+1,_,r,us,xs,h,ao,aj=>by simp[yI]at h
 |c::cs,0,v::vs,r,us,xs,h,ao,aj=>by
  simp only[yI]at h;split at h
  ·rename_i q aM;cases h;obtain⟨x,us,aa,ab,rfl⟩:=ao.ky;obtain⟨y,xs,ai,aL,rfl⟩:=aj.ky;obtain⟨bq,b'⟩:=R0 aM ab aL;refine⟨?_,by simp at b' |-;omega⟩;have e:cq (x::us) 0 (y::xs)=y::cq us 0 xs:=by simp[cq]
   rw[e];exact .cons ai bq
  ·cases h
 |c::cs,n+1,vs,r,us,xs,h,ao,aj=>by
  simp only[yI]at h;split at h
  ·rename_i q aM;cases h;obtain⟨x,us,aa,ab,rfl⟩:=ao.ky;obtain⟨bq,b'⟩:=R0 aM ab aj;refine⟨?_,by simp;omega⟩;have e:cq (x::us) (n+1) xs=x::cq us n xs:=by simp only[cq,ry,pN,zV,true_and];rw[show n+1+xs.length=(n+xs.length)+1 by omega,Ig]
   rw[e];exact .cons aa bq
  ·cases h
inductive IC(D:bS):List (Nat×ap)->List (Nat×Value)->Prop
 |nil:IC D [] []| cons {i v u l us} (h:aW D v u) (k:IC D l us):IC D ((i,v)::l) ((i,u)::us)
def Mq{place:Nat->Option (Nat×Nat)}:∀ {vs:List (Nat×ap)} {cells r:List ap} {us:List Value} {xs:List (Nat×Value)},Ap place cells vs=some r->bO D cells us->IC D vs xs -> ∃ ba,tn place us xs=some ba/\bO D r ba
 |[],cells,r,us,_,h,ao,.nil=>by simp only[Ap]at h;cases h;exact⟨us,rfl,ao⟩
 |(i,v)::vs,cells,r,us,_,h,ao,.cons (u:=u) (us:=xs) aj iK=>by
  simp only[Ap]at h;split at h;·cases h
  ·rename_i off size aH;cases ag:Nat.beq v.cells.length size with
   |false=>rw[ag]at h;cases h
   |true=>
    rw[ag]at h;simp only[cp]at h;split at h
    ·rename_i cs lS;obtain⟨aa,ab⟩:=R0 lS ao aj.cells;obtain⟨ba,ai,aL⟩:=Mq h aa iK;refine⟨ba,?_,aL⟩;have aA:u.cells.size=v.cells.length:=by simpa using aj.cells.len
     simp only[tn,aH,aA,ag];rw[show Nat.ble (off+size) us.length=true by rw[Mi,hS];have:=dJ ag;simp at ab;omega];exact ai
    ·cases h
end
def gB(D:bS)(x:dH)(v:ap):Prop:=(∃ u,x=.val u/\aW D v u)\/∃ q,v=.b q/\x=.lit q
def gB.val{D:bS}{u:Value}{v:ap}(h:aW D v u):gB D (.val u) v:=.inl ⟨u,rfl,h⟩
def gB.mono{D bG:bS}(dw:D.le bG){x:dH}{v:ap}(h:gB D x v):gB bG x v:=by
 rcases h with⟨u,rfl,h⟩ | ⟨q,rfl,rfl⟩
 ·exact .val (h.mono dw)
 ·exact .inr ⟨q,rfl,rfl⟩
def qX(D:bS)(F:Fr)(an:bm ap):Prop:=∀ t v,an.get t=some v->gB D (F t) v
def jn(D:bS)(F:Fr)(an:bm ap)(xs:List Operand):Prop:=∀ x∈xs,∀ v,dv an x=some v->gB D (dn F x) v
def qX.op{D:bS}{F:Fr}{an:bm ap}(h:qX D F an)(xs:List Operand):jn D F an xs:=λx _ v aj=>by
 cases x with
 |tmp t=>exact h t v aj
 |const c=>
  have j3:ES c=some v:=aj;cases c with
  |bool q=>
   have:v=.b q:=by simp[ES,Ik]at j3;exact j3.symm
   exact .inr ⟨q,this,rfl⟩
  |_=>exact .val (.of j3)
 |global g=>
  have:v=.g g 0:=by simpa[dv]using aj.symm
  subst this;exact .val (by simp[aW])
 |func f=>
  have:v=.f f [] []:=by simpa[dv]using aj.symm
  subst this;exact .val (by simp only[aW];exact⟨[],[],.nil,.nil,rfl⟩)
section
variable{D:bS}{F:Fr}{an:bm ap}{xs:List Operand}
def gB.dB{v:ap}(h:gB D (dn F x) v):∃ u,bH F x=.val u/\aW D v u:=by
 unfold bH Go.V.dB;rcases h with⟨u,h,aj⟩ | ⟨q,rfl,h⟩
 ·rw[h];exact⟨u,rfl,aj⟩
 ·rw[h];exact⟨.bool q,rfl,by simp[aW]⟩
def gB.w9{x:dH}{v:ap}(h:gB D x v)(aj:∀ q,v≠.b q):∃ u,x=.val u/\aW D v u:=by
 rcases h with h | ⟨q,h,_⟩
 ·exact h
 ·exact(aj q h).elim
def jn.bH(h:jn D F an xs)(ad:x∈xs){v:ap}(aj:dv an x=some v):∃ u,bH F x=.val u/\aW D v u:=(h x ad v aj).dB
def jn.mO(h:jn D F an xs):∀ {l:List Operand} {vs:List ap},(∀ x∈l,x∈xs)->od an l=some vs->∃ us,mO F l=some us/\bO D vs us
 |[],vs,_,aj=>by simp only[od]at aj;cases aj;exact⟨[],rfl,.nil⟩
 |x::l,vs,aA,aj=>by
  simp only[od]at aj;split at aj;·rename_i v vs aa ab;cases aj;obtain⟨u,aK,a'⟩:=h.bH (aA x (by simp)) aa;obtain⟨us,a7,bg⟩:=jn.mO h (λy aE=>aA y (by simp[aE])) ab;refine⟨u::us,?_,.cons a' bg⟩;show j2 (dn F) (x::l)=_;rw[j2];have eB:dB (dn F) x=.val u:=aK;have rn:j2 (dn F) l=some us:=a7;rw[eB,rn]
  ·cases aj
def jn.parts(h:jn D F an xs):∀ {l:List (Nat×Operand)} {vs:List (Nat×ap)},(∀ x∈l.map (·.2),x∈xs)->EW an l=some vs->∃ us,Br F l=some us/\IC D vs us
 |[],vs,_,aj=>by simp only[EW]at aj;cases aj;exact⟨[],rfl,.nil⟩
 |(i,x)::l,vs,aA,aj=>by
  simp only[EW]at aj;split at aj;·rename_i v vs aa ab;cases aj;obtain⟨u,aK,a'⟩:=h.bH (aA x (by simp)) aa;obtain⟨us,a7,bg⟩:=jn.parts h (λy aE=>aA y (by simp only[ca,eA];exact .inr aE)) ab;refine⟨(i,u)::us,?_,.cons a' bg⟩;show to (dn F) ((i,x)::l)=_;rw[to];have eB:dB (dn F) x=.val u:=aK;have rn:to (dn F) l=some us:=a7;rw[eB,rn]
  ·cases aj
end
inductive qY(D:bS):List (ap×ap)->List MapEntry->Prop
 |nil:qY D [] []| cons {k v es e l} (ae:aW D k e.key) (aj:aW D v e.val) (t:qY D es l):qY D ((k,v)::es) (e::l)
def ib(n:Nat):Code->Bool
 | .seq x y=>ib n x&&ib n y| .block _ c=>ib n c| .cond _ x y=>ib n x&&ib n y| .loop c=>ib n c| .scope c=>ib n c| .region _ ops _=>xZ n ops| .rangeFunc _ ps fj body=>ib n fj&&(ib n body&&ps.toList.all λt=>Nat.blt t n)| _=>true
structure aar(D:bS)(busy:Bool)(n:Nat)(an:bm ap)(ps:List Nat)(fj body:Code)(L:Loop):Prop where
 aI:L.state=bif busy then .busy else .ready
 qC:L.pending=none
 sz:L.tmps.size=n
 an:∀ t v,an.get t=some v->aW D v (L.tmps.getD t undef)
 ps:L.params.toList=ps
 fj:L.assign=fj
 body:L.body=body
 B6:ib n L.assign=true
 nD:ib n L.body=true
 op:∀ t∈L.params.toList,t<n
inductive lF(D:bS)(E:Env)(M:List aF)(a:Loc):fx->Prop
 |cells{cs:bm ap}{T fN:Nat}(arr:Array Value)(aC:a.o=0)(bb:(⟨a.b,.cells arr T (0,0)⟩:aF)∈M)(aA:a.o+fN<=arr.size)(ao:∀ i v,i<fN->cs.get i=some v->∃ x,arr[a.o+i]?=some x/\aW D v x)(ae:∀ i,E T=some i->arr.size=a.o+a.c*i.size)(hm:a.c<=maxLen):lF D E M a (.cells cs T fN)| map {es:List (ap×ap)} (l:List MapEntry) (clock:Nat) (bb:(⟨a.b,.map l.toArray clock⟩:aF)∈M) (he:qY D es l):lF D E M a (.map es)| loop {busy n an ps fj body} (L:Loop) (bb:(⟨a.b,.loop L⟩:aF)∈M) (b8:aar D busy n an ps fj body L):lF D E M a (.loop busy n an ps fj body)| done {c n an ps fj body} (L:Loop) (bb:(⟨a.b,.loop L⟩:aF)∈M) (av:L.state=.done) (aH:L.pending=some c):lF D E M a (.done c n an ps fj body)
def qY.mono{D bG:bS}(dw:D.le bG){es:List (ap×ap)}{l:List MapEntry}(h:qY D es l):qY bG es l:=by
 induction h with
 |nil=>exact .nil| cons ae aj t aN=>exact .cons (ae.mono dw) (aj.mono dw) aN
def lF.mono{D bG:bS}{M':List aF}{a:Loc}(dw:D.le bG)(bb:∀ x∈M,x.num=a.b->x∈M'){e:fx}(h:lF D E M a e):lF bG E M' a e:=by
 cases h with
 |cells arr aw aa ab ai aL bq=>exact .cells arr aw (bb _ aa rfl) ab (λi v hi ax=>by obtain⟨x,a',bg⟩:=ai i v hi ax;exact⟨x,a',bg.mono dw⟩) aL bq| map l clock aa ab=>exact .map l clock (bb _ aa rfl) (ab.mono dw)| loop L aa ab=>exact .loop L (bb _ aa rfl) { ab with an:=λt v au=>(ab.an t v au).mono dw }| done L aa ab ai=>exact .done L (bb _ aa rfl) ab ai
def ID(G:GT)(I:aJ):Prop:=∀ g cs,G g=some cs->∃ (arr:Array Value) (T:Nat) (f:Nat×Nat),I g=some (.cells arr T f)/\∀ i v,cs.get i=some v->∃ x,arr[i]?=some x/\∀ D,aW D v x
structure df(Y:gU)(D:bS)(m:bz)(I:aJ)(M:List aF):Prop where
 iV:∀ id e a,m.t.get id=some e->D id=some a->lF D Y.E M a e
 inj:∀ id iW e cU a bN,m.t.get id=some e->m.t.get iW=some cU->D id=some a->D iW=some bN->a.b=bN.b->id=iW
 jV:∀ id a,D id=some a->id<m.n
 qW:ID Y.G I
section
variable{Y:gU}{D:bS}{m:bz}{I:aJ}{M:List aF}{R:Type}
def xb(h:df Y D m I M){x:ap}{u:Value}(ad:aW D x u){n:Nat}{K:List ap->Option R}{r:R}(af:uf Y.G m.t x n K=some r) :
  ∃ aP l vs,u=.pointer (some aP)/\cY I M aP n vs/\bO D l vs/\K l=some r:=by
 have key:∀ (arr:Array Value) (bC off:Nat) (l:List ap),l.length=n->bC+off+n<=arr.size->(∀ i,i<n->∀ v,l[i]?=some v->∃ x,arr[bC+off+i]?=some x/\aW D v x) ->
   ((arr.toList.drop (bC+off)).take n).length=n/\bO D l ((arr.toList.drop (bC+off)).take n):=by
  intro arr bC off l aA dk ax;have cQ:((arr.toList.drop (bC+off)).take n).length=n:=by simp;omega
  refine⟨cQ,bO.IB (by rw[cQ,aA]) λi v hi=>?_⟩;have fq:i<n:=by rw[<-aA];exact(iz.1 hi).1
  obtain⟨x,aa,ab⟩:=ax i fq v hi;refine⟨x,?_,ab⟩;rw[k9,bT fq,nw];simpa using aa
 unfold uf at af;split at af
 ·rename_i id off;split at af
  ·rename_i cs T fN ax;cases ag:Nat.ble (Nat.add off n) fN with
   |false=>rw[ag]at af;cases af
   |true=>
    rw[ag]at af;have hk:off+n<=fN:=bK ag;simp only[cp]at af;obtain⟨l,aa,ab,ai⟩:=bm.E5 cs n off K r af;obtain⟨a,a6,hu⟩:=ad.ptr;have he:=h.iV _ _ _ ax a6;obtain⟨arr,-,bb,aA,ao,-,-⟩:=he;obtain⟨eK,cR⟩:=key arr a.o off l aa (by omega) λi hi v aj=>by have:=ao (off+i) v (by omega) (by rw[ab i hi,aj]);rw[<-tl]at this;exact this
    exact⟨_,l,_,hu,⟨rfl,arr,T,(0,0),.inr ⟨_,bb,rfl,rfl⟩,rfl,eK⟩,cR,ai⟩
  ·cases af
 ·rename_i g off;split at af
  ·rename_i cs ax;obtain⟨l,aa,ab,ai⟩:=bm.E5 cs n off K r af;obtain⟨arr,T,f,bB,ao⟩:=h.qW _ _ ax;have hu:=ad.qW;have eI:∀ i,i<n->∀ v,l[i]?=some v->∃ x,arr[0+off+i]?=some x/\aW D v x:=λi hi v aj=>by obtain⟨x,a',bg⟩:=ao (off+i) v (by rw[ab i hi,aj]);exact⟨x,by simpa using a',bg D⟩
   by_cases aD:n=0;·subst aD;have:l=[]:=iD aa;subst this;exact⟨_,[],[],hu,⟨rfl,arr,T,f,.inl bB,by simp,rfl⟩,.nil,ai⟩
   ·have dk:0+off+n<=arr.size:=by
     have a4:n-1<l.length:=by omega
     obtain⟨x,a',_⟩:=eI (n-1) (by omega) l[n-1] (dt a4);have:=(k8.1 a').1;omega
    obtain⟨eK,cR⟩:=key arr 0 off l aa dk eI;simp only[dp]at eK cR;exact⟨_,l,_,hu,⟨rfl,arr,T,f,.inl bB,rfl,eK⟩,cR,ai⟩
  ·cases af
 ·cases af
end
def al9{k:IntKind}(h:IntKind.lP k fu=true):k=fu:=IntKind.DK h
def Ms(l m:List UInt8):decide ((⟨l.toArray⟩:ByteArray)=⟨m.toArray⟩)=decide (l=m):=by
 simp only[LZ];constructor
 ·intro h;simpa using h
 ·rintro rfl;rfl
def ama(a b:ByteArray):(a == b)=decide (a=b):=by
 rw[tj];simp only[hS];constructor
 ·intro h
  first | exact eq_of_beq h | exact we (eq_of_beq (a:=a.data) (b:=b.data) h)
 ·rintro rfl
  first | exact GV _ | exact GV a.data
section
variable{P:Program}{E:Env}{D:bS}
def Mt(aO:cX P E){o:Nat}{l:List ap}{x:ap}(h:Ao E t o l=some x){us:List Value}(aA:bO D l us):∃ u,aW D x u/\∀ w,(part t us.toArray o).run P w=.ok u w:=by
 unfold Ao at h;obtain⟨i,aa,h⟩:=cy h;obtain⟨aw,h⟩:=As h;have hx:i.size≠0:=λe=>by rw[e]at aw;cases aw
 obtain⟨r,ab,h⟩:=cy h;obtain⟨aK,a7⟩:=aap ab;rw[IA]at aK;have cQ:=aA.len;subst aK;refine⟨_,Mp h ((aA.drop o).take _),λw=>?_⟩;have:=OS (aO _ _ aa) (cs:=us.toArray) (off:=o) (by rw[fR,qw]at a7;simp;omega) w;simpa using this
def R1{F:Nat->ap->ap->Option Bool}{l m:List ap}{α β:Type}{pl:α->Nat×Nat}{g:α->β->Sem (ForInStep β)}{cz s1:β}{w:World}:∀ (L:List α) {b:Bool},CE F E l m (L.map pl)=some b -> (∀ a∈L,∀ x y c,Ao E (pl a).1 (pl a).2 l=some x->Ao E (pl a).1 (pl a).2 m=some y->F (pl a).1 x y=some c->(g a cz).run P w=.ok (if c then .yield cz else .done s1) w) -> (forIn L cz g).run P w=.ok (if b then cz else s1) w
 |[],b,h,_=>by cases h;simp[c7]
 |a::L,b,h,ax=>by
  simp only[ca]at h;unfold CE at h;obtain⟨x,aa,h⟩:=cy h;obtain⟨y,ab,h⟩:=cy h;obtain⟨c,ai,h⟩:=cy h;simp only[List.forIn_cons,cu];rw[ax a (by simp) x y c aa ab ai];rw[kx]at h;cases c with
  |true=>simp only[sv,bY];exact R1 L h λbN a6=>ax bN (by simp[a6])
  |false=>cases h;simp[bY,c7]
def R2(aO:cX P E):∀ (d:Nat) {t:Nat} {x y:ap} {b:Bool} {u v:Value},yH P E d t x y=some b->aW D x u->aW D y v->∀ n,d<=n->∀ w,(Op.equalIn n t u v).run P w=.ok b w
 |0,t,x,y,b,u,v,h,ad,aE,n,aD,w=>by cases h
 |d+1,t,x,y,b,u,v,h,ad,aE,0,aD,w=>by omega
 |d+1,t,x,y,b,u,v,h,ad,aE,n+1,aD,w=>by
  unfold yH at h;obtain⟨i,hi,h⟩:=cy h;obtain⟨qI,fM,n3⟩:=(aO _ _ hi).ft;rw[Op.equalIn];simp only[cu,run_underlying fM,bY];split at h
  ·rename_i a bN av _;cases h;have a':qI=.bool:=by cases qI<;>simp_all[fs]
   subst a';rw[ad.bool,aE.bool];rfl
  ·rename_i fu k a cR bN av _;obtain⟨aK,h⟩:=fZ h;cases h;have a':qI=.int fu:=by cases qI<;>simp_all[fs]
   subst a';rw[ad.int,aE.int];rw[al9 aK];have ag:(a == bN)=s5 a bN:=by
    rw[CL];by_cases e:a=bN;·subst e;simp
    ·simp[e]
   simp[ag]
  ·rename_i a bN av _;cases h;have a':qI=.string:=by cases qI<;>simp_all[fs]
   subst a';rw[ad.str,aE.str];show Result.ok _ _=_;rw[E6,<-Ms];congr 1;exact ama _ _
  ·rename_i cO l m av _;obtain⟨aK,h⟩:=fZ h;unfold ZJ at aK;rw[fM]at aK;cases qI with
   |struct fields=>
    simp only[cw,tx,fV,hS]at aK;obtain⟨aK,a7⟩:=aK;rw[av]at n3;simp only[fs,Gx.struct.injEq]at n3;subst n3;obtain⟨us,aa,rfl⟩:=ad.agg;obtain⟨ws,ab,rfl⟩:=aE.agg;simp only[cu,run_program,bY,aK,k',mh];rw[<-Array.forIn_toList];rw[R1 (P:=P) (s1:=⟨some false,⟨⟩⟩) fields.toList h (λf aB x y c r6 f' ao=>by
     obtain⟨p,eK,cR⟩:=Mt aO r6 aa;obtain⟨q,g',my⟩:=Mt aO f' ab;have aM:=R2 aO d ao eK g' n (by omega) w;simp only[a7 f aB,sv,ne_eq,not_false_eq_true,cu,cR,my,bY,aM];cases c<;>simp[c7])]
    cases b<;>simp[bY,c7]
   |_=>cases aK
  ·rename_i len e l m av _;obtain⟨aG,hG,h⟩:=cy h;have a':qI=.array len e:=by cases qI<;>simp_all[fs]
   subst a';obtain⟨us,aa,rfl⟩:=ad.agg;obtain⟨ws,ab,rfl⟩:=aE.agg;simp only[cu,(aO _ _ hG).run_sizeOf,bY,Wb];have af:List.range' 0 ([:len]:Std.Legacy.Range).size=List.range len:=by simp[Std.Legacy.Range.size,DE]
   rw[af];rw[R1 (P:=P) (s1:=⟨some false,⟨⟩⟩) (List.range len) h (λf aB x y c r6 f' ao=>by
    obtain⟨p,eK,cR⟩:=Mt aO r6 aa;obtain⟨q,g',my⟩:=Mt aO f' ab;have aM:=R2 aO d ao eK g' n (by omega) w;simp only[cu,cR,my,bY,aM];cases c<;>simp[c7])]
   cases b<;>simp[bY,c7]
  ·cases h
end
section
variable{X:c1}{D:bS}
def aas(aO:cX X.P X.E){op:BinOp}{l m:List ap}{v:ap}{us ws:List Value}{O:Prop}(h:Il X.P X.E op t l m=some v)(aA:bO D l us)(hm:bO D m ws)(ae:∀ u,aW D v u->K u) :
  fW X.P op t x y (.val (.agg us.toArray)) (.val (.agg ws.toArray)) K O:=by
 unfold Il at h;obtain⟨ax,h⟩:=As h;obtain⟨b,aa,h⟩:=cy h;have aM:=R2 (D:=D) aO 8 aa (u:=.agg us.toArray) (v:=.agg ws.toArray) (by simp only[aW];exact⟨us,aA,rfl⟩) (by simp only[aW];exact⟨ws,hm,rfl⟩) Op.maxDepth (by decide);split at h
 ·cases h;refine .mk _ _ _ rfl rfl (λw=>?_) (ae _ (by simp only[aW];rfl));simp only[cu,run_eqGuard_agg (hm:=ax),bY,binOp,Op.equal,aM,c7]
 ·cases h;refine .mk _ _ _ rfl rfl (λw=>?_) (ae _ (by simp only[aW];rfl));simp only[cu,run_eqGuard_agg (hm:=ax),bY,binOp,Op.equal,aM,c7]
 ·cases h
end
open Go Go.Proofs
def k3(x y:Int):Int:=IntKind.u64.wrap ((BitVec.ofInt 64 x ||| BitVec.ofInt 64 y).toNat:Int)
def ui(x y:BitVec 64):k3 x.toNat y.toNat=((x ||| y).toNat:Int):=by unfold k3;rw[CA,CA,Q1]
def amb(x y:bh):Nat->List Value
 |0=>[.int .u64 x.a.toNat,.int .u64 x.b.toNat,.int .u64 x.c.toNat,.int .u64 x.d.toNat]| 1=>[.int .u64 (k3 x.a.toNat y.a.toNat),.int .u64 x.b.toNat,.int .u64 x.c.toNat,.int .u64 x.d.toNat]| 2=>[.int .u64 (k3 x.a.toNat y.a.toNat),.int .u64 (k3 x.b.toNat y.b.toNat),.int .u64 x.c.toNat,.int .u64 x.d.toNat]| 3=>[.int .u64 (k3 x.a.toNat y.a.toNat),.int .u64 (k3 x.b.toNat y.b.toNat),.int .u64 (k3 x.c.toNat y.c.toNat),.int .u64 x.d.toNat]| _=>[.int .u64 (k3 x.a.toNat y.a.toNat),.int .u64 (k3 x.b.toNat y.b.toNat),.int .u64 (k3 x.c.toNat y.c.toNat),.int .u64 (k3 x.d.toNat y.d.toNat)]
def amc(x y:bh):Spec Tryz.prog 150 [x.val,y.val] I M λr I' M'=>r=(x.or y).val/\I'=I/\M'=M:=by
 refine b0 [] a3 Tryz.func150 rfl rfl rfl ?_;intro B aw;refine dx.inv (ι:=Nat) (λi=>{ bp:=[(2,.ref 2 0),(4,.ref 4 0),(7,.val y.val),(8,.val (.int .i64 i))],cl:=[(2,amb x y i),(4,bh.zero.cells)],cP:=I,da:=M }) (λi=>i<=4) (λi=>4-i) ?_ ?_
 ·exact⟨0,by simp,.refl,dY,.cons rfl (.cons rfl .nil)⟩
 ·intro i hi
  match i,hi with
  |0,_=>refine a5.mk (λ_=>?_) (λh=>by simp at h);refine cA.mk 0 rfl (by decide) ?_;refine cA.mk 0 rfl (by decide) ?_;refine cA.mk 0 rfl (by decide) ?_;refine be.mk 1 (by decide) ?_;exact⟨1,⟨by simp,by simp⟩,.refl,dY,.cons rfl (.cons rfl .nil)⟩| 1,_=>refine a5.mk (λ_=>?_) (λh=>by simp at h);refine cA.mk 1 rfl (by decide) ?_;refine cA.mk 1 rfl (by decide) ?_;refine cA.mk 1 rfl (by decide) ?_;refine be.mk 2 (by decide) ?_;exact⟨2,⟨by simp,by simp⟩,.refl,dY,.cons rfl (.cons rfl .nil)⟩| 2,_=>refine a5.mk (λ_=>?_) (λh=>by simp at h);refine cA.mk 2 rfl (by decide) ?_;refine cA.mk 2 rfl (by decide) ?_;refine cA.mk 2 rfl (by decide) ?_;refine be.mk 3 (by decide) ?_;exact⟨3,⟨by simp,by simp⟩,.refl,dY,.cons rfl (.cons rfl .nil)⟩| 3,_=>refine a5.mk (λ_=>?_) (λh=>by simp at h);refine cA.mk 3 rfl (by decide) ?_;refine cA.mk 3 rfl (by decide) ?_;refine cA.mk 3 rfl (by decide) ?_;refine be.mk 4 (by decide) ?_;exact⟨4,⟨by simp,by simp⟩,.refl,dY,.cons rfl (.cons rfl .nil)⟩| 4,_=>refine a5.mk (λh=>by simp at h) (λ_=>?_);refine⟨_,_,.refl,?_,rfl,rfl⟩;show Value.agg #[.int .u64 (k3 x.a.toNat y.a.toNat),.int .u64 (k3 x.b.toNat y.b.toNat),.int .u64 (k3 x.c.toNat y.c.toNat),.int .u64 (k3 x.d.toNat y.d.toNat)]=_;rw[ui,ui,ui,ui];rfl
def o8(x y:Int):Int:=IntKind.u64.wrap ((BitVec.ofInt 64 x &&& BitVec.ofInt 64 y).toNat:Int)
def IE(x y:BitVec 64):o8 x.toNat y.toNat=((x &&& y).toNat:Int):=by unfold o8;rw[CA,CA,Q1]
def amd(x y:bh):Nat->List Value
 |0=>[.int .u64 x.a.toNat,.int .u64 x.b.toNat,.int .u64 x.c.toNat,.int .u64 x.d.toNat]| 1=>[.int .u64 (o8 x.a.toNat y.a.toNat),.int .u64 x.b.toNat,.int .u64 x.c.toNat,.int .u64 x.d.toNat]| 2=>[.int .u64 (o8 x.a.toNat y.a.toNat),.int .u64 (o8 x.b.toNat y.b.toNat),.int .u64 x.c.toNat,.int .u64 x.d.toNat]| 3=>[.int .u64 (o8 x.a.toNat y.a.toNat),.int .u64 (o8 x.b.toNat y.b.toNat),.int .u64 (o8 x.c.toNat y.c.toNat),.int .u64 x.d.toNat]| _=>[.int .u64 (o8 x.a.toNat y.a.toNat),.int .u64 (o8 x.b.toNat y.b.toNat),.int .u64 (o8 x.c.toNat y.c.toNat),.int .u64 (o8 x.d.toNat y.d.toNat)]
def ame(x y:bh):Spec Tryz.prog 156 [x.val,y.val] I M λr I' M'=>r=(x.and y).val/\I'=I/\M'=M:=by
 refine b0 [] a3 Tryz.func156 rfl rfl rfl ?_;intro B aw;refine dx.inv (ι:=Nat) (λi=>{ bp:=[(2,.ref 2 0),(4,.ref 4 0),(7,.val y.val),(8,.val (.int .i64 i))],cl:=[(2,amd x y i),(4,bh.zero.cells)],cP:=I,da:=M }) (λi=>i<=4) (λi=>4-i) ?_ ?_
 ·exact⟨0,by simp,.refl,dY,.cons rfl (.cons rfl .nil)⟩
 ·intro i hi
  match i,hi with
  |0,_=>refine a5.mk (λ_=>?_) (λh=>by simp at h);refine cA.mk 0 rfl (by decide) ?_;refine cA.mk 0 rfl (by decide) ?_;refine cA.mk 0 rfl (by decide) ?_;refine be.mk 1 (by decide) ?_;exact⟨1,⟨by simp,by simp⟩,.refl,dY,.cons rfl (.cons rfl .nil)⟩| 1,_=>refine a5.mk (λ_=>?_) (λh=>by simp at h);refine cA.mk 1 rfl (by decide) ?_;refine cA.mk 1 rfl (by decide) ?_;refine cA.mk 1 rfl (by decide) ?_;refine be.mk 2 (by decide) ?_;exact⟨2,⟨by simp,by simp⟩,.refl,dY,.cons rfl (.cons rfl .nil)⟩| 2,_=>refine a5.mk (λ_=>?_) (λh=>by simp at h);refine cA.mk 2 rfl (by decide) ?_;refine cA.mk 2 rfl (by decide) ?_;refine cA.mk 2 rfl (by decide) ?_;refine be.mk 3 (by decide) ?_;exact⟨3,⟨by simp,by simp⟩,.refl,dY,.cons rfl (.cons rfl .nil)⟩| 3,_=>refine a5.mk (λ_=>?_) (λh=>by simp at h);refine cA.mk 3 rfl (by decide) ?_;refine cA.mk 3 rfl (by decide) ?_;refine cA.mk 3 rfl (by decide) ?_;refine be.mk 4 (by decide) ?_;exact⟨4,⟨by simp,by simp⟩,.refl,dY,.cons rfl (.cons rfl .nil)⟩| 4,_=>refine a5.mk (λh=>by simp at h) (λ_=>?_);refine⟨_,_,.refl,?_,rfl,rfl⟩;show Value.agg #[.int .u64 (o8 x.a.toNat y.a.toNat),.int .u64 (o8 x.b.toNat y.b.toNat),.int .u64 (o8 x.c.toNat y.c.toNat),.int .u64 (o8 x.d.toNat y.d.toNat)]=_;rw[IE,IE,IE,IE];rfl
def fW.aat{p q:bh}{V:Value->Prop}(h:V (.bool (decide (p=q)))) :
  fW Tryz.prog .eql 62 x y (.val (.agg #[.int .u64 p.a.toNat,.int .u64 p.b.toNat,.int .u64 p.c.toNat,.int .u64 p.d.toNat])) (.val (.agg #[.int .u64 q.a.toNat,.int .u64 q.b.toNat,.int .u64 q.c.toNat,.int .u64 q.d.toNat])) V other:=by
 refine fW.Po a3 (e:=60) rfl rfl rfl rfl (by kernel_rfl) ?_;rw[bh.lP];exact h
def amf(x y:BitVec 64):s5 (x.toNat:Int) (y.toNat:Int)=decide (x=y):=by rw[CL,<-EK,tj];simp
def E8(v:α)(x:R)(f:α->R):bx (some v) x f=f v:=rfl
def aau(a9 mid post:List Value)(k:Nat)(vs:List Value)(h:k+vs.length<=mid.length):cq (a9++(mid++post)) (a9.length+k) vs=a9++(cq mid k vs++post):=by
 unfold cq;have aa:(a9++(mid++post)).take (a9.length+k)=a9++mid.take k:=by rw[HH,Nat.add_sub_cancel_left,fS (by omega),BG (by omega)]
 have ab:(a9++(mid++post)).drop (a9.length+k+vs.length)=mid.drop (k+vs.length)++post:=by rw[tl,Wc,Q9 h]
 rw[aa,ab];simp
def amg(f:α->List Value)(size:Nat)(aB:∀ x,(f x).length=size)(l:List α)(i:Nat)(hi:i<l.length)(k:Nat)(vs:List Value)(ae:k+vs.length<=size)(lj:α)(ad:cq (f l[i]) k vs=f lj) :
  cq (l.flatMap f) (i*size+k) vs=(l.set i lj).flatMap f:=by
 have e:l=l.take i++l[i]::l.drop (i+1):=by rw[<-fi hi,pM]
 have aK:l.flatMap f=(l.take i).flatMap f++(f l[i]++(l.drop (i+1)).flatMap f):=by
  calc l.flatMap f=(l.take i++l[i]::l.drop (i+1)).flatMap f:=congrArg _ e
   _=_:=by rw[fX,jf]
 have a7:((l.take i).flatMap f).length=i*size:=by rw[gL f size aB,LX (by omega)]
 rw[aK,<-a7,aau _ _ _ _ _ (by rw[aB];exact ae),GQ,bT hi,fX,jf,ad]
def amh{m:Nat}(h:j+vs.length<=m)(hm:m<=aU.length):(cq aU j vs).take m=cq (aU.take m) j vs:=by
 unfold cq;have aa:(aU.take m).take j=aU.take j:=by rw[zA,pC (by omega)]
 have ab:(aU.take m).drop (j+vs.length)=(aU.drop (j+vs.length)).take (m-(j+vs.length)):=by rw[DT]
 have ai:(aU.take j).length=j:=by rw[fR];omega
 rw[aa,ab,ec,ec,HH,ai,fS (by omega),HH,fS (by omega:vs.length<=m-j)];congr 3;omega
def aQ.put(f:α->List Value)(size:Nat)(aB:∀ x,(f x).length=size){l:List α}{e:Nat}(h:os.ok size (l.flatMap f)){i:Nat}(hi:i<l.length)(k:Nat)(ae:k+vs.length<=size)(aa:fJ vs=true)(lj:α)(ad:cq (f l[i]) k vs=f lj)(a9 post:List aF)(bb:M=a9++(os.ar e++post))(ax:os.a=some g)(ami:off=i*size+k){K:List aF->Prop}
  (gq:∀ (bu:aQ),bu.val=os.val->bu.a=os.a->bu.n=os.n->bu.ok size ((l.set i lj).flatMap f)->K (a9++(bu.ar e++post))):cd M ⟨g,off,none⟩ vs K:=by
 have Bx:=h.len;rw[gL f size aB]at Bx;obtain⟨a,n,c,aU⟩:=os;have aA:l.length*size=n*size:=Bx;simp only at ax;subst ax;obtain⟨ew,e9,fb,jS⟩:=h.cap g rfl;simp only at ew e9 fb jS;have ag:n*size<=c*size:=qn _ e9;have hW:i*size+size<=l.length*size:=by have:=qn size (show i+1<=l.length from hi);rwa [lT,oI]at this
 subst bb;subst ami;refine cd.mk a9 post aU.toArray e rfl rfl ?_ aa ?_
 ·simp only[tz];omega
 ·have:=gq ⟨some g,n,c,cq aU (i*size+k) vs⟩ rfl rfl rfl ⟨?_,(λh=>by cases h),λeu ax=>?_⟩
  ·simpa[aQ.ar]using this
  ·rw[gL f size aB,rW];exact aA
  ·cases ax;refine⟨?_,e9,fb,?_⟩
   ·simp only[cq,cm,fR,qw];omega
   ·simp only;rw[amh (by omega) (by omega),jS,amg f size aB l i hi k vs ae lj ad]
def amj(l:List Value)(k:Nat)(v:Value)(h:k<l.length):cq l k [v]=l.set k v:=by rw[GQ,bT h];simp[cq]
def aQ.IF(f:α->List Value)(size:Nat)(aB:∀ x,(f x).length=size){l:List α}{e:Nat}(h:os.ok size (l.flatMap f)){i:Nat}(hi:i<l.length)(lj:α)(aa:fJ (f lj)=true)(a9 post:List aF)(bb:M=a9++(os.ar e++post))(bI:(os.a.map λg=>(⟨g,0,none⟩:Addr))=some aP){K:List aF->Prop}
  (gq:∀ (bu:aQ),bu.val=os.val->bu.a=os.a->bu.n=os.n->bu.ok size ((l.set i lj).flatMap f)->K (a9++(bu.ar e++post))):cd M (aP.add (i*size)) (f lj) K:=by
 obtain⟨g,ax,rfl⟩:∃ g,os.a=some g/\aP=⟨g,0,none⟩:=by
  cases a6:os.a with
  |none=>rw[a6]at bI;cases bI| some g=>rw[a6]at bI;cases bI;exact⟨g,rfl,rfl⟩
 rw[eO (⟨g,0,none⟩:Addr) rfl];refine aQ.put f size aB h hi 0 (vs:=f lj) (by rw[aB];omega) aa lj ?_ a9 post bb ax (by simp) gq;unfold cq;simp[aB]
def aQ.E9(f:α->List Value)(size:Nat)(aB:∀ x,(f x).length=size){l:List α}{e:Nat}(h:os.ok size (l.flatMap f)){i:Nat}(hi:i<l.length)(k:Nat)(ae:k+vs.length<=size)(aa:fJ vs=true)(lj:α)(ad:cq (f l[i]) k vs=f lj)(a9 post:List aF)(bb:M=a9++(os.ar e++post))(bI:(os.a.map λg=>(⟨g,0,none⟩:Addr))=some aP){K:List aF->Prop}
  (gq:∀ (bu:aQ),bu.val=os.val->bu.a=os.a->bu.n=os.n->bu.ok size ((l.set i lj).flatMap f)->K (a9++(bu.ar e++post))):cd M ((aP.add (i*size)).add k) vs K:=by
 obtain⟨g,ax,rfl⟩:∃ g,os.a=some g/\aP=⟨g,0,none⟩:=by
  cases a6:os.a with
  |none=>rw[a6]at bI;cases bI| some g=>rw[a6]at bI;cases bI;exact⟨g,rfl,rfl⟩
 rw[eO (⟨g,0,none⟩:Addr) rfl,eO _ rfl];exact aQ.put f size aB h hi k ae aa lj ad a9 post bb ax (by simp) gq
def aav(w:et){k:Nat}(ae:k<64):IntKind.u64.wrap ((BitVec.ofInt 64 ((w.toNat:Int).fdiv (2^(min k 64))) &&& BitVec.ofInt 64 1).toNat:Int)=bif w.getLsbD k then 1 else 0:=by
 have aD:w.toNat<18446744073709551616:=w.isLt;have di:min k 64=k:=by omega
 have aK:(w.toNat:Int).fdiv (2^k)=((w.toNat/2^k:Nat):Int):=by rw[K8 _ (by exact Int.le_of_lt (Int.pow_pos (by decide)))];simp
 rw[di,aK];have a7:(BitVec.ofInt 64 ((w.toNat/2^k:Nat):Int) &&& BitVec.ofInt 64 1).toNat=w.toNat/2^k%2:=by
  have aa:BitVec.ofInt 64 ((w.toNat/2^k:Nat):Int)=BitVec.ofNat 64 (w.toNat/2^k):=(show ∀ m:Nat,BitVec.ofInt 64 (m:Int)=BitVec.ofNat 64 m from λm=>by simp) _;have ab:BitVec.ofInt 64 1=BitVec.ofNat 64 1:=by decide
  rw[aa,ab,K',En,En];have ai:w.toNat/2^k%2^64=w.toNat/2^k:=Eo (Nat.lt_of_le_of_lt (Nat.div_le_self _ _) aD);rw[ai,show 1%2^64=1 by decide,Nat.and_one_is_mod]
 rw[a7];have ck:IntKind.u64.wrap ((w.toNat/2^k%2:Nat):Int)=((w.toNat/2^k%2:Nat):Int):=by have:w.toNat/2^k%2<2:=Nat.mod_lt _ (by decide);unfold IntKind.wrap;simp only[IntKind.bits,IntKind.signed];simp;omega
 rw[ck];have dM:w.getLsbD k=w.toNat.testBit k:=rfl;rw[dM,Nat.testBit_eq_decide_div_mod_eq];have:w.toNat/2^k%2<2:=Nat.mod_lt _ (by decide);by_cases h:w.toNat/2^k%2=1
 ·rw[h];rfl
 ·have aw:w.toNat/2^k%2=0:=by omega
  rw[aw];rfl
def R3{k:Nat}(ae:k<64):IntKind.u64.wrap (1*2^(min k 64))=((lB k).toNat:Int):=by
 have di:min k 64=k:=by omega
 have aa:(2:Nat)^k<2^64:=Q' (by decide) ae;have e:(lB k).toNat=2^k:=by unfold lB;rw[BitVec.toNat_shiftLeft];simp only[En];rw[Nat.shiftLeft_eq,show 1%2^64=1 by decide,oI,Eo aa]
 rw[di,e,Int.one_mul];have a7:((2:Int)^k)=((2^k:Nat):Int):=by simp
 rw[a7];unfold IntKind.wrap;simp only[IntKind.bits,IntKind.signed];simp;omega
def o9(w:et):Value:=.int .u64 w.toNat
def aaw{w:et}{i:Nat}(a4:i<64)(ab:¬ IntKind.u64.wrap ((BitVec.ofInt 64 ((w.toNat:Int).fdiv (2^(min i 64))) &&& BitVec.ofInt 64 1).toNat:Int)=0):w.getLsbD i=true:=by
 have ag:=aav w a4;cases ax:w.getLsbD i with
 |true=>rfl| false=>rw[ax]at ag;exact absurd ag ab
def aax{w:et}{i:Nat}(a4:i<64)(ab:IntKind.u64.wrap ((BitVec.ofInt 64 ((w.toNat:Int).fdiv (2^(min i 64))) &&& BitVec.ofInt 64 1).toNat:Int)=0):w.getLsbD i=false:=by
 have ag:=aav w a4;cases ax:w.getLsbD i with
 |false=>rfl| true=>rw[ax,ab]at ag;cases ag
def aay{b:Int}(h:(!decide (a=b))=true):¬ a=b:=by simpa using h
def aaz{b:Int}(h:(!decide (a=b))=false):a=b:=by simpa using h
def aaA(w:et):Spec Tryz.prog 167 [.int .u64 w.toNat] I M0 λv I' M'=>I'=I/\∃ os:aQ,os.ok 1 ((bitsOf w 64).map λn:Nat=>Value.int .i64 n)/\v=os.val/\M'=os.ar 3++M0:=by
 refine b0 [] a3 Tryz.func167 rfl rfl rfl ?_;intro B aw;refine dx.inv (ι:=Nat×aQ) (λx=>{ bp:=[(0,.val (.int .u64 w.toNat)),(3,.val x.2.val),(5,.val (.int .i64 x.1))],cP:=I,da:=x.2.ar 3++M0 }) (λx=>x.1<=64/\x.2.ok 1 ((bitsOf w x.1).map λn:Nat=>Value.int .i64 n)) (λx=>64-x.1) ?_ ?_
 ·exact⟨(0,h3),⟨by simp,k0 1⟩,.refl,fw,.nil⟩
 rintro⟨i,os⟩⟨hi,cc⟩;simp only at hi cc;have ic:os.n<=64:=by have aa:=cc.len;rw[bE]at aa;have:=alQ w i;omega
 refine a5.mk (λh=>?_) (λh=>?_)
 rotate_left
 ·have c8:i=64:=by have:¬ (i:Int)<64:=dP h;omega
  rw[c8]at cc;exact⟨_,_,.refl,rfl,os,cc,rfl,rfl⟩
 have a4:i<64:=by have:(i:Int)<64:=c5 h;omega
 refine sy.mk i rfl ?_;refine a5.mk (λab=>?_) (λab=>?_)
 ·have hw:=aaw (w:=w) a4 (aay ab);refine bZ.mk λb9 m8 Ce=>?_;refine bF.l7 a3 rfl (by simp) (e:=3) rfl rfl rfl os cc rfl (cs:=[.int .i64 i]) rfl rfl rfl [] M0 rfl (by omega) (by show(os.n+1)*8<=_;omega) ?_;intro iw lG gx ji;refine be.mk _ (dc (i:=i) (by omega)) ?_;refine⟨(i+1,iw),⟨⟨a4,?_⟩,by simp only;omega⟩,.refl,fw,.nil⟩;simp only;rw[ZB,hw,cS];exact ji
 ·have hw:=aax (w:=w) a4 (aaz ab);refine be.mk _ (dc (i:=i) (by omega)) ?_;refine⟨(i+1,os),⟨⟨a4,?_⟩,by simp only;omega⟩,.refl,fw,.nil⟩;simp only;rw[ZB,hw,cb,dD];exact cc
def Aw(w:et):ap:=.i .u64 w.toNat
def aaB{e:Nat}(he:E e=some aG)(av:aG.size=1)(a6:aG.bQ.agg=false)(P:List ap)(x:ap)(r:List ap):Ao E e (P.length*aG.size) (P++x::r)=some x:=by unfold Ao;rw[he,E8,av,gP,IA,Ra,a6];rfl
def aaC{F:Nat->ap->ap->Option Bool}{E:Env}{e:Nat}{aG:dR}(he:E e=some aG)(av:aG.size=1)(a6:aG.bQ.agg=false)(bs:∀ a b,F e (.i .u64 a) (.i .u64 b)=some (s5 a b)):∀ (l m:List et) (E' Fa:List ap),l.length=m.length->E'.length=Fa.length -> CE F E (E'++l.map Aw) (Fa++m.map Aw) ((List.range' E'.length l.length).map λi=>(e,i*aG.size))=some (decide (l=m))
 |[],[],E',Fa,_,_=>rfl| [],_::_,_,_,h,_=>by simp at h
 |_::_,[],_,_,h,_=>by simp at h
 |a::l,b::m,E',Fa,h,aH=>by
  have aN:=aaC he av a6 bs l m (E'++[Aw a]) (Fa++[Aw b]) (by simpa using h) (by simpa using aH);rw[cm,o5,ec,ec,qO,qO]at aN;rw[eo,OH,ca,ca,ca,CE,aaB he av a6,E8,aH,aaB he av a6,E8,<-aH];rw[show F e (Aw a) (Aw b)=some (decide (a=b)) by rw[<-amf];exact bs _ _,E8,kx];by_cases aK:a=b;·subst aK;simp only[Lu,sv];rw[aN];simp
  ·simp[aK]
def k4(m:List et):List Value:=(List.range 64).map λi=>o9 (m.getD i 0)
def Mu(h:m.length=64):k4 m=m.map o9:=by
 unfold k4;apply oH
 ·simp[h]
 ·intro i aa ab;have:i<m.length:=by simpa using ab
  simp[bM,this]
def uj(m:List et):(k4 m).length=64:=by simp[k4]
def amk{p q:List et}(aH:p.length=64)(aM:q.length=64){V:Value->Prop}(h:V (.bool (decide (p=q)))) :
  fW Tryz.prog .eql 203 x y (.val (.agg (k4 p).toArray)) (.val (.agg (k4 q).toArray)) V other:=by
 rw[Mu aH,Mu aM];have aj:∀ l:List et,bO (λ_=>none) (l.map Aw) (l.map o9):=λl=>by
  induction l with
  |nil=>exact .nil| cons a l aN=>exact .cons (by simp only[Aw,o9,aW]) aN
 refine aas (X:=⟨Tryz.prog,sJ,[],0,0,default,λ_=>none,[],none⟩) (D:=λ_=>none) (v:=.b (decide (p=q))) a3 ?_ (aj p) (aj q) (λu hu=>by simp only[aW]at hu;rw[hu];exact h);show Il Tryz.prog sJ .eql 203 _ _=_;obtain⟨i1,aa,gj⟩:∃ i,sJ 203=some i/\i.bQ=.array 64 60:=⟨_,rfl,rfl⟩;obtain⟨i2,ab,oG,aml⟩:∃ i,sJ 60=some i/\i.bQ=.int .u64/\i.size=1:=⟨_,rfl,rfl,rfl⟩;have bs:∀ a b,yH Tryz.prog sJ 7 60 (.i .u64 a) (.i .u64 b)=some (s5 a b):=λa b=>by simp only[yH,ab,E8,oG];rfl
 have ae:=aaC (F:=yH Tryz.prog sJ 7) ab aml (by rw[oG];rfl) bs p q [] [] (by omega) rfl;unfold Il;rw[yH];simp only[aa,E8,gj,ab];rw[hX,hX,g3,aH]at ae;rw[DE,ae,show Tryz.prog.eqGuardType Tryz.prog.depth 203=false by kernel_rfl];rfl
structure eb where
 n:Nat
 m:List et
 w:et
def eb.cells(s:eb):List Value:=.int .i64 s.n::(k4 s.m++[o9 s.w])
def eb.val(s:eb):Value:=.agg s.cells.toArray
def eb.amm(s:eb):Prop:=s.m.length=64/\s.n<=64
def xd(b:Nat)(m:List et):aF:=⟨b,.cells (k4 m).toArray 203 (0,0)⟩
def IG{b:Nat}(bb:xd b m∈M):cY I M (⟨b,0,none⟩:Addr) 64 (k4 m):=
 ⟨rfl,_,_,_,.inr ⟨_,bb,rfl,rfl⟩,by simp only[tA];exact fS (by simp[uj]),uj m⟩
def aaD{b:Nat}(bb:xd b m∈M)(ak:j<64):cY I M ((⟨b,0,none⟩:Addr).add (j*1)) 1 [o9 (m.getD j 0)]:=by rw[eO _ rfl];refine⟨rfl,_,_,_,.inr ⟨_,bb,rfl,rfl⟩,?_,rfl⟩;simp only[dp,gP];rw[fi (by simpa[k4]using ak),ry,qx];simp[k4]
def aaE(m:List et)(hm:m.length=64)(j:Nat)(ak:j<64)(w:et):cq (k4 m) (0+j*1) [o9 w]=k4 (m.set j w):=by rw[Mu hm,Mu (by simpa using hm),dp,gP,amj _ _ _ (by simp[hm];exact ak),qy]
def oe(m:List et)(i:Nat):List et:=(List.range i).map (λq=>nc m 0 64 (m.getD q 0))++m.drop i
def aaF(hm:m.length=64){i:Nat}(hi:i<=64):(oe m i).length=64:=by simp[oe,hm];omega
def amn(hm:m.length=64){i:Nat}(hi:i<64):(oe m i).set i (m.getD i 0)=oe m i:=by
 unfold oe;have h:i<m.length:=by omega
 rw[Ch _ _ (by simp)];simp only[bE,w2,mD];rw[fi h,Ci];simp[bM,h]
def amo(hm:m.length=64){i:Nat}(hi:i<64):(oe m i).set i (nc m 0 64 (m.getD i 0))=oe m (i+1):=by
 unfold oe;have h:i<m.length:=by omega
 rw[Ch _ _ (by simp)];simp only[bE,w2,mD];rw[fi h,Ci,EN,cS,ec];rfl
def aaG(hm:m.length=64):oe m 64=r4 m:=by unfold oe r4;rw[s4 (by omega),dD]
def Ax(m:List et)(k:Nat):et:=(List.range k).foldl (λw i=>w ||| ((m.getD i 0) &&& lB i)) 0
def amp(m:List et)(k:Nat):Ax m (k+1)=Ax m k ||| (m.getD k 0 &&& lB k):=by unfold Ax;rw[EN,tT];rfl
def amq{b:Int}(h:a=b):zu (.val (.int .u64 a)) (.val (.int .u64 b)):=by subst h;exact .refl
def amr(m:List et)(k:Nat):k3 (Ax m k).toNat (o8 (m.getD k 0).toNat (lB k).toNat)=((Ax m (k+1)).toNat:Int):=by rw[IE,ui,amp]
def ams{k:Nat}{w:et}(ae:k<64)(h:w.getLsbD k=true):nc m k (64-k) w=nc m (k+1) (64-(k+1)) (w ||| m.getD k 0):=by rw[show 64-k=(64-(k+1))+1 by omega,nc,h];rfl
def amt{k:Nat}{w:et}(ae:k<64)(h:w.getLsbD k=false):nc m k (64-k) w=nc m (k+1) (64-(k+1)) w:=by rw[show 64-k=(64-(k+1))+1 by omega,nc,h];rfl
def R4{i:Nat}(hi:i<m.length)(w:et):(m.set i w).getD i 0=w:=by simp[bM,hi]
def amu(s:eb)(av:s.amm):Spec Tryz.prog 168 [s.val] I M0 λv I' M'=>I'=I/\M'=M0/\∃ b:et,v=.int .u64 b.toNat/\∀ i,i<64->(b.getLsbD i=true ↔ qU s.m i i):=by
 refine b0 [1,3,4] a3 Tryz.func168 rfl rfl rfl ?_;intro B aw;obtain⟨gj,oG⟩:=av;refine bZ.mk λb1 iN QN=>?_;refine aV.mk (k4 s.m) ?_ ?_
 ·refine⟨rfl,_,_,_,.inr ⟨_,.head _,rfl,rfl⟩,?_,uj _⟩;show((s.cells).drop 1).take 64=_;rw[eb.cells,Ig,tA];exact sK (uj _)
 refine bZ.mk λdA Ay axw=>?_;refine cd.dF [] _ _ _ rfl rfl rfl rfl (k4 s.m) rfl ?_;refine dx.inv (ι:=List et) (λm=>{ bp:=[(3,.val (ptr dA))],cP:=I,da:=xd dA m::M0 }) (Al s.m) Am ?_ ?_
 ·exact⟨s.m,.start gj,.sub (.cons_cons _ (.cons _ (.refl _))) .refl,.cons .refl (.nil),.nil⟩
 intro m hm;have hn:=hm.len;refine aV.mk _ (IG (.head _)) ?_;refine bZ.mk λgT Fb amv=>?_;refine cd.dF [] _ _ _ rfl rfl rfl rfl (k4 m) rfl ?_;refine dx.inv (ι:=Nat) (λi=>{ bp:=[(3,.val (ptr dA)),(4,.val (ptr gT)),(13,.val (.int .i64 i))],cP:=I,da:=xd gT (oe m i)::(xd dA m::M0) }) (λi=>i<=64) (λi=>64-i) ?_ ?_
 ·refine⟨0,dj _,.refl,fw,.nil⟩
 intro i hi;refine a5.mk (λh=>?_) (λh=>?_)
 rotate_left
 ·have c8:i=64:=by have:¬ (i:Int)<64:=dP h;omega
  subst c8;refine aV.mk _ (IG (.head _)) ?_;refine aV.mk _ (IG (.tail _ (.head _))) ?_;refine amk (aaF hn (b2 _)) hn ?_;rw[aaG hn];refine a5.mk (λhe=>?_) (λhe=>?_)
  ·have rA:r4 m=m:=c5 he;refine aV.mk _ (IG (.tail _ (.head _))) ?_;refine dx.inv (ι:=Nat) (λk=>{ bp:=[(7,.val (.int .u64 (Ax m k).toNat)),(40,.val (.agg (k4 m).toArray)),(41,.val (.int .i64 k))],cP:=I,da:=M0 }) (λk=>k<=64) (λk=>64-k) ?_ ?_
   ·exact⟨0,dj _,.sub (.cons _ (.cons _ (.refl _))) .refl,fw,.nil⟩
   intro k ae;refine a5.mk (λh=>?_) (λh=>?_)
   rotate_left
   ·have c8:k=64:=by have:¬ (k:Int)<64:=dP h;omega
    subst c8;exact⟨_,_,.refl,rfl,rfl,Ax m 64,rfl,λi hi=>by rw[show Ax m 64=Re m from rfl,alP m hi,hm.done rA hi hi]⟩
   have e1:k<64:=by have:(k:Int)<64:=c5 h;omega
   clear h ae;have ao:k=0\/k=1\/k=2\/k=3\/k=4\/k=5\/k=6\/k=7\/k=8\/k=9\/k=10\/k=11\/k=12\/k=13\/k=14\/k=15\/k=16\/k=17\/k=18\/k=19\/k=20\/k=21\/k=22\/k=23\/k=24\/k=25\/k=26\/k=27\/k=28\/k=29\/k=30\/k=31\/k=32\/k=33\/k=34\/k=35\/k=36\/k=37\/k=38\/k=39\/k=40\/k=41\/k=42\/k=43\/k=44\/k=45\/k=46\/k=47\/k=48\/k=49\/k=50\/k=51\/k=52\/k=53\/k=54\/k=55\/k=56\/k=57\/k=58\/k=59\/k=60\/k=61\/k=62\/k=63:=by omega
   rcases ao with rfl | rfl | rfl | rfl | rfl | rfl | rfl | rfl | rfl | rfl | rfl | rfl | rfl | rfl | rfl | rfl | rfl | rfl | rfl | rfl | rfl | rfl | rfl | rfl | rfl | rfl | rfl | rfl | rfl | rfl | rfl | rfl | rfl | rfl | rfl | rfl | rfl | rfl | rfl | rfl | rfl | rfl | rfl | rfl | rfl | rfl | rfl | rfl | rfl | rfl | rfl | rfl | rfl | rfl | rfl | rfl | rfl | rfl | rfl | rfl | rfl | rfl | rfl | rfl
   all_goals
    refine cA.mk _ rfl e1 ?_;refine sy.mk _ rfl ?_;refine be.mk _ (R3 e1) ?_;refine be.mk _ (dc (by omega)) ?_;exact⟨_,⟨e1,by omega⟩,.refl,.cons (amq (amr m _)) (x3),.nil⟩
  ·have rA:r4 m≠m:=dP he;refine aV.mk _ (IG (.head _)) ?_;refine cd.dF [_] _ _ _ rfl rfl rfl rfl (k4 (oe m 64)) rfl ?_;refine⟨r4 m,⟨hm.next,alO hn rA⟩,.sub (.cons _ (.refl _)) (.l6 ?_),.cons .refl (.nil),.nil⟩;rw[aaG hn];rfl
 have a4:i<64:=by have:(i:Int)<64:=c5 h;omega
 have oL:=aaF hn hi;refine dx.inv (ι:=Nat×et) (λs=>{ bp:=[(3,.val (ptr dA)),(4,.val (ptr gT)),(5,.val (.int .i64 i)),(13,.val (.int .i64 i)),(16,.val (.int .i64 s.1))],cP:=I,da:=xd gT ((oe m i).set i s.2)::(xd dA m::M0) }) (λs=>s.1<=64/\nc m 0 64 (m.getD i 0)=nc m s.1 (64-s.1) s.2) (λs=>64-s.1) ?_ ?_
 ·refine⟨(0,m.getD i 0),⟨dj _,rfl⟩,.l6 ?_,il,.nil⟩;simp only;rw[amn hn a4]
 rintro⟨k,w⟩⟨ae,eW⟩;simp only at ae eW;refine a5.mk (λh=>?_) (λh=>?_)
 rotate_left
 ·have c8:k=64:=by have:¬ (k:Int)<64:=dP h;omega
  subst c8;have yE:nc m 0 64 (m.getD i 0)=w:=eW;refine be.mk _ (dc (i:=i) (by omega)) ?_;refine⟨i+1,⟨a4,by omega⟩,.l6 ?_,fw,.nil⟩;rw[<-amo hn a4,yE]
 have e1:k<64:=by have:(k:Int)<64:=c5 h;omega
 have g6:((oe m i).set i w).length=64:=by rw[rW,oL]
 have aaH:∀ {M:List aF},xd gT ((oe m i).set i w)∈M->cY I M ((⟨gT,0,none⟩:Addr).add (i*1)) 1 [.int .u64 w.toNat]:=λbb=>by have:=aaD (I:=I) bb a4;rwa [R4 (by omega) w]at this
 have sI:∀ {M:List aF},xd dA m∈M->cY I M ((⟨dA,0,none⟩:Addr).add (k*1)) 1 [.int .u64 (m.getD k 0).toNat]:=λbb=>aaD (I:=I) bb e1;refine cA.mk i rfl a4 ?_;refine aV.mk _ (aaH (.head _)) ?_;refine sy.mk k rfl ?_;refine a5.mk (λab=>?_) (λab=>?_)
 ·have hw:=aaw (w:=w) e1 (aay ab);refine c2.draw a3 rfl rfl rfl ?_;refine cA.mk i rfl a4 ?_;refine aV.mk _ (aaH (.head _)) ?_;refine cA.mk k rfl e1 ?_;refine aV.mk _ (sI (.tail _ (.head _))) ?_;refine cA.mk i rfl a4 ?_;refine cd.iP [] (xd dA m::M0) (k4 ((oe m i).set i w)) _ rfl ?_ rfl (k4 ((oe m i).set i (w ||| m.getD k 0))) ?_ ?_
  ·rw[nO,uj];show 0+i*1+1<=64;omega
  ·show cq _ _ [Value.int .u64 (k3 w.toNat (m.getD k 0).toNat)]=_;rw[ui];have:=aaE ((oe m i).set i w) g6 i a4 (w ||| m.getD k 0);rw[Hj]at this;exact this
  refine be.mk _ (dc (i:=k) (by omega)) ?_;exact⟨(k+1,w ||| m.getD k 0),⟨⟨e1,by rw[eW,ams e1 hw]⟩,by simp only;omega⟩,.refl,il,.nil⟩
 ·have hw:=aax (w:=w) e1 (aaz ab);refine be.mk _ (dc (i:=k) (by omega)) ?_;exact⟨(k+1,w),⟨⟨e1,by rw[eW,amt e1 hw]⟩,by simp only;omega⟩,.refl,il,.nil⟩
def Mv{k:Nat}(ae:k<64):IntKind.u64.wrap (1*2^(min k IntKind.u64.bits))=((1#64 <<< k).toNat:Int):=by
 have aa:(1#64 <<< k).toNat=2^k:=by rw[BitVec.toNat_shiftLeft,Nat.shiftLeft_eq];have:2^k<2^64:=Q' (by decide) ae;simp only[En];rw[Eo (by decide:1<2^64),oI];exact Eo this
 have ab:min k IntKind.u64.bits=k:=by simp only[IntKind.bits];omega
 have ai:2^k<2^64:=Q' (by decide) ae;rw[aa,ab,Int.one_mul];have e:((2:Int)^k)=((2^k:Nat):Int):=by simp
 rw[e];generalize 2^k=q at ai;unfold IntKind.wrap;simp only[IntKind.bits,IntKind.signed];simp;omega
def amw(l:List UInt8)(b:UInt8):oc (l++[b])=(oc l).or (vq b):=by simp[oc]
def amx(n:Nat)(h:n<256):IntKind.u8.wrap (n:Int)=(n:Int):=by unfold IntKind.wrap;simp only[IntKind.bits,IntKind.signed];simp;omega
def aaI(s:ByteArray)(av:s.size<=140737488355328):Spec Tryz.prog 97 [.string s] I M λr I' M'=>r=(oc s.data.toList).val/\I'=I/\M'=M:=by
 refine b0 [] a3 Tryz.func97 rfl rfl rfl ?_;intro B aw;have dk:s.data.toList.length=s.size:=x4;refine dx.inv (ι:=Nat) (λi=>{ bp:=[(0,.val (.string s)),(2,.ref 2 0),(3,.ref 3 0),(4,.val (.int .i64 i))],cl:=[(2,bh.zero.cells),(3,(oc (s.data.toList.take i)).cells)],cP:=I,da:=M }) (λi=>i<=s.size) (λi=>s.size-i) ?_ ?_
 ·exact⟨0,dj _,.refl,dY,.cons rfl (.cons rfl (.nil))⟩
 intro i hi;refine a5.mk (λh=>?_) (λh=>?_)
 rotate_left
 ·have c8:s.size<=i:=by have:¬ (i:Int)<(s.size:Int):=dP h;omega
  have hw:s.data.toList.take i=s.data.toList:=fS (by omega);refine⟨_,_,.refl,?_,rfl,rfl⟩;show(oc (s.data.toList.take i)).val=_;rw[hw]
 have a4:i<s.size:=by have:(i:Int)<(s.size:Int):=c5 h;omega
 have GF:s.data.toList[i]'(by omega)=s[i]:=by rw[Array.getElem_toList];rfl
 have IH:oc (s.data.toList.take (i+1))=(oc (s.data.toList.take i)).or (vq s[i]):=by rw[gH (by omega),amw,GF]
 generalize oc (s.data.toList.take i)=w at IH;have ag:=s[i].toNat_lt;have em:((s[i].toNat:Int)).tmod 64=((s[i].toNat%64:Nat):Int):=rfl;have kN:((s[i].toNat:Int)).tdiv 64=((s[i].toNat/64:Nat):Int):=rfl;refine c2.draw a3 rfl rfl rfl ?_;refine tm.mk i rfl a4 ?_;refine uL.mk (by decide) ?_;rcases(by omega:s[i].toNat/64=0\/s[i].toNat/64=1\/s[i].toNat/64=2\/s[i].toNat/64=3)with ak | ak | ak | ak
 ·refine be.mk 0 (by rw[kN,ak];decide) ?_;refine cA.mk 0 rfl (by decide) ?_;refine tm.mk i rfl a4 ?_;refine uL.mk (by decide) ?_;refine sy.mk (s[i].toNat%64) em ?_;refine be.mk _ (Mv (by omega)) ?_;refine cA.mk 0 rfl (by decide) ?_;refine be.mk _ (dc (i:=i) (by omega)) ?_;refine⟨i+1,⟨a4,by omega⟩,.refl,dY,.cons rfl (.cons ?_ .nil)⟩;rw[IH,show vq s[i]=bh.one 0 (1#64 <<< (s[i].toNat%64)) by rw[vq,ak]];refine congrArg some ?_;show([.int .u64 (k3 w.a.toNat (1#64 <<< (s[i].toNat%64)).toNat),.int .u64 w.b.toNat,.int .u64 w.c.toNat,.int .u64 w.d.toNat]:List Value)=_;rw[ui];simp[bh.cells,bh.or,bh.one]
 ·refine be.mk 1 (by rw[kN,ak];decide) ?_;refine cA.mk 1 rfl (by decide) ?_;refine tm.mk i rfl a4 ?_;refine uL.mk (by decide) ?_;refine sy.mk (s[i].toNat%64) em ?_;refine be.mk _ (Mv (by omega)) ?_;refine cA.mk 1 rfl (by decide) ?_;refine be.mk _ (dc (i:=i) (by omega)) ?_;refine⟨i+1,⟨a4,by omega⟩,.refl,dY,.cons rfl (.cons ?_ .nil)⟩;rw[IH,show vq s[i]=bh.one 1 (1#64 <<< (s[i].toNat%64)) by rw[vq,ak]];refine congrArg some ?_;show([.int .u64 w.a.toNat,.int .u64 (k3 w.b.toNat (1#64 <<< (s[i].toNat%64)).toNat),.int .u64 w.c.toNat,.int .u64 w.d.toNat]:List Value)=_;rw[ui];simp[bh.cells,bh.or,bh.one]
 ·refine be.mk 2 (by rw[kN,ak];decide) ?_;refine cA.mk 2 rfl (by decide) ?_;refine tm.mk i rfl a4 ?_;refine uL.mk (by decide) ?_;refine sy.mk (s[i].toNat%64) em ?_;refine be.mk _ (Mv (by omega)) ?_;refine cA.mk 2 rfl (by decide) ?_;refine be.mk _ (dc (i:=i) (by omega)) ?_;refine⟨i+1,⟨a4,by omega⟩,.refl,dY,.cons rfl (.cons ?_ .nil)⟩;rw[IH,show vq s[i]=bh.one 2 (1#64 <<< (s[i].toNat%64)) by rw[vq,ak]];refine congrArg some ?_;show([.int .u64 w.a.toNat,.int .u64 w.b.toNat,.int .u64 (k3 w.c.toNat (1#64 <<< (s[i].toNat%64)).toNat),.int .u64 w.d.toNat]:List Value)=_;rw[ui];simp[bh.cells,bh.or,bh.one]
 ·refine be.mk 3 (by rw[kN,ak];decide) ?_;refine cA.mk 3 rfl (by decide) ?_;refine tm.mk i rfl a4 ?_;refine uL.mk (by decide) ?_;refine sy.mk (s[i].toNat%64) em ?_;refine be.mk _ (Mv (by omega)) ?_;refine cA.mk 3 rfl (by decide) ?_;refine be.mk _ (dc (i:=i) (by omega)) ?_;refine⟨i+1,⟨a4,by omega⟩,.refl,dY,.cons rfl (.cons ?_ .nil)⟩;rw[IH,show vq s[i]=bh.one 3 (1#64 <<< (s[i].toNat%64)) by rw[vq,ak]];refine congrArg some ?_;show([.int .u64 w.a.toNat,.int .u64 w.b.toNat,.int .u64 w.c.toNat,.int .u64 (k3 w.d.toNat (1#64 <<< (s[i].toNat%64)).toNat)]:List Value)=_;rw[ui];simp[bh.cells,bh.or,bh.one]
section
variable{I:aJ}{M:List aF}{d:al}{x:aR}{a:Option Addr}{n c:Nat}{ks:List ee}
def Zq.head(ae:Zq I M a n ks)(aw:0<n):∃ aP,a=some aP/\cY I M (aP.add (0*5)) 5 (ks.headD r1).cells:=by
 have aa:0<ks.length:=by rw[ae.n];exact aw
 obtain⟨aP,ab,ai⟩:=ae.rd 0 aa;refine⟨aP,ab,?_⟩;cases ks with
 |nil=>simp at aa| cons k ks=>exact ai
def Mw{z:Int}(h:fl z):((BitVec.ofInt 64 z).toNat:Int)=z:=by obtain⟨w,rfl⟩:=alC h;rw[CA]
end
def vz(t:bn):Prop:=∀ n∈t.ns,n.az<=3000000000000
abbrev ef(X:c1)(G:GT)(pr:l8):gU:=⟨X.P,X.E,G,pr⟩
section
variable{X:c1}{G:GT}{pr:l8}{D:bS}{m:bz}{F:Fr}{an:bm ap}{C:dO}{I:aJ}{M:List aF}{V:dH->Prop}{O:Prop}
def pb{a b:α}(h:some a=some b):a=b:=by cases h;rfl
def amy{op:BinOp}{k:IntKind}{b:Int}{v:ap}{O:Prop}(h:Rk op k fu a b=some v)(ae:∀ u,aW D v u->K u):lQ op c6 (.val (.int k a)) (.val (.int fu b)) K O:=by
 have mk:∀ {q:ap} {u:Value},some q=some v->aW D q u->K u:=λe hu=>ae _ (pb e ▸ hu);unfold Rk at h;split at h
 ·split at h
  ·rename_i j;refine⟨j,rfl,⟨_,rfl,mk h ?_⟩⟩;simp only[aW];rw[At,al6,kx,aao]
  ·cases h
 ·split at h
  ·rename_i j;refine⟨j,rfl,mk h ?_⟩;simp only[aW];rw[al7,kx,aao]
  ·cases h
 all_goals obtain⟨aM,h⟩:=fZ h
 all_goals simp only[lQ,aM,cp]
 ·exact⟨_,rfl,mk h (by simp only[aW];rw[At,al1])⟩
 ·exact⟨_,rfl,mk h (by simp only[aW];rw[At,al2])⟩
 ·exact⟨_,rfl,mk h (by simp only[aW];rw[At,al3])⟩
 ·obtain⟨aw,h⟩:=As h;refine⟨λe=>?_,_,rfl,mk h (by simp only[aW];rw[At,al4])⟩;rw[CL,e]at aw;simp at aw
 ·obtain⟨aw,h⟩:=As h;refine⟨λe=>?_,mk h (by simp only[aW];rw[al5])⟩;rw[CL,e]at aw;simp at aw
 ·obtain⟨r,af,h⟩:=cy h;rw[Mk af];exact mk h (by simp only[aW])
 ·obtain⟨r,af,h⟩:=cy h;rw[Mk af];exact mk h (by simp only[aW])
 ·obtain⟨r,af,h⟩:=cy h;rw[Mk af];exact mk h (by simp only[aW])
 ·obtain⟨r,af,h⟩:=cy h;rw[Mk af];exact mk h (by simp only[aW])
 ·obtain⟨r,af,h⟩:=cy h;rw[al0]at af;have aj:v=.b r:=(pb h).symm;subst aj;have hR:K (.bool r):=ae _ (by simp only[aW]);cases op<;>first
   |contradiction|(rw[af];exact hR)
def R5(b:Bool):b4 b false true=!b:=by cases b<;>rfl
def amz{op:BinOp}{a b:List UInt8}{v:ap}{O:Prop}(h:Rl op a b=some v)(ae:∀ u,aW D v u->K u) :
  lQ op c6 (.val (.string ⟨a.toArray⟩)) (.val (.string ⟨b.toArray⟩)) K (fW P op t x y (.val (.string ⟨a.toArray⟩)) (.val (.string ⟨b.toArray⟩)) K O):=by
 unfold Rl at h;split at h
 ·cases h;refine ae _ ?_;simp only[aW];rw[Ms,E6]
 ·cases h;refine ae _ ?_;simp only[aW];rw[Ms,E6,R5]
 ·obtain⟨aA,h⟩:=fZ h;cases h;have rp:=bK aA;refine fW.concat (by simpa[ByteArray.size]using rp) (ae _ ?_);simp only[aW];congr 1
 ·cases h
def amA{op:BinOp}{a:Bool}{v:ap}{O:Prop}(h:Rm op c6 a b=some v)(ae:∀ u,aW D v u->K u):lQ op c6 (.val (.bool a)) (.val (.bool b)) K O:=by
 unfold Rm at h;split at h
 ·split at h
  ·cases h;exact ae _ (by simp only[aW])
  ·cases h;exact ae _ (by simp only[aW])
  ·cases h
 ·cases h
def amB{x:ap}(h:Rn x=some b){u:Value}(hu:aW D x u):∃ a n c,u=.slice a n c/\b=a.isNone:=by
 cases x<;>simp only[Rn,kJ,reduceCtorEq]at h<;>subst h<;>simp only[aW]at hu
 ·exact⟨_,_,_,hu,rfl⟩
 ·obtain⟨a,-,hu⟩:=hu;exact⟨_,_,_,hu,rfl⟩
 ·obtain⟨a,-,-,hu⟩:=hu;exact⟨_,_,_,hu,rfl⟩
 ·exact⟨_,_,_,hu,rfl⟩
 ·obtain⟨a,c,hu⟩:=hu;exact⟨_,_,_,hu,rfl⟩
def amC{x:ap}(h:Ro x=some b){u:Value}(hu:aW D x u):∃ p,u=.pointer p/\b=p.isNone:=by
 cases x<;>simp only[Ro,kJ,reduceCtorEq]at h<;>subst h<;>simp only[aW]at hu
 ·exact⟨_,hu,rfl⟩
 ·obtain⟨a,-,hu⟩:=hu;exact⟨_,hu,rfl⟩
 ·exact⟨_,hu,rfl⟩
def amD{e:Nat}(h:P.underlying t=some (.slice e))(a:Option Addr)(n c:Nat)(w:World):(Op.equal t (.slice a n c) (.slice none 0 0)).run P w=.ok a.isNone w:=by
 have key:∀ d,(Op.equalIn (d+1) t (.slice a n c) (.slice none 0 0)).run P w=.ok a.isNone w:=λd=>by cases a<;>simp[Op.equalIn,run_underlying h]
 exact key 9999
def amE{e:Nat}(h:P.underlying t=some (.pointer e))(p:Option Addr)(w:World):(Op.equal t (.pointer p) (.pointer none)).run P w=.ok p.isNone w:=by
 have key:∀ d,(Op.equalIn (d+1) t (.pointer p) (.pointer none)).run P w=.ok p.isNone w:=λd=>by cases p<;>simp[Op.equalIn,run_underlying h]
 exact key 9999
def aaJ{op:BinOp}{v:ap}{p q:Value}(ax:∀ w,op=.eql\/op=.neq->(eqGuard op t x y p q).run P w=.ok () w)(he:∀ w,(Op.equal t p q).run P w=.ok b w)(ag:∀ w,(binOp .eql t p q).run P w=.ok (.bool b) w)(aD:∀ w,(binOp .neq t p q).run P w=.ok (.bool (!b)) w)(h:L4 op b=some v){O:Prop}(ae:∀ u,aW D v u->K u):fW P op t x y (.val p) (.val q) K O:=by
 unfold L4 at h;split at h
 ·cases h;refine .mk p q (.bool b) rfl rfl (λw=>?_) (ae _ (by simp only[aW]));simp only[cu,ax w (.inl rfl),bY,ag w]
 ·cases h;refine .mk p q (.bool (!b)) rfl rfl (λw=>?_) (ae _ (by simp only[aW]));simp only[cu,ax w (.inr rfl),bY,aD w]
 ·cases h
def amF(aO:cX X.P X.E){op:BinOp}{x y v:ap}{amG:Operand}{u:Value}{O:Prop}(h:Rp X.P X.E op t x y=some v)(ad:aW D x u)(aE:aW D y w)(ae:∀ u,aW D v u->K u) :
  lQ op (X.E t) (.val u) (.val w) K (fW X.P op t p3 amG (.val u) (.val w) K O):=by
 unfold Rp at h;split at h
 ·rw[ad.int,aE.int];exact amy h ae
 ·rw[ad.str,aE.str];exact amz h ae
 ·rw[ad.bool,aE.bool];exact amA h ae
 ·obtain⟨us,aa,rfl⟩:=ad.agg;obtain⟨ws,ab,rfl⟩:=aE.agg;exact aas aO h aa ab ae
 ·obtain⟨i,hi,h⟩:=cy h;split at h
  ·rename_i e n3;obtain⟨b,aa,h⟩:=cy h;obtain⟨a,n,c,rfl,rfl⟩:=amB aa ad;simp only[aW]at aE;subst aE;obtain⟨d,fM,fk⟩:=(aO _ _ hi).ft;have ab:d=.slice e:=by rw[n3]at fk;cases d<;>simp_all[fs]
   subst ab;have he:=amD fM a n c;exact aaJ (λw aC=>by rcases aC with rfl | rfl<;>(unfold eqGuard;rfl)) he (λw=>by simp only[binOp];simp[he w]) (λw=>by simp only[binOp];simp[he w]) h ae
  ·cases h
 ·obtain⟨i,hi,h⟩:=cy h;split at h
  ·rename_i e n3;obtain⟨b,aa,h⟩:=cy h;obtain⟨p,rfl,rfl⟩:=amC aa ad;simp only[aW]at aE;subst aE;obtain⟨d,fM,fk⟩:=(aO _ _ hi).ft;have ab:d=.pointer e:=by rw[n3]at fk;cases d<;>simp_all[fs]
   subst ab;have he:=amE fM p;exact aaJ (λw aC=>by rcases aC with rfl | rfl<;>(unfold eqGuard;rfl)) he (λw=>by simp only[binOp];simp[he w]) (λw=>by simp only[binOp];simp[he w]) h ae
  ·cases h
 ·cases h
variable(aO:cX X.P X.E)(hm:df (ef X G pr) D m I M)
theorem Fc{v:ap}{n:Nat}(h:v.nat=some n):∃ k,v=.i k (.ofNat n):=by
 unfold ap.nat at h;split at h
 ·cases h;exact⟨_,rfl⟩
 ·cases h
theorem aaK{x v:ap}{n:Nat}{u:Value}(h:Im x n=some v)(ad:aW D x u):∃ a,u=.pointer (some a)/\a.spot=none/\aW D v (.pointer (some (a.add n))):=by
 unfold Im at h;split at h
 ·cases h;obtain⟨a,a6,rfl⟩:=ad.ptr;refine⟨_,rfl,rfl,?_⟩;rw[eO _ rfl];simp only[aW];exact⟨a,a6,by simp only[Ak,tl]⟩
 ·cases h;refine⟨_,ad.qW,rfl,?_⟩;rw[eO _ rfl];simp only[aW];rfl
 ·cases h
theorem amH{x v:ap}{u:Value}(h:L5 x j sz=some v)(ad:aW D x u):∃ a n c,u=.slice (some a) n c/\j<n/\aW D v (.pointer (some (a.add (j*sz)))):=by
 unfold L5 at h;split at h
 ·cases ag:Nat.blt j _ with
  |false=>rw[ag]at h;cases h| true=>rw[ag]at h;cases h;obtain⟨a,a6,rfl⟩:=ad.s7;refine⟨_,_,_,rfl,bK ag,?_⟩;rw[eO _ rfl];simp only[aW];exact⟨a,a6,by simp only[Ak,EO,tl]⟩
 ·cases ag:Nat.blt j _ with
  |false=>rw[ag]at h;cases h| true=>rw[ag]at h;cases h;obtain⟨a,a6,_,rfl⟩:=ad.vy;refine⟨_,_,_,rfl,bK ag,?_⟩;rw[eO _ rfl];simp only[aW];exact⟨a,a6,by simp only[Ak,EO,tl]⟩
 ·cases ag:Nat.blt j _ with
  |false=>rw[ag]at h;cases h| true=>rw[ag]at h;cases h;refine⟨_,_,_,ad.RY,bK ag,?_⟩;rw[eO _ rfl];simp only[aW];rfl
 ·cases h
theorem aaL{cs:List ap}{v:ap}{us:List Value}(h:L7 aG cs off=some v)(ao:bO D cs us) :
  off+aG.size<=us.length/\aW D v (pack aG.bQ.agg ((us.drop off).take aG.size)):=by
 unfold L7 at h;obtain⟨aw,h⟩:=As h;obtain⟨l,aa,ab⟩:=cy h;have hx:aG.size≠0:=λe=>by rw[e]at aw;cases aw
 obtain⟨rfl,aA⟩:=aap aa;rw[IA]at ab aA;refine⟨?_,Mp ab ((ao.drop off).take _)⟩;have:=ao.len;simp at aA;omega
theorem aaM{i:Nat}{hv:dR}(h:L6 E t i=some (off,hv)):∃ a b z cO fy,E t=some ⟨a,b,z,.struct cO⟩/\cO[i]?=some (fy,off)/\E fy=some hv:=by
 unfold L6 at h;split at h
 ·rename_i a b z cO au;split at h
  ·rename_i fy o aB;rw[Av]at aB;split at h
   ·rename_i f tX;cases h;exact⟨_,_,_,_,fy,au,aB,tX⟩
   ·cases h
  ·cases h
 ·cases h
theorem amI(h:Rs E t=some (r,aG)):(∃ a b z e,E t=some ⟨a,b,z,.slice e⟩/\E e=some aG/\r=none)\/∃ a b z n e,E t=some ⟨a,b,z,.array n e⟩/\E e=some aG/\r=some n:=by
 unfold Rs at h;split at h
 ·rename_i a b z e au;split at h
  ·cases h;exact .inl ⟨_,_,_,_,au,by assumption,rfl⟩
  ·cases h
 ·rename_i a b z n e au;split at h
  ·cases h;exact .inr ⟨_,_,_,_,_,au,by assumption,rfl⟩
  ·cases h
 ·cases h
theorem amJ{x i v:ap}{u:Value}(h:Io X.E t (some x) (some i)=some v)(ad:aW D x u)(hi:aW D i w){ρ:Operand->dH}{gK:Operand}(R6:dB ρ p3=.val u)(iq:dB ρ gK=.val w)
  (k:∀ x,gB D x v->V x):cK X (.index t p3 gK) ρ C I M V O:=by
 unfold Io at h;split at h
 ·rename_i l gV au aa ab;cases aa;cases ab;obtain⟨j,ak,h⟩:=cy h;obtain⟨gq,rfl⟩:=Fc ak;have eX:Rt l j=some v:=h;unfold Rt at eX;obtain⟨b,ag,dT⟩:=cy eX;cases dT;rw[Av]at ag;rw[ad.str]at R6;rw[hi.int]at iq;have a4:=(iz.1 ag).1;simp only[cK,au,R6,iq];refine⟨j,rfl,by simpa[ByteArray.size]using a4,k _ (.val ?_)⟩;simp only[aW];have:(⟨l.toArray⟩:ByteArray)[j]'(by simpa[ByteArray.size]using a4)=b:=by have:=(iz.1 ag).2;show l.toArray[j]'_=b;simpa using this
  rw[this];rfl
 ·rename_i n e cs gV au aa ab;cases aa;cases ab;obtain⟨aG,he,h⟩:=cy h;obtain⟨j,ak,h⟩:=cy h;obtain⟨gq,rfl⟩:=Fc ak;obtain⟨us,fK,rfl⟩:=ad.agg;unfold ZS at h;obtain⟨ag,h⟩:=fZ h;rw[cw]at ag;obtain⟨ai,aL⟩:=aaL h fK;rw[hi.int]at iq;simp only[cK,au,R6,iq,he];have dk:Nat.beq (n*aG.size) us.toArray.size=true:=by have bq:=dJ ag.1;rw[tz,fK.len,<-bq];exact rj _
  rw[dk];simp only[cp];exact⟨j,rfl,bK ag.2,k _ (.val aL)⟩
 ·cases h
theorem amK{x v:ap}{l:Nat}{h:Option Nat}{u:Value}(av:Rq x sz l h=some v)(ad:aW D x u):∃ a n c,u=.slice a n c/\l<=h.getD n/\h.getD n<=c/\(h=none->l<=n) /\
  aW D v (.slice (if c=l then a else a.map (·.add (l*sz))) (h.getD n-l) (c-l)):=by
 unfold Rq at av;split at av
 ·cases ag:(Nat.beq l 0&&Nat.beq (h.getD 0) 0)with
  |false=>rw[ag]at av;cases av| true=>rw[ag]at av;cases av;rw[cw]at ag;have aa:=dJ ag.1;have ab:=dJ ag.2;subst aa;refine⟨none,0,0,ad.CM,by omega,by omega,λ_=>by omega,?_⟩;rw[ab];simp[aW]
 ·rename_i id off n c;obtain⟨a,a6,rfl⟩:=ad.s7;simp only at av;cases ag:(Nat.ble l (h.getD n)&&Nat.ble (h.getD n) c)with
  |false=>rw[ag]at av;cases av
  |true=>
   rw[ag]at av;simp only[cp]at av;rw[cw]at ag;have aa:=bK ag.1;have ab:=bK ag.2;refine⟨_,n,c,rfl,aa,ab,λe=>by subst e;exact aa,?_⟩;rw[RX]at av;by_cases e:c=l;·subst e;simp only[Lu,cp]at av;cases av;simp only[sv,aW];exact⟨a,a6,by simp only[EP,mD]⟩
   ·simp only[e,decide_false,cb]at av;cases av;simp only[e,mh,aW,lb];refine⟨a,a6,?_⟩;rw[eO _ rfl];simp only[Ak,EO,EP,tl]
 ·rename_i id off e n;obtain⟨a,a6,bk,rfl⟩:=ad.vy;simp only at av;cases ag:(Nat.ble l (h.getD n)&&Nat.ble (h.getD n) n)with
  |false=>rw[ag]at av;cases av
  |true=>
   rw[ag]at av;simp only[cp]at av;rw[cw]at ag;have aa:=bK ag.1;have ab:=bK ag.2;refine⟨_,n,a.c-e,rfl,aa,by omega,λe=>by subst e;exact aa,?_⟩;cases ao:(Nat.beq l 0||Nat.blt l n)with
   |true=>
    rw[ao]at av;simp only[cp]at av;cases av;rw[kq]at ao;simp only[aW];refine⟨a,a6,by simp only[Ak,EP];omega,?_⟩;have ai:a.c-e-l=a.c-(e+l):=by omega
    by_cases aw:l=0
    ·subst aw;simp only[zB,Ep,lb,Ak,EO,EP,pD];split
     ·rfl
     ·rw[eO _ rfl];simp
    ·have aL:l<n:=by
      rcases ao with ao | ao;·exact absurd (dJ ao) aw
      ·exact bK ao
     rw[bP (by omega)];simp only[lb];rw[eO _ rfl];simp only[Ak,EO,EP,tl,ai]
   |false=>
    rw[ao]at av;simp only[cb]at av;cases av;rw[tI]at ao;have aL:¬ l<n:=λa4=>by have:=EL (show l.succ<=n from a4);rw[show Nat.blt l n=Nat.ble l.succ n from rfl,this]at ao;cases ao.2
    have bq:h.getD n-l=0:=by omega
    simp only[aW,bq];split;·exact⟨_,_,rfl⟩
    ·exact⟨_,_,rfl⟩
 ·cases av
end
section
variable{X:c1}{G:GT}{pr:l8}{D:bS}{m:bz}{F:Fr}{an:bm ap}{C:dO}{I:aJ}{M:List aF}{V:dH->Prop}{O:Prop}
def amL(c:Bool)(a b:Value):Kx c (.val a) (.val b)=.val (bif c then a else b):=by cases a<;>cases b<;>cases c<;>rfl
def aaN{o:Option Operand}{xs:List Operand}(H:jn D F an xs)(ad:∀ y,o=some y->y∈xs)(h:CF (o.map (dv an))=some r) :
  (o.map (dB (dn F))=none/\r=none)\/∃ k n,o.map (dB (dn F))=some (.val (.int k (Int.ofNat n)))/\r=some n:=by
 cases o with
 |none=>simp[CF]at h;exact .inl ⟨rfl,h.symm⟩
 |some y=>
  simp only[lb,CF]at h;cases aj:dv an y with
  |none=>rw[aj]at h;cases h
  |some v=>
   rw[aj]at h;simp only at h;split at h;·rename_i n aD;cases h;obtain⟨k,rfl⟩:=Fc aD;obtain⟨u,hu,af⟩:=H.bH (ad y rfl) aj;rw[af.int]at hu;exact .inr ⟨k,n,by simp only[lb];exact congrArg some hu,rfl⟩
   ·cases h
def R7(l:List UInt8)(lo hi:Nat):(⟨(Rr l lo hi).toArray⟩:ByteArray)=(⟨l.toArray⟩:ByteArray).extract lo hi:=by apply we;apply gX;unfold Rr;rw[IA];simp[Ks,List.extract_eq_take_drop]
def amM{v:ap}{n:Nat}{u:Value}(h:w5 v=some n)(aj:aW D v u):∃ a c,u=.slice a n c:=by
 unfold w5 at h;split at h
 ·cases h;exact⟨_,_,aj.CM⟩
 ·cases h;obtain⟨a,c,rfl⟩:=aj.Mm;exact⟨_,_,rfl⟩
 ·cases h;obtain⟨a,_,rfl⟩:=aj.s7;exact⟨_,_,rfl⟩
 ·cases h;obtain⟨a,_,_,rfl⟩:=aj.vy;exact⟨_,_,rfl⟩
 ·cases h;exact⟨_,_,aj.RY⟩
 ·cases h
def amN(aO:cX X.P X.E){b:Builtin}{args:Array Operand}{e7:Array TypeId}{v:ap}(h:Rw X.E b e7.toList (od an args.toList)=some v)(H:jn D F an args.toList)(k:∀ x,gB D x v->V x) :
  cK X (.call { callee:=.builtin b,args:=args,argTypes:=e7 }) (dn F) C I M V O:=by
 unfold Rw at h;split at h
 ·
  unfold ZX at h;split at h
  ·rename_i t w au aA;obtain⟨us,aK,a'⟩:=H.mO (λ_ h=>h) aA;obtain⟨u,xs,bg,b5,rfl⟩:=a'.ky;have:=b5.nU;subst this;have eB:j2 (dn F) args.toList=some [u]:=aK;simp only[cK,au,eB];split at h
   ·rename_i a b z e qZ oK;unfold L8 at h;obtain⟨n,aD,h⟩:=cy h;have dT:some (ap.i .i64 (.ofNat n))=some v:=h;cases dT;obtain⟨bN,c,rfl⟩:=amM aD bg;simp only[oK];exact k _ (.val (by simp only[aW];rfl))
   ·rename_i a b z l oK;cases h;rw[bg.str];simp only[oK];refine k _ (.val ?_);simp only[aW];simp[ByteArray.size]
   ·rename_i a b z n e qZ oK;cases h;cases u<;>(simp only[oK];exact k _ (.val (by simp only[aW];rfl)))
   ·cases h
  ·cases h
 ·unfold ZY at h;split at h
  ·rename_i eK a cR b aA;obtain⟨us,aK,a'⟩:=H.mO (λ_ h=>h) aA;obtain⟨u,xs,bg,b5,rfl⟩:=a'.ky;obtain⟨w,ys,gf,n6,rfl⟩:=b5.ky;have:=n6.nU;subst this;have eB:j2 (dn F) args.toList=some [u,w]:=aK;rw[bg.int,gf.int]at eB;simp only[cK,eB];cases h;refine k _ (.val ?_);simp only[aW];rw[kx,Mj];by_cases kX:a<=b
   ·simp[kX];omega
   ·simp[kX];omega
  ·cases h
 ·unfold ZZ at h;split at h
  ·rename_i eK a cR b aA;obtain⟨us,aK,a'⟩:=H.mO (λ_ h=>h) aA;obtain⟨u,xs,bg,b5,rfl⟩:=a'.ky;obtain⟨w,ys,gf,n6,rfl⟩:=b5.ky;have:=n6.nU;subst this;have eB:j2 (dn F) args.toList=some [u,w]:=aK;rw[bg.int,gf.int]at eB;simp only[cK,eB];cases h;refine k _ (.val ?_);simp only[aW];rw[kx,Mj];by_cases kX:a<=b
   ·simp[kX];omega
   ·simp[kX];omega
  ·cases h
 ·unfold Z0 at h;split at h
  ·rename_i t id off n c au aA;split at h
   ·rename_i a b z e oK;cases h;obtain⟨us,aK,a'⟩:=H.mO (λ_ h=>h) aA;obtain⟨u,xs,bg,b5,rfl⟩:=a'.ky;have:=b5.nU;subst this;obtain⟨bN,a6,rfl⟩:=bg.s7;have eB:j2 (dn F) args.toList=some [_]:=aK;simp only[cK,au,eB,oK];exact k _ (.val (by simp only[aW];rfl))
   ·cases h
  ·cases h
 ·unfold Z1 at h;split at h
  ·rename_i aA;cases h;obtain⟨us,aK,a'⟩:=H.mO (λ_ h=>h) aA;obtain⟨u,xs,bg,b5,rfl⟩:=a'.ky;have:=b5.nU;subst this;rw[bg.CM]at aK;have eB:j2 (dn F) args.toList=some [_]:=aK;simp only[cK,eB];exact k _ (.val (by simp only[aW]))
  ·rename_i id off n c aA;obtain⟨aw,h⟩:=As h;cases h;obtain⟨us,aK,a'⟩:=H.mO (λ_ h=>h) aA;obtain⟨u,xs,bg,b5,rfl⟩:=a'.ky;have:=b5.nU;subst this;obtain⟨bN,a6,rfl⟩:=bg.s7;have eB:j2 (dn F) args.toList=some [_]:=aK;simp only[cK,eB];refine⟨λe=>?_,k _ (.val ?_)⟩
   ·have:c=0:=by omega
    subst this;cases aw
   ·simp only[aW];exact⟨bN,a6,rfl⟩
  ·rename_i id off e n aA;obtain⟨aw,h⟩:=As h;cases h;obtain⟨us,aK,a'⟩:=H.mO (λ_ h=>h) aA;obtain⟨u,xs,bg,b5,rfl⟩:=a'.ky;have:=b5.nU;subst this;obtain⟨bN,a6,bk,rfl⟩:=bg.vy;have eB:j2 (dn F) args.toList=some [_]:=aK;simp only[cK,eB];refine⟨λcU=>?_,k _ (.val ?_)⟩
   ·have:n=0:=by omega
    subst this;cases aw
   ·simp only[aW];exact⟨bN,a6,rfl⟩
  ·cases h
 ·cases h
def amO(aO:cX X.P X.E){op:Op}{v:ap}(h:Rx X.P X.E G m.t op an=some v)(H:jn D F an op.operands.toList)(hm:df (ef X G pr) D m I M)(k:∀ x,gB D x v->V x):cK X op (dn F) C I M V O:=by
 unfold Rx at h;split at h
 ·
  exact k _ (H _ (by simp[Op.operands]) _ h)
 ·exact k _ (H _ (by simp[Op.operands]) _ h)
 ·
  rename_i c a b;unfold ZK at h;split at h
  ·rename_i q u w aa ab ai;cases h;have ao:=H c (by simp[Op.operands]) _ aa;have a6:=H a (by simp[Op.operands]) _ ab;have ag:=H b (by simp[Op.operands]) _ ai;simp only[cK];rcases ao with⟨axx,Mx,ao⟩ | ⟨fP,cU,Mx⟩
   ·rw[ao.bool]at Mx;simp only[Mx];obtain⟨R8,QQ,amP⟩:=a6.dB;obtain⟨R9,LU,c3⟩:=ag.dB;have amQ:dB (dn F) a=.val R8:=QQ;have amR:dB (dn F) b=.val R9:=LU;rw[amQ,amR];refine k _ (.inl ⟨bif q then R8 else R9,?_,?_⟩)
    ·exact amL q R8 R9
    ·cases q
     ·exact c3
     ·exact amP
   ·cases cU;simp only[Mx];cases q
    ·exact k _ ag
    ·exact k _ a6
  ·cases h
 ·
  rename_i axy t x;unfold ZL at h;split at h
  ·rename_i b aa;cases h;have ad:=H x (by simp[Op.operands]) _ aa;simp only[cK];rcases ad with⟨u,e,hu⟩ | ⟨q,aK,e⟩
   ·rw[hu.bool]at e;simp only[e];exact k _ (.val (by simp only[aW];rw[R5]))
   ·cases aK;simp only[e];exact k _ (.inr ⟨!b,by rw[R5],rfl⟩)
  ·rename_i gq n aa;cases h;have ad:=H x (by simp[Op.operands]) _ aa;obtain⟨u,e,hu⟩:=ad.w9 (by simp);rw[hu.int]at e;simp only[cK,e];exact⟨_,rfl,k _ (.val (by simp only[aW];rw[At]))⟩
  ·cases h
 ·
  rename_i axz t x y bf;unfold ZM at h;obtain⟨a,aa,h⟩:=cy h;obtain⟨b,ab,h⟩:=cy h;obtain⟨u,aK,a'⟩:=H.bH (x:=x) (by simp[Op.operands]) aa;obtain⟨w,a7,bg⟩:=H.bH (x:=y) (by simp[Op.operands]) ab;have eB:dB (dn F) x=.val u:=aK;have rn:dB (dn F) y=.val w:=a7;simp only[cK,eB,rn];exact amF aO h a' bg λr af=>k _ (.val af)
 ·
  rename_i t x;unfold ZN at h;obtain⟨i,hi,h⟩:=cy h;obtain⟨a,aa,h⟩:=cy h;have ad:=H x (by simp[Op.operands]) _ aa;have xe:∀ q,a≠.b q:=λq e=>by subst e;cases h
  obtain⟨u,aK,a'⟩:=ad.w9 xe;obtain⟨aP,l,vs,rfl,bt,aA,aH⟩:=xb hm a' h;simp only[cK,hi,aK];exact⟨vs,bt,k _ (.val (Mp aH aA))⟩
 ·
  rename_i x;unfold ZO at h;split at h;·rename_i id off aa;cases h;obtain⟨u,aK,a'⟩:=(H x (by simp[Op.operands]) _ aa).w9 (by simp);obtain⟨a,a6,rfl⟩:=a'.ptr;simp only[cK,aK];exact k _ (.val a')
  ·rename_i id off aa;cases h;obtain⟨u,aK,a'⟩:=(H x (by simp[Op.operands]) _ aa).w9 (by simp);have:=a'.qW;subst this;simp only[cK,aK];exact k _ (.val a')
  ·cases h
 ·
  rename_i t x i;unfold ZP at h;obtain⟨r,af,h⟩:=cy h;obtain⟨a,aa,h⟩:=cy h;obtain⟨off,hv⟩:=r;obtain⟨bd,h⟩:=As h;obtain⟨sa,s8,sz,cO,fy,au,aB,tX⟩:=aaM af;have ad:=H x (by simp[Op.operands]) _ aa;have xe:∀ q,a≠.b q:=λq e=>by subst e;cases h
  obtain⟨u,aK,a'⟩:=ad.w9 xe;obtain⟨aP,rfl,av,aj⟩:=aaK h a';have gO:Nat.beq hv.size 0=false:=bd;simp only[cK,au,aB,tX,aK,gO,cb];exact k _ (.val aj)
 ·
  rename_i t x i;unfold ZQ at h;split at h;·rename_i off hv cs aw aa;obtain⟨sa,s8,sz,cO,fy,au,aB,tX⟩:=aaM aw;obtain⟨u,aK,a'⟩:=H.bH (x:=x) (by simp[Op.operands]) aa;obtain⟨us,fK,rfl⟩:=a'.agg;obtain⟨ab,ai⟩:=aaL h fK;have eB:dB (dn F) x=.val (.agg us.toArray):=aK;simp only[cK,au,eB,aB,tX];rw[show Nat.ble (off+hv.size) us.toArray.size=true from EL (by simpa using ab)];exact k _ (.val ai)
  ·cases h
 ·
  rename_i t x i;unfold ZR at h;obtain⟨r,af,h⟩:=cy h;obtain⟨a,aa,h⟩:=cy h;obtain⟨b,ab,h⟩:=cy h;obtain⟨j,ak,h⟩:=cy h;obtain⟨gq,rfl⟩:=Fc ak;obtain⟨u,a7,bg⟩:=H.bH (x:=i) (by simp[Op.operands]) ab;rw[bg.int]at a7;have rn:dB (dn F) i=.val (.int gq (.ofNat j)):=a7;obtain⟨II,aG⟩:=r;rcases amI af with⟨sa,s8,sz,e,au,he,rfl⟩ | ⟨sa,s8,sz,n,e,au,he,rfl⟩;·have bj:L5 a j aG.size=some v:=h;obtain⟨w,aK,a'⟩:=H.bH (x:=x) (by simp[Op.operands]) aa;obtain⟨aP,n,c,rfl,a4,aj⟩:=amH bj a';have eB:dB (dn F) x=.val (.slice (some aP) n c):=aK;simp only[cK,au,rn,he,eB];exact⟨aP,j,rfl,rfl,a4,k _ (.val aj)⟩
  ·have bj:b4 (Nat.blt j n) (Im a (Nat.mul j aG.size)) none=some v:=h;obtain⟨ag,bj⟩:=fZ bj;have ad:=H x (by simp[Op.operands]) _ aa;have xe:∀ q,a≠.b q:=λq e=>by subst e;cases bj
   obtain⟨w,aK,a'⟩:=ad.w9 xe;obtain⟨aP,rfl,av,aj⟩:=aaK bj a';simp only[cK,au,rn,he,aK];exact⟨j,rfl,bK ag,k _ (.val aj)⟩
 ·
  rename_i t x i;cases aa:dv an x with
  |none=>rw[aa]at h;unfold Io at h;split at h<;>first | cases h | (rename_i e _;cases e)
  |some a=>
   cases ab:dv an i with
   |none=>rw[ab]at h;unfold Io at h;split at h<;>first | cases h | (rename_i e;cases e)
   |some b=>rw[aa,ab]at h;obtain⟨u,aK,a'⟩:=H.bH (x:=x) (by simp[Op.operands]) aa;obtain⟨w,a7,bg⟩:=H.bH (x:=i) (by simp[Op.operands]) ab;exact amJ h a' bg aK a7 k
 ·
  rename_i t parts;unfold ZT at h;split at h
  ·rename_i i vs au aH;obtain⟨z,bd,h⟩:=cy h;have gO:=bO.E7 (D:=D) bd;obtain⟨us,aK,a'⟩:=H.parts (l:=parts.toList) (by intro y aE;simpa[Op.operands]using aE) aH;have eB:to (dn F) parts.toList=some us:=aK
   try simp only at h
   split at h;·rename_i cO n3;obtain⟨rQ,h⟩:=fZ h;unfold Ip at h;obtain⟨cs,ai,aL⟩:=cy h;have dT:some (ap.a cs)=some v:=aL;cases dT;obtain⟨ba,bq,b'⟩:=Mq ai gO a';simp only[cK,au,eB,n3,rQ,cp,bq];exact k _ (.val (.Mn b'))
   ·rename_i n e n3;obtain⟨aG,he,h⟩:=cy h;have bj:Ip (Ap (λj=>some (j*aG.size,aG.size)) z vs)=some v:=h;unfold Ip at bj;obtain⟨cs,ai,aL⟩:=cy bj;have dT:some (ap.a cs)=some v:=aL;cases dT;obtain⟨ba,bq,b'⟩:=Mq ai gO a';simp only[cK,au,eB,n3,he,bq];exact k _ (.val (.Mn b'))
   ·cases h
  ·cases h
 ·
  rename_i f first captured
  unfold ZU at h;split at h
  ·rename_i g cO cs aa ab;cases h;obtain⟨us,aK,a'⟩:=H.mO (l:=first.toList) (by intro y aE;simp[Op.operands];exact .inl (by simpa using aE)) aa;obtain⟨ws,a7,bg⟩:=H.mO (l:=captured.toList) (by intro y aE;simp[Op.operands];exact .inr (by simpa using aE)) ab;have eB:j2 (dn F) first.toList=some us:=aK
   have rn:j2 (dn F) captured.toList=some ws:=a7;simp only[cK,eB,rn];exact k _ (.val (by simp only[aW];exact⟨us,ws,a',bg,rfl⟩))
  ·cases h
 ·
  rename_i t x lo hi;cases aa:dv an x with
  |none=>rw[aa]at h;unfold Iq at h;split at h<;>first | cases h | (rename_i e _ _;cases e)
  |some a=>
   rw[aa]at h;cases ab:CF (lo.map (dv an))with
   |none=>rw[ab]at h;unfold Iq at h;split at h<;>first | cases h | (rename_i e _;cases e)
   |some l=>
    rw[ab]at h;cases ai:CF (hi.map (dv an))with
    |none=>rw[ai]at h;unfold Iq at h;split at h<;>first | cases h | (rename_i e;cases e)
    |some c4=>
     rw[ai]at h;obtain⟨u,aK,a'⟩:=H.bH (x:=x) (by simp[Op.operands]) aa;have eB:dB (dn F) x=.val u:=aK;have eZ:=aaN H (λy aE=>by subst aE;simp[Op.operands]) ab;have gI:=aaN H (λy aE=>by subst aE;simp[Op.operands]) ai;unfold Iq at h;split at h
     ·rename_i sa s8 sz e lj R' cG au ck dM jR;cases ck;cases dM;cases jR;obtain⟨aG,he,h⟩:=cy h;have bj:Ru aG a l c4=some v:=h;unfold Ru at bj;split at bj
      ·have el:lo.map (dB (dn F))=none:=by
        rcases eZ with⟨el,_⟩ | ⟨_,_,_,el⟩;·exact el
        ·cases el
       have pd:hi.map (dB (dn F))=none:=by
        rcases gI with⟨pd,_⟩ | ⟨_,_,_,pd⟩;·exact pd
        ·cases pd
       have g6:∃ q n c,u=.slice q n c/\aW D v u:=by
        split at bj;·cases bj;exact⟨_,_,_,a'.CM,a'⟩
        ·cases bj;obtain⟨q,_,rfl⟩:=a'.s7;exact⟨_,_,_,rfl,a'⟩
        ·cases bj;obtain⟨q,_,_,rfl⟩:=a'.vy;exact⟨_,_,_,rfl,a'⟩
        ·cases bj;obtain⟨q,c,rfl⟩:=a'.Mm;exact⟨_,_,_,rfl,a'⟩
        ·cases bj
       obtain⟨q,n,c,rfl,aj⟩:=g6;simp only[cK,au,eB,he,el,pd,uI];exact k _ (.val aj)
      ·obtain⟨q,n,c,rfl,fF,fB,l0,aj⟩:=amK bj a';simp only[cK,au,eB,he,uI];rcases eZ with⟨el,rfl⟩ | ⟨fz,IJ,el,rfl⟩<;>rcases gI with⟨pd,rfl⟩ | ⟨amS,IK,pd,rfl⟩<;>simp only[el,pd]
       ·rename_i bD;exact(bD rfl rfl).elim
       ·simp only[uH,kK]at fF fB aj;refine⟨0,IK,rfl,rfl,dj _,fB,k _ (.val ?_)⟩;simp only[zB,Ep]at aj;have di:(if c=0 then q else q.map λx=>x.add 0)=q:=by
         split;·rfl
         ·cases q with
          |none=>rfl| some q=>simp[Addr.add]
        rw[di]at aj;exact aj
       ·simp only[uH,kK]at fF fB aj;exact⟨IJ,n,rfl,rfl,fF,b2 _,k _ (.val aj)⟩
       ·simp only[uH,kK]at fF fB aj;exact⟨IJ,IK,rfl,rfl,fF,fB,k _ (.val aj)⟩
     ·rename_i sa s8 sz str R' cG au ck dM jR;cases ck;cases dM;cases jR;rw[a'.str]at eB;have bj:Rv str l c4=some v:=h;unfold Rv at bj;split at bj
      ·have el:lo.map (dB (dn F))=none:=by
        rcases eZ with⟨el,_⟩ | ⟨_,_,_,el⟩;·exact el
        ·cases el
       have pd:hi.map (dB (dn F))=none:=by
        rcases gI with⟨pd,_⟩ | ⟨_,_,_,pd⟩;·exact pd
        ·cases pd
       cases bj;simp only[cK,au,eB,el,pd];exact k _ (.val (by simp only[aW]))
      ·obtain⟨ag,bj⟩:=fZ bj;cases bj;rw[cw]at ag;have b1:=bK ag.1;have bW:=bK ag.2;have dk:(⟨str.toArray⟩:ByteArray).size=str.length:=by simp[ByteArray.size]
       simp only[cK,au,eB];rcases eZ with⟨el,rfl⟩ | ⟨fz,IJ,el,rfl⟩<;>rcases gI with⟨pd,rfl⟩ | ⟨amS,IK,pd,rfl⟩<;>simp only[el,pd]
       ·rename_i bD;exact(bD rfl rfl).elim
       ·simp only[uH,kK]at b1 bW;exact⟨0,IK,rfl,rfl,dj _,by rw[dk];exact bW,k _ (.val (by simp only[aW,uH,kK,R7]))⟩
       ·simp only[uH,kK]at b1 bW;exact⟨IJ,str.length,rfl,by rw[dk];rfl,b1,by rw[dk];exact b2 _,k _ (.val (by simp only[aW,uH,kK,R7,dk]))⟩
       ·simp only[uH,kK]at b1 bW;exact⟨IJ,IK,rfl,rfl,b1,by rw[dk];exact bW,k _ (.val (by simp only[aW,uH,kK,R7]))⟩
     ·cases h
 ·
  rename_i x i;unfold ZV at h;split at h;·rename_i vs aa;obtain⟨u,aK,a'⟩:=H.bH (x:=x) (by simp[Op.operands]) aa;obtain⟨us,fK,rfl⟩:=a'.RZ;rw[Av]at h;obtain⟨w,hw,aj⟩:=fK.get h;have eB:dB (dn F) x=.val (.tuple us.toArray):=aK;simp only[cK,eB,hw];exact k _ (.val aj)
  ·cases h
 ·
  rename_i s d x;unfold ZW at h;split at h;·rename_i gq eK n av ah aa;cases h;obtain⟨u,aK,a'⟩:=H.bH (x:=x) (by simp[Op.operands]) aa;rw[a'.int]at aK;have eB:dB (dn F) x=.val (.int eK n):=aK;simp only[cK,av,ah,eB];exact⟨_,rfl,k _ (.val (by simp only[aW];rw[At]))⟩
  ·cases h
 ·
  rename_i b args e7;exact amN aO h (by simpa[Op.operands,Call.operands]using H) k
 ·cases h
end
def bS.set(D:bS)(id:Nat)(a:Loc):bS:=λi=>if i=id then some a else D i
def bS.p8(D:bS)(id:Nat)(a:Loc):(D.set id a) id=some a:=by simp[bS.set]
def bS.le_refl(D:bS):D.le D:=λ_ _ h=>h
def bS.le_trans{D bG IL:bS}(h:D.le bG)(k:bG.le IL):D.le IL:=λi a e=>k _ _ (h _ _ e)
def bS.Az{D:bS}{id:Nat}(a:Loc)(h:D id=none):D.le (D.set id a):=λi b ag=>by
 unfold bS.set;split
 ·rename_i e;subst e;rw[h]at ag;cases ag
 ·exact ag
def bS.ext(D bG:bS)(n:Nat):Prop:=∀ i,i<n->bG i=D i
def bS.pe{D:bS}{n:Nat}:D.ext D n:=λ_ _=>rfl
def bS.Fe{D:bS}{n:Nat}{a:Loc}:D.ext (D.set n a) n:=λi hi=>by unfold bS.set;rw[bP (by omega)]
section
variable{Y:gU}{D bG:bS}{m:bz}{I I':aJ}{M M':List aF}{R:Type}
def ID.mono{G:GT}(h:ID G I)(bB:∀ b o,I b=some o->I' b=some o):ID G I':=λg cs ax=>by obtain⟨arr,T,f,aa,ab⟩:=h g cs ax;exact⟨arr,T,f,bB _ _ aa,ab⟩
def df.le(h:df Y D m I M)(dw:D.ext bG m.n):D.le bG:=λi a a6=>by rw[dw i (h.jV _ _ a6)];exact a6
def df.step(h:df Y D m I M){bf:bm fx}{gA:Nat}{di:fx}{a:Loc}(au:∀ id e,bf.get id=some e->(id=j/\di=e)\/(id≠j/\m.t.get id=some e))(ak:bG j=some a)(bk:D.le bG)(dw:∀ i,i≠j->bG i=D i)(amT:∀ id a,bG id=some a->id<gA)(bB:∀ b o,I b=some o->I' b=some o)(nB:∀ id e bN,id≠j->m.t.get id=some e->D id=some bN->∀ x∈M,x.num=bN.b->x∈M')
  (he:lF bG Y.E M' a di) (Cf:∀ id e bN,id≠j->m.t.get id=some e->D id=some bN->bN.b≠a.b):df Y bG ⟨bf,gA⟩ I' M' where
 iV id e cN ax aa:=by
  rcases au id e ax with⟨aK,a7⟩ | ⟨bD,ax⟩;·subst aK;subst a7;rw[ak]at aa;cases aa;exact he
  ·rw[dw id bD]at aa;exact(h.iV id e cN ax aa).mono bk λx ad aD=>nB id e cN bD ax aa x ad aD
 inj id iW e cU cN ej ax jO aa ab ag:=by
  rcases au id e ax with⟨aK,a7⟩ | ⟨bD,ax⟩
  ·rcases au iW cU jO with⟨ck,dM⟩ | ⟨Bt,jO⟩
   ·rw[aK,ck]
   ·rw[dw iW Bt]at ab;subst aK;rw[ak]at aa;cases aa;exact(Cf iW cU ej Bt jO ab ag.symm).elim
  ·rw[dw id bD]at aa;rcases au iW cU jO with⟨ck,dM⟩ | ⟨Bt,jO⟩
   ·subst ck;rw[ak]at ab;cases ab;exact(Cf id e cN bD ax aa ag).elim
   ·rw[dw iW Bt]at ab;exact h.inj id iW e cU cN ej ax jO aa ab ag
 jV:=amT
 qW:=h.qW.mono bB
def df.fresh(h:df Y D m I M):D m.n=none:=by
 cases dw:D m.n with
 |none=>rfl| some a=>exact absurd (h.jV _ _ dw) (Nat.lt_irrefl _)
def df.ar(h:df Y D m I M){id:Nat}{e:fx}{a:Loc}(ax:m.t.get id=some e)(a6:D id=some a):∃ x∈M,x.num=a.b:=by
 cases h.iV id e a ax a6 with
 |cells arr aw aa=>exact⟨_,aa,rfl⟩| map l c aa=>exact⟨_,aa,rfl⟩| loop L aa=>exact⟨_,aa,rfl⟩| done L aa=>exact⟨_,aa,rfl⟩
def df.new(h:df Y D m I M){bf:bm fx}{di:fx}{a:Loc}{o:Obj}(au:∀ id e,bf.get id=some e->(id=m.n/\some di=some e)\/(id≠m.n/\m.t.get id=some e))(aB:∀ x∈M,x.num≠a.b)
  (he:lF (D.set m.n a) Y.E (⟨a.b,o⟩::M) a di):df Y (D.set m.n a) ⟨bf,m.n+1⟩ I (⟨a.b,o⟩::M):=
 h.step (λid e ax=>(au id e ax).imp (λh=>⟨h.1,pb h.2⟩) λh=>h) (D.p8 _ _) (bS.Az a h.fresh) (λi hi=>by unfold bS.set;rw[bP hi])
  (λid b ag=>by
   unfold bS.set at ag;split at ag;·omega
   ·have:=h.jV _ _ ag;omega)
  (λ_ _ h=>h) (λ_ _ _ _ _ _ x ad _=>nS _ ad) he
  (λid e bN _ ax s3 ag=>by
   obtain⟨x,ad,aD⟩:=h.ar ax s3;exact aB x ad (aD.trans ag))
def lF.new{l:List ap}{c:Nat}{b:Nat}{cs:bm ap}(lS:∀ j x,cs.get j=some x->(0<=j/\l[j-0]?=some x)\/((j<0\/0+l.length<=j)/\(bm.nil:bm ap).get j=some x))(aA:bO D l vs)
  (ae:∀ i,Y.E T=some i->(vs++aU).length=c*i.size) (ao:c<=maxLen):lF D Y.E (⟨b,.cells (vs++aU).toArray T (0,0)⟩::M) ⟨b,0,c⟩ (.cells cs T l.length):=by
 refine .cells (vs++aU).toArray rfl (by simp) (by simp[aA.len]) (λi v hi ax=>?_) (λi hi=>by simpa using ae i hi) ao;rcases lS i v ax with⟨_,aa⟩ | ⟨_,aa⟩
 ·obtain⟨x,ab,ai⟩:=aA.get (i:=i) (by simpa using aa);have a4:=(iz.1 ab).1;exact⟨x,by simp only[dp,BH];rw[qu a4];exact ab,ai⟩
 ·cases aa
def IM{e:fx}{K:Nat->bz->Option R}{r:R}(h:CG m e K=some r):∃ bf,(∀ id cU,bf.get id=some cU->(id=m.n/\some e=some cU)\/(id≠m.n/\m.t.get id=some cU))/\K m.n ⟨bf,m.n+1⟩=some r:=by unfold CG at h;rw[RW]at h;obtain⟨bf,aa,ab⟩:=bm.o7 (some e) m.t m.n;rw[aa]at h;exact⟨bf,ab,h⟩
def Sa{l:List ap}{K:Nat->bz->Option R}{r:R}(h:vw m l T K=some r):∃ m',K m.n m'=some r/\m'.n=m.n+1 /\
  ∀ {D:bS} {I:aJ} {M:List aF} {vs:List Value} (aU:List Value) {b c:Nat},df Y D m I M->(∀ x∈M,x.num≠b)->bO D l vs->(∀ i,Y.E T=some i->(vs++aU).length=c*i.size)->c<=maxLen ->
   df Y (D.set m.n ⟨b,0,c⟩) m' I (⟨b,.cells (vs++aU).toArray T (0,0)⟩::M):=by
 unfold vw at h;obtain⟨cs,aa,ab⟩:=bm.yM l (.nil:bm ap) 0;rw[aa]at h;obtain⟨bf,ai,aL⟩:=IM h;refine⟨_,aL,rfl,fun {D I M vs} aU {b c} hm aB aA ae ao=>?_⟩;exact hm.new (a:=⟨b,0,c⟩) ai aB (.new ab (aA.mono (bS.Az _ hm.fresh)) ae ao)
end
def amU(z:List Value)(n:Nat):rowOf z (z.length+n)=rowOf z z.length++rowOf z n:=by unfold rowOf;rw[List.range_add,cS,gh];congr 1;apply fT;intro i _;simp[Nat.add_mod_left]
def amV(z:List Value):rowOf z z.length=z:=by
 unfold rowOf;apply oH
 ·simp
 ·intro i aa ab;simp only[gg,wO,Eo ab];simp[ab]
def Sb(z:List Value):∀ n,rowOf z (n*z.length)=(List.replicate n z).flatten
 |0=>by simp[rowOf]
 |n+1=>by rw[Kv,Gv,amU,amV,Sb z n,Qd,Qg]
def aaO(place:Nat->Option (Nat×Nat)):∀ (vs:List (Nat×Value)) (cs r:List Value),tn place cs vs=some r->r.length=cs.length
 |[],cs,r,h=>by simp only[tn]at h;cases h;rfl
 |(i,v)::vs,cs,r,h=>by
  simp only[tn]at h;split at h;·cases h
  ·rename_i off size aH;cases ag:(Nat.beq v.cells.size size&&Nat.ble (off+size) cs.length)with
   |false=>rw[ag]at h;cases h| true=>rw[ag]at h;simp only[cp]at h;rw[aaO place vs _ _ h];rw[cw]at ag;have aa:=dJ ag.1;have ab:=bK ag.2;simp[cq];omega
def AA(dst:Option Nat)(u:Value)(F c9:Fr):Prop:=(∀ d,dst=some d->c9 d=.val u)/\∀ (D:bS) t v,dst≠some t->gB D (F t) v->gB D (c9 t) v
def AA.put(dst:Option Nat)(u:Value)(F:Fr):AA dst u F (put dst (.val u) F):=by
 constructor
 ·rintro d rfl;simp[Go.V.put,gY]
 ·intro D t v bD h;cases dst with
  |none=>exact h| some d=>have:t≠d:=λe=>bD (by rw[e]);simp only[Go.V.put,gY,hF this,cb];exact h
def AA.qp(d:Nat)(u:Value)(F:Fr):AA (some d) u F (gY (qp F d) d (.val u)):=by
 constructor
 ·rintro _⟨⟩;simp[gY]
 ·intro D t v bD h;have:t≠d:=λe=>bD (by rw[e]);simp only[gY,hF this,cb];unfold Go.V.qp;rcases h with⟨amW,e,h⟩ | ⟨q,e,h⟩
  ·rw[e];exact .inl ⟨amW,rfl,h⟩
  ·rw[h];exact .inr ⟨q,e,rfl⟩
section
variable{X:c1}{G:GT}{pr:l8}{D:bS}{m:bz}{F:Fr}{an:bm ap}{C:dO}{I:aJ}{M:List aF}{K:gr}{o:Oper}
def aaP(aO:cX X.P X.E)(ko:∀ d,d<X.n->X.gJ.contains d=true)(ah:∀ d,o.dst=some d->d<X.n){l:List ap}{c:Nat}{mk:Nat->ap}(h:CI X.E o an=some (l,T,c,mk))(IN:o.dst.isSome=true)(H:jn D F an o.op.operands.toList)
  (k:∀ b vs u c9 C',I b=none->(∀ x∈M,x.num≠b)->bO D l vs->(∀ i,X.E T=some i->vs.length=c*i.size)->c<=maxLen->(∀ (bG:bS) id,bG id=some ⟨b,0,c⟩->aW bG (mk id) u)->AA o.dst u F c9 ->
   K c9 C' I (⟨b,.cells vs.toArray T (0,0)⟩::M)):gZ X o F C I M K:=by
 obtain⟨dst,op,ty,pos,after,guard⟩:=o;cases dst with
 |none=>cases IN
 |some d=>
  have rC:X.gJ.contains d=true:=ko d (ah d rfl);have aaQ:∀ (b c:Nat) (bG:bS) id,bG id=some ⟨b,0,c⟩->aW bG (.p id 0) (.pointer (some ⟨b,0,none⟩)):=λb c bG id kf=>by simp only[aW];exact⟨_,kf,rfl⟩
  unfold CI at h;simp only at h H;split at h
  ·rename_i t x;unfold Z4 at h;obtain⟨i,hi,h⟩:=cy h;obtain⟨v,aj,h⟩:=cy h;obtain⟨ag,h⟩:=fZ h;cases h;obtain⟨u,aK,a'⟩:=H.bH (x:=x) (by simp[Op.operands]) aj;have ao:=a'.cells;simp only[gZ,aK,rC,cp];refine⟨λb aa ab=>?_⟩;have:=k b u.cells.toList (.pointer (some ⟨b,0,none⟩)) _ (jv C d none) aa ab ao (λgV cG=>?_) (by decide) (aaQ b 1) (.qp d _ F)
   ·simpa using this
   ·rw[hi]at cG;cases cG;rw[ao.len,oI];exact dJ ag
  ·rename_i t;unfold Z5 at h;obtain⟨i,hi,h⟩:=cy h;obtain⟨z,bd,h⟩:=cy h;cases h;simp only[gZ,hi,rC,cp];refine⟨λb aa ab=>?_⟩;exact k b i.zero (.pointer (some ⟨b,0,none⟩)) _ (jv C d none) aa ab (.E7 bd) (λgV cG=>by rw[hi]at cG;cases cG;rw[(aO _ _ hi).len,oI]) (by decide) (aaQ b 1) (.qp d _ F)
  ·rename_i t len parts;unfold Z6 at h;split at h
   ·rename_i sa s8 sz e vs au aH;obtain⟨aG,he,h⟩:=cy h;obtain⟨z,bd,h⟩:=cy h;obtain⟨us,aK,a'⟩:=H.parts (l:=parts.toList) (by intro y aE;simpa[Op.operands]using aE) aH;simp only[gZ,au,aK,he];have yf:=(aO _ _ he).len;cases ag:(Nat.ble (len*aG.size) 16777216&&Nat.blt 0 (len*aG.size))with
    |true=>
     have hk:(Nat.ble (Nat.mul len aG.size) 16777216&&Nat.blt 0 (Nat.mul len aG.size))=true:=ag;rw[kx,hk]at h;simp only[cp]at h |-;obtain⟨cs,ai,aL⟩:=cy h;have dT:some (cs,e,len,λid=>ap.sl id 0 len len)=some (l,T,c,mk):=aL;cases dT;have Sc:bO D (CH c z) (rowOf aG.zero (c*aG.size)):=by rw[<-yf,Sb];exact(bO.E7 bd).Hv c
     obtain⟨ba,bq,b'⟩:=Mq ai Sc a';rw[bq];refine⟨λb aa ab=>?_⟩;have cQ:ba.length=c*aG.size:=by rw[aaO _ _ _ _ bq];simp[rowOf]
     rw[cw]at ag;have iN:=bK ag.1;have iC:0<c*aG.size:=bK ag.2;exact k b ba (.slice (some ⟨b,0,none⟩) c c) _ C aa ab b' (λgV cG=>by rw[he]at cG;cases cG;exact cQ)
      (by
       have dZ:0<aG.size:=Nat.pos_of_mul_pos_left iC;have:c<=c*aG.size:=Nat.le_mul_of_pos_right _ dZ;simp only[maxLen];omega)
      (λbG id kf=>by simp only[aW];exact⟨_,kf,rfl⟩) (.put _ _ F)
    |false=>
     have hk:(Nat.ble (Nat.mul len aG.size) 16777216&&Nat.blt 0 (Nat.mul len aG.size))=false:=ag;rw[kx,hk]at h;simp only[cb]at h |-;obtain⟨ao,h⟩:=fZ h;cases h;rw[cw]at ao;have ai:=dJ ao.1;subst ai;have aL:vs=[]:=by simpa using ao.2
     subst aL;cases a';simp only;refine⟨λb aa ab=>?_⟩;exact k b [] (.slice (some ⟨b,0,none⟩) 0 0) _ C aa ab .nil (λgV cG=>by simp) (by decide) (λbG id kf=>by simp only[aW];exact⟨_,kf,rfl⟩) (.put _ _ F)
   ·cases h
  ·rename_i t dC c';unfold Z7 at h;split at h
   ·rename_i sa s8 sz e hl axA au aa ab;obtain⟨aG,he,h⟩:=cy h;obtain⟨n,aD,h⟩:=cy h;obtain⟨q,aM,h⟩:=cy h;obtain⟨z,bd,h⟩:=cy h;obtain⟨ag,h⟩:=fZ h;cases h;obtain⟨eK,rfl⟩:=Fc aD;obtain⟨cR,rfl⟩:=Fc aM;obtain⟨nf,aK,a'⟩:=H.bH (x:=dC) (by simp[Op.operands]) aa;obtain⟨kz,a7,bg⟩:=H.bH (x:=c') (by simp[Op.operands]) ab;rw[a'.int]at aK;rw[bg.int]at a7;simp only[cw]at ag;simp only[gZ,au,aK,a7,he];refine⟨n,c,rfl,rfl,bK ag.1,bK ag.2.1,bK ag.2.2,⟨λb ai aL=>?_⟩⟩;have yf:=(aO _ _ he).len;have Sc:bO D (CH c z) (rowOf aG.zero (c*aG.size)):=by rw[<-yf,Sb];exact(bO.E7 bd).Hv c
    exact k b _ (.slice (some ⟨b,0,none⟩) n c) _ C ai aL Sc (λgV cG=>by rw[he]at cG;cases cG;simp[rowOf]) (bK ag.2.2) (λbG id kf=>by simp only[aW];exact⟨_,kf,rfl⟩) (.put _ _ F)
   ·cases h
  ·cases h
end
def aaR{i:Nat}(h:off+vs.length<=cs.length):(cq cs off vs)[i]?=if off<=i/\i<off+vs.length then vs[i-off]? else cs[i]?:=by
 unfold cq;by_cases aa:i<off
 ·rw[bP (by omega),qu (by simp;omega),qu (by simp;omega),k9,bT aa]
 ·by_cases ab:i<off+vs.length
  ·rw[bT ⟨by omega,ab⟩,qu (by simp;omega),lx (by simp;omega)];simp;congr 1;omega
  ·rw[bP (by omega),lx (by simp;omega),nw];congr 1;simp;omega
def Sd(h:off+vs.length<=cs.length):(cq cs off vs).length=cs.length:=by simp[cq];omega
section
variable{Y:gU}{D:bS}{m:bz}{I:aJ}{M:List aF}{R:Type}
def Se{x:ap}{l:List ap}{K:bz->Option R}{r:R}(h:yJ m x l K=some r):∃ m',K m'=some r/\m'.n=m.n/\(∀ id,m'.t.get id≠none->m.t.get id≠none\/True) /\
  ∀ {D:bS} {I:aJ} {M:List aF} {u:Value} {vs:List Value},df Y D m I M->aW D x u->bO D l vs ->
   ∃ (g off:Nat) (a9 post:List aF) (arr:Array Value) (T:Nat),u=.pointer (some ⟨g,off,none⟩)/\M=a9++⟨g,.cells arr T (0,0)⟩::post/\off+vs.length<=arr.size/\fJ vs=true /\ (∃ id e a,m.t.get id=some e/\D id=some a/\a.b=g) /\
    df Y D m' I (a9++⟨g,.cells (cq arr.toList off vs).toArray T (0,0)⟩::post):=by
 unfold yJ at h;split at h
 ·rename_i id off;split at h
  ·rename_i cs T fN ax;cases ag:(Nat.ble (Nat.add off l.length) fN&&l.all ap.one)with
   |false=>rw[ag]at h;cases h
   |true=>
    rw[ag]at h;simp only[cp]at h;rw[cw]at ag;have AB:off+l.length<=fN:=bK ag.1;obtain⟨cs',aa,ab⟩:=bm.yM l cs off;rw[aa]at h;obtain⟨bf,ai,aL⟩:=bm.o7 (some (fx.cells cs' T fN)) m.t id;rw[ai]at h;refine⟨_,h,rfl,λ_ _=>.inr trivial,fun {D I M u vs} hm ad aA=>?_⟩;obtain⟨a,a6,rfl⟩:=ad.ptr;have he:=hm.iV _ _ _ ax a6;obtain⟨arr,aC,bb,dk,ao,ae,iA⟩:=he;have cQ:=aA.len;obtain⟨a9,post,de⟩:=vt bb;have iu:off+vs.length<=arr.size:=by omega
    refine⟨a.b,off,a9,post,arr,T,by rw[aC,dp],de,iu,aA.one ag.2,⟨id,_,a,ax,a6,rfl⟩,?_⟩;have eV:∀ x∈M,x.num≠a.b->x∈a9++⟨a.b,.cells (cq arr.toList off vs).toArray T (0,0)⟩::post:=λx ad aD=>by
     rw[de]at ad;rcases cC.1 ad with ad | ad;·exact cC.2 (.inl ad)
     ·rcases eA.1 ad with rfl | ad
      ·exact(aD rfl).elim
      ·exact cC.2 (.inr (nS _ ad))
    refine hm.step (λi e hi=>(aL i e hi).imp (λq=>⟨q.1,pb q.2⟩) λq=>q) a6 (bS.le_refl D) (λ_ _=>rfl) hm.jV (λ_ _ h=>h) (λi e bN bD hi q0 x ad aD=>eV x ad ?_) ?_ ?_;·rw[aD];exact λag=>bD (hm.inj _ _ _ _ _ _ hi ax q0 a6 ag)
    ·have AD:(cq arr.toList off vs).length=arr.size:=by rw[Sd (by simpa using iu)];simp
     refine .cells (cq arr.toList off vs).toArray aC (by simp) (by simp[AD];exact dk) (λi v hi vA=>?_) (λi hi=>by simp[AD];exact ae i hi) iA;rw[aC,dp];simp only[BH];rw[aaR (by simpa using iu)];rcases ab i v vA with⟨a',bg⟩ | ⟨a',bg⟩;·have a4:=(iz.1 bg).1;rw[bT ⟨a',by omega⟩];exact aA.get bg
     ·rw[bP (by omega)];have:=ao i v hi bg;rw[aC,dp]at this;simpa using this
    ·intro i e bN bD hi q0 ag;exact bD (hm.inj _ _ _ _ _ _ hi ax q0 a6 ag)
  ·cases h
 ·cases h
def aaS:∀ {l:List ap} {aZ cB:List UInt8} {vs:List Value},Is l aZ=some cB->bO D l vs->∃ cs,cB=aZ.reverse++cs/\vs=cs.map (λb=>.int .u8 b.toNat)
 |[],aZ,cB,vs,h,aA=>by simp only[Is]at h;cases h;exact⟨[],(dD _).symm,aA.nU⟩
 |v::l,aZ,cB,vs,h,aA=>by
  unfold Is at h;split at h;·rename_i e;cases e
  ·rename_i EA n dC e;cases e;cases ag:Nat.ble n 255 with
   |false=>rw[ag]at h;cases h| true=>rw[ag]at h;simp only[cp]at h;obtain⟨x,xs,aa,ab,rfl⟩:=aA.ky;have aD:=bK ag;obtain⟨cs,rfl,rfl⟩:=aaS h ab;refine⟨UInt8.ofNat n::cs,by simp,?_⟩;rw[aa.int];simp only[ca,zV,and_true,Value.int.injEq,true_and];rw[UInt8.toNat_ofNat_of_lt' (show n<256 by omega)];rfl
  ·cases h
def aaT{l:List ap}{cB:List UInt8}(h:RE l=some cB)(aA:bO D l vs):vs=cB.map (λb=>.int .u8 b.toNat):=by obtain⟨cs,rfl,rfl⟩:=aaS h aA;rfl
inductive AE:TypeDesc->ap->Prop
 |int{k n}:AE (.int k) (.i k n)| str {l}:AE .string (.s l)
def aaU(aO:cX P E){k:Nat}{y:ap}(h:Ma (E k) y=true):∃ d,P.underlying k=some d/\AE d y:=by
 unfold Ma at h;split at h
 ·rename_i gq fu n ae;have:=IntKind.DK h;subst this;obtain⟨d,hu,ah⟩:=(aO _ _ ae).ft;refine⟨d,hu,?_⟩;have:d=.int gq:=by cases d<;>simp_all[fs]
  subst this;exact .int
 ·rename_i l ae;obtain⟨d,hu,ah⟩:=(aO _ _ ae).ft;refine⟨d,hu,?_⟩;have:d=.string:=by cases d<;>simp_all[fs]
  subst this;exact .str
 ·cases h
def AE.isKey{d:TypeDesc}{y:ap}{u:Value}(h:AE d y)(aE:aW D y u):MapKept.IsKey d u:=by
 cases h with
 |int=>rw[aE.int];rfl| str=>rw[aE.str];trivial
def aaV(a b:ByteArray):(a == b)=decide (a=b):=by rw[tj,MapKept.bytes_beq];simp
def Ff{d:TypeDesc}{y x:ap}{u:Value}{r:Bool}(h:AE d y)(aE:aW D y u)(ad:aW D x w)(he:EU y x=some r):Instr.sameNow d u w=some r:=by
 cases h with
 | @int k n=>
  rw[aE.int];unfold EU at he;split at he;·rename_i e;cases e
  ·rename_i eK a cR b e;cases e;obtain⟨aa,ab⟩:=fZ he;have:=IntKind.DK aa;subst this;cases ab;rw[ad.int];simp only[Instr.sameNow,sv,CL];congr 1
  ·rename_i e;cases e
  ·cases he
 | @str l=>
  rw[aE.str];unfold EU at he;split at he;·rename_i e;cases e
  ·rename_i e;cases e
  ·rename_i a b e;cases e;cases he;rw[ad.str];simp only[Instr.sameNow];rw[aaV,Ms,E6]
  ·cases he
def aaW{d:TypeDesc}{y:ap}{u:Value}(h:AE d y)(aE:aW D y u):∀ {es:List (ap×ap)} {l:List MapEntry} {r:Option ap} (i:Nat),qY D es l->It y es=some r ->
  match r with
  |none=>Instr.findNow d u l i=some none| some v=>∃ j w,Instr.findNow d u l i=some (some (j,w))/\aW D v w
 |[],_,r,i,.nil,aA=>by simp only[It]at aA;cases aA;rfl
 |(x,v)::es,_,r,i,.cons (e:=e) (l:=l) ae aj t,aA=>by
  simp only[It]at aA;split at aA;·rename_i he;cases aA;refine⟨i,e.val,?_,aj⟩;simp only[Instr.findNow,Ff h aE ae he]
  ·rename_i he;have aN:=aaW h aE (i+1) t aA;simp only[Instr.findNow,Ff h aE ae he];exact aN
  ·cases aA
def aaX{d:TypeDesc}{y v:ap}{u w:Value}(h:AE d y)(aE:aW D y u)(aj:aW D v w):∀ {es vB:List (ap×ap)} {l:List MapEntry} (i:Nat),qY D es l->Iu y v es=some vB -> (Instr.findNow d u l i=some none/\∀ b,qY D vB (l++[{ key:=u,val:=w,born:=b }])) \/ ∃ j e,Instr.findNow d u l i=some (some (i+j,e.val))/\l[j]?=some e/\Instr.sameNow d u e.key=some true/\qY D vB (l.modify j λe=>{ e with key:=u,val:=w })
 |[],vB,_,i,.nil,aA=>by simp only[Iu]at aA;cases aA;exact .inl ⟨rfl,λb=>.cons aE aj .nil⟩
 |(x,qZ)::es,vB,_,i,.cons (e:=e) (l:=l) ae j3 t,aA=>by
  simp only[Iu]at aA;split at aA
  ·rename_i he;cases aA;refine .inr ⟨0,e,?_,rfl,Ff h aE ae he,?_⟩
   ·simp only[Instr.findNow,Ff h aE ae he,pD]
   ·simp only[List.modify_zero_cons];exact .cons aE aj t
  ·rename_i he;split at aA
   ·rename_i r af;cases aA;rcases aaX h aE aj (i+1) t af with⟨aa,ab⟩ | ⟨j,cU,aa,ab,ai,aL⟩
    ·refine .inl ⟨?_,λb=>.cons ae j3 (ab b)⟩;simp only[Instr.findNow,Ff h aE ae he];exact aa
    ·refine .inr ⟨j+1,cU,?_,by simpa using ab,ai,?_⟩
     ·simp only[Instr.findNow,Ff h aE ae he];rw[aa];congr 3;omega
     ·simp only[List.modify_succ_cons];exact .cons ae j3 aL
   ·cases aA
  ·cases aA
end
section
variable{P:Program}{w:World}
def amX{k e:Nat}(au:P.underlying t=some (.map k e)){d:TypeDesc}(ae:P.underlying k=some d){u:Value}(xf:MapKept.IsKey d u){l:List MapEntry}(ax:w.heap[g]?=some (.map l.toArray clock))
  {q:Option (Nat×Value)} (aB:Instr.findNow d u l 0=some q) {inf:TypeInfo} {z:Value} (hi:P.info? e=some inf) (bd:inf.zero=some z) (ok:Bool) :
  (Instr.lookup t (.map (some g)) u ok).run P w=.ok (bif ok then .tuple #[(q.map (·.2)).getD z,.bool q.isSome]else(q.map (·.2)).getD z) w:=by
 have ao:(Instr.checkKey l.toArray.isEmpty 10000 k u).run P w=.ok () w:=D8 ae xf _ 9999;have vl:(Instr.findKey k u l).run P w=.ok q w:=D' ae aB;have My:(zeroValue e).run P w=.ok z w:=by simp[zeroValue,typeInfo,hi,bd]
 unfold Instr.lookup;simp only[cu,run_underlying au,bY,D7 ax,c7,ao,vl];cases q with
 |none=>cases ok<;>simp[My]
 |some p=>cases ok<;>simp
def amY{k e:Nat}(au:P.underlying t=some (.map k e)){d:TypeDesc}(ae:P.underlying k=some d){u v:Value}(xf:MapKept.IsKey d u){l:List MapEntry}(ax:w.heap[g]?=some (.map l.toArray clock))
  (aB:Instr.findNow d u l 0=some none):(Instr.mapUpdate t (.map (some g)) u v).run P w=.ok () { w with heap:=w.heap.setIfInBounds g (.map (l++[({ key:=u,val:=v,born:=clock }:MapEntry)]).toArray (clock+1)) }:=by
 have ao:(Instr.checkKey false 10000 k u).run P w=.ok () w:=D8 ae xf _ 9999;have vl:(Instr.findKey k u l).run P w=.ok none w:=D' ae aB;unfold Instr.mapUpdate;simp only[cu,run_underlying au,bY,D7 ax,ao,vl,PC _ ax];congr 3;simp
def amZ{k e:Nat}(au:P.underlying t=some (.map k e)){d:TypeDesc}(ae:P.underlying k=some d){u v:Value}(xf:MapKept.IsKey d u){l:List MapEntry}(ax:w.heap[g]?=some (.map l.toArray clock))
 {cU:MapEntry} (aB:Instr.findNow d u l 0=some (some (j,cU.val))) (ak:l[j]?=some cU) (av:cU.key=u) :
  (Instr.mapUpdate t (.map (some g)) u v).run P w=.ok () { w with heap:=w.heap.setIfInBounds g (.map (l.modify j λe=>{ e with key:=u,val:=v }).toArray clock) }:=by
 have ao:(Instr.checkKey false 10000 k u).run P w=.ok () w:=D8 ae xf _ 9999;have vl:(Instr.findKey k u l).run P w=.ok (some (j,cU.val)) w:=D' ae aB;have fa:(Instr.keyThatStays u u).run P w=.ok u w:=MapKept.run_keyThatStays xf;unfold Instr.mapUpdate;simp only[cu,run_underlying au,bY,D7 ax,ao,vl];simp only[BH,ak,lb,kK,av,fa,bY,PC _ ax];congr 3;show Obj.map _ _=Obj.map _ _;congr 1;apply gX;simp
end
section
variable{X:c1}{G:GT}{pr:l8}{D:bS}{m m':bz}{F:Fr}{an:bm ap}{C:dO}{I:aJ}{M:List aF}{K:gr}{o:Oper}{v:ap}
def r7(X:c1)(G:GT)(pr:l8)(D:bS)(m:bz)(I:aJ)(M:List aF)(v:ap)(m':bz)(dst:Option Nat)(F:Fr)(C:dO)(K:gr):Prop:=
 ∀ bG u M',D.ext bG m.n->aW bG v u->df (ef X G pr) bG m' I M'->K (put dst (.val u) F) C I M'
def am0(aC:o.op=.store t x y)(h:bx o.dst (L9 (X.E t) m (dv an x) (dv an y)) (λ_=>none)=some (v,m'))(H:jn D F an o.op.operands.toList)(hm:df (ef X G pr) D m I M)
  (k:r7 X G pr D m I M v m' o.dst F C K):gZ X o F C I M K:=by
 obtain⟨dst,op,ty,pos,after,guard⟩:=o;simp only at aC;subst aC;cases dst with
 |some d=>cases h
 |none=>
  have aa:L9 (X.E t) m (dv an x) (dv an y)=some (v,m'):=h;unfold L9 at aa;obtain⟨i,hi,aa⟩:=cy aa;obtain⟨a,ad,aa⟩:=cy aa;obtain⟨b,aE,aa⟩:=cy aa;obtain⟨ag,aa⟩:=fZ aa;obtain⟨m2,ab,-,-,ai⟩:=Se (Y:=ef X G pr) aa;cases ab;simp only at H;have pf:=H x (by simp[Op.operands]) _ ad;have xe:∀ q,a≠.b q:=λq e=>by subst e;cases aa
  obtain⟨u,aK,a'⟩:=pf.w9 xe;obtain⟨w,a7,bg⟩:=H.bH (x:=y) (by simp[Op.operands]) aE;obtain⟨g,off,a9,post,arr,T,rfl,bb,iu,qs,⟨id,e,iT,kf,Ek,ax⟩,mE⟩:=ai hm a' bg.cells;simp only[gZ,hi,a7,aK];have dk:Nat.beq w.cells.size i.size=true:=by have:=bg.cells.len;rw[x4]at this;rw[this];exact ag
  rw[dk];simp only[cp];refine⟨a9,post,arr,T,bb,rfl,iu,qs,?_⟩;exact k D (.tuple #[]) _ bS.pe (by simp only[aW];exact⟨[],.nil,rfl⟩) mE
def aaY(ah:∀ d,o.dst=some d->d<X.n)(bV:∀ c,o.op≠.defer c)
  (h:∀ (β:Nat->Nat) (a:Act) (w:World),cL X β a w F C I M->∃ u w' I' M',(execOp a.eval o).run X.P w=.ok (.value u) w'/\cL X β a w' F C I' M'/\K (put o.dst (.val u) F) C I' M'):bF X o F C I M K:=by
 refine⟨λa w Q ⟨β,aX⟩=>?_⟩;obtain⟨u,w',I',M',aa,ab,ai⟩:=h β a w aX;exact iJ bV aa ⟨_,_,_,_,⟨β,ab.put (x:=.val u) ah rfl⟩,ai⟩
def am1(ah:o.dst=none)(bV:∀ c,o.op≠.defer c)
  (h:∀ (β:Nat->Nat) (a:Act) (w:World),cL X β a w F C I M->∃ w' I' M',(execOp a.eval o).run X.P w=.ok .skip w'/\cL X β a w' F C I' M'/\K F C I' M'):bF X o F C I M K:=by
 refine⟨λa w Q ⟨β,aX⟩=>?_⟩;obtain⟨w',I',M',aa,ab,ai⟩:=h β a w aX;refine DI bV aa ⟨_,_,_,_,⟨β,?_⟩,ai⟩;rw[ah];exact ab
def aaZ(aO:cX X.P X.E)(ah:∀ d,o.dst=some d->d<X.n){r:Option Operand}(aC:o.op=.makeMap t r)(h:L' (X.E t) m=some (v,m'))(af:∀ x,r=some x->∃ k n,bH F x=.val (.int k n))(hm:df (ef X G pr) D m I M)
  (k:r7 X G pr D m I M v m' o.dst F C K):bF X o F C I M K:=by
 unfold L' at h;split at h
 ·rename_i sa s8 sz gq e au;obtain⟨d,fM,fk⟩:=(aO _ _ au).ft;have aa:d=.map gq e:=by cases d<;>simp_all[fs]
  subst aa;obtain⟨bf,ab,ai⟩:=IM h;cases ai;refine aaY ah (by rw[aC];simp) fun β a w aX=>?_;refine⟨.map (some w.heap.size),w.alloc (.map #[] 0),I,⟨w.heap.size,.map #[] 0⟩::M,?_,aX.n2 _,?_⟩
  ·unfold execOp;cases r with
   |none=>simp[aC,Instr.makeMap]| some x=>obtain⟨eK,qK,ad⟩:=af x rfl;have P9:=dh aX.an ad;simp[aC,P9,Instr.makeMap,run_underlying fM,asInt,oE]
  ·have aB:∀ x∈M,x.num≠w.heap.size:=aX.holds.rk;refine k _ _ _ bS.Fe (by simp only[aW];exact⟨_,bS.p8 _ _ ⟨w.heap.size,0,0⟩,rfl⟩) (hm.new (a:=⟨w.heap.size,0,0⟩) ab aB ?_);exact .map [] 0 (by simp) .nil
 ·cases h
def lF.aa0{D:bS}{M:List aF}{a:Loc}{es:List (ap×ap)}(h:lF D E M a (.map es)):∃ l clock,(⟨a.b,.map l.toArray clock⟩:aF)∈M/\qY D es l:=by
 cases h with
 |map l clock aa ab=>exact⟨l,clock,aa,ab⟩
def aW.map'{id:Nat}{u:Value}(h:aW D (.m id) u):∃ a,D id=some a/\u=.map (some a.b):=by simpa only[aW]using h
def am2(aO:cX X.P X.E)(ah:∀ d,o.dst=some d->d<X.n){ok:Bool}(aC:o.op=.lookup t x y ok)(h:RF X.P X.E t m (dv an x) (dv an y) ok=some (v,m'))(H:jn D F an o.op.operands.toList)
  (hm:df (ef X G pr) D m I M) (k:r7 X G pr D m I M v m' o.dst F C K):bF X o F C I M K:=by
 unfold RF at h;split at h
 ·rename_i sa s8 sz gq e id am3 au aa ab;obtain⟨xf,h⟩:=fZ h;split at h
  ·rename_i es ax;obtain⟨r,af,h⟩:=cy h;obtain⟨inf,hi,h⟩:=cy h;obtain⟨z,bd,h⟩:=cy h;obtain⟨tu,BC,h⟩:=cy h;cases h;obtain⟨d,fM,fk⟩:=(aO _ _ au).ft;have fE:d=.map gq e:=by cases d<;>simp_all[fs]
   subst fE;obtain⟨dN,sU,CN⟩:=aaU aO xf;rw[aC]at H;obtain⟨nf,aK,a'⟩:=H.bH (x:=x) (by simp[Op.operands]) aa;obtain⟨kz,a7,bg⟩:=H.bH (x:=y) (by simp[Op.operands]) ab;obtain⟨a,a6,rfl⟩:=a'.map';have he:=hm.iV _ _ _ ax a6;obtain⟨l,clock,bb,Sf⟩:=he.aa0;have lW:=aaW CN bg 0 Sf af;have My:aW D tu z:=.of BC;have fin:∀ {q:Option (Nat×Value)},Instr.findNow dN kz l 0=some q->(r=none/\q=none\/∃ AF j w,r=some AF/\q=some (j,w)/\aW D AF w)->bF X o F C I M K:=fun {q} aB aM=>by
    refine aaY ah (by rw[aC];simp) fun β ac w aX=>?_;have e':=amX (P:=X.P) (w:=w) fM sU (CN.isKey bg) (aX.holds.m _ bb) aB hi bd ok;have ex:=dh aX.an aK;have oP:=dh aX.an a7;refine⟨bif ok then .tuple #[(q.map (·.2)).getD z,.bool q.isSome]else(q.map (·.2)).getD z,w,I,M,?_,aX,k D _ M bS.pe ?_ hm⟩;·unfold execOp;simp only[aC,ex,oP,cu,e',bY,c7]
    ·unfold Z8;rcases aM with⟨rfl,rfl⟩ | ⟨AF,j,w',rfl,rfl,aj⟩
     ·cases ok
      ·exact My
      ·exact .Mo (.cons My (.cons (by simp only[aW];rfl) .nil))
     ·cases ok
      ·exact aj
      ·exact .Mo (.cons aj (.cons (by simp only[aW];rfl) .nil))
   cases r with
   |none=>exact fin lW (.inl ⟨rfl,rfl⟩)| some AF=>obtain⟨j,w,aB,aj⟩:=lW;exact fin aB (.inr ⟨AF,j,w,rfl,rfl,aj⟩)
  ·cases h
 ·cases h
def aa1(aO:cX X.P X.E){z:Operand}(aC:o.op=.mapUpdate t x y z\/o.op=.insert t x y z)(h:bx o.dst (Iv X.E t m (dv an x) (dv an y) (dv an z)) (λ_=>none)=some (v,m'))(H:jn D F an o.op.operands.toList)
  (hm:df (ef X G pr) D m I M) (k:r7 X G pr D m I M v m' o.dst F C K):bF X o F C I M K:=by
 cases IN:o.dst with
 |some d=>rw[IN]at h;cases h
 |none=>
  rw[IN]at h k;have aw:Iv X.E t m (dv an x) (dv an y) (dv an z)=some (v,m'):=h;have wA:∀ q,q=x\/q=y\/q=z->q∈o.op.operands.toList:=λq aM=>by
   rcases aC with aC | aC<;>rw[aC]<;>simp[Op.operands]<;>exact aM
  unfold Iv at aw;split at aw
  ·rename_i sa s8 sz gq e id am3 tu au aa ab ai;obtain⟨xf,aw⟩:=fZ aw;split at aw
   ·rename_i es ax;obtain⟨vB,kr,aw⟩:=cy aw;obtain⟨bf,aL,bq⟩:=bm.o7 (some (fx.map vB)) m.t id;have hx:(m.t.nT (some (fx.map vB)) id λt=>some (ap.t [],(⟨t,m.n⟩:bz)))=some (v,m'):=aw;rw[aL]at hx;cases hx;obtain⟨d,fM,fk⟩:=(aO _ _ au).ft;have fE:d=.map gq e:=by cases d<;>simp_all[fs]
    subst fE;obtain⟨dN,sU,CN⟩:=aaU aO xf;obtain⟨nf,aK,a'⟩:=H.bH (x:=x) (wA x (.inl rfl)) aa;obtain⟨kz,a7,bg⟩:=H.bH (x:=y) (wA y (.inr (.inl rfl))) ab;obtain⟨Fg,ck,b5⟩:=H.bH (x:=z) (wA z (.inr (.inr rfl))) ai;obtain⟨a,a6,rfl⟩:=a'.map';have he:=hm.iV _ _ _ ax a6;obtain⟨l,clock,bb,Sf⟩:=he.aa0;have fin:∀ (dC:List MapEntry) (CO:Nat),qY D vB dC->(∀ w:World,w.heap[a.b]?=some (.map l.toArray clock)->(Instr.mapUpdate t (.map (some a.b)) kz Fg).run X.P w=.ok () { w with heap:=w.heap.setIfInBounds a.b (.map dC.toArray CO) }) ->
      bF X o F C I M K:=λdC CO rp e'=>by
     obtain⟨a9,post,de⟩:=vt bb;have mF:M.Perm (⟨a.b,.map l.toArray clock⟩::(a9++post)):=by rw[de];exact na
     refine am1 IN (by rcases aC with aC | aC<;>rw[aC]<;>simp) fun β ac w iM=>?_;have aX:cL X β ac w F C I (⟨a.b,.map l.toArray clock⟩::(a9++post)):=iM.h7 (.perm mF .refl);have xg:=iM.holds.m _ bb;have ex:=dh aX.an aK;have oP:=dh aX.an a7;have P':=dh aX.an ck;have g1:=MapKept.heap_set (o':=Obj.map dC.toArray CO) xg;refine⟨_,I,⟨a.b,.map dC.toArray CO⟩::(a9++post),?_,aX.swap (w':={ w with heap:=w.heap.setIfInBounds a.b (.map dC.toArray CO) }) (by simp) g1.1 g1.2 ⟨rfl,rfl⟩,?_⟩
     ·unfold execOp;rcases aC with aC | aC<;>simp only[aC,ex,oP,P',cu,e' w xg,bY,c7]
     ·have nC:∀ q∈M,q.num≠a.b->q∈(⟨a.b,.map dC.toArray CO⟩:aF)::(a9++post):=λq aM aD=>by
       rcases eA.1 (mF.mem_iff.1 aM)with rfl | aM;·exact(aD rfl).elim
       ·exact nS _ aM
      refine k D (.tuple #[]) _ bS.pe (by simp only[aW];exact⟨[],.nil,rfl⟩) ?_;refine hm.step (λi e hi=>(bq i e hi).imp (λq=>⟨q.1,pb q.2⟩) λq=>q) a6 (bS.le_refl D) (λ_ _=>rfl) hm.jV (λ_ _ h=>h) (λi e bN bD hi q0 q aM aD=>nC q aM ?_) (.map dC CO (by simp) rp) ?_;·rw[aD];exact λag=>bD (hm.inj _ _ _ _ _ _ hi ax q0 a6 ag)
      ·exact λi e bN bD hi q0 ag=>bD (hm.inj _ _ _ _ _ _ hi ax q0 a6 ag)
    rcases aaX CN bg b5 0 Sf kr with⟨aB,eV⟩ | ⟨j,cU,aB,ak,av,LF⟩;·exact fin _ (clock+1) (eV clock) λw xg=>amY fM sU (CN.isKey bg) xg aB
    ·rw[dp]at aB;have va:cU.key=kz:=by
      cases CN with
      |int=>
       have:=bg.int;subst this;cases ae:cU.key<;>rw[ae]at av<;>simp[Instr.sameNow]at av
       obtain⟨rfl,h⟩:=av;rw[h]
      |str=>
       have:=bg.str;subst this;cases ae:cU.key<;>rw[ae]at av<;>simp[Instr.sameNow,aaV]at av
       rw[av]
     exact fin _ clock LF λw xg=>amZ fM sU (CN.isKey bg) xg aB ak va
   ·cases aw
  ·cases aw
end
end Go.V
