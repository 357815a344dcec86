/- Part 5 of what the proofs of this seat share: the executor, data in memory, walks.
-/
import Derived.Test.YtbcembbdimcdlaaGreatDoorK4
import Derived.Lib.SliceRun
import Derived.Test.YtbcembbdimcdlaaGreatDoorK2
set_option linter.all false
set_option maxHeartbeats 8000000
set_option maxRecDepth 100000
namespace Go.V
open Go Go.Proofs
def nj:=@List.getElem_range
def qs:=@List.length_range
def oE:=@Nat.ble_eq
def Da:=@List.length_singleton
def zc:=@List.range_succ
def wb:=@Nat.sub_self
def Db:=@Int.natCast_nonneg
def Dc:=@List.flatMap_map
def Jy:=@List.getElem?_of_mem
def F':=@Nat.zero_lt_one
def N4:=@List.getElem_set_self
def N5:=@List.range_add
def N6:=@Nat.mul_le_mul
variable{M M0:List aE}{j q t g m c' b9:Nat}{x s y:Operand}{I:aH}{T:Nat->Nat->bW}{E:Env}{dn aJ:dU}{aS bV xs vs:List Value}{L e2:List Nat}{α R:Type}{os:a'}{F:Fr}{K:dD->aH->List aE->Prop}{eZ:Option Addr}{kb:List (Nat×List Nat)}
def a3.A1(d:a3):a3:=⟨d.k,d.fY,d.s1,d.s2,d.gM,d.t,d.lo,d.hi,none,0,0,[]⟩
def a3.pn(d:a3):qk:=⟨d.A1,d.aM.map Int.toNat⟩
def bW.cells(c:bW):List Value:=[.int .i64 c.n,.int .i32 c.to,.int .u8 c.aA,.int .u8 c.gB]
def bW.val(c:bW):Value:=.agg #[.int .i64 c.n,.int .i32 c.to,.int .u8 c.aA,.int .u8 c.gB]
def bW.da(c:bW):c.cells.length=4:=rfl
structure dt where
 bt:Nat
 s:ByteArray
 nv:Value
 rv:Value
 ic:List a3
 na:Option Addr
 nn:Nat
 nc:Nat
 fG:Option Addr
 ep:Nat
 rows:List Addr
 n0:Nat
 ba:Nat
def dt.w(t:dt):Nat:=t.s.size+1
def dt.P(t:dt):cu:=⟨t.ic.map a3.pn,t.s,0⟩
def dt.cb(t:dt):List Value:=[.string t.s,t.nv,t.rv,.slice t.na t.nn t.nc,.slice t.fG t.nn t.ep]
def lb(T:Nat->Nat->bW)(k w:Nat):List Value:=(List.range w).flatMap λa=>(T k a).cells
def dt.cs(t:dt)(T:Nat->Nat->bW):List Value:=(List.range (t.nn-t.n0)).flatMap λj=>lb T (t.n0+j) t.w
def dt.aQ(t:dt)(T:Nat->Nat->bW):aE:=⟨t.ba,.cells (t.cs T).toArray 106 (0,0)⟩
structure dt.ok(I:aH)(t:dt)(T:Nat->Nat->bW):Prop where
 aA:I t.bt=some (.cells t.cb.toArray 98 (0,0))
 ns:dX I t.na t.nn t.nc 9 96 (t.ic.flatMap a3.cells)
 ic:∀ y∈t.ic,y.ok I
 Ga:∀ y∈t.ic,y.t.size<=4096
 nk:∀ y∈t.ic,∀ x∈y.aM,0<=x/\x.toNat<t.nn
 rw:dX I t.fG t.nn t.ep 1 24 (t.rows.map λa=>Value.slice (some a) t.w t.w)
 eo:∀ a∈t.rows,a.spot=none
 c2:∀ k (h:k<t.rows.length),k<t.n0->∃ cs gp aj,I t.rows[k].block=some (.cells cs gp aj)/\(cs.toList.drop t.rows[k].off).take (t.w*4)=lb T k t.w
 new:∀ k (h:k<t.rows.length),t.n0<=k->t.rows[k]=⟨t.ba,(k-t.n0)*(t.w*4),none⟩
 sz:t.s.size<=4096
 many:t.nn<=4096
def A2(T:Nat->Nat->bW)(k w:Nat):(lb T k w).length=w*4:=by unfold lb;rw[g3 _ 4 λa=>rfl,qs]
def VC(T:Nat->Nat->bW)(k w:Nat){a:Nat}(ax:a<w):((lb T k w).drop (a*4)).take 4=(T k a).cells:=by unfold lb;rw[yB _ 4 (λa=>rfl) _ a (by rw[qs];exact ax),nj]
def dt.ae0(t:dt)(T:Nat->Nat->bW):(t.cs T).length=(t.nn-t.n0)*(t.w*4):=by unfold dt.cs;rw[g3 _ (t.w*4) λj=>A2 T _ t.w,qs]
section
variable{I:aH}{t:dt}{T:Nat->Nat->bW}
def dt.ok.nn(h:t.ok I T):t.ic.length=t.nn:=by have:=h.ns.len;rw[g3 _ 9 a3.da]at this;omega
def dt.ok.Jz(h:t.ok I T):t.rows.length=t.nn:=by have:=h.rw.len;rw[dx]at this;omega
def dt.ok.dH(h:t.ok I T)(ak:j<5):bD I M ((⟨t.bt,0,none⟩:Addr).add j) 1 [t.cb.getD j undef]:=by
 rw[ei _ rfl];refine⟨rfl,_,_,_,.inl h.aA,?_,rfl⟩
 match j,ak with
 |0,_=>rfl| 1,_=>rfl| 2,_=>rfl| 3,_=>rfl| 4,_=>rfl
def dt.ok.av(h:t.ok I T){k:Nat}(af:k<t.nn):∃ y,y∈t.ic/\t.P.av k=y.pn/\y.ok I/\y.t.size<=4096/\(∀ x∈y.aM,0<=x/\x.toNat<t.nn)/\∃ ad,t.na=some ad/\∀ M,bD I M (ad.add (k*9)) 9 y.cells:=by
 have kJ:k<t.ic.length:=by rw[h.nn];exact af
 obtain⟨ad,U,aa⟩:=h.ns.row a3.da af kJ;have hm:=cZ kJ;refine⟨t.ic[k],hm,?_,h.ic _ hm,h.Ga _ hm,h.nk _ hm,ad,U,aa⟩;simp[cu.av,dt.P,dI,kJ]
def ae1(h:t.ok I T){k a:Nat}(af:k<t.nn)(aq:t.n0<=k)(ax:a<t.w):((t.cs T).drop ((k-t.n0)*(t.w*4)+a*4)).take 4=(T k a).cells:=by
 have U:((t.cs T).drop ((k-t.n0)*(t.w*4))).take (t.w*4)=lb T k t.w:=by unfold dt.cs;rw[yB _ (t.w*4) (λj=>A2 T _ t.w) _ (k-t.n0) (by rw[qs];omega),nj,yY aq]
 rw[<-VC T k t.w ax,<-U,Ai,Aj,yr];congr 1;omega
def dt.ok.row(h:t.ok I T){k:Nat}(af:k<t.nn):∃ ad,t.fG=some ad/\∃ r:Addr,r.spot=none/\(∀ M,bD I M (ad.add (k*1)) 1 [.slice (some r) t.w t.w])/\(t.n0<=k->r=⟨t.ba,(k-t.n0)*(t.w*4),none⟩) /\
  ∀ M,(t.n0<t.nn->t.aQ T∈M)->∀ a,a<=t.s.size->bD I M (r.add (a*4)) 4 (T k a).cells:=by
 have kJ:k<t.rows.length:=by rw[h.Jz];exact af
 obtain⟨ad,U,aa⟩:=h.rw.one af kJ;have bZ:=h.eo _ (cZ kJ);refine⟨ad,U,t.rows[k],bZ,aa,h.new k kJ,λM bb a ax=>?_⟩;have lO:a<t.w:=by show a<t.s.size+1;omega
 rw[ei _ bZ];by_cases aq:k<t.n0
 ·obtain⟨cs,gp,aj,aC,ay⟩:=h.c2 k kJ aq;refine⟨rfl,cs,gp,aj,.inl aC,?_,rfl⟩;rw[<-VC T k t.w lO,<-ay,Ai,Aj,yr];congr 1;omega
 ·rw[h.new k kJ (by omega)];refine⟨rfl,(t.cs T).toArray,106,(0,0),.inr ⟨_,bb (by omega),rfl,rfl⟩,?_,rfl⟩;exact ae1 h af (by omega) lO
end
def ae2{x:Int}(U:0<=x)(aa:x<=255):IntKind.u8.wrap x=x:=by unfold IntKind.wrap;simp only[IntKind.bits,IntKind.signed];simp;omega
section
variable{I:aH}{M:List aE}
def zd(a:Nat)(ax:a<=100000):Spec Tryz.prog 201 [.int .i64 a] I M λv I' M'=>v=(oC a).val/\I'=I/\M'=M:=by refine bU [] aT Tryz.func201 rfl rfl rfl ?_;intro B aq;refine aW.mk (a:Int) (wrap_i32 (by omega) (by omega)) ?_;exact⟨_,_,.refl,rfl,rfl,rfl⟩
def JA(a b:Nat)(ax:a<=1099511627776)(ag:b<=1099511627776):Spec Tryz.prog 204 [.int .i64 a,.int .i64 b] I M λv I' M'=>v=.int .i64 (e1 a b)/\I'=I/\M'=M:=by refine bU [] aT Tryz.func204 rfl rfl rfl ?_;intro B aq;refine aW.mk ((a+b:Nat):Int) (e0 (by simp) (by omega)) ?_;refine⟨_,_,.refl,?_,rfl,rfl⟩;show Value.int .i64 (min ((a+b:Nat):Int) 1099511627776)=_;rw[show min ((a+b:Nat):Int) 1099511627776=((e1 a b:Nat):Int) by unfold e1;omega]
end
structure qt(I:aH)(t:dt)(T:Nat->Nat->bW)(M:List aE)(k a:Nat):Prop where
 ok:t.ok I T
 inv:ib t.P t.nn T
 cn:∀ k,k<t.nn->tq t.P t.nn k
 na:∀ k,pA t.P k
 aQ:t.n0<t.nn->t.aQ T∈M
 k:k<t.nn
 a:a<=t.s.size
def qt.rg{t:dt}{k a:Nat}(h:qt I t T M k a){b:Nat}(az:q<t.nn)(ag:b<=t.s.size):(T q b).aA<=2/\(T q b).n<=1099511627776/\(T q b).to<=t.s.size/\(T q b).gB<=99:=
 ⟨h.inv.aA q b,h.inv.rg q b az ag⟩
section
variable{I:aH}{t:dt}{T:Nat->Nat->bW}{M:List aE}{k a:Nat}
def Gb(h:qt I t T M k a)(az:(t.P.av k).bL=[q]):Spec Tryz.prog 203 [ptr t.bt,.int .i64 k,.int .i64 a] I M λv I' M'=>q<t.nn/\v=(T q a).val/\I'=I/\M'=M:=by
 refine bU [] aT Tryz.func203 rfl rfl rfl ?_;intro B aq;have ar:=h.ok;obtain⟨y,aG,iU,gO,iA,hL,ad,bI,bl⟩:=ar.av h.k;have oy:y.aM.map Int.toNat=[q]:=by rw[iU]at az;exact az
 obtain⟨x,ab⟩:∃ x,y.aM=[x]:=by
  match af:y.aM,oy with
  |[x],_=>exact⟨x,rfl⟩
 have fE:=hL x (by rw[ab];exact .head _);have A3:x.toNat=q:=by rw[ab]at oy;simpa using oy
 have mf:q<t.nn:=by omega
 have eg:y.kn=1:=by have:=gO.kn;rw[ab]at this;exact this.symm
 obtain⟨dh,ev,dV⟩:=gO.a2.one (f:=λ(k:Int)=>Value.int .i64 k) (j:=0) (by omega) (by rw[ab];exact F');have dV:∀ M,bD I M (dh.add (0*1)) 1 [.int .i64 q]:=λM=>by
  have:=dV M;have e:y.aM[0]'(by rw[ab];exact F')=(q:Int):=by simp only[ab];show x=_;omega
  rwa [e]at this
 obtain⟨c1,jX,r,ao,hx,-,ie⟩:=ar.row mf;refine cU.draw aT rfl rfl rfl ?_;refine aD.mk _ (ar.dH (j:=4) (by decide)) ?_;refine aD.mk _ (ar.dH (j:=3) (by decide)) ?_;refine a7.mk ad k bI rfl h.k ?_;refine aD.mk _ ((bl _).part (k:=8) (m:=1) (by decide)) ?_;refine a7.mk dh 0 ev rfl (by omega) ?_;refine aD.mk _ (dV _) ?_;refine a7.mk c1 q jX rfl mf ?_;refine aD.mk _ (hx _) ?_;refine a7.mk r a rfl rfl (by show a<t.s.size+1;have:=h.a;omega) ?_;refine aD.mk _ (ie _ h.aQ a h.a) ?_;exact⟨_,_,.refl,mf,rfl,rfl,rfl⟩
def mg(I:aH)(M:List aE)(t:dt)(T:Nat->Nat->bW)(k a:Nat)(v:Value)(I':aH)(M':List aE):Prop:=v=(dZ t.P T k a).val/\I'=I/\M'=M
def ae3{P:cu}(h:(P.av k).d.k=0):dZ P T k a=oC a:=by simp[dZ,h]
def ae4{P:cu}(h:(P.av k).d.k=1):dZ P T k a=match P.s.data[a]? with
  |some b=>bif rm (P.av k).d b.toNat then oC (a+1)else v9| none=>v9:=by simp only[dZ,h];rfl
def ae5{P:cu}(h:(P.av k).d.k=2):dZ P T k a=bif preB P.s (P.av k).d.t a then oC (a+(P.av k).d.t.size)else v9:=by simp[dZ,h]
def ae6{P:cu}(h:(P.av k).d.k=3)(az:(P.av k).bL=[q]):dZ P T k a=T q a:=by simp[dZ,h,az]
def ae7{P:cu}(h:(P.av k).d.k=7)(az:(P.av k).bL=[q]):dZ P T k a=bif Nat.beq (T q a).aA 2 then oC a else⟨0,0,(T q a).aA,0⟩:=by simp[dZ,h,az]
def ae8{P:cu}(h:(P.av k).d.k=8)(az:(P.av k).bL=[q]):dZ P T k a=bif Nat.beq (T q a).aA 1 then oC a else bif Nat.beq (T q a).aA 2 then v9 else g8:=by simp[dZ,h,az]
def ae9{P:cu}(h:(P.av k).d.k=9)(az:(P.av k).bL=[q]):dZ P T k a=bif Nat.beq (T q a).aA 2 then { T q a with n:=e1 (T q a).n 1 }else T q a:=by simp[dZ,h,az]
def mh{x:Nat}{b:Bool}(h:decide ((x:Int)=(j:Int))=b):Nat.beq x j=b:=by
 cases b with
 |true=>
  have:=cv h;obtain rfl:x=j:=by omega
  exact Nat.beq_refl x
 |false=>
  have:=ct h;rw[xq];exact λe=>by have:=cM e;omega
def afa(h:qt I t T M k a)(af:(t.P.av k).d.k=0):Spec Tryz.prog 151 [ptr t.bt,.int .i64 k,.int .i64 a] I M (mg I M t T k a):=by refine bU [] aT Tryz.func151 rfl rfl rfl ?_;intro B aq;have ax:=h.a;have ap:=h.ok.sz;refine aZ.whole _ (zd a (by omega)) ?_;rintro v I' M' -⟨rfl,rfl,rfl⟩;exact⟨_,_,.refl,by rw[ae3 af];rfl,rfl,rfl⟩
def afb(h:qt I t T M k a)(af:(t.P.av k).d.k=3):Spec Tryz.prog 154 [ptr t.bt,.int .i64 k,.int .i64 a] I M (mg I M t T k a):=by obtain⟨q,az⟩:=(h.na k).one (.inl af);refine bU [] aT Tryz.func154 rfl rfl rfl ?_;intro B aq;refine aZ.whole _ (Gb h az) ?_;rintro v I' M' -⟨mf,rfl,rfl,rfl⟩;exact⟨_,_,.refl,by rw[ae6 af az];rfl,rfl,rfl⟩
def afc(h:qt I t T M k a)(af:(t.P.av k).d.k=7):Spec Tryz.prog 158 [ptr t.bt,.int .i64 k,.int .i64 a] I M (mg I M t T k a):=by
 obtain⟨q,az⟩:=(h.na k).one (.inr (by omega));have ar:=ae7 (T:=T) (a:=a) af az;refine bU [] aT Tryz.func158 rfl rfl rfl ?_;intro B aq;have ax:=h.a;have ap:=h.ok.sz;refine aZ.whole _ (Gb h az) ?_;rintro v I' M' -⟨mf,rfl,rfl,rfl⟩;refine aI.mk (λe=>?_) (λe=>?_)
 ·rw[mh (j:=2) e,bg]at ar;refine aZ.whole _ (zd a (by omega)) ?_;rintro v I' M' -⟨rfl,rfl,rfl⟩;exact⟨_,_,.refl,by rw[ar];rfl,rfl,rfl⟩
 ·rw[mh (j:=2) e,bd]at ar;exact⟨_,_,.refl,by rw[ar];rfl,rfl,rfl⟩
def afd(h:qt I t T M k a)(af:(t.P.av k).d.k=8):Spec Tryz.prog 159 [ptr t.bt,.int .i64 k,.int .i64 a] I M (mg I M t T k a):=by
 obtain⟨q,az⟩:=(h.na k).one (.inr (by omega));have ar:=ae8 (T:=T) (a:=a) af az;refine bU [] aT Tryz.func159 rfl rfl rfl ?_;intro B aq;have ax:=h.a;have ap:=h.ok.sz;refine aZ.whole _ (Gb h az) ?_;rintro v I' M' -⟨mf,rfl,rfl,rfl⟩;refine aI.mk (λe=>?_) (λe=>?_)
 ·rw[mh (j:=1) e,bg]at ar;refine aZ.whole _ (zd a (by omega)) ?_;rintro v I' M' -⟨rfl,rfl,rfl⟩;exact⟨_,_,.refl,by rw[ar];rfl,rfl,rfl⟩
 ·rw[mh (j:=1) e,bd]at ar;refine aI.mk (λay=>?_) (λay=>?_)
  ·rw[mh (j:=2) ay,bg]at ar;exact⟨_,_,.refl,by rw[ar];rfl,rfl,rfl⟩
  ·rw[mh (j:=2) ay,bd]at ar;exact⟨_,_,.refl,by rw[ar];rfl,rfl,rfl⟩
def afe(h:qt I t T M k a)(af:(t.P.av k).d.k=9):Spec Tryz.prog 160 [ptr t.bt,.int .i64 k,.int .i64 a] I M (mg I M t T k a):=by
 obtain⟨q,az⟩:=(h.na k).one (.inr (by omega));have ar:=ae9 (T:=T) (a:=a) af az;refine bU [] aT Tryz.func160 rfl rfl rfl ?_;intro B aq;refine aZ.whole _ (Gb h az) ?_;rintro v I' M' -⟨mf,rfl,rfl,rfl⟩;have ao:=h.rg mf h.a;refine aI.mk (λe=>?_) (λe=>?_)
 ·rw[mh (j:=2) e,bg]at ar;refine aZ.whole _ (JA (T q a).n 1 ao.2.1 (by omega)) ?_;rintro v I' M' -⟨rfl,rfl,rfl⟩;exact⟨_,_,.refl,by rw[ar];rfl,rfl,rfl⟩
 ·rw[mh (j:=2) e,bd]at ar;exact⟨_,_,.refl,by rw[ar];rfl,rfl,rfl⟩
def aff(h:qt I t T M k a)(af:(t.P.av k).d.k=1):Spec Tryz.prog 152 [ptr t.bt,.int .i64 k,.int .i64 a] I M (mg I M t T k a):=by
 have ar:=ae4 (T:=T) (a:=a) af;refine bU [] aT Tryz.func152 rfl rfl rfl ?_;intro B aq;have a5:=h.ok;have ax:=h.a;have ap:=a5.sz;obtain⟨y,aG,iU,gO,iA,hL,ad,bI,bl⟩:=a5.av h.k;rw[iU]at ar;have nQ:t.P.s=t.s:=rfl;rw[nQ]at ar;have fB:∀ b,rm y.pn.d b=rm y b:=λb=>rfl;refine cU.draw aT rfl rfl rfl ?_;refine aD.mk _ (a5.dH (j:=0) (by decide)) ?_;refine bP.mk (λg=>?_) (λg=>?_)
 ·have aO:a<t.s.size:=by have:(a:Int)<(t.s.size:Int):=cv g;omega
  have aC:t.s.data[a]?=some t.s[a]:=Ew aO;rw[aC]at ar;refine aD.mk _ (a5.dH (j:=3) (by decide)) ?_;refine a7.mk ad k bI rfl h.k ?_;refine aD.mk _ ((bl _).part (k:=1) (m:=4) (by decide)) ?_;refine aD.mk _ (a5.dH (j:=0) (by decide)) ?_;refine qQ.mk a rfl aO ?_;refine aZ.whole _ (aeW (a:=y.fY) (b:=y.s1) (c:=y.s2) (d:=y.gM) (λz a1=>by
   simp only[et,IF,or_false]at a1;rcases a1 with rfl | rfl | rfl | rfl;·exact gO.fY
   ·exact gO.s1
   ·exact gO.s2
   ·exact gO.gM) t.s[a]) ?_
  rintro v I' M' -⟨rfl,rfl,rfl⟩;refine aI.mk (λay=>?_) (λay=>?_);·have bC:rm y t.s[a].toNat=true:=ay;simp only[fB,bC,bg]at ar;refine aW.mk ((a+1:Nat):Int) (e0 (by simp) (by omega)) ?_;refine aZ.whole _ (zd (a+1) (by omega)) ?_;rintro v I' M' -⟨rfl,rfl,rfl⟩;exact⟨_,_,.refl,by rw[ar];rfl,rfl,rfl⟩
  ·have bC:rm y t.s[a].toNat=false:=ay;simp only[fB,bC,bd]at ar;exact⟨_,_,.refl,by rw[ar];rfl,rfl,rfl⟩
 ·have cI:t.s.data.size<=a:=by have:¬ (a:Int)<(t.s.size:Int):=ct g;have aa:t.s.size=t.s.data.size:=rfl;omega
  have aC:t.s.data[a]?=none:=Array.getElem?_eq_none cI;rw[aC]at ar;exact⟨_,_,.refl,by rw[ar];rfl,rfl,rfl⟩
def afg(h:qt I t T M k a)(af:(t.P.av k).d.k=2):Spec Tryz.prog 153 [ptr t.bt,.int .i64 k,.int .i64 a] I M (mg I M t T k a):=by
 have ar:=ae5 (T:=T) (a:=a) af;refine bU [] aT Tryz.func153 rfl rfl rfl ?_;intro B aq;have a5:=h.ok;have ax:=h.a;have ap:=a5.sz;obtain⟨y,aG,iU,gO,iA,hL,ad,bI,bl⟩:=a5.av h.k;rw[iU]at ar;have ar:dZ t.P T k a=bif preB t.s y.t a then oC (a+y.t.size)else v9:=ar;refine aD.mk _ (a5.dH (j:=3) (by decide)) ?_;refine a7.mk ad k bI rfl h.k ?_;refine aD.mk _ ((bl _).part (k:=5) (m:=1) (by decide)) ?_;refine aD.mk _ (a5.dH (j:=0) (by decide)) ?_;refine jl.mk a t.s.size rfl rfl ax (b1 _) ?_;have bZ:=aeY (I:=I) (M:=M) (t.s.extract a t.s.size) y.t;rw[aeZ _ _ ax]at bZ;refine aZ.whole _ bZ ?_;rintro v I' M' -⟨rfl,rfl,rfl⟩;refine aI.mk (λay=>?_) (λay=>?_)
 ·have bC:preB t.s y.t a=true:=ay;rw[bC,bg]at ar;refine aW.mk ((a+y.t.size:Nat):Int) (e0 (by simp) (by omega)) ?_;refine aZ.whole _ (zd (a+y.t.size) (by omega)) ?_;rintro v I' M' -⟨rfl,rfl,rfl⟩;exact⟨_,_,.refl,by rw[ar];rfl,rfl,rfl⟩
 ·have bC:preB t.s y.t a=false:=ay;rw[bC,bd]at ar;exact⟨_,_,.refl,by rw[ar];rfl,rfl,rfl⟩
end
section
variable{I:aH}{t:dt}{T:Nat->Nat->bW}{M:List aE}{k a:Nat}
def JB{X:Prop}{b:Bool}(h:b=true)(bh:b=false):X:=by rw[h]at bh;cases bh
def Dd{x:Nat}{b:Bool}(h:(!decide ((x:Int)=(j:Int)))=b):Nat.beq x j=!b:=by
 have:decide ((x:Int)=(j:Int))=!b:=by rw[<-h,Bool.not_not]
 exact mh this
def afh(h:qt I t T M k a)(af:(t.P.av k).d.k=4):Spec Tryz.prog 155 [ptr t.bt,.int .i64 k,.int .i64 a] I M (mg I M t T k a):=by
 have ar:dZ t.P T k a=qn T (t.P.av k).bL a 0:=by simp[dZ,af]
 refine bU [] aT Tryz.func155 rfl rfl rfl ?_;intro B aq;have a5:=h.ok;have ax:=h.a;have ap:=a5.sz;obtain⟨y,aG,iU,gO,iA,hL,ad,bI,bl⟩:=a5.av h.k;have oy:(t.P.av k).bL=y.aM.map Int.toNat:=by rw[iU];rfl
 rw[oy]at ar;have eg:=gO.kn;have k2:=gO.a2.cap.2;refine aZ.whole _ (zd a (by omega)) ?_;rintro v I' M' -⟨rfl,rfl,rfl⟩;refine aD.mk _ (a5.dH (j:=3) (by decide)) ?_;refine a7.mk ad k bI rfl h.k ?_;refine aD.mk _ ((bl _).part (k:=8) (m:=1) (by decide)) ?_;refine cx.inv (ι:=Nat×Nat×Nat) (λx=>{ cc:=[(0,.val (ptr t.bt)),(6,.ref 6 0),(7,.ref 7 0),(20,.val (.slice y.hK y.kn y.hk)),(21,.val (.int .i64 y.kn)),(22,.val (.int .i64 x.1))],cl:=[(6,[.int .i64 0,.int .i32 0,.int .u8 0,.int .u8 0]),(7,[.int .i64 x.2.2,.int .i32 x.2.1,.int .u8 2,.int .u8 0])],ck:=I',de:=M' }) (λx=>x.1<=y.kn/\x.2.1<=t.s.size/\x.2.2<=1099511627776/\dZ t.P T k a=qn T ((y.aM.map Int.toNat).drop x.1) x.2.1 x.2.2) (λx=>y.kn-x.1) ?_ ?_
 ·exact⟨(0,a,0),⟨bi _,ax,bi _,ar⟩,.refl,jo,.cons rfl (.cons rfl (.nil))⟩
 rintro⟨i,to,n⟩⟨hi,iz,an,hd⟩;simp only at hi iz an hd;refine aI.mk (λe=>?_) (λe=>?_)
 ·have aO:i<y.kn:=by simpa using e
  have bG:i<y.aM.length:=by omega
  obtain⟨dh,ev,dV⟩:=gO.a2.one (f:=λ(k:Int)=>Value.int .i64 k) aO bG;have fE:=hL _ (cZ bG);obtain⟨q,az⟩:∃ q:Nat,y.aM[i]=(q:Int):=⟨y.aM[i].toNat,by omega⟩;have mf:q<t.nn:=by rw[az]at fE;omega
  have pC:(y.aM.map Int.toNat).drop i=q::(y.aM.map Int.toNat).drop (i+1):=by rw[eE (by rw[dx];exact bG),lH,az];rfl
  rw[pC,qn]at hd;rw[az]at dV;obtain⟨c1,jX,r,ao,hx,-,ie⟩:=a5.row mf;have pD:=h.rg mf iz;refine a7.mk dh i ev rfl aO ?_;refine aD.mk _ (dV _) ?_;refine cU.draw aT rfl rfl rfl ?_;refine aD.mk _ (a5.dH (j:=4) (by decide)) ?_;refine a7.mk c1 q jX rfl mf ?_;refine aD.mk _ (hx _) ?_;refine a7.mk r to rfl rfl (by show to<t.s.size+1;omega) ?_;refine aD.mk _ (ie _ h.aQ to iz) ?_;refine cw.mk λpE VD VE=>?_;refine cV.mk [] M' _ _ rfl rfl (bN rfl) rfl ?_;have ld:∀ j,j+1<=4->bD I' (⟨pE,.cells (T q to).cells.toArray 106 (0,0)⟩::M') ((⟨pE,0,none⟩:Addr).add j) 1 (((T q to).cells.drop j).take 1):=λj ak=>dP (.head _) ak;refine aD.mk _ (ld 2 (by decide)) ?_;refine aI.mk (λay=>?_) (λay=>?_);·rw[Dd (j:=2) (b:=true) ay,nE,bd]at hd;refine aD.mk _ (ld 2 (by decide)) ?_;exact⟨_,_,.sub (.cons _ (.refl _)) .refl,by rw[hd];rfl,rfl,rfl⟩
  ·rw[Dd (j:=2) (b:=false) ay,Ah,bg]at hd;refine aD.mk _ (ld 1 (by decide)) ?_;refine aD.mk _ (ld 0 (by decide)) ?_;refine aZ.whole _ (JA n (T q to).n an pD.2.1) ?_;rintro v eU eJ -⟨rfl,rfl,rfl⟩;refine aW.mk _ (b0 (i:=i) (by omega)) ?_;exact⟨(i+1,(T q to).to,e1 n (T q to).n),⟨⟨by simp only;omega,pD.2.2.1,rr _ _,hd⟩,by simp only;omega⟩,.sub (.cons _ (.refl _)) .refl,jo,.cons rfl (.cons rfl (.nil))⟩
 ·have cI:y.kn<=i:=by simpa using e
  have ah:(y.aM.map Int.toNat).drop i=[]:=hJ (by rw[dx];omega);rw[ah,qn]at hd;exact⟨_,_,.refl,by rw[hd];rfl,rfl,rfl⟩
def afi(h:qt I t T M k a)(af:(t.P.av k).d.k=5):Spec Tryz.prog 156 [ptr t.bt,.int .i64 k,.int .i64 a] I M (mg I M t T k a):=by
 have ar:dZ t.P T k a=qo T (t.P.av k).bL a:=by simp[dZ,af]
 refine bU [] aT Tryz.func156 rfl rfl rfl ?_;intro B aq;have a5:=h.ok;have ax:=h.a;have ap:=a5.sz;obtain⟨y,aG,iU,gO,iA,hL,ad,bI,bl⟩:=a5.av h.k;have oy:(t.P.av k).bL=y.aM.map Int.toNat:=by rw[iU];rfl
 rw[oy]at ar;have eg:=gO.kn;have k2:=gO.a2.cap.2;refine aD.mk _ (a5.dH (j:=3) (by decide)) ?_;refine a7.mk ad k bI rfl h.k ?_;refine aD.mk _ ((bl _).part (k:=8) (m:=1) (by decide)) ?_;refine cx.inv (ι:=Nat) (λx=>{ cc:=[(0,.val (ptr t.bt)),(2,.val (.int .i64 a)),(6,.ref 6 0),(17,.val (.slice y.hK y.kn y.hk)),(18,.val (.int .i64 y.kn)),(19,.val (.int .i64 x))],cl:=[(6,[.int .i64 0,.int .i32 0,.int .u8 0,.int .u8 0])],ck:=I,de:=M }) (λx=>x<=y.kn/\dZ t.P T k a=qo T ((y.aM.map Int.toNat).drop x) a) (λx=>y.kn-x) ?_ ?_
 ·exact⟨0,⟨bi _,ar⟩,.refl,jo,.cons rfl (.nil)⟩
 rintro i⟨hi,hd⟩;refine aI.mk (λe=>?_) (λe=>?_)
 ·have aO:i<y.kn:=by simpa using e
  have bG:i<y.aM.length:=by omega
  obtain⟨dh,ev,dV⟩:=gO.a2.one (f:=λ(k:Int)=>Value.int .i64 k) aO bG;have fE:=hL _ (cZ bG);obtain⟨q,az⟩:∃ q:Nat,y.aM[i]=(q:Int):=⟨y.aM[i].toNat,by omega⟩;have mf:q<t.nn:=by rw[az]at fE;omega
  have pC:(y.aM.map Int.toNat).drop i=q::(y.aM.map Int.toNat).drop (i+1):=by rw[eE (by rw[dx];exact bG),lH,az];rfl
  rw[pC,qo]at hd;rw[az]at dV;obtain⟨c1,jX,r,ao,hx,-,ie⟩:=a5.row mf;refine a7.mk dh i ev rfl aO ?_;refine aD.mk _ (dV _) ?_;refine aD.mk _ (a5.dH (j:=4) (by decide)) ?_;refine a7.mk c1 q jX rfl mf ?_;refine aD.mk _ (hx _) ?_;refine a7.mk r a rfl rfl (by show a<t.s.size+1;omega) ?_;refine aD.mk _ (ie _ h.aQ a ax) ?_;refine aI.mk (λay=>?_) (λay=>?_);·rw[Dd (j:=1) ay,nE,bd]at hd;exact⟨_,_,.refl,by rw[hd];rfl,rfl,rfl⟩
  ·rw[Dd (j:=1) ay,Ah,bg]at hd;refine aW.mk _ (b0 (i:=i) (by omega)) ?_;exact⟨i+1,⟨⟨by omega,hd⟩,by omega⟩,.refl,jo,.cons rfl (.nil)⟩
 ·have cI:y.kn<=i:=by simpa using e
  have ah:(y.aM.map Int.toNat).drop i=[]:=hJ (by rw[dx];omega);rw[ah,qo]at hd;exact⟨_,_,.refl,by rw[hd];rfl,rfl,rfl⟩
def afj(h:qt I t T M k a)(af:(t.P.av k).d.k=6)(bC:(t.P.av k).d.hi=-1):Spec Tryz.prog 205 [ptr t.bt,.int .i64 k,.int .i64 a] I M (mg I M t T k a):=by
 obtain⟨q,az⟩:=(h.na k).one (.inr (by omega));have ar:dZ t.P T k a=xB T k q (t.P.av k).d.lo a:=by rw[Vn af bC,az];rfl
 have eS:=(h.cn k h.k).l7 af;refine bU [] aT Tryz.func205 rfl rfl rfl ?_;intro B aq;have a5:=h.ok;have ax:=h.a;have ap:=a5.sz;obtain⟨y,aG,iU,gO,iA,hL,ad,bI,bl⟩:=a5.av h.k;have aw:(t.P.av k).d.lo=y.lo:=by rw[iU];rfl
 rw[aw]at ar eS;unfold xB at ar;refine aZ.whole _ (zd a (by omega)) ?_;rintro v I' M' -⟨rfl,rfl,rfl⟩;refine aZ.whole _ (Gb h az) ?_;rintro v I' M' -⟨mf,rfl,rfl,rfl⟩;have pD:=h.rg mf ax;have Gc:∀ x:Nat,x<=99->IntKind.i64.wrap (x:Int)=(x:Int):=λx ab=>e0 rfl (by omega);refine bP.mk (λg=>?_) (λg=>?_)
 rotate_left
 ·rw[mh (j:=0) (b:=true) g,y0,bg]at ar;exact⟨_,_,.refl,by rw[ar];rfl,rfl,rfl⟩
 rw[mh (j:=0) (b:=false) g,tZ]at ar;refine bP.mk (λaX=>?_) (λaX=>?_)
 ·rw[mh (j:=2) (b:=true) aX,pf]at ar;refine aW.mk ((T q a).to:Int) (e0 rfl (by omega)) ?_;refine aI.mk (λbq=>?_) (λbq=>?_)
  ·have A4:Nat.beq (T q a).to a=true:=mh bq;rw[A4,bg]at ar;exact⟨_,_,.refl,by rw[ar];rfl,rfl,rfl⟩
  have A4:Nat.beq (T q a).to a=false:=mh bq;rw[A4,bd]at ar;refine aI.mk (λe=>?_) (λe=>?_)
  rotate_left
  ·exact JB aX e
  obtain⟨c1,jX,r,ao,hx,-,ie⟩:=a5.row h.k;have afk:=h.rg h.k pD.2.2.1;refine cU.draw aT rfl rfl rfl ?_;refine aD.mk _ (a5.dH (j:=4) (by decide)) ?_;refine a7.mk c1 k jX rfl h.k ?_;refine aD.mk _ (hx _) ?_;refine a7.mk r (T q a).to rfl rfl (by show _<t.s.size+1;omega) ?_;refine aD.mk _ (ie _ h.aQ (T q a).to pD.2.2.1) ?_;refine cw.mk λb9 fK hF=>?_;refine cV.mk [] M' _ _ rfl rfl (bN rfl) rfl ?_;have ld:∀ j,j+1<=4->bD I' (⟨b9,.cells (T k (T q a).to).cells.toArray 106 (0,0)⟩::M') ((⟨b9,0,none⟩:Addr).add j) 1 (((T k (T q a).to).cells.drop j).take 1):=λj ak=>dP (.head _) ak;refine aD.mk _ (ld 2 (by decide)) ?_;refine aI.mk (λay=>?_) (λay=>?_);·rw[mh (j:=0) ay,bg]at ar;exact⟨_,_,.sub (.cons _ (.refl _)) .refl,by rw[ar];rfl,rfl,rfl⟩
  rw[mh (j:=0) ay,bd]at ar;refine aD.mk _ (ld 1 (by decide)) ?_;refine aD.mk _ (ld 0 (by decide)) ?_;refine aZ.whole _ (JA (T q a).n (T k (T q a).to).n pD.2.1 afk.2.1) ?_;rintro v eU eJ -⟨rfl,rfl,rfl⟩;refine aD.mk _ (ld 3 (by decide)) ?_;refine aW.mk (((T k (T q a).to).gB+1:Nat):Int) (by rw[ae2 (by omega) (by omega)];simp) ?_;have xe:min (((T k (T q a).to).gB+1:Nat):Int) 99=((min ((T k (T q a).to).gB+1) 99:Nat):Int):=by omega
  refine cU.draw aT rfl rfl rfl ?_;refine aW.mk ((min ((T k (T q a).to).gB+1) 99:Nat):Int) (by show IntKind.i64.wrap (min (((T k (T q a).to).gB+1:Nat):Int) 99)=_;rw[xe];exact Gc _ (Jc _ _)) ?_;refine aD.mk _ (a5.dH (j:=3) (by decide)) ?_;refine a7.mk ad k bI rfl h.k ?_;refine aD.mk _ ((bl _).part (k:=6) (m:=1) (by decide)) ?_;refine aI.mk (λbf=>?_) (λbf=>?_);·have qp:decide (((min ((T k (T q a).to).gB+1) 99:Nat):Int)<y.lo)=true:=bf;rw[nU,qp,bg]at ar;refine⟨_,_,.sub (.cons _ (.refl _)) .refl,?_,rfl,rfl⟩;rw[ar];show Value.agg #[_,_,_,.int .u8 (min (((T k (T q a).to).gB+1:Nat):Int) 99)]=_;rw[xe];rfl
  ·have qp:decide (((min ((T k (T q a).to).gB+1) 99:Nat):Int)<y.lo)=false:=bf;rw[nU,qp,bd]at ar;refine⟨_,_,.sub (.cons _ (.refl _)) .refl,?_,rfl,rfl⟩;rw[ar];show Value.agg #[_,_,_,.int .u8 (min (((T k (T q a).to).gB+1:Nat):Int) 99)]=_;rw[xe];rfl
 ·rw[mh (j:=2) (b:=false) aX,pe,bd,bd]at ar;refine aI.mk (λe=>?_) (λe=>?_)
  ·exact JB e aX
  refine cU.draw aT rfl rfl rfl ?_;refine aW.mk (0:Int) (show IntKind.i64.wrap 0=0 by decide) ?_;refine aD.mk _ (a5.dH (j:=3) (by decide)) ?_;refine a7.mk ad k bI rfl h.k ?_;refine aD.mk _ ((bl _).part (k:=6) (m:=1) (by decide)) ?_;refine aI.mk (λbf=>?_) (λbf=>?_);·have qp:decide ((((oC a).gB:Nat):Int)<y.lo)=true:=bf;rw[nU,qp,bg]at ar;exact⟨_,_,.refl,by rw[ar];rfl,rfl,rfl⟩
  ·have qp:decide ((((oC a).gB:Nat):Int)<y.lo)=false:=bf;rw[nU,qp,bd]at ar;exact⟨_,_,.refl,by rw[ar];rfl,rfl,rfl⟩
def afl(h:qt I t T M k a)(af:(t.P.av k).d.k=6):Spec Tryz.prog 157 [ptr t.bt,.int .i64 k,.int .i64 a] I M (mg I M t T k a):=by
 obtain⟨q,az⟩:=(h.na k).one (.inr (by omega));have nV:=(h.na k).l7 af;refine bU [] aT Tryz.func157 rfl rfl rfl ?_;intro B aq;have a5:=h.ok;have ax:=h.a;have ap:=a5.sz;obtain⟨y,aG,iU,gO,iA,hL,ad,bI,bl⟩:=a5.av h.k;have fs:(t.P.av k).d.hi=y.hi:=by rw[iU];rfl
 have eS:(t.P.av k).d.lo=y.lo:=by rw[iU];rfl
 rw[fs]at nV;refine aD.mk _ (a5.dH (j:=3) (by decide)) ?_;refine a7.mk ad k bI rfl h.k ?_;refine aD.mk _ (bl _) ?_;refine aI.mk (λe=>?_) (λe=>?_)
 ·have a4:y.hi=-1:=cv e;refine aZ.whole _ (afj h af (fs.trans a4)) ?_;rintro v I' M' -⟨rfl,rfl,rfl⟩;exact⟨_,_,.refl,rfl,rfl,rfl⟩
 have a4:¬ y.hi=-1:=ct e;have ar:dZ t.P T k a=pz T q y.lo y.hi.toNat 0 a 0:=by simp[dZ,af,fs,a4,az,eS]
 have oy:y.aM.map Int.toNat=[q]:=by rw[iU]at az;exact az
 obtain⟨x,ab⟩:∃ x,y.aM=[x]:=by
  match af:y.aM,oy with
  |[x],_=>exact⟨x,rfl⟩
 have fE:=hL x (by rw[ab];exact .head _);have A3:x.toNat=q:=by rw[ab]at oy;simpa using oy
 have mf:q<t.nn:=by omega
 have eg:y.kn=1:=by have:=gO.kn;rw[ab]at this;exact this.symm
 obtain⟨dh,ev,dV⟩:=gO.a2.one (f:=λ(k:Int)=>Value.int .i64 k) (j:=0) (by omega) (by rw[ab];exact F');have dV:∀ M,bD I M (dh.add (0*1)) 1 [.int .i64 q]:=λM=>by
  have:=dV M;have e:y.aM[0]'(by rw[ab];exact F')=(q:Int):=by simp only[ab];show x=_;omega
  rwa [e]at this
 obtain⟨c1,jX,r,ao,hx,-,ie⟩:=a5.row mf;refine aZ.whole _ (zd a (by omega)) ?_;rintro v I' M' -⟨rfl,rfl,rfl⟩;refine cx.inv (ι:=Nat×Nat×Nat) (λx=>{ cc:=[(0,.val (ptr t.bt)),(6,.ref 6 0),(7,.ref 7 0),(8,.ref 8 0),(9,.val (.int .i64 x.1))],cl:=[(6,[.int .i64 0,.int .i32 0,.int .u8 0,.int .u8 0]),(7,y.cells),(8,[.int .i64 x.2.2,.int .i32 x.2.1,.int .u8 2,.int .u8 0])],ck:=I',de:=M' }) (λx=>x.1<=y.hi.toNat/\x.2.1<=t.s.size/\x.2.2<=1099511627776/\dZ t.P T k a=pz T q y.lo (y.hi.toNat-x.1) x.1 x.2.1 x.2.2) (λx=>y.hi.toNat-x.1) ?_ ?_
 ·exact⟨(0,a,0),⟨bi _,ax,bi _,ar⟩,.refl,ja,.cons rfl (.cons rfl (.cons rfl (.nil)))⟩
 rintro⟨i,to,n⟩⟨hi,iz,an,hd⟩;simp only at hi iz an hd;have pD:=h.rg mf iz;refine aI.mk (λay=>?_) (λay=>?_)
 ·have aO:(i:Int)<y.hi:=cv ay;obtain⟨j,ak⟩:∃ j,y.hi.toNat-i=j+1:=⟨y.hi.toNat-i-1,by omega⟩;have gx:y.hi.toNat-(i+1)=j:=by omega
  rw[ak,pz]at hd;refine cU.draw aT rfl rfl rfl ?_;refine aD.mk _ (a5.dH (j:=4) (by decide)) ?_;refine a7.mk dh 0 ev rfl (by omega) ?_;refine aD.mk _ (dV _) ?_;refine a7.mk c1 q jX rfl mf ?_;refine aD.mk _ (hx _) ?_;refine a7.mk r to rfl rfl (by show to<t.s.size+1;omega) ?_;refine aD.mk _ (ie _ h.aQ to iz) ?_;refine cw.mk λpE VD VE=>?_;refine cV.mk [] M' _ _ rfl rfl (bN rfl) rfl ?_;have ld:∀ j,j+1<=4->bD I' (⟨pE,.cells (T q to).cells.toArray 106 (0,0)⟩::M') ((⟨pE,0,none⟩:Addr).add j) 1 (((T q to).cells.drop j).take 1):=λj ak=>dP (.head _) ak;refine aD.mk _ (ld 2 (by decide)) ?_;refine bP.mk (λg=>?_) (λg=>?_)
  rotate_left
  ·rw[mh (j:=0) (b:=true) g,y0,bg]at hd;refine aD.mk _ (ld 2 (by decide)) ?_;exact⟨_,_,.sub (.cons _ (.refl _)) .refl,by rw[hd];rfl,rfl,rfl⟩
  rw[mh (j:=0) (b:=false) g,tZ]at hd;refine aD.mk _ (ld 2 (by decide)) ?_;refine bP.mk (λaX=>?_) (λaX=>?_)
  ·rw[mh (j:=1) (b:=true) aX,pf]at hd;refine aI.mk (λbq=>?_) (λbq=>?_)
   ·have A4:decide ((i:Int)<y.lo)=true:=bq;rw[A4,bg]at hd;refine aD.mk _ (ld 2 (by decide)) ?_;exact⟨_,_,.sub (.cons _ (.refl _)) .refl,by rw[hd];rfl,rfl,rfl⟩
   have A4:decide ((i:Int)<y.lo)=false:=bq;rw[A4,bd,bg]at hd;refine aD.mk _ (ld 2 (by decide)) ?_;refine aI.mk (λeK=>?_) (λeK=>JB aX eK);exact⟨_,_,.sub (.cons _ (.refl _)) .refl,by rw[hd];rfl,rfl,rfl⟩
  ·rw[mh (j:=1) (b:=false) aX,pe,bd,bd]at hd;refine aD.mk _ (ld 2 (by decide)) ?_;refine aI.mk (λeK=>JB eK aX) (λeK=>?_);refine aD.mk _ (ld 1 (by decide)) ?_;refine aD.mk _ (ld 0 (by decide)) ?_;refine aZ.whole _ (JA n (T q to).n an pD.2.1) ?_;rintro v eU eJ -⟨rfl,rfl,rfl⟩;refine aW.mk _ (b0 (i:=i) (by omega)) ?_;exact⟨(i+1,(T q to).to,e1 n (T q to).n),⟨⟨by simp only;omega,pD.2.2.1,rr _ _,by simp only;rw[gx];exact hd⟩,by simp only;omega⟩,.sub (.cons _ (.refl _)) .refl,ja,.cons rfl (.cons rfl (.cons rfl (.nil)))⟩
 ·have cI:¬ (i:Int)<y.hi:=ct ay;have ak:y.hi.toNat-i=0:=by omega
  rw[ak,pz]at hd;exact⟨_,_,.refl,by rw[hd];rfl,rfl,rfl⟩
end
section
variable{X:cW}{β:Nat->Nat}{F:Fr}{C:dM}{I:aH}{M:List aE}{o:Oper}{K:gg}
def VF{P:Program}(aP:cY P E){e:Nat}(au:E t=some dn)(cO:dn.bK=.slice e):P.underlying t=some (.slice e):=by
 obtain⟨kw,nH,js⟩:=(aP _ _ au).fk;have p7:kw=.slice e:=by rw[cO]at js;cases kw<;>simp_all[fj]
 rw[nH,p7]
def bp.slice3(aP:cY X.P X.E){lo hi mx:Operand}(ar:o.op=.slice t x (some lo) (some hi) (some mx))(ah:∀ d,o.dst=some d->d<X.n)
  {e:Nat} (au:X.E t=some dn) (cO:dn.bK=.slice e) (he:X.E e=some aJ) {ad:Option Addr} {n c:Nat} (l h m:Nat) {db cR eB:IntKind}
  (ab:bw F x=.val (.slice ad n c)) (eS:bw F lo=.val (.int db (l:Nat))) (fs:bw F hi=.val (.int cR (h:Nat))) (e8:bw F mx=.val (.int eB (m:Nat)))
  (U:l<=h) (aa:h<=m) (ae:m<=c) (k:K (put o.dst (.val (.slice (if m=l then ad else ad.map (·.add (l*aJ.size))) (h-l) (m-l))) F) C I M):bp X o F C I M K:=by
 refine⟨λa w Q ⟨β,a8⟩=>?_⟩;have hu:=VF aP au cO;refine i' (by rw[ar];simp) (v:=.slice (if m=l then ad else ad.map (·.add (l*aJ.size))) (h-l) (m-l)) (w':=w) ?_ ⟨_,_,_,_,⟨β,cH.put (x:=.val (.slice (if m=l then ad else ad.map (·.add (l*aJ.size))) (h-l) (m-l))) a8 ah rfl⟩,k⟩;have ex:=dq a8.aj ab;have aC:=dq a8.aj eS;have ay:=dq a8.aj fs;have bf:=dq a8.aj e8;simp only[execOp,ar,Instr.sliceAt,Instr.slice,Instr.sliceBounds,Instr.sliceBound,ex,ca,run_underlying hu,bR,(aP _ _ he).run_sizeOf,c5,ly,tN,aC,ay,bf,n5];rw[dd ⟨by omega,by omega⟩];simp only[c5,bR,mm];rw[dd ⟨by omega,by omega⟩];simp only[c5,bR,mm];rw[dd ⟨by omega,by omega⟩];simp
def bp.lf(aP:cY X.P X.E)(ar:o.op=.call { callee:=.builtin .append,args:=#[s,x],argTypes:=#[t,t] })(ah:∀ d,o.dst=some d->d<X.n)
  {e:Nat} (au:X.E t=some dn) (cO:dn.bK=.slice e) (he:X.E e=some aJ)
 {n c:Nat} (ap:bw F s=.val (.slice (some ⟨g,0,none⟩) n c)) (aN:aS.length=c*aJ.size)
  {ad:Addr} (ab:bw F x=.val (.slice (some ad) m c')) (an:bD I M ad (m*aJ.size) bV) (U:gI bV=true) (q7:n+m<=c)
  (a9 post:List aE) (bb:M=a9++⟨g,.cells aS.toArray e (0,0)⟩::post)
  (k:K (put o.dst (.val (.slice (some ⟨g,0,none⟩) (n+m) c)) F) C I (a9++⟨g,.cells (bO aS (n*aJ.size) bV).toArray e (0,0)⟩::post)):bp X o F C I M K:=by
 refine⟨λa w Q ⟨β,a8⟩=>?_⟩;have hu:=VF aP au cO;obtain⟨inf,z,hi,eA,gw,gW,iG⟩:=(aP _ _ he).inf;have aB:w.heap[g]?=some (.cells aS.toArray e (0,0)):=a8.holds.m ⟨g,.cells aS.toArray e (0,0)⟩ (by rw[bb];simp);have aw:bV.length=m*aJ.size:=by obtain⟨_,_,_,_,_,_,h⟩:=an;exact h
 have fP:n*aJ.size+bV.length<=aS.length:=by rw[aw,aN,<-iJ];exact rV _ q7
 have cf:=run_storeCells_at X.P g (n*aJ.size) e bV 0 aS.toArray w aB (by simpa using fP) (z1 U);simp only[rW]at cf;have aF:(Builtin.firstCells aJ.size m (.slice (some ad) m c')).run X.P w=.ok bV.toArray w:=by
  obtain⟨bZ,cs,T,aj,eg,ai,aw⟩:=an;refine run_firstCells_some (P:=X.P) w aJ.size m ad m c' bV aw λj v ak=>?_;rw[ei _ bZ,tU (eg.heap a8.holds)];rw[<-ai,lW]at ak;split at ak;·rw[qO]at ak;simpa using ak
  ·cases ak
 have es:=dq a8.aj ap;have ex:=dq a8.aj ab;refine i' (by rw[ar];simp) (v:=.slice (some ⟨g,0,none⟩) (n+m) c) (w':=w.setRow g (bO aS (n*aJ.size) bV).toArray) ?_ ⟨_,_,_,_,⟨β,cH.put (x:=.val (.slice (some ⟨g,0,none⟩) (n+m) c)) ?_ ah rfl⟩,k⟩
 ·have fw:(Builtin.append_ #[t,t] o.type #[.slice (some ⟨g,0,none⟩) n c,.slice (some ad) m c']).run X.P w=.ok (.slice (some ⟨g,0,none⟩) (n+m) c) (w.setRow g (bO aS (n*aJ.size) bV).toArray):=by rw[<-eA]at aF cf |-;simp[Builtin.append_,Builtin.lenOf,run_underlying hu,sizeOf,typeInfo,hi,q7,aF,Addr.add_lit,cf,bO]
  unfold execOp;simp only[ar,resolve,invoke,builtin,ca,c5,bR,s4,ek,p0,es,ex,fw]
 ·exact a8.yb bb
end
def bE(k:Nat):Value:=.int .i64 (k:Int)
def du(g:Nat)(aS:List Value):aE:=⟨g,.cells aS.toArray 3 (0,0)⟩
def Gd:List Value:=[151,152,153,154,155,156,157,158,159,160].map λf=>.func (.func f) #[] #[]
def afm:Spec Tryz.prog 103 [] I M λv I' M'=>v=.agg Gd.toArray/\I'=I/\M'=M:=by refine bU [] aT Tryz.func103 rfl rfl rfl ?_;intro B aq;exact⟨_,_,.refl,rfl,rfl,rfl⟩
def afn(bb:du g aS∈M){i:Nat}(ao:(aS.drop i).take (m-i)=(L.drop i).map bE)(hm:L.length=m)(hi:i<m):bD I M ((⟨g,0,none⟩:Addr).add (i*1)) 1 [bE (L[i]'(by omega))]:=by
 rw[ei _ rfl];have A5:i<L.length:=by omega
 refine⟨rfl,aS.toArray,3,(0,0),.inr ⟨_,bb,rfl,rfl⟩,?_,rfl⟩;have e:((aS.drop i).take (m-i)).take 1=[bE L[i]]:=by rw[ao,<-List.map_take,eE A5,pX,r5];rfl
 rw[yr,Ey (by omega)]at e;show(aS.drop (0+i*1)).take 1=_;rw[dK,h4];exact e
def N7(h:aS.take L.length=L.map bE)(aw:L.length<aS.length)(k:Nat):(bO aS (L.length*1) [bE k]).length=aS.length/\(bO aS (L.length*1) [bE k]).take (L++[k]).length=(L++[k]).map bE /\
  ∀ i,L.length+1<=i->(bO aS (L.length*1) [bE k]).drop i=aS.drop i:=by
 rw[h4,aeT _ _ _ aw];refine⟨AS,?_,λi hi=>?_⟩
 ·rw[b5,Da,hR (by rw[AS];exact aw),N4,List.take_set_of_le (b1 _),h,fC];rfl
 ·rw[List.drop_set_of_lt (by omega)]
def afo{D:List Nat}(h:aS.take D.length=D.map bE)(aw:D.length+L.length<=aS.length):(bO aS (D.length*1) (L.map bE)).length=aS.length/\(bO aS (D.length*1) (L.map bE)).take (D++L).length=(D++L).map bE:=by
 rw[h4];unfold bO;rw[h,<-fC];refine⟨?_,?_⟩
 ·simp only[b5,dx,yo];omega
 ·have e:(D++L).length=((D++L).map bE).length:=by rw[dx]
  rw[e];exact EY
def afp{t:dt}{k a:Nat}(af:k<t.nn)(aq:t.n0<=k)(ax:a<t.w)(c:bW):bO (t.cs T) ((k-t.n0)*(t.w*4)+a*4) c.cells=t.cs (gn T k a c):=by
 unfold dt.cs;have wc:∀ j,bO (lb T (t.n0+j) t.w) (a*4+0) c.cells=(((List.range t.w).map λb=>(T (t.n0+j) b)).set a c).flatMap bW.cells:=λj=>by
  have:=Jx bW.cells 4 bW.da ((List.range t.w).map λb=>(T (t.n0+j) b)) a (by simpa using ax) 0 c.cells (by rw[bW.da];omega) c (by
   unfold bO;rw[r5,lD,hJ (by rw[bW.da,bW.da];omega),c8])
  rw[Dc]at this;exact this
 have aC:((List.range (t.nn-t.n0)).flatMap λj=>lb T (t.n0+j) t.w)=(((List.range (t.nn-t.n0)).map λj=>(⟨lb T (t.n0+j) t.w,A2 T _ t.w⟩:{l:List Value // l.length=t.w*4})).flatMap λr=>r.1):=by rw[Dc]
 have bY:(bO (lb T k t.w) (a*4) c.cells).length=t.w*4:=by unfold bO;simp only[b5,mV,yo,A2,bW.da];omega
 rw[aC];have afq:=Jx (λr:{l:List Value // l.length=t.w*4}=>r.1) (t.w*4) (λr=>r.2) ((List.range (t.nn-t.n0)).map λj=>⟨lb T (t.n0+j) t.w,A2 T _ t.w⟩) (k-t.n0) (by simp;omega) (a*4) c.cells (by rw[bW.da];omega) ⟨bO (lb T k t.w) (a*4) c.cells,bY⟩ (by
  simp only[lH,nj];rw[yY aq])
 rw[afq];rw[show((List.range (t.nn-t.n0)).flatMap λj=>lb (gn T k a c) (t.n0+j) t.w)=(((List.range (t.nn-t.n0)).map λj=>(⟨lb (gn T k a c) (t.n0+j) t.w,A2 _ _ t.w⟩:{l:List Value // l.length=t.w*4})).flatMap λr=>r.1) by rw[Dc]];congr 1;refine yp (by simp) λj U aa=>?_;simp only[dx,qs]at aa;rw[lH,nj];by_cases e:k-t.n0=j
 ·subst e;rw[N4];refine Subtype.ext ?_;simp only;rw[yY aq];have ae:=wc (k-t.n0);rw[yY aq,rW]at ae;rw[ae];have aR:lb (gn T k a c) k t.w=((List.range t.w).map λb=>gn T k a c k b).flatMap bW.cells:=by rw[Dc];rfl
  rw[aR];congr 1;refine yp (by simp) λb aV aX=>?_;simp only[dx,qs]at aX;rw[lH,nj];by_cases Ge:a=b;·subst Ge;rw[N4,C5]
  ·rw[List.getElem_set_ne Ge,lH,nj,xC λx=>Ge x.2.symm]
 ·rw[List.getElem_set_ne e,lH,nj];refine Subtype.ext ?_;simp only;unfold lb;congr 1;funext b;rw[xC λx=>e (by omega)]
def dt.ok.sv{t:dt}{iF:Nat->Nat->bW}(h:t.ok I T)(he:∀ k,k<t.n0->∀ a,iF k a=T k a):t.ok I iF:=by refine { h with c2:=λk af aq=>?_ };obtain⟨cs,gp,aj,U,aa⟩:=h.c2 k af aq;refine⟨cs,gp,aj,U,aa.trans ?_⟩;unfold lb;congr 1;funext a;rw[he k aq a]
def mL(g c:Nat){n:Nat}(h:n=m):w8 (.val (.slice (some ⟨g,0,none⟩) n c)) (.val (.slice (some ⟨g,0,none⟩) m c)):=by rw[h];exact .refl
structure JC(I:aH)(t:dt)(gp:Nat->Nat->bW)(e2:List Nat)(a:Nat):Prop where
 ok:t.ok I gp
 inv:ib t.P t.nn gp
 cn:∀ k,k<t.nn->tq t.P t.nn k
 na:∀ k,pA t.P k
 n0:t.n0<t.nn
 lo:∀ k∈e2,t.n0<=k/\k<t.nn
 a:a<=t.s.size
structure JD where
 T:Nat->Nat->bW
 L:List Nat
 D:List Nat
 cK:List Value
 cQ:List Value
structure afr(t:dt)(gp:Nat->Nat->bW)(e2 D0:List Nat)(a nA nD:Nat)(x:JD):Prop where
 inv:ib t.P t.nn x.T
 sv:∀ k b,¬ (k∈e2/\b=a)->x.T k b=gp k b
 perm:(x.D++x.L).Perm (D0++e2)
 kn:∀ k∈e2,k∈x.L\/(x.T k a).aA≠0
 sub:∀ k∈x.L,k∈e2
 De:x.cK.length=nA
 uK:x.cK.take x.L.length=x.L.map bE
 Gf:x.cQ.length=nD
 ze:x.cQ.take x.D.length=x.D.map bE
structure N8(t:dt)(gp:Nat->Nat->bW)(e2 D0:List Nat)(a nA nD:Nat)(ji:List Nat)(d1 i:Nat)(x:JD):Prop where
 ii:i<=ji.length
 afs:x.L.length<=i
 inv:ib t.P t.nn x.T
 sv:∀ k b,¬ (k∈e2/\b=a)->x.T k b=gp k b
 perm:(x.D++(x.L++ji.drop i)).Perm (D0++e2)
 kn:∀ k∈e2,k∈x.L\/k∈ji.drop i\/(x.T k a).aA≠0
 sub:∀ k∈x.L,k∈e2
 un:x.D.length=d1->∀ k∈x.L,(dZ t.P x.T k a).aA=0
 jY:x.D.length+x.L.length=d1+i
 ge:d1<=x.D.length
 De:x.cK.length=nA
 uK:x.cK.take x.L.length=x.L.map bE
 VG:(x.cK.drop i).take (ji.length-i)=(ji.drop i).map bE
 Gf:x.cQ.length=nD
 ze:x.cQ.take x.D.length=x.D.map bE
def JC.a9{t:dt}{gp:Nat->Nat->bW}{a:Nat}(h:JC I t gp e2 a)(hi:ib t.P t.nn T)(aN:∀ k b,¬ (k∈e2/\b=a)->T k b=gp k b)(bb:t.aQ T∈M){k:Nat}(af:k∈e2):qt I t T M k a:=
 ⟨h.ok.sv λq az b=>aN q b λe=>by have:=(h.lo q e.1).1;omega,hi,h.cn,h.na,λ_=>bb,(h.lo k af).2,h.a⟩
def aft(A B C:List α)(k:α):(A++(B++k::C)).Perm (A++[k]++(B++C)):=by rw[eL];exact List.Perm.append_left _ rj
def afu{t:dt}{gp:Nat->Nat->bW}{D0:List Nat}{a:Nat}(h:JC I t gp e2 a){gA gD nA nD:Nat}{cA0 cD0:List Value}(eH:cA0.length=nA)(dr:cD0.length=nD)(uK:cA0.take e2.length=e2.map bE)(ze:cD0.take D0.length=D0.map bE)(anT:e2.length<=nA)(anU:D0.length+e2.length<=nD)(JE:nA<=1048576)(anV:nD<=1048576) :
  Spec Tryz.prog 104 [ptr t.bt,.agg Gd.toArray,.slice (some ⟨gA,0,none⟩) e2.length nA,.slice (some ⟨gD,0,none⟩) D0.length nD,.int .i64 a] I [t.aQ gp,du gA cA0,du gD cD0] λv I' M'=>I'=I /\
   ∃ (T:Nat->Nat->bW) (Df:List Nat) (cK cQ:List Value),ib t.P t.nn T/\(∀ k b,¬ (k∈e2/\b=a)->T k b=gp k b)/\(∀ k∈e2,(T k a).aA=0->(dZ t.P T k a).aA=0)/\Df.Perm (D0++e2)/\cK.length=nA/\cQ.length=nD/\cQ.take Df.length=Df.map bE /\
    v=.slice (some ⟨gD,0,none⟩) Df.length nD/\M'=[t.aQ T,du gA cK,du gD cQ]:=by
 refine bU [] aT Tryz.func104 rfl rfl rfl ?_;intro B aq;refine cx.inv (ι:=JD) (λx=>{ cc:=[(0,.val (ptr t.bt)),(2,.val (.slice (some ⟨gA,0,none⟩) x.L.length nA)),(3,.val (.slice (some ⟨gD,0,none⟩) x.D.length nD)),(4,.val (.int .i64 a)),(6,.ref 6 0)],cl:=[(6,Gd)],ck:=I,de:=[t.aQ x.T,du gA x.cK,du gD x.cQ] }) (λx=>afr t gp e2 D0 a nA nD x) (λx=>x.L.length) ?_ ?_
 ·exact⟨⟨gp,e2,D0,cA0,cD0⟩,⟨h.inv,λ_ _ _=>rfl,.refl _,λk af=>.inl af,λk af=>af,eH,uK,dr,ze⟩,.refl,ja,.cons rfl (.nil)⟩
 rintro⟨MZ,ji,tu,afv,afw⟩dF;have afx:=dF.perm.length_eq;simp only[b5]at afx;have anW:ji.length<=nA:=by have U:=congrArg List.length dF.uK;have aa:=dF.De;simp only[mV,dx]at U aa;omega
 refine jl.mk 0 0 rfl rfl (b1 _) (bi _) ?_;refine cx.inv (ι:=Nat×JD) (λx=>{ cc:=[(0,.val (ptr t.bt)),(3,.val (.slice (some ⟨gD,0,none⟩) x.2.D.length nD)),(4,.val (.int .i64 a)),(6,.ref 6 0),(11,.val (.int .i64 tu.length)),(12,.val (.slice (some ⟨gA,0,none⟩) x.2.L.length nA)),(20,.val (.slice (some ⟨gA,0,none⟩) ji.length nA)),(21,.val (.int .i64 ji.length)),(22,.val (.int .i64 x.1))],cl:=[(6,Gd)],ck:=I,de:=[t.aQ x.2.T,du gA x.2.cK,du gD x.2.cQ] }) (λx=>N8 t gp e2 D0 a nA nD ji tu.length x.1 x.2) (λx=>ji.length-x.1) ?_ ?_
 ·refine⟨(0,⟨MZ,[],tu,afv,afw⟩),⟨bi _,b1 _,dF.inv,dF.sv,dF.perm,λk af=>.inr (dF.kn k af),λk af=>(by cases af),λ_ k af=>(by cases af),by simp,b1 _,dF.De,by simp,by simpa using dF.uK,dF.Gf,dF.ze⟩,.refl,vr,.cons rfl (.nil)⟩
 rintro⟨i,⟨T,L,D,cK,cQ⟩⟩cm;have afy:=cm.ii;have afz:=cm.afs;have afA:=cm.jY;have VH:=cm.ge;simp only at afy afz afA VH;have Gg:cK.length=nA:=cm.De;have Gh:cQ.length=nD:=cm.Gf;refine aI.mk (λe=>?_) (λe=>?_)
 ·have aO:i<ji.length:=by simpa using e
  obtain⟨k,af⟩:∃ k,ji[i]=k:=⟨_,rfl⟩;have pC:ji.drop i=k::ji.drop (i+1):=by rw[eE aO,af]
  have CK:k∈e2:=dF.sub k (by rw[<-af];exact cZ aO);have VI:=fun {M:List aE} (bb:du gA cK∈M)=>afn (I:=I) bb cm.VG rfl aO;rw[af]at VI;have uL:=fun {M:List aE} (bb:t.aQ T∈M)=>h.a9 cm.inv cm.sv bb CK;obtain⟨dY,eg⟩:=h.lo k CK;have qu:t.ok I T:=(uL (M:=[t.aQ T]) (.head _)).ok;obtain⟨y,aG,iU,gO,iA,hL,ad,bI,bl⟩:=qu.av eg;obtain⟨c1,jX,r,ao,hx,jJ,ie⟩:=qu.row eg;have h6:=jJ dY;subst h6;have lO:a<t.w:=by have:=h.a;show a<t.s.size+1;omega
  have N9:∀ aS:List Value,aS.drop (i+1)=cK.drop (i+1)->(aS.drop (i+1)).take (ji.length-(i+1))=(ji.drop (i+1)).map bE:=λaS aN=>by have U:=congrArg (List.drop 1) cm.VG;rw[<-List.map_drop,Aj,Ai,Aj]at U;rw[aN,show ji.length-(i+1)=ji.length-i-1 by omega];exact U
  have stay:(dZ t.P T k a).aA=0->N8 t gp e2 D0 a nA nD ji tu.length (i+1) ⟨T,L++[k],D,bO cK (L.length*1) [bE k],cQ⟩:=λa1=>by
   obtain⟨qb,qc,ti⟩:=N7 (L:=L) (aS:=cK) cm.uK (by show L.length<cK.length;omega) k;have aK:=cm.perm;simp only[pC]at aK;refine⟨by omega,by simp only[b5,Da];omega,cm.inv,cm.sv,?_,λq az=>?_,λq az=>?_,λah q az=>?_,by simp only[b5,Da];omega,VH,qb.trans Gg,qc,N9 _ (ti _ (by omega)),Gh,cm.ze⟩;·simp only;rw[eL L [k]];exact aK
   ·rcases cm.kn q az with U | U | U
    ·exact .inl (n9 _ U)
    ·simp only at U;rw[pC]at U;rcases et.1 U with rfl | U
     ·exact .inl (r3 _ (.head _))
     ·exact .inr (.inl U)
    ·exact .inr (.inr U)
   ·rcases dW.1 az with U | U
    ·exact cm.sub q U
    ·rw[iu.1 U];exact CK
   ·rcases dW.1 az with U | U
    ·exact cm.un ah q U
    ·rw[iu.1 U];exact a1
  have done:(dZ t.P T k a).aA≠0->N8 t gp e2 D0 a nA nD ji tu.length (i+1) ⟨gn T k a (dZ t.P T k a),L,D++[k],cK,bO cQ (D.length*1) [bE k]⟩:=λa1=>by
   obtain⟨qb,qc,ti⟩:=N7 (L:=D) (aS:=cQ) cm.ze (by show D.length<cQ.length;omega) k;have aK:=cm.perm;simp only[pC]at aK;refine⟨by omega,by simp only;omega,cm.inv.set eg h.a (h.cn k eg) rfl a1,λq b az=>?_,?_,λq az=>?_,cm.sub,λah q az=>?_,by simp only[b5,Da];omega,by simp only[b5,Da];omega,Gg,cm.uK,N9 _ rfl,qb.trans Gh,qc⟩;·simp only;rw[xC λx=>az ⟨by rw[x.1];exact CK,x.2⟩];exact cm.sv q b az
   ·simp only;exact(aft D L (ji.drop (i+1)) k).symm.trans aK
   ·simp only;by_cases eq:q=k
    ·subst eq;rw[C5];exact .inr (.inr a1)
    ·rw[xC λx=>eq x.1];rcases cm.kn q az with U | U | U
     ·exact .inl U
     ·simp only at U;rw[pC]at U;rcases et.1 U with U | U
      ·exact absurd U eq
      ·exact .inr (.inl U)
     ·exact .inr (.inr U)
   ·simp only[b5,Da]at ah;omega
  have uM:=afp (t:=t) (T:=T) eg dY lO (dZ t.P T k a);have VJ:=t.ae0 T;have fP:(k-t.n0)*(t.w*4)+a*4+4<=(t.cs T).length:=by rw[VJ];have U:(k-t.n0+1)*(t.w*4)<=(t.nn-t.n0)*(t.w*4):=rV _ (by omega);rw[iJ,o0]at U;omega
  obtain⟨c,aN⟩:∃ c,dZ t.P T k a=c:=⟨_,rfl⟩;rw[aN]at stay done uM;refine a7.mk ⟨gA,0,none⟩ i rfl rfl aO ?_;refine aD.mk _ (VI (.tail _ (.head _))) ?_;refine aD.mk _ (qu.dH (j:=3) (by decide)) ?_;refine a7.mk ad k bI rfl eg ?_;refine aD.mk _ ((bl _).part (k:=0) (m:=1) (by decide)) ?_;have JF:=(h.na k).lt;have VK:=(h.na k).fN;have tv:(t.P.av k).d.k=y.k:=by rw[iU];rfl
  rw[tv]at JF VK;clear iU pC VJ N9 cm dF gO iA hL aG;obtain⟨nb,fY,s1,s2,gM,kw,anX,anY,anZ,an0,an1,an2⟩:=y;simp only at tv JF VK;have NG:nb=0\/nb=1\/nb=2\/nb=3\/nb=4\/nb=5\/nb=6\/nb=7\/nb=8\/nb=9:=by omega
  rcases NG with rfl | rfl | rfl | rfl | rfl | rfl | rfl | rfl | rfl | rfl
  ·refine eN.mk 0 rfl (by decide) ?_;have bZ:=afa (uL (M:=[t.aQ T,du gA cK,du gD cQ]) (.head _)) tv;unfold mg at bZ;rw[aN]at bZ;refine aZ.whole _ bZ ?_;rintro v I' M' -⟨rfl,rfl,rfl⟩;refine aI.mk (λay=>?_) (λay=>?_)
   ·have eF:c.aA=0:=by have:=cv ay;omega
    refine cw.mk λb9 fK hF=>?_;refine bp.lf aT rfl (by simp) (e:=3) rfl rfl rfl (g:=gA) (n:=L.length) (c:=nA) (aS:=cK) rfl (show cK.length=nA*1 by omega) (ad:=⟨b9,0,none⟩) (m:=1) (c':=1) rfl (bV:=[bE k]) ⟨rfl,_,_,_,.inr ⟨_,.head _,rfl,rfl⟩,rfl,rfl⟩ rfl (by omega) [_,t.aQ T] [du gD cQ] rfl ?_;refine aW.mk _ (b0 (i:=i) (by omega)) ?_;have bY:L.length+1=(L++[k]).length:=by simp
    exact⟨(i+1,⟨T,L++[k],D,bO cK (L.length*1) [bE k],cQ⟩),⟨stay eF,by simp only;omega⟩,.sub (.cons _ (.refl _)) .refl,.cons .refl (.cons .refl (.cons .refl (.cons .refl (.cons .refl (.cons (mL gA nA bY) (dO)))))),.cons rfl (.nil)⟩
   ·have eF:c.aA≠0:=by have:=ct ay;omega
    refine cU.draw aT rfl rfl rfl ?_;refine aD.mk _ (qu.dH (j:=4) (by decide)) ?_;refine a7.mk c1 k jX rfl eg ?_;refine aD.mk _ (hx _) ?_;refine a7.mk ⟨t.ba,(k-t.n0)*(t.w*4),none⟩ a rfl rfl lO ?_;refine cV.oh [] [du gA cK,du gD cQ] (t.cs T) _ rfl (by rw[oE];exact fP) rfl (t.cs (gn T k a c)) uM ?_;refine cw.mk λb9 fK hF=>?_;refine bp.lf aT rfl (by simp) (e:=3) rfl rfl rfl (g:=gD) (n:=D.length) (c:=nD) (aS:=cQ) rfl (show cQ.length=nD*1 by omega) (ad:=⟨b9,0,none⟩) (m:=1) (c':=1) rfl (bV:=[bE k]) ⟨rfl,_,_,_,.inr ⟨_,.head _,rfl,rfl⟩,rfl,rfl⟩ rfl (by omega) [_,t.aQ (gn T k a c),du gA cK] [] rfl ?_;refine aW.mk _ (b0 (i:=i) (by omega)) ?_;have bY:D.length+1=(D++[k]).length:=by simp
    exact⟨(i+1,⟨gn T k a c,L,D++[k],cK,bO cQ (D.length*1) [bE k]⟩),⟨done eF,by simp only;omega⟩,.sub (.cons _ (.refl _)) .refl,.cons .refl (.cons (mL gD nD bY) (nz)),.cons rfl (.nil)⟩
  ·refine eN.mk 1 rfl (by decide) ?_;have bZ:=aff (uL (M:=[t.aQ T,du gA cK,du gD cQ]) (.head _)) tv;unfold mg at bZ;rw[aN]at bZ;refine aZ.whole _ bZ ?_;rintro v I' M' -⟨rfl,rfl,rfl⟩;refine aI.mk (λay=>?_) (λay=>?_)
   ·have eF:c.aA=0:=by have:=cv ay;omega
    refine cw.mk λb9 fK hF=>?_;refine bp.lf aT rfl (by simp) (e:=3) rfl rfl rfl (g:=gA) (n:=L.length) (c:=nA) (aS:=cK) rfl (show cK.length=nA*1 by omega) (ad:=⟨b9,0,none⟩) (m:=1) (c':=1) rfl (bV:=[bE k]) ⟨rfl,_,_,_,.inr ⟨_,.head _,rfl,rfl⟩,rfl,rfl⟩ rfl (by omega) [_,t.aQ T] [du gD cQ] rfl ?_;refine aW.mk _ (b0 (i:=i) (by omega)) ?_;have bY:L.length+1=(L++[k]).length:=by simp
    exact⟨(i+1,⟨T,L++[k],D,bO cK (L.length*1) [bE k],cQ⟩),⟨stay eF,by simp only;omega⟩,.sub (.cons _ (.refl _)) .refl,.cons .refl (.cons .refl (.cons .refl (.cons .refl (.cons .refl (.cons (mL gA nA bY) (dO)))))),.cons rfl (.nil)⟩
   ·have eF:c.aA≠0:=by have:=ct ay;omega
    refine cU.draw aT rfl rfl rfl ?_;refine aD.mk _ (qu.dH (j:=4) (by decide)) ?_;refine a7.mk c1 k jX rfl eg ?_;refine aD.mk _ (hx _) ?_;refine a7.mk ⟨t.ba,(k-t.n0)*(t.w*4),none⟩ a rfl rfl lO ?_;refine cV.oh [] [du gA cK,du gD cQ] (t.cs T) _ rfl (by rw[oE];exact fP) rfl (t.cs (gn T k a c)) uM ?_;refine cw.mk λb9 fK hF=>?_;refine bp.lf aT rfl (by simp) (e:=3) rfl rfl rfl (g:=gD) (n:=D.length) (c:=nD) (aS:=cQ) rfl (show cQ.length=nD*1 by omega) (ad:=⟨b9,0,none⟩) (m:=1) (c':=1) rfl (bV:=[bE k]) ⟨rfl,_,_,_,.inr ⟨_,.head _,rfl,rfl⟩,rfl,rfl⟩ rfl (by omega) [_,t.aQ (gn T k a c),du gA cK] [] rfl ?_;refine aW.mk _ (b0 (i:=i) (by omega)) ?_;have bY:D.length+1=(D++[k]).length:=by simp
    exact⟨(i+1,⟨gn T k a c,L,D++[k],cK,bO cQ (D.length*1) [bE k]⟩),⟨done eF,by simp only;omega⟩,.sub (.cons _ (.refl _)) .refl,.cons .refl (.cons (mL gD nD bY) (nz)),.cons rfl (.nil)⟩
  ·refine eN.mk 2 rfl (by decide) ?_;have bZ:=afg (uL (M:=[t.aQ T,du gA cK,du gD cQ]) (.head _)) tv;unfold mg at bZ;rw[aN]at bZ;refine aZ.whole _ bZ ?_;rintro v I' M' -⟨rfl,rfl,rfl⟩;refine aI.mk (λay=>?_) (λay=>?_)
   ·have eF:c.aA=0:=by have:=cv ay;omega
    refine cw.mk λb9 fK hF=>?_;refine bp.lf aT rfl (by simp) (e:=3) rfl rfl rfl (g:=gA) (n:=L.length) (c:=nA) (aS:=cK) rfl (show cK.length=nA*1 by omega) (ad:=⟨b9,0,none⟩) (m:=1) (c':=1) rfl (bV:=[bE k]) ⟨rfl,_,_,_,.inr ⟨_,.head _,rfl,rfl⟩,rfl,rfl⟩ rfl (by omega) [_,t.aQ T] [du gD cQ] rfl ?_;refine aW.mk _ (b0 (i:=i) (by omega)) ?_;have bY:L.length+1=(L++[k]).length:=by simp
    exact⟨(i+1,⟨T,L++[k],D,bO cK (L.length*1) [bE k],cQ⟩),⟨stay eF,by simp only;omega⟩,.sub (.cons _ (.refl _)) .refl,.cons .refl (.cons .refl (.cons .refl (.cons .refl (.cons .refl (.cons (mL gA nA bY) (dO)))))),.cons rfl (.nil)⟩
   ·have eF:c.aA≠0:=by have:=ct ay;omega
    refine cU.draw aT rfl rfl rfl ?_;refine aD.mk _ (qu.dH (j:=4) (by decide)) ?_;refine a7.mk c1 k jX rfl eg ?_;refine aD.mk _ (hx _) ?_;refine a7.mk ⟨t.ba,(k-t.n0)*(t.w*4),none⟩ a rfl rfl lO ?_;refine cV.oh [] [du gA cK,du gD cQ] (t.cs T) _ rfl (by rw[oE];exact fP) rfl (t.cs (gn T k a c)) uM ?_;refine cw.mk λb9 fK hF=>?_;refine bp.lf aT rfl (by simp) (e:=3) rfl rfl rfl (g:=gD) (n:=D.length) (c:=nD) (aS:=cQ) rfl (show cQ.length=nD*1 by omega) (ad:=⟨b9,0,none⟩) (m:=1) (c':=1) rfl (bV:=[bE k]) ⟨rfl,_,_,_,.inr ⟨_,.head _,rfl,rfl⟩,rfl,rfl⟩ rfl (by omega) [_,t.aQ (gn T k a c),du gA cK] [] rfl ?_;refine aW.mk _ (b0 (i:=i) (by omega)) ?_;have bY:D.length+1=(D++[k]).length:=by simp
    exact⟨(i+1,⟨gn T k a c,L,D++[k],cK,bO cQ (D.length*1) [bE k]⟩),⟨done eF,by simp only;omega⟩,.sub (.cons _ (.refl _)) .refl,.cons .refl (.cons (mL gD nD bY) (nz)),.cons rfl (.nil)⟩
  ·refine eN.mk 3 rfl (by decide) ?_;have bZ:=afb (uL (M:=[t.aQ T,du gA cK,du gD cQ]) (.head _)) tv;unfold mg at bZ;rw[aN]at bZ;refine aZ.whole _ bZ ?_;rintro v I' M' -⟨rfl,rfl,rfl⟩;refine aI.mk (λay=>?_) (λay=>?_)
   ·have eF:c.aA=0:=by have:=cv ay;omega
    refine cw.mk λb9 fK hF=>?_;refine bp.lf aT rfl (by simp) (e:=3) rfl rfl rfl (g:=gA) (n:=L.length) (c:=nA) (aS:=cK) rfl (show cK.length=nA*1 by omega) (ad:=⟨b9,0,none⟩) (m:=1) (c':=1) rfl (bV:=[bE k]) ⟨rfl,_,_,_,.inr ⟨_,.head _,rfl,rfl⟩,rfl,rfl⟩ rfl (by omega) [_,t.aQ T] [du gD cQ] rfl ?_;refine aW.mk _ (b0 (i:=i) (by omega)) ?_;have bY:L.length+1=(L++[k]).length:=by simp
    exact⟨(i+1,⟨T,L++[k],D,bO cK (L.length*1) [bE k],cQ⟩),⟨stay eF,by simp only;omega⟩,.sub (.cons _ (.refl _)) .refl,.cons .refl (.cons .refl (.cons .refl (.cons .refl (.cons .refl (.cons (mL gA nA bY) (dO)))))),.cons rfl (.nil)⟩
   ·have eF:c.aA≠0:=by have:=ct ay;omega
    refine cU.draw aT rfl rfl rfl ?_;refine aD.mk _ (qu.dH (j:=4) (by decide)) ?_;refine a7.mk c1 k jX rfl eg ?_;refine aD.mk _ (hx _) ?_;refine a7.mk ⟨t.ba,(k-t.n0)*(t.w*4),none⟩ a rfl rfl lO ?_;refine cV.oh [] [du gA cK,du gD cQ] (t.cs T) _ rfl (by rw[oE];exact fP) rfl (t.cs (gn T k a c)) uM ?_;refine cw.mk λb9 fK hF=>?_;refine bp.lf aT rfl (by simp) (e:=3) rfl rfl rfl (g:=gD) (n:=D.length) (c:=nD) (aS:=cQ) rfl (show cQ.length=nD*1 by omega) (ad:=⟨b9,0,none⟩) (m:=1) (c':=1) rfl (bV:=[bE k]) ⟨rfl,_,_,_,.inr ⟨_,.head _,rfl,rfl⟩,rfl,rfl⟩ rfl (by omega) [_,t.aQ (gn T k a c),du gA cK] [] rfl ?_;refine aW.mk _ (b0 (i:=i) (by omega)) ?_;have bY:D.length+1=(D++[k]).length:=by simp
    exact⟨(i+1,⟨gn T k a c,L,D++[k],cK,bO cQ (D.length*1) [bE k]⟩),⟨done eF,by simp only;omega⟩,.sub (.cons _ (.refl _)) .refl,.cons .refl (.cons (mL gD nD bY) (nz)),.cons rfl (.nil)⟩
  ·refine eN.mk 4 rfl (by decide) ?_;have bZ:=afh (uL (M:=[t.aQ T,du gA cK,du gD cQ]) (.head _)) tv;unfold mg at bZ;rw[aN]at bZ;refine aZ.whole _ bZ ?_;rintro v I' M' -⟨rfl,rfl,rfl⟩;refine aI.mk (λay=>?_) (λay=>?_)
   ·have eF:c.aA=0:=by have:=cv ay;omega
    refine cw.mk λb9 fK hF=>?_;refine bp.lf aT rfl (by simp) (e:=3) rfl rfl rfl (g:=gA) (n:=L.length) (c:=nA) (aS:=cK) rfl (show cK.length=nA*1 by omega) (ad:=⟨b9,0,none⟩) (m:=1) (c':=1) rfl (bV:=[bE k]) ⟨rfl,_,_,_,.inr ⟨_,.head _,rfl,rfl⟩,rfl,rfl⟩ rfl (by omega) [_,t.aQ T] [du gD cQ] rfl ?_;refine aW.mk _ (b0 (i:=i) (by omega)) ?_;have bY:L.length+1=(L++[k]).length:=by simp
    exact⟨(i+1,⟨T,L++[k],D,bO cK (L.length*1) [bE k],cQ⟩),⟨stay eF,by simp only;omega⟩,.sub (.cons _ (.refl _)) .refl,.cons .refl (.cons .refl (.cons .refl (.cons .refl (.cons .refl (.cons (mL gA nA bY) (dO)))))),.cons rfl (.nil)⟩
   ·have eF:c.aA≠0:=by have:=ct ay;omega
    refine cU.draw aT rfl rfl rfl ?_;refine aD.mk _ (qu.dH (j:=4) (by decide)) ?_;refine a7.mk c1 k jX rfl eg ?_;refine aD.mk _ (hx _) ?_;refine a7.mk ⟨t.ba,(k-t.n0)*(t.w*4),none⟩ a rfl rfl lO ?_;refine cV.oh [] [du gA cK,du gD cQ] (t.cs T) _ rfl (by rw[oE];exact fP) rfl (t.cs (gn T k a c)) uM ?_;refine cw.mk λb9 fK hF=>?_;refine bp.lf aT rfl (by simp) (e:=3) rfl rfl rfl (g:=gD) (n:=D.length) (c:=nD) (aS:=cQ) rfl (show cQ.length=nD*1 by omega) (ad:=⟨b9,0,none⟩) (m:=1) (c':=1) rfl (bV:=[bE k]) ⟨rfl,_,_,_,.inr ⟨_,.head _,rfl,rfl⟩,rfl,rfl⟩ rfl (by omega) [_,t.aQ (gn T k a c),du gA cK] [] rfl ?_;refine aW.mk _ (b0 (i:=i) (by omega)) ?_;have bY:D.length+1=(D++[k]).length:=by simp
    exact⟨(i+1,⟨gn T k a c,L,D++[k],cK,bO cQ (D.length*1) [bE k]⟩),⟨done eF,by simp only;omega⟩,.sub (.cons _ (.refl _)) .refl,.cons .refl (.cons (mL gD nD bY) (nz)),.cons rfl (.nil)⟩
  ·refine eN.mk 5 rfl (by decide) ?_;have bZ:=afi (uL (M:=[t.aQ T,du gA cK,du gD cQ]) (.head _)) tv;unfold mg at bZ;rw[aN]at bZ;refine aZ.whole _ bZ ?_;rintro v I' M' -⟨rfl,rfl,rfl⟩;refine aI.mk (λay=>?_) (λay=>?_)
   ·have eF:c.aA=0:=by have:=cv ay;omega
    refine cw.mk λb9 fK hF=>?_;refine bp.lf aT rfl (by simp) (e:=3) rfl rfl rfl (g:=gA) (n:=L.length) (c:=nA) (aS:=cK) rfl (show cK.length=nA*1 by omega) (ad:=⟨b9,0,none⟩) (m:=1) (c':=1) rfl (bV:=[bE k]) ⟨rfl,_,_,_,.inr ⟨_,.head _,rfl,rfl⟩,rfl,rfl⟩ rfl (by omega) [_,t.aQ T] [du gD cQ] rfl ?_;refine aW.mk _ (b0 (i:=i) (by omega)) ?_;have bY:L.length+1=(L++[k]).length:=by simp
    exact⟨(i+1,⟨T,L++[k],D,bO cK (L.length*1) [bE k],cQ⟩),⟨stay eF,by simp only;omega⟩,.sub (.cons _ (.refl _)) .refl,.cons .refl (.cons .refl (.cons .refl (.cons .refl (.cons .refl (.cons (mL gA nA bY) (dO)))))),.cons rfl (.nil)⟩
   ·have eF:c.aA≠0:=by have:=ct ay;omega
    refine cU.draw aT rfl rfl rfl ?_;refine aD.mk _ (qu.dH (j:=4) (by decide)) ?_;refine a7.mk c1 k jX rfl eg ?_;refine aD.mk _ (hx _) ?_;refine a7.mk ⟨t.ba,(k-t.n0)*(t.w*4),none⟩ a rfl rfl lO ?_;refine cV.oh [] [du gA cK,du gD cQ] (t.cs T) _ rfl (by rw[oE];exact fP) rfl (t.cs (gn T k a c)) uM ?_;refine cw.mk λb9 fK hF=>?_;refine bp.lf aT rfl (by simp) (e:=3) rfl rfl rfl (g:=gD) (n:=D.length) (c:=nD) (aS:=cQ) rfl (show cQ.length=nD*1 by omega) (ad:=⟨b9,0,none⟩) (m:=1) (c':=1) rfl (bV:=[bE k]) ⟨rfl,_,_,_,.inr ⟨_,.head _,rfl,rfl⟩,rfl,rfl⟩ rfl (by omega) [_,t.aQ (gn T k a c),du gA cK] [] rfl ?_;refine aW.mk _ (b0 (i:=i) (by omega)) ?_;have bY:D.length+1=(D++[k]).length:=by simp
    exact⟨(i+1,⟨gn T k a c,L,D++[k],cK,bO cQ (D.length*1) [bE k]⟩),⟨done eF,by simp only;omega⟩,.sub (.cons _ (.refl _)) .refl,.cons .refl (.cons (mL gD nD bY) (nz)),.cons rfl (.nil)⟩
  ·refine eN.mk 6 rfl (by decide) ?_;have bZ:=afl (uL (M:=[t.aQ T,du gA cK,du gD cQ]) (.head _)) tv;unfold mg at bZ;rw[aN]at bZ;refine aZ.whole _ bZ ?_;rintro v I' M' -⟨rfl,rfl,rfl⟩;refine aI.mk (λay=>?_) (λay=>?_)
   ·have eF:c.aA=0:=by have:=cv ay;omega
    refine cw.mk λb9 fK hF=>?_;refine bp.lf aT rfl (by simp) (e:=3) rfl rfl rfl (g:=gA) (n:=L.length) (c:=nA) (aS:=cK) rfl (show cK.length=nA*1 by omega) (ad:=⟨b9,0,none⟩) (m:=1) (c':=1) rfl (bV:=[bE k]) ⟨rfl,_,_,_,.inr ⟨_,.head _,rfl,rfl⟩,rfl,rfl⟩ rfl (by omega) [_,t.aQ T] [du gD cQ] rfl ?_;refine aW.mk _ (b0 (i:=i) (by omega)) ?_;have bY:L.length+1=(L++[k]).length:=by simp
    exact⟨(i+1,⟨T,L++[k],D,bO cK (L.length*1) [bE k],cQ⟩),⟨stay eF,by simp only;omega⟩,.sub (.cons _ (.refl _)) .refl,.cons .refl (.cons .refl (.cons .refl (.cons .refl (.cons .refl (.cons (mL gA nA bY) (dO)))))),.cons rfl (.nil)⟩
   ·have eF:c.aA≠0:=by have:=ct ay;omega
    refine cU.draw aT rfl rfl rfl ?_;refine aD.mk _ (qu.dH (j:=4) (by decide)) ?_;refine a7.mk c1 k jX rfl eg ?_;refine aD.mk _ (hx _) ?_;refine a7.mk ⟨t.ba,(k-t.n0)*(t.w*4),none⟩ a rfl rfl lO ?_;refine cV.oh [] [du gA cK,du gD cQ] (t.cs T) _ rfl (by rw[oE];exact fP) rfl (t.cs (gn T k a c)) uM ?_;refine cw.mk λb9 fK hF=>?_;refine bp.lf aT rfl (by simp) (e:=3) rfl rfl rfl (g:=gD) (n:=D.length) (c:=nD) (aS:=cQ) rfl (show cQ.length=nD*1 by omega) (ad:=⟨b9,0,none⟩) (m:=1) (c':=1) rfl (bV:=[bE k]) ⟨rfl,_,_,_,.inr ⟨_,.head _,rfl,rfl⟩,rfl,rfl⟩ rfl (by omega) [_,t.aQ (gn T k a c),du gA cK] [] rfl ?_;refine aW.mk _ (b0 (i:=i) (by omega)) ?_;have bY:D.length+1=(D++[k]).length:=by simp
    exact⟨(i+1,⟨gn T k a c,L,D++[k],cK,bO cQ (D.length*1) [bE k]⟩),⟨done eF,by simp only;omega⟩,.sub (.cons _ (.refl _)) .refl,.cons .refl (.cons (mL gD nD bY) (nz)),.cons rfl (.nil)⟩
  ·refine eN.mk 7 rfl (by decide) ?_;have bZ:=afc (uL (M:=[t.aQ T,du gA cK,du gD cQ]) (.head _)) tv;unfold mg at bZ;rw[aN]at bZ;refine aZ.whole _ bZ ?_;rintro v I' M' -⟨rfl,rfl,rfl⟩;refine aI.mk (λay=>?_) (λay=>?_)
   ·have eF:c.aA=0:=by have:=cv ay;omega
    refine cw.mk λb9 fK hF=>?_;refine bp.lf aT rfl (by simp) (e:=3) rfl rfl rfl (g:=gA) (n:=L.length) (c:=nA) (aS:=cK) rfl (show cK.length=nA*1 by omega) (ad:=⟨b9,0,none⟩) (m:=1) (c':=1) rfl (bV:=[bE k]) ⟨rfl,_,_,_,.inr ⟨_,.head _,rfl,rfl⟩,rfl,rfl⟩ rfl (by omega) [_,t.aQ T] [du gD cQ] rfl ?_;refine aW.mk _ (b0 (i:=i) (by omega)) ?_;have bY:L.length+1=(L++[k]).length:=by simp
    exact⟨(i+1,⟨T,L++[k],D,bO cK (L.length*1) [bE k],cQ⟩),⟨stay eF,by simp only;omega⟩,.sub (.cons _ (.refl _)) .refl,.cons .refl (.cons .refl (.cons .refl (.cons .refl (.cons .refl (.cons (mL gA nA bY) (dO)))))),.cons rfl (.nil)⟩
   ·have eF:c.aA≠0:=by have:=ct ay;omega
    refine cU.draw aT rfl rfl rfl ?_;refine aD.mk _ (qu.dH (j:=4) (by decide)) ?_;refine a7.mk c1 k jX rfl eg ?_;refine aD.mk _ (hx _) ?_;refine a7.mk ⟨t.ba,(k-t.n0)*(t.w*4),none⟩ a rfl rfl lO ?_;refine cV.oh [] [du gA cK,du gD cQ] (t.cs T) _ rfl (by rw[oE];exact fP) rfl (t.cs (gn T k a c)) uM ?_;refine cw.mk λb9 fK hF=>?_;refine bp.lf aT rfl (by simp) (e:=3) rfl rfl rfl (g:=gD) (n:=D.length) (c:=nD) (aS:=cQ) rfl (show cQ.length=nD*1 by omega) (ad:=⟨b9,0,none⟩) (m:=1) (c':=1) rfl (bV:=[bE k]) ⟨rfl,_,_,_,.inr ⟨_,.head _,rfl,rfl⟩,rfl,rfl⟩ rfl (by omega) [_,t.aQ (gn T k a c),du gA cK] [] rfl ?_;refine aW.mk _ (b0 (i:=i) (by omega)) ?_;have bY:D.length+1=(D++[k]).length:=by simp
    exact⟨(i+1,⟨gn T k a c,L,D++[k],cK,bO cQ (D.length*1) [bE k]⟩),⟨done eF,by simp only;omega⟩,.sub (.cons _ (.refl _)) .refl,.cons .refl (.cons (mL gD nD bY) (nz)),.cons rfl (.nil)⟩
  ·refine eN.mk 8 rfl (by decide) ?_;have bZ:=afd (uL (M:=[t.aQ T,du gA cK,du gD cQ]) (.head _)) tv;unfold mg at bZ;rw[aN]at bZ;refine aZ.whole _ bZ ?_;rintro v I' M' -⟨rfl,rfl,rfl⟩;refine aI.mk (λay=>?_) (λay=>?_)
   ·have eF:c.aA=0:=by have:=cv ay;omega
    refine cw.mk λb9 fK hF=>?_;refine bp.lf aT rfl (by simp) (e:=3) rfl rfl rfl (g:=gA) (n:=L.length) (c:=nA) (aS:=cK) rfl (show cK.length=nA*1 by omega) (ad:=⟨b9,0,none⟩) (m:=1) (c':=1) rfl (bV:=[bE k]) ⟨rfl,_,_,_,.inr ⟨_,.head _,rfl,rfl⟩,rfl,rfl⟩ rfl (by omega) [_,t.aQ T] [du gD cQ] rfl ?_;refine aW.mk _ (b0 (i:=i) (by omega)) ?_;have bY:L.length+1=(L++[k]).length:=by simp
    exact⟨(i+1,⟨T,L++[k],D,bO cK (L.length*1) [bE k],cQ⟩),⟨stay eF,by simp only;omega⟩,.sub (.cons _ (.refl _)) .refl,.cons .refl (.cons .refl (.cons .refl (.cons .refl (.cons .refl (.cons (mL gA nA bY) (dO)))))),.cons rfl (.nil)⟩
   ·have eF:c.aA≠0:=by have:=ct ay;omega
    refine cU.draw aT rfl rfl rfl ?_;refine aD.mk _ (qu.dH (j:=4) (by decide)) ?_;refine a7.mk c1 k jX rfl eg ?_;refine aD.mk _ (hx _) ?_;refine a7.mk ⟨t.ba,(k-t.n0)*(t.w*4),none⟩ a rfl rfl lO ?_;refine cV.oh [] [du gA cK,du gD cQ] (t.cs T) _ rfl (by rw[oE];exact fP) rfl (t.cs (gn T k a c)) uM ?_;refine cw.mk λb9 fK hF=>?_;refine bp.lf aT rfl (by simp) (e:=3) rfl rfl rfl (g:=gD) (n:=D.length) (c:=nD) (aS:=cQ) rfl (show cQ.length=nD*1 by omega) (ad:=⟨b9,0,none⟩) (m:=1) (c':=1) rfl (bV:=[bE k]) ⟨rfl,_,_,_,.inr ⟨_,.head _,rfl,rfl⟩,rfl,rfl⟩ rfl (by omega) [_,t.aQ (gn T k a c),du gA cK] [] rfl ?_;refine aW.mk _ (b0 (i:=i) (by omega)) ?_;have bY:D.length+1=(D++[k]).length:=by simp
    exact⟨(i+1,⟨gn T k a c,L,D++[k],cK,bO cQ (D.length*1) [bE k]⟩),⟨done eF,by simp only;omega⟩,.sub (.cons _ (.refl _)) .refl,.cons .refl (.cons (mL gD nD bY) (nz)),.cons rfl (.nil)⟩
  ·refine eN.mk 9 rfl (by decide) ?_;have bZ:=afe (uL (M:=[t.aQ T,du gA cK,du gD cQ]) (.head _)) tv;unfold mg at bZ;rw[aN]at bZ;refine aZ.whole _ bZ ?_;rintro v I' M' -⟨rfl,rfl,rfl⟩;refine aI.mk (λay=>?_) (λay=>?_)
   ·have eF:c.aA=0:=by have:=cv ay;omega
    refine cw.mk λb9 fK hF=>?_;refine bp.lf aT rfl (by simp) (e:=3) rfl rfl rfl (g:=gA) (n:=L.length) (c:=nA) (aS:=cK) rfl (show cK.length=nA*1 by omega) (ad:=⟨b9,0,none⟩) (m:=1) (c':=1) rfl (bV:=[bE k]) ⟨rfl,_,_,_,.inr ⟨_,.head _,rfl,rfl⟩,rfl,rfl⟩ rfl (by omega) [_,t.aQ T] [du gD cQ] rfl ?_;refine aW.mk _ (b0 (i:=i) (by omega)) ?_;have bY:L.length+1=(L++[k]).length:=by simp
    exact⟨(i+1,⟨T,L++[k],D,bO cK (L.length*1) [bE k],cQ⟩),⟨stay eF,by simp only;omega⟩,.sub (.cons _ (.refl _)) .refl,.cons .refl (.cons .refl (.cons .refl (.cons .refl (.cons .refl (.cons (mL gA nA bY) (dO)))))),.cons rfl (.nil)⟩
   ·have eF:c.aA≠0:=by have:=ct ay;omega
    refine cU.draw aT rfl rfl rfl ?_;refine aD.mk _ (qu.dH (j:=4) (by decide)) ?_;refine a7.mk c1 k jX rfl eg ?_;refine aD.mk _ (hx _) ?_;refine a7.mk ⟨t.ba,(k-t.n0)*(t.w*4),none⟩ a rfl rfl lO ?_;refine cV.oh [] [du gA cK,du gD cQ] (t.cs T) _ rfl (by rw[oE];exact fP) rfl (t.cs (gn T k a c)) uM ?_;refine cw.mk λb9 fK hF=>?_;refine bp.lf aT rfl (by simp) (e:=3) rfl rfl rfl (g:=gD) (n:=D.length) (c:=nD) (aS:=cQ) rfl (show cQ.length=nD*1 by omega) (ad:=⟨b9,0,none⟩) (m:=1) (c':=1) rfl (bV:=[bE k]) ⟨rfl,_,_,_,.inr ⟨_,.head _,rfl,rfl⟩,rfl,rfl⟩ rfl (by omega) [_,t.aQ (gn T k a c),du gA cK] [] rfl ?_;refine aW.mk _ (b0 (i:=i) (by omega)) ?_;have bY:D.length+1=(D++[k]).length:=by simp
    exact⟨(i+1,⟨gn T k a c,L,D++[k],cK,bO cQ (D.length*1) [bE k]⟩),⟨done eF,by simp only;omega⟩,.sub (.cons _ (.refl _)) .refl,.cons .refl (.cons (mL gD nD bY) (nz)),.cons rfl (.nil)⟩
 ·have cI:¬ (i:Int)<(ji.length:Int):=ct e;obtain rfl:i=ji.length:=by omega
  have kd:(D++(L++ji.drop ji.length)).Perm (D0++e2):=cm.perm;have eg:∀ k∈e2,k∈L\/k∈ji.drop ji.length\/(T k a).aA≠0:=cm.kn;simp only[Nm,c8]at kd eg;have N':=kd.length_eq;simp only[b5]at N';have h3:gI (L.map bE)=true:=by unfold gI;rw[g0];intro x ab;obtain⟨z,_,rfl⟩:=dp.1 ab;rfl
  have rA:bD I [t.aQ T,du gA cK,du gD cQ] ⟨gA,0,none⟩ (L.length*1) (L.map bE):=by refine⟨rfl,cK.toArray,3,(0,0),.inr ⟨_,.tail _ (.head _),rfl,rfl⟩,?_,by rw[dx,h4]⟩;rw[h4];exact cm.uK
  obtain⟨dJ,c9⟩:=afo (D:=D) (aS:=cQ) cm.ze (L:=L) (by show D.length+L.length<=cQ.length;omega);have fin:((L.length:Nat)=0\/D.length=tu.length)->(∀ k∈e2,(T k a).aA=0->(dZ t.P T k a).aA=0):=λbC k af aq=>by
   rcases eg k af with U | U | U
   ·rcases bC with bC | bC
    ·rw[nB bC]at U;cases U
    ·exact cm.un bC k U
   ·cases U
   ·exact absurd aq U
  refine bP.mk (λg=>?_) (λg=>?_)
  ·refine aI.mk (λaX=>?_) (λaX=>?_)
   ·have VL:D.length=tu.length:=by have bq:(D.length:Int)=(tu.length:Int):=cv aX;omega
    refine bp.lf aT rfl (by simp) (e:=3) rfl rfl rfl (g:=gD) (n:=D.length) (c:=nD) (aS:=cQ) rfl (show cQ.length=nD*1 by omega) (ad:=⟨gA,0,none⟩) (m:=L.length) (c':=nA) rfl (bV:=L.map bE) rA h3 (by omega) [t.aQ T,du gA cK] [] rfl ?_;exact⟨_,_,.refl,rfl,T,D++L,cK,_,cm.inv,cm.sv,fin (.inr VL),kd,Gg,dJ.trans Gh,c9,by rw[b5],rfl⟩
   ·have VL:D.length≠tu.length:=by have bq:¬ (D.length:Int)=(tu.length:Int):=ct aX;omega
    exact⟨⟨T,L,D,cK,cQ⟩,⟨⟨cm.inv,cm.sv,kd,λk af=>(eg k af).imp id λx=>x.elim (λy=>(by cases y)) id,cm.sub,Gg,cm.uK,Gh,cm.ze⟩,by simp only;omega⟩,.refl,ja,.cons rfl (.nil)⟩
  ·have dz:L.length=0:=by have:decide ((L.length:Int)=0)=true:=g;have:=cv this;omega
   refine bp.lf aT rfl (by simp) (e:=3) rfl rfl rfl (g:=gD) (n:=D.length) (c:=nD) (aS:=cQ) rfl (show cQ.length=nD*1 by omega) (ad:=⟨gA,0,none⟩) (m:=L.length) (c':=nA) rfl (bV:=L.map bE) rA h3 (by omega) [t.aQ T,du gA cK] [] rfl ?_;exact⟨_,_,.refl,rfl,T,D++L,cK,_,cm.inv,cm.sv,fin (.inl dz),kd,Gg,dJ.trans Gh,c9,by rw[b5],rfl⟩
structure Oa(I:aH)(t:dt)(gp:Nat->Nat->bW)(e2:List Nat):Prop where
 ok:t.ok I gp
 inv:ib t.P t.nn gp
 cn:∀ k,k<t.nn->tq t.P t.nn k
 na:∀ k,pA t.P k
 n0:t.n0<t.nn
 lo:∀ k∈e2,t.n0<=k/\k<t.nn
 all:∀ k,t.n0<=k->k<t.nn->k∈e2
 c2:∀ k,k<t.n0->∀ b,(gp k b).ce=bj t.P k b
structure VM where
 p:Nat
 v:Int
 T:Nat->Nat->bW
 L:List Nat
 gA:Nat
 nA:Nat
 cK:List Value
 gD:Nat
 nD:Nat
 d:Nat
 cQ:List Value
structure afB(t:dt)(gp:Nat->Nat->bW)(e2:List Nat)(low:Nat)(x:VM):Prop where
 v:x.v=(x.p:Int)-1
 p:x.p<=t.s.size+1
 afC:low<=x.p
 inv:ib t.P t.nn x.T
 up:∀ k b,x.p<=b->(x.T k b).ce=bj t.P k b
 c2:∀ k,k<t.n0->∀ b,x.T k b=gp k b
 perm:x.L.Perm e2
 De:x.cK.length=x.nA
 uK:x.cK.take x.L.length=x.L.map bE
 Gf:x.cQ.length=x.nD
 eH:e2.length<=x.nA
 dr:e2.length<=x.nD
 afD:x.nA<=1048576
 afE:x.nD<=1048576
def VN{t:dt}{gp:Nat->Nat->bW}(h:Oa I t gp e2){gN nN:Nat}{cN:List Value}(fB:cN.length=nN)(afF:cN.take e2.length=e2.map bE)(bQ:e2.length<=nN)(Ob:nN<=1048576){low:Nat}(an3:low<=t.s.size) :
  Spec Tryz.prog 55 [ptr t.bt,.slice (some ⟨gN,0,none⟩) e2.length nN,.int .i64 low] I [t.aQ gp,du gN cN] λv I' M'=>I'=I /\
   ∃ (T:Nat->Nat->bW),ib t.P t.nn T/\(∀ k b,low<=b->(T k b).ce=bj t.P k b)/\(∀ k,k<t.n0->∀ b,T k b=gp k b)/\M'=[t.aQ T]:=by
 refine bU [] aT Tryz.func55 rfl rfl rfl ?_;intro B aq;have cr:=h.ok.sz;refine aZ.whole _ afm ?_;rintro v I' M' -⟨rfl,rfl,rfl⟩;refine qR.mk 0 e2.length rfl rfl (bi _) (by show 8*e2.length<=_;omega) (by omega) ?_;refine cw.mk λafG an4 an5=>?_;refine aD.mk _ (h.ok.dH (j:=0) (by decide)) ?_;refine cx.inv (ι:=VM) (λx=>{ cc:=[(0,.val (ptr t.bt)),(1,.val (.slice (some ⟨x.gA,0,none⟩) x.L.length x.nA)),(2,.val (.int .i64 low)),(6,.ref 6 0),(7,.val (.slice (some ⟨x.gD,0,none⟩) x.d x.nD)),(8,.val (.int .i64 x.v))],cl:=[(6,Gd)],ck:=I',de:=[t.aQ x.T,du x.gA x.cK,du x.gD x.cQ] }) (λx=>afB t gp e2 low x) (λx=>x.p) ?_ ?_
 ·refine⟨⟨t.s.size+1,t.s.size,gp,e2,gN,nN,cN,afG,e2.length,0,rowOf [bE 0] (e2.length*1)⟩,⟨by simp only;omega,b1 _,by simp only;omega,h.inv,λk b ag=>h.inv.out k b λe=>by have aa:b<=t.s.size:=e.2;simp only at ag;omega,λ_ _ _=>rfl,.refl _,fB,afF,by simp[rowOf],bQ,b1 _,Ob,by simp only;omega⟩,.perm ?_ .refl,jo,.cons rfl (.nil)⟩;exact(List.Perm.swap _ _ _).trans (.cons _ (.swap _ _ _))
 rintro⟨p,v,T,L,gA,nA,cK,gD,nD,d,cQ⟩bx;have ai:=bx.v;have aK:=bx.p;have afH:=bx.afC;have Oc:=bx.afD;have Od:=bx.afE;have VO:=bx.eH;have VP:=bx.dr;have N':=bx.perm.length_eq;simp only at ai aK afH Oc Od VO VP N';refine aI.mk (λe=>?_) (λe=>?_)
 ·have cI:(low:Int)<=v:=cv e;obtain⟨a,rfl⟩:∃ a,p=a+1:=⟨p-1,by omega⟩;obtain rfl:v=(a:Int):=by omega
  have VQ:JC I' t T L a:=⟨h.ok.sv λk af b=>bx.c2 k af b,bx.inv,h.cn,h.na,h.n0,λk af=>h.lo k (bx.perm.mem_iff.1 af),by omega⟩;have bZ:=afu (D0:=[]) VQ (gA:=gA) (gD:=gD) (nA:=nA) (nD:=nD) (cA0:=cK) (cD0:=cQ) bx.De bx.Gf bx.uK (by simp) (by omega) (by simp;omega) Oc Od;refine cU.draw aT rfl rfl rfl ?_;refine jl.mk 0 0 rfl rfl (b1 _) (bi _) ?_;refine kU.VA _ bZ ?_;rintro v eU eJ -⟨rfl,iF,Df,afI,afJ,s1,s2,gM,A6,Dg,afK,afL,rfl,rfl⟩;rw[lD]at A6;have VR:=A6.length_eq;have hold:∀ k,k<t.n0->∀ b,iF k b=gp k b:=λk af b=>by rw[s2 k b λx=>by have:=(VQ.lo k x.1).1;omega];exact bx.c2 k af b
  have F6:∀ k b,a<b->(iF k b).ce=bj t.P k b:=λk b ag=>by rw[s2 k b λx=>by omega];exact bx.up k b ag
  have eT:∀ k,(iF k a).ce=bj t.P k a:=aeF s1 h.cn F6 (λk af a1=>by
   by_cases dY:k<t.n0;·refine aeG s1 af (by show a<=t.s.size;omega) (h.cn k af) ?_ a1;rw[hold k dY a];exact h.c2 k dY a
   ·exact gM k (bx.perm.mem_iff.2 (h.all k (by omega) af)) a1) (by show a<=t.s.size;omega)
  refine aW.mk ((a:Int)-1) (e0 rfl (by omega)) ?_;refine⟨⟨a,(a:Int)-1,iF,Df,gD,nD,afJ,gA,nA,L.length,afI⟩,⟨⟨rfl,by simp only;omega,by simp only;omega,s1,λk b ag=>?_,hold,A6.trans bx.perm,afK,afL,Dg,VP,VO,Od,Oc⟩,by simp only;omega⟩,.perm (.cons _ (.swap _ _ _)) .refl,jo,.cons rfl (.nil)⟩;by_cases e:b=a;·rw[e];exact eT k
  ·exact F6 k b (by simp only at ag;omega)
 ·have aO:¬ (low:Int)<=v:=ct e;refine⟨_,_,.sub (M1:=[t.aQ T]) (.cons_cons _ (.cons _ (.cons _ .slnil))) .refl,rfl,T,bx.inv,λk b ag=>bx.up k b (by simp only;omega),bx.c2,rfl⟩
def VB.n{a6:List pt}{f:pt}(h:VB os a6 f g):os.n=a6.length+1:=by have:=h.ok.len;rw[g3 _ 5 pt.da]at this;simp at this;omega
def bp.VS{X:cW}{C:dM}{o:Oper}{K:gg}(aP:cY X.P X.E)(ar:o.op=.call { callee:=.builtin .append,args:=#[s,x],argTypes:=#[t,t] })(ah:∀ d,o.dst=some d->d<X.n)
  {e:Nat} (au:X.E t=some dn) (cO:dn.bK=.slice e) (he:X.E e=some aJ)
  (os:a') (a5:os.ok aJ.size xs) (ap:bw F s=.val os.val)
 {cs:List Value} (ab:bw F x=.val (.slice (some ⟨b9,0,none⟩) 1 c')) (aw:cs.length=aJ.size) (U:gI cs=true)
  (a9:List aE) (bb:M=⟨b9,.cells cs.toArray e (0,0)⟩::(a9++os.aQ e)) (b':os.n+1<=9223372036854775807) (ch:(os.n+1)*aJ.bytes<=140737488355328)
  (k:∀ bA:a',bA.n=os.n+1->(∀ g,bA.a=some g->I g=none)->bA.ok aJ.size (xs++cs)->K (put o.dst (.val bA.val) F) C I (a9++bA.aQ e)):bp X o F C I M K:=
 .tr aP ar ah au cO he os a5 ap ab aw U a9 [] (by rw[c8];exact bb) b' ch λbA aa ae aR=>by rw[c8];exact k bA aa ae aR
section
variable{X:cW}{F:Fr}{C:dM}{I:aH}{M:List aE}{o:Oper}
def n'.afM(aP:cY X.P X.E)(ar:o.op=.call { callee:=.builtin .append,args:=#[s,x],argTypes:=#[t,t] })
  {e:Nat} (au:X.E t=some dn) (cO:dn.bK=.slice e) (he:X.E e=some aJ)
  (os:a') (a5:os.ok aJ.size xs) (ap:bw F s=.val os.val)
  {ad:Addr} (ab:bw F x=.val (.slice (some ad) m c')) (hm:0<m) (an:bD I M ad (m*aJ.size) bV) (U:gI bV=true)
  {Mr:List aE} (bb:M.Perm (os.aQ e++Mr)) (b':os.n+m<=maxLen) (ch:(os.n+m)*aJ.bytes<=140737488355328)
  (M':a'->List aE) (A7:∀ bA:a',(bA.aQ e++Mr).Perm (M' bA))
  (k:∀ bA:a',bA.n=os.n+m->(∀ g,bA.a=some g->I g=none)->bA.ok aJ.size (xs++bV)->K (.val bA.val) I (M' bA)):n' X o F C I M K:=by
 refine⟨fun β a w Q lF=>?_⟩;have sw:bV.length=m*aJ.size:=by obtain⟨_,_,_,_,_,_,h⟩:=an;exact h
 have fx:∀ w,ef I M w->(Builtin.firstCells aJ.size m (.slice (some ad) m c')).run X.P w=.ok bV.toArray w:=λw hw=>by
  obtain⟨bZ,cs,T,aj,eg,ai,aw⟩:=an;refine run_firstCells_some (P:=X.P) w aJ.size m ad m c' bV aw λj v ak=>?_;rw[ei _ bZ,tU (eg.heap hw)];rw[<-ai,lW]at ak;split at ak;·rw[qO]at ak;simpa using ak
  ·cases ak
 have a8:cH X β a w F C I (os.aQ e++Mr):=lF.ir (.perm bb .refl);obtain⟨inf,z,hi,eA,gw,gW,iG⟩:=(aP _ _ he).inf;obtain⟨kw,nH,js⟩:=(aP _ _ au).fk;have p7:kw=.slice e:=by rw[cO]at js;cases kw<;>simp_all[fj]
 subst p7;have p6:z.cells.size=inf.size:=by rw[eA,<-(aP _ _ he).len,<-iG];simp
 have Oe:=a5;rw[<-eA]at a5 sw fx;obtain⟨g,c,aS,w',fw,aV,aX,bq,eK,mY⟩:=SI (P:=X.P) (w:=w) t t o.type e inf z nH nH (λk a4=>by cases a4) hi gW p6 a5 (λg aB=>a8.holds.m ⟨g,.cells os.aS.toArray e (0,0)⟩ (by simp[a'.aQ,aB])) (x:=.slice (some ad) m c') hm sw (z1 U) (λ_=>rfl) (λw' ud=>fx w' (lF.holds.heap ud)) b' (by rw[gw];exact ch);rw[eA]at aV eK sw;have At:I g=none:=by
  rcases mY with⟨aB,_⟩ | ⟨rfl,_⟩;·exact a8.holds.d ⟨g,.cells os.aS.toArray e (0,0)⟩ (by simp[a'.aQ,aB])
  ·cases bx:I w.heap.size with
   |none=>rfl| some mZ=>have:=a8.holds.i _ _ bx;simp at this
 have es:=dq a8.aj ap;have ex:=dq a8.aj ab;have Of:(⟨some g,os.n+m,c,aS⟩:a').ok aJ.size (xs++bV):=by
  refine⟨?_,(λh=>by cases h),λdz aB=>?_⟩;·rw[b5,Oe.len,sw,iJ]
  ·cases aB;exact⟨aV,aX,bq,eK⟩
 refine i' (by rw[ar];simp) (v:=.slice (some ⟨g,0,none⟩) (os.n+m) c) (w':=w') ?_ ⟨_,.val (.slice (some ⟨g,0,none⟩) (os.n+m) c),I,M' ⟨some g,os.n+m,c,aS⟩,rfl,rfl,?_,k ⟨some g,os.n+m,c,aS⟩ rfl (λdz aB=>by cases aB;exact At) Of,rfl⟩
 ·unfold execOp;simp only[ar,resolve,invoke,builtin,ca,c5,bR,s4,ek,p0,es,ex,fw]
 ·refine cH.ir ?_ (.perm (A7 _) .refl);rcases mY with⟨aB,rfl⟩ | ⟨rfl,rfl⟩
  ·have ag:os.aQ e=[⟨g,.cells os.aS.toArray e (0,0)⟩]:=by simp[a'.aQ,aB]
   rw[ag]at a8;exact a8.yb (a9:=[]) (post:=Mr) rfl
  ·have aa:cH X β a w.drew F C I (os.aQ e++Mr):=a8.world rfl;have ae:=aa.nu (.cells aS.toArray e (0,0));refine ae.ir (.sub ?_ .refl);exact List.Sublist.cons_cons _ (lC _ _)
def n'.tr(aP:cY X.P X.E)(ar:o.op=.call { callee:=.builtin .append,args:=#[s,x],argTypes:=#[t,t] })
  {e:Nat} (au:X.E t=some dn) (cO:dn.bK=.slice e) (he:X.E e=some aJ)
  (os:a') (a5:os.ok aJ.size xs) (ap:bw F s=.val os.val)
 {cs:List Value} (ab:bw F x=.val (.slice (some ⟨b9,0,none⟩) 1 c')) (aw:cs.length=aJ.size) (U:gI cs=true)
  (a9 post:List aE) (bb:M=⟨b9,.cells cs.toArray e (0,0)⟩::(a9++(os.aQ e++post))) (b':os.n+1<=9223372036854775807) (ch:(os.n+1)*aJ.bytes<=140737488355328)
  (k:∀ bA:a',bA.n=os.n+1->(∀ g,bA.a=some g->I g=none)->bA.ok aJ.size (xs++cs)->K (.val bA.val) I (⟨b9,.cells cs.toArray e (0,0)⟩::(a9++(bA.aQ e++post)))):n' X o F C I M K:=by
 have aK:∀ bA:a',(bA.aQ e++(⟨b9,.cells cs.toArray e (0,0)⟩::(a9++post)):List aE).Perm (⟨b9,.cells cs.toArray e (0,0)⟩::(a9++(bA.aQ e++post))):=λbA=>
  rj.trans (.cons _ (vU _ _ _))
 refine .afM aP ar au cO he os a5 ap (m:=1) (bV:=cs) ab (by decide) ?_ U (Mr:=⟨b9,.cells cs.toArray e (0,0)⟩::(a9++post)) ?_ (by unfold maxLen;exact b') ch _ aK k
 ·rw[o0];refine⟨rfl,_,_,_,.inr ⟨⟨b9,.cells cs.toArray e (0,0)⟩,by rw[bb];exact .head _,rfl,rfl⟩,?_,aw⟩;simp only[oZ];exact g4 (by omega)
 ·rw[bb];exact(aK os).symm
end
def Og{ds:List bm}{i:Nat}(hi:i<ds.length):bz (ds.take (i+1))=bz (ds.take i)+ds[i].t.ns.length:=by unfold bz;rw[hR hi,fC,Fv];simp
def Oh(ds:List bm)(i:Nat):bz (ds.take i)<=bz ds:=by
 conv=>rhs;rw[<-yH i ds]
 unfold bz;rw[fC,Fv];omega
def JG:∀ (b:Nat) (ds:List bm) (i:Nat) (hi:i<ds.length) (dw:i<(ff b ds).length),(ff b ds)[i]=b+bz (ds.take i)+ds[i].t.bJ.toNat
 |b,d::ds,0,_,_=>by simp[ff,bz]
 |b,d::ds,i+1,hi,dw=>by have:=JG (b+d.t.ns.length) ds i (by simpa using hi) (by simpa[ff]using dw);simp only[ff,EV,this,pX];simp[bz];omega
def afN(m:Nat):rowOf g8.cells (m*4)=(List.replicate m g8).flatMap bW.cells:=by
 induction m with
 |zero=>rfl
 |succ w bc=>
  have e:(w+1)*4=w*4+4:=by omega
  have ay:rowOf g8.cells ((w+1)*4)=rowOf g8.cells (w*4)++g8.cells:=by
   unfold rowOf;rw[e,N5,fC];congr 1;apply yp (by rfl);intro i U aa;simp only[lH,nj];have ae:i<4:=by simpa using U
   have aR:(w*4+i)%g8.cells.length=i:=by show(w*4+i)%4=i;omega
   rw[aR]
   match i,ae with
   |0,_=>rfl| 1,_=>rfl| 2,_=>rfl| 3,_=>rfl
  rw[ay,bc,List.replicate_succ'];simp
def Oi(w:Nat):∀ n,((List.range n).flatMap λ_=>(List.range w).flatMap λ_=>g8.cells)=(List.replicate (n*w) g8).flatMap bW.cells
 |0=>by rw[EZ];rfl
 |n+1=>by
  have U:((List.range w).flatMap λ_=>g8.cells)=(List.replicate w g8).flatMap bW.cells:=by
   have e:(List.range w).map (λ_=>g8)=List.replicate w g8:=by rw[List.map_const',qs]
   rw[<-e,Dc]
  rw[zc,jP,Oi w n,pZ,AA,c8,U,<-jP,List.replicate_append_replicate,iJ,o0]
def Dh(ba w i:Nat):Value:=.slice (some ⟨ba,i*(w*4),none⟩) w w
def tw(ba w n:Nat):List Value:=(List.range n).map (Dh ba w)
def VT(n w:Nat)(an:n<=4096)(hw:w<=8192)(U:1<=w):Spec Tryz.prog 54 [.int .i64 n,.int .i64 w] I M0 λv I' M'=>I'=I/\∃ ig ba,v=.slice (some ⟨ig,0,none⟩) n n /\
  M'=⟨ig,.cells (tw ba w n).toArray 104 (0,0)⟩::⟨ba,.cells ((List.replicate (n*w) g8).flatMap bW.cells).toArray 106 (0,0)⟩::M0:=by
 refine bU [] aT Tryz.func54 rfl rfl rfl ?_;intro B aq;have bk:∀ i,i<=n->i*w<=33554432:=λi hi=>by have:=N6 (jD hi an) hw;omega
 have an6:=bk n (b1 _);refine aW.mk ((n*w:Nat):Int) (e0 (by simp) (by omega)) ?_;refine qR.mk (n*w) (n*w) rfl rfl (b1 _) (by show 16*(n*w)<=_;omega) (by omega) ?_;refine cw.mk λba VU an7=>?_;refine qR.mk n n rfl rfl (b1 _) (by show 24*n<=_;omega) (by omega) ?_;refine cw.mk λig Oj an8=>?_;refine cx.inv (ι:=Nat) (λi=>{ cc:=[(1,.val (.int .i64 w)),(5,.val (.slice (some ⟨ba,0,none⟩) (n*w) (n*w))),(6,.val (.slice (some ⟨ig,0,none⟩) n n)),(15,.val (.int .i64 n)),(16,.val (.int .i64 i))],cl:=[],ck:=I,de:=⟨ig,.cells ((List.range i).map (Dh ba w)++List.replicate (n-i) (Value.slice none 0 0)).toArray 104 (0,0)⟩::⟨ba,.cells ((List.replicate (n*w) g8).flatMap bW.cells).toArray 106 (0,0)⟩::M0 }) (λi=>i<=n) (λi=>n-i) ?_ ?_
 ·refine⟨0,bi _,.uJ ?_,ja,.nil⟩;have aC:rowOf [Value.slice none 0 0] (n*1)=List.replicate n (Value.slice none 0 0):=by rw[yC,h4]
  have ay:=afN (n*w);show(⟨ig,.cells (rowOf [Value.slice none 0 0] (n*1)).toArray 104 (0,0)⟩:aE)::⟨ba,.cells (rowOf g8.cells (n*w*4)).toArray 106 (0,0)⟩::M0=_;rw[aC,ay];rfl
 intro i hi;refine aI.mk (λe=>?_) (λe=>?_)
 ·have aO:i<n:=by simpa using e
  have eA:=bk i hi;have gw:=bk (i+1) (by omega);have Ok:(i+1)*w=i*w+w:=by rw[iJ,o0]
  have afO:(i+1)*w<=n*w:=rV _ aO;refine aW.mk ((i*w:Nat):Int) (e0 (by simp) (by omega)) ?_;refine aW.mk _ (b0 (i:=i) (by omega)) ?_;refine aW.mk (((i+1)*w:Nat):Int) (e0 (by simp) (by omega)) ?_;refine aW.mk _ (b0 (i:=i) (by omega)) ?_;refine aW.mk (((i+1)*w:Nat):Int) (e0 (by simp) (by omega)) ?_;refine bp.slice3 aT rfl (by simp) (e:=106) rfl rfl rfl (i*w) ((i+1)*w) ((i+1)*w) (ad:=some ⟨ba,0,none⟩) (n:=n*w) (c:=n*w) rfl rfl rfl rfl (by omega) (b1 _) afO ?_;refine a7.mk ⟨ig,0,none⟩ i rfl rfl aO ?_;refine cV.oh [] _ ((List.range i).map (Dh ba w)++List.replicate (n-i) (Value.slice none 0 0)) _ rfl ?_ rfl ((List.range (i+1)).map (Dh ba w)++List.replicate (n-(i+1)) (Value.slice none 0 0)) ?_ ?_;·rw[oE,b5,dx,qs,CD];show 0+i*1+1<=_;omega
  ·have nV:List.replicate (n-i) (Value.slice none 0 0)=.slice none 0 0::List.replicate (n-(i+1)) (Value.slice none 0 0):=by rw[show n-i=(n-(i+1))+1 from by omega,yZ]
   have ai:(Value.slice (if(i+1)*w=i*w then some ⟨ba,0,none⟩else(some (⟨ba,0,none⟩:Addr)).map (·.add (i*w*4))) ((i+1)*w-i*w) ((i+1)*w-i*w))=Dh ba w i:=by rw[cG (by omega),Ok,FK];unfold Dh;rw[ly,ei _ rfl,dK,Nat.mul_assoc]
   rw[nV,zc,fC,eL];refine(I6 (k:=0+i*1) (by rw[dx,qs];omega)).trans ?_;rw[ai];rfl
  refine aW.mk _ (b0 (i:=i) (by omega)) ?_;exact⟨i+1,⟨by omega,by omega⟩,.refl,ja,.nil⟩
 ·have cI:n<=i:=by simpa using e
  obtain rfl:i=n:=by omega
  refine⟨_,_,.refl,rfl,ig,ba,rfl,?_⟩;rw[wb,List.replicate_zero,c8];rfl
def rB{G:Fr}{r:dD}(h:dk G y=dk F y)(bh:bw F y=r):bw G y=r:=by simp only[bw,dB,h];exact bh
def Ol{d:a3}{n:Int}(h:fits d n=true)(aq:0<=d.k):d.t.size<=255:=by
 unfold fits at h;have z:(⟨#[]⟩:ByteArray).size=0:=rfl;cases U:decide (10<=d.k)with
 |true=>rw[U]at h;cases h
 |false=>
  rw[U,bd]at h;cases aa:decide (n<s9 d.k.toNat)||(decide (0<=p9 d.k.toNat)&&decide (p9 d.k.toNat<n))with
  |true=>rw[aa]at h;cases h
  |false=>
   rw[aa,bd]at h;cases ae:decide (d.k=1)with
   |true=>rw[ae,bg]at h;simp only[cA,e7]at h;rw[h.1,z];omega
   |false=>
    rw[ae,bd]at h;cases aR:decide (d.k=2)with
    |true=>rw[aR,bg]at h;simp only[cA,pY,nC,oY]at h;omega
    |false=>
     rw[aR,bd]at h;cases bn:decide (d.k=3)||decide (d.k=9)with
     |true=>rw[bn,bg]at h;simp only[hA,cA,e7]at h;omega
     |false=>
      rw[bn,bd]at h;cases b2:decide (d.k=6)with
      |true=>rw[b2,bg]at h;simp only[cA,e7]at h;rw[h.2.2,z];omega| false=>rw[b2,bd]at h;simp only[cA,e7]at h;rw[h.2.1,z];omega
def VV{b T:Nat}{l:List Nat}(h:I b=some (.cells (l.map λ(k:Nat)=>Value.int .i64 (k:Int)).toArray T (0,0)))(aw:l.length<=1048576){n:Nat}(an:l.length=n):dX I (some ⟨b,0,none⟩) n n 1 8 (l.map λ(k:Nat)=>Value.int .i64 (k:Int)):=by subst an;refine⟨by simp,⟨b1 _,by omega⟩,.inr ⟨_,rfl,rfl,_,T,(0,0),h,?_⟩⟩;simp only[oZ];exact g4 (by simp)
def sy(d:bm):Value:=.string d.name
def afP{g:cE}(aB:g.ok I)(an:g.n<=4096):Spec Tryz.prog 52 [g.val] I M0 λv I' M'=>I'=I/\∃ os:a',v=os.val/\os.n=g.n/\os.ok 1 (g.ds.map sy)/\M'=os.aQ 9++M0:=by
 refine bU [] aT Tryz.func52 rfl rfl rfl ?_;intro B aq;have fU:=aB.n;refine cx.inv (ι:=Nat×a') (λx=>{ cc:=[(3,.val x.2.val),(7,.val (.slice g.a g.n g.c)),(8,.val (.int .i64 g.n)),(9,.val (.int .i64 x.1))],ck:=I,de:=x.2.aQ 9++M0 }) (λx=>x.1<=g.n/\x.2.n=x.1/\x.2.ok 1 ((g.ds.take x.1).map sy)) (λx=>g.n-x.1) ?_ ?_
 ·exact⟨(0,jd),⟨bi _,rfl,ka 1⟩,.refl,ec,.nil⟩
 rintro⟨i,os⟩⟨hi,pF,cj⟩;simp only at hi pF cj;refine aI.mk (λh=>?_) (λh=>?_)
 ·have aO:i<g.n:=by simpa using h
  have bG:i<g.ds.length:=by omega
  obtain⟨ad,bI,bl⟩:=aB.a2.row bm.da aO bG;refine a7.mk ad i bI rfl aO ?_;refine aD.mk _ (bl _) ?_;refine cw.mk λb9 fK xn=>?_;refine bp.tr aT rfl (by simp) (e:=9) rfl rfl rfl os cj rfl (cs:=[.string (g.ds[i]).name]) rfl rfl rfl [] M0 rfl (by omega) (by show(os.n+1)*16<=_;omega) ?_;intro hf uN l5 j5;refine aW.mk _ (b0 (i:=i) (by omega)) ?_;refine⟨(i+1,hf),⟨⟨aO,by simp only;omega,?_⟩,by simp only;omega⟩,.refl,ec,.nil⟩;simp only;rw[hR bG,fC];exact j5
 ·have cI:g.n<=i:=by simpa using h
  obtain rfl:i=g.n:=by omega
  rw[g4 (by omega)]at cj;exact⟨_,_,.refl,rfl,os,rfl,pF,cj,rfl⟩
def VW{ds:List bm}{n c:Nat}(ao:dX I eZ n c 1 16 (ds.map sy))(di:ByteArray):Spec Tryz.prog 102 [.slice eZ n c,.string di] I M0 λv I' M'=>v=.int .i64 (cy di ds 0)/\I'=I/\M'=M0:=by
 refine bU [] aT Tryz.func102 rfl rfl rfl ?_;intro B aq;have an:ds.length=n:=by have:=ao.len;rw[dx]at this;omega
 have k2:=ao.cap.2;refine cx.inv (ι:=Nat) (λi=>{ cc:=[(0,.val (.slice eZ n c)),(1,.val (.string di)),(7,.val (.int .i64 n)),(8,.val (.int .i64 i))],ck:=I,de:=M0 }) (λi=>i<=n/\cy di ds 0=cy di (ds.drop i) i) (λi=>n-i) ?_ ?_
 ·exact⟨0,⟨bi _,rfl⟩,.refl,ec,.nil⟩
 rintro i⟨hi,aF⟩;refine aI.mk (λh=>?_) (λh=>?_)
 ·have aO:i<n:=by simpa using h
  have bG:i<ds.length:=by omega
  obtain⟨ad,bI,bl⟩:=ao.one (f:=sy) aO bG;have fp:ds.drop i=ds[i]::ds.drop (i+1):=eE bG;rw[fp,cy]at aF;refine a7.mk ad i bI rfl aO ?_;refine aD.mk _ (bl _) ?_;refine aI.mk (λaa=>?_) (λaa=>?_);·have e:(ds[i]).name=di:=(cv aa).symm;rw[gX e,bg]at aF;exact⟨_,_,.refl,by rw[aF],rfl,rfl⟩
  ·have e:¬ (ds[i]).name=di:=λe=>ct aa e.symm;rw[c0 e,bd]at aF;refine aW.mk _ (b0 (i:=i) (by omega)) ?_;exact⟨i+1,⟨⟨aO,aF⟩,by omega⟩,.refl,ec,.nil⟩
 ·have cI:n<=i:=by simpa using h
  refine⟨_,_,.refl,?_,rfl,rfl⟩;rw[aF,hJ (by omega)];rfl
def jj(bt:Nat)(s:ByteArray)(nv rv A8 rwv:Value):aE:=⟨bt,.cells [.string s,nv,rv,A8,rwv].toArray 98 (0,0)⟩
def tx{bt:Nat}{s:ByteArray}{nv rv A8 rwv:Value}(bb:jj bt s nv rv A8 rwv∈M)(ak:j<5):bD I M ((⟨bt,0,none⟩:Addr).add j) 1 [([.string s,nv,rv,A8,rwv]:List Value).getD j undef]:=by
 have h:=dP (I:=I) (cs:=[.string s,nv,rv,A8,rwv]) (k:=j) (n:=1) bb (by show j+1<=5;omega);have:(([.string s,nv,rv,A8,rwv]:List Value).drop j).take 1=[([.string s,nv,rv,A8,rwv]:List Value).getD j undef]:=by
  match j,ak with
  |0,_=>rfl| 1,_=>rfl| 2,_=>rfl| 3,_=>rfl| 4,_=>rfl
 rwa [this]at h
def oF(b:Nat)(L:List Nat)(n:a3):a3:={ n with hK:=some ⟨b,0,none⟩,kn:=L.length,hk:=L.length,aM:=L.map λ(k:Nat)=>(k:Int) }
def afQ(b:Nat)(L:List Nat)(n:a3):(oF b L n).pn=⟨n.A1,L⟩:=by unfold a3.pn oF;congr 1;rw[jt];exact List.map_id'' (λx=>by simp) L
def afR{b T:Nat}{n:a3}(h:n.ok I)(bx:I b=some (.cells (L.map bE).toArray T (0,0)))(aw:L.length<=1048576)(bQ:∀ x∈L,x<=1048576):(oF b L n).ok I:=by
 refine { h with a2:=?_,aM:=λx ab=>?_ }
 ·show dX I (some ⟨b,0,none⟩) L.length L.length 1 8 ((L.map λ(k:Nat)=>(k:Int)).map (.int .i64 ·));rw[jt];exact VV (T:=T) bx aw rfl
 ·obtain⟨y,aG,rfl⟩:=dp.1 ab;have:=bQ y aG;unfold mF;omega
structure Gi(I:aH)(ds:List bm)(eZ c1:Option Addr)(fV ez:Nat)(a0:Nat)(t:bB):Prop where
 di:dX I eZ ds.length fV 1 16 (ds.map sy)
 rt:dX I c1 ds.length ez 1 8 ((ff 0 ds).map bE)
 ns:∀ n∈t.ns,(∀ k∈n.aM,0<=k/\k.toNat<=4096)/\n.aM.length<=4096/\n.t.size<=4096
 afS:∀ x∈ff 0 ds,x<=4096
 len:ds.length<=4096
 many:a0+t.n<=4096
def xD(ds:List bm)(a0:Nat)(n:a3):qk:=⟨n.A1,eR ds a0 n⟩
def fb(p:Nat×List Nat):aE:=⟨p.1,.cells (p.2.map bE).toArray 3 (0,0)⟩
def iB(kb:List (Nat×List Nat))(ns:List a3):List a3:=List.zipWith (λp n=>oF p.1 p.2 n) kb ns
structure Gj(ds:List bm)(xs:List a3)(t:bB)(i:Nat)(os:a')(kb:List (Nat×List Nat)):Prop where
 ii:i<=t.n
 n:os.n=xs.length+i
 ok:os.ok 9 ((xs++iB kb (t.ns.take i)).flatMap a3.cells)
 kb:kb.map (·.2)=(t.ns.take i).map (eR ds xs.length)
 find:∀ n∈t.ns.take i,n.k=3->0<=cy n.t ds 0
def VX{ns:List a3}(h:kb.length=ns.length)(p:Nat×List Nat)(n:a3):iB (kb++[p]) (ns++[n])=iB kb ns++[oF p.1 p.2 n]:=by unfold iB;rw[List.zipWith_append h];rfl
def Gj.len{ds:List bm}{xs:List a3}{t:bB}{i:Nat}(h:Gj ds xs t i os kb)(an:t.ns.length=t.n):kb.length=(t.ns.take i).length:=by have:=congrArg List.length h.kb;simpa using this
def JH(x y:aE)(A:List aE)(kb:List (Nat×List Nat)){p:Nat×List Nat}(ab:x=fb p:=by rfl):(x::y::(A++kb.map fb)).Perm (y::(A++(kb++[p]).map fb)):=by subst ab;rw[fC,<-eL];exact(List.Perm.swap _ _ _).trans (.cons _ (fR (l₁:=[fb p]) (l₂:=A++kb.map fb)))
def afT{t:bB}(au:t.ok I){ds:List bm}{c1:Option Addr}{fV ez:Nat}{xs:List a3}(h:Gi I ds eZ c1 fV ez xs.length t){os0:a'}(we:os0.ok 9 (xs.flatMap a3.cells))(bt:Nat)(s:ByteArray)(rwv:Value) :
  Spec Tryz.prog 53 [ptr bt,t.val] I (jj bt s (.slice eZ ds.length fV) (.slice c1 ds.length ez) os0.val rwv::(os0.aQ 59++[])) λv I' M'=>I'=I/\∃ (i:Nat) (os:a') (kb:List (Nat×List Nat)),Gj ds xs t i os kb /\
   M'=jj bt s (.slice eZ ds.length fV) (.slice c1 ds.length ez) os.val rwv::(os.aQ 59++kb.map fb)/\((v=.bool true/\i=t.n)\/(v=.bool false/\∃ n∈t.ns,n.k=3/\cy n.t ds 0<0)):=by
 refine bU [] aT Tryz.func53 rfl rfl rfl ?_;intro B aq;have kE:=au.n;have afU:=h.many;have Om:os0.n=xs.length:=by have:=we.len;rw[g3 _ 9 a3.da]at this;omega
 refine aD.mk _ (tx (j:=3) (.head _) (by decide)) ?_;refine cx.inv (ι:=Nat×a'×List (Nat×List Nat)) (λx=>{ cc:=[(0,.val (ptr bt)),(4,.lit false),(5,.val (.int .i64 os0.n)),(18,.val (.slice t.a t.n t.c)),(19,.val (.int .i64 t.n)),(20,.val (.int .i64 x.1))],cl:=[],ck:=I,de:=jj bt s (.slice eZ ds.length fV) (.slice c1 ds.length ez) x.2.1.val rwv::(x.2.1.aQ 59++x.2.2.map fb) }) (λx=>Gj ds xs t x.1 x.2.1 x.2.2) (λx=>t.n-x.1) ?_ ?_
 ·exact⟨(0,os0,[]),⟨bi _,Om,by simpa[iB]using we,rfl,λn an=>(by cases an)⟩,.refl,jo,.nil⟩
 rintro⟨i,os,kb⟩gk;have hi:=gk.ii;have pF:=gk.n;have A9:=gk.ok;have A':=gk.len kE;simp only at hi pF A9 A';refine aI.mk (λe=>?_) (λe=>?_)
 rotate_left
 ·have cI:t.n<=i:=by simpa using e
  obtain rfl:i=t.n:=by omega
  exact⟨_,_,.refl,rfl,t.n,os,kb,gk,rfl,.inl ⟨rfl,rfl⟩⟩
 have aO:i<t.n:=by simpa using e
 have bG:i<t.ns.length:=by omega
 obtain⟨ad,bI,bl⟩:=au.a2.row a3.da aO bG;obtain⟨d,ah⟩:∃ d,t.ns[i]=d:=⟨_,rfl⟩;have eC:d∈t.ns:=by rw[<-ah];exact cZ bG
 have oc:=au.ns d eC;have eg:=oc.kn;obtain⟨dY,fz,iA⟩:=h.ns d eC;rw[ah]at bl;have mE:t.ns.take (i+1)=t.ns.take i++[d]:=by rw[hR bG,ah]
 have xu:∀ (b:Nat) (L:List Nat),((xs++iB kb (t.ns.take i)).flatMap a3.cells)++(oF b L d).cells=(xs++iB (kb++[(b,L)]) (t.ns.take (i+1))).flatMap a3.cells:=λb L=>by rw[mE,VX A',<-eL,jP];simp
 have next:∀ (b:Nat) (L:List Nat) (bA:a'),L=eR ds xs.length d->(d.k=3->0<=cy d.t ds 0)->bA.n=os.n+1->bA.ok 9 ((xs++iB kb (t.ns.take i)).flatMap a3.cells++(oF b L d).cells)->Gj ds xs t (i+1) bA (kb++[(b,L)]):=λb L bA bQ aF an a5=>by
  refine⟨aO,by omega,by rw[<-xu];exact a5,?_,λn an=>?_⟩;·rw[fC,gk.kb,mE,fC,bQ];rfl
  ·rw[mE]at an;rcases dW.1 an with an | an
   ·exact gk.find n an
   ·rw[iu.1 an];exact aF
 refine a7.mk ad i bI rfl aO ?_;refine aD.mk _ (bl _) ?_;refine qR.mk d.kn d.kn rfl rfl (b1 _) (by show 8*d.kn<=_;omega) (by omega) ?_;refine cw.mk λfc On Oo=>?_;refine cx.inv (ι:=Nat) (λj=>{ cc:=[(0,.val (ptr bt)),(4,.lit false),(5,.val (.int .i64 os0.n)),(7,.ref 7 0),(8,.val (.slice (some ⟨fc,0,none⟩) d.kn d.kn)),(18,.val (.slice t.a t.n t.c)),(19,.val (.int .i64 t.n)),(20,.val (.int .i64 i)),(29,.val (.slice d.hK d.kn d.hk)),(30,.val (.int .i64 d.kn)),(31,.val (.int .i64 j))],cl:=[(7,d.cells)],ck:=I,de:=⟨fc,.cells ((d.aM.take j).map (λk=>bE (xs.length+k.toNat))++List.replicate (d.kn-j) (bE 0)).toArray 3 (0,0)⟩::jj bt s (.slice eZ ds.length fV) (.slice c1 ds.length ez) os.val rwv::(os.aQ 59++kb.map fb) }) (λj=>j<=d.kn) (λj=>d.kn-j) ?_ ?_
 ·refine⟨0,bi _,.uJ ?_,Cn,.cons rfl (.nil)⟩;have e:rowOf [bE 0] (d.kn*1)=List.replicate d.kn (bE 0):=by rw[yC,h4]
  show(⟨fc,.cells (rowOf [bE 0] (d.kn*1)).toArray 3 (0,0)⟩:aE)::_=_;rw[e];rfl
 intro j ak;refine aI.mk (λay=>?_) (λay=>?_)
 ·have xE:j<d.kn:=by simpa using ay
  have Ba:j<d.aM.length:=by omega
  obtain⟨dh,ev,dV⟩:=oc.a2.one (f:=λ(k:Int)=>Value.int .i64 k) xE Ba;have afV:=dY _ (cZ Ba);refine a7.mk dh j ev rfl xE ?_;refine aD.mk _ (dV _) ?_;refine aW.mk ((xs.length+d.aM[j].toNat:Nat):Int) (e0 (by omega) (by omega)) ?_;refine a7.mk ⟨fc,0,none⟩ j rfl rfl xE ?_;refine cV.oh [] _ ((d.aM.take j).map (λk=>bE (xs.length+k.toNat))++List.replicate (d.kn-j) (bE 0)) _ rfl ?_ rfl ((d.aM.take (j+1)).map (λk=>bE (xs.length+k.toNat))++List.replicate (d.kn-(j+1)) (bE 0)) ?_ ?_;·rw[oE,b5,dx,mV,CD];show 0+j*1+1<=_;omega
  ·have nV:List.replicate (d.kn-j) (bE 0)=bE 0::List.replicate (d.kn-(j+1)) (bE 0):=by rw[show d.kn-j=(d.kn-(j+1))+1 from by omega,yZ]
   rw[nV,hR Ba,fC,eL];exact I6 (k:=0+j*1) (by rw[dx,mV];omega)
  refine aW.mk _ (b0 (i:=j) (by omega)) ?_;exact⟨j+1,⟨by omega,by omega⟩,.refl,Cn,.cons rfl (.nil)⟩
 have cI:d.kn<=j:=by simpa using ay
 obtain rfl:j=d.kn:=by omega
 have wc:(d.aM.take d.kn).map (λk=>bE (xs.length+k.toNat))++List.replicate (d.kn-d.kn) (bE 0)=(d.aM.map λk=>xs.length+k.toNat).map bE:=by rw[g4 (by omega),wb];simp[Function.comp_def]
 rw[wc];refine aI.mk (λae=>?_) (λae=>?_)
 ·have qv:d.k=3:=cv ae;refine cU.draw aT rfl rfl rfl ?_;refine aD.mk _ (tx (j:=1) (.tail _ (.head _)) (by decide)) ?_;refine aZ.whole _ (VW h.di d.t) ?_;rintro v I' M' -⟨rfl,rfl,rfl⟩;refine aI.mk (λb3=>?_) (λb3=>?_)
  ·have Gk:cy d.t ds 0<0:=cv b3;exact⟨_,_,.sub (.cons _ (.refl _)) .refl,rfl,i,os,kb,gk,rfl,.inr ⟨rfl,d,eC,qv,Gk⟩⟩
  have Gk:¬ cy d.t ds 0<0:=ct b3;have tk:=C0 ds 0 (by omega:0<=cy d.t ds 0);obtain⟨q,az⟩:∃ q:Nat,cy d.t ds 0=(q:Int):=⟨(cy d.t ds 0).toNat,by omega⟩;have fa:q<ds.length:=by omega
  have Bb:q<(ff 0 ds).length:=by rw[v3];exact fa
  obtain⟨ac,Bc,ie⟩:=h.rt.one (f:=bE) fa Bb;have mM:[(ff 0 ds)[q]]=eR ds xs.length d:=by rw[eR,gX qv,bg,az];simp[dI,Bb]
  refine aD.mk _ (tx (j:=2) (.tail _ (.head _)) (by decide)) ?_;refine a7.mk ac q Bc az fa ?_;refine aD.mk _ (ie _) ?_;refine cw.mk λuO afW afX=>?_;refine cU.draw aT rfl rfl rfl ?_;refine aD.mk _ (tx (j:=3) (.tail _ (.tail _ (.head _))) (by decide)) ?_;refine cw.mk λb9 fK hF=>?_;intro G hy;refine n'.tr aT rfl (e:=59) rfl rfl rfl os A9 (rB (hy _ (by simp[Op.operands,Call.operands])) rfl) (rB (hy _ (by simp[Op.operands,Call.operands])) rfl) (cs:=(oF uO [(ff 0 ds)[q]] d).cells) rfl rfl ([fb (uO,[(ff 0 ds)[q]]),⟨fc,.cells ((d.aM.map λk=>xs.length+k.toNat).map bE).toArray 3 (0,0)⟩,jj bt s (.slice eZ ds.length fV) (.slice c1 ds.length ez) os.val rwv]) (kb.map fb) rfl (by omega) (by show(os.n+1)*96<=_;omega) ?_;intro bA U aa aR;refine cV.mk (⟨b9,_⟩::[fb (uO,[(ff 0 ds)[q]]),⟨fc,.cells ((d.aM.map λk=>xs.length+k.toNat).map bE).toArray 3 (0,0)⟩]) (bA.aQ 59++kb.map fb) _ _ rfl rfl (bN rfl) rfl ?_;refine aW.mk _ (b0 (i:=i) (by omega)) ?_;refine⟨(i+1,bA,kb++[(uO,[(ff 0 ds)[q]])]),⟨next _ _ _ mM (λ_=>by omega) U aR,by simp only;omega⟩,.sub (M1:=fb (uO,[(ff 0 ds)[q]])::jj bt s (.slice eZ ds.length fV) (.slice c1 ds.length ez) bA.val rwv::(bA.aQ 59++kb.map fb)) (.cons _ (.cons_cons _ (.cons _ (.refl _)))) (.perm (JH _ _ _ _) .refl),jo,.nil⟩
 ·have qv:¬ d.k=3:=ct ae;have mM:(d.aM.map λk=>xs.length+k.toNat)=eR ds xs.length d:=by rw[eR,c0 qv,bd]
  have Oq:(d.aM.map λk=>xs.length+k.toNat).length=d.kn:=by rw[dx,eg]
  rw[<-Oq];refine cU.draw aT rfl rfl rfl ?_;refine aD.mk _ (tx (j:=3) (.tail _ (.head _)) (by decide)) ?_;refine cw.mk λb9 fK hF=>?_;intro G hy;refine n'.tr aT rfl (e:=59) rfl rfl rfl os A9 (rB (hy _ (by simp[Op.operands,Call.operands])) rfl) (rB (hy _ (by simp[Op.operands,Call.operands])) rfl) (cs:=(oF fc (d.aM.map λk=>xs.length+k.toNat) d).cells) rfl rfl ([fb (fc,d.aM.map λk=>xs.length+k.toNat),jj bt s (.slice eZ ds.length fV) (.slice c1 ds.length ez) os.val rwv]) (kb.map fb) rfl (by omega) (by show(os.n+1)*96<=_;omega) ?_;intro bA U aa aR;refine cV.mk (⟨b9,_⟩::[fb (fc,d.aM.map λk=>xs.length+k.toNat)]) (bA.aQ 59++kb.map fb) _ _ rfl rfl (bN rfl) rfl ?_;refine aW.mk _ (b0 (i:=i) (by omega)) ?_;refine⟨(i+1,bA,kb++[(fc,d.aM.map λk=>xs.length+k.toNat)]),⟨next _ _ _ mM (λh=>absurd h qv) U aR,by simp only;omega⟩,.sub (M1:=fb (fc,d.aM.map λk=>xs.length+k.toNat)::jj bt s (.slice eZ ds.length fV) (.slice c1 ds.length ez) bA.val rwv::(bA.aQ 59++kb.map fb)) (.cons _ (.refl _)) (.perm (JH _ _ _ _) .refl),jo,.nil⟩
noncomputable section
inductive be(α:Type) where
 |nil| node (x:Option α) (l r:be α)
def b7{α:Type}(b:Bool)(x y:α):α:=@Bool.rec (λ_=>α) y x b
def b4{α R:Type}(o:Option α)(x:R)(f:α->R):R:=@Option.rec α (λ_=>R) x f o
section
variable{α R:Type}
def be.get(t:be α):Nat->Option α:=@be.rec α (λ_=>Nat->Option α) (λ_=>none) (λx _ _ afY afZ k=>b7 (Nat.beq k 0) x (b7 (Nat.beq (Nat.mod k 2) 1) (afY (Nat.div k 2)) (afZ (Nat.sub (Nat.div k 2) 1)))) t
def be.nl(v:Option α)(t:be α):Nat->(be α->R)->R:=@be.rec α (λ_=>Nat->(be α->R)->R) (λk K=>b7 (Nat.beq k 0) (K (.node v .nil .nil)) (K .nil)) (λx l r sl af0 k K=>b7 (Nat.beq k 0) (K (.node v l r)) (b7 (Nat.beq (Nat.mod k 2) 1) (sl (Nat.div k 2) λl=>K (.node x l r)) (af0 (Nat.sub (Nat.div k 2) 1) λr=>K (.node x l r)))) t
def be.Di(t:be α)(off n:Nat):(List α->Option R)->Option R:=@Nat.rec (λ_=>Nat->(List α->Option R)->Option R) (λ_ K=>K []) (λ_ bc off K=>b4 (t.get off) none λv=>bc (Nat.add off 1) λl=>K (v::l)) n off
def be.xF(l:List α)(t:be α)(off:Nat)(K:be α->R):R:=@List.rec α (λ_=>be α->Nat->R) (λt _=>K t) (λv _ bc t off=>t.nl (some v) off λt=>bc t (Nat.add off 1)) l t off
def be.bare:Nat->be α
 |0=>.nil| n+1=>.node none (be.bare n) (be.bare n)
end
inductive al where
 |b(x:Bool) | i (k:IntKind) (n:Int) | s (l:List UInt8)| pn | p (id off:Nat) | g (n off:Nat)| sn | sl (id off n c:Nat) | sx (id off e n:Nat) | gs (g off n c:Nat) | so| mn | m (id:Nat)| f (g:Nat) (l r:List al) | y (id:Nat) | fn| ni | Gl (t:Nat) (v:al)| t (l:List al) | a (l:List al)
def al.cells:al->List al
 | .a l=>l| v=>[v]
def al.one:al->Bool
 | .a _ | .t _=>false| _=>true
def Gm:Value->Option al
 | .bool x=>some (.b x)| .int k n=>some (.i k n)| .string q=>some (.s q.data.toList)| .pointer none=>some .pn| .slice none 0 0=>some .sn| .map none=>some .mn| .nilFunc=>some .fn| .nilIface=>some .ni| _=>none
def xG:List Value->Option (List al)
 |[]=>some []
 |v::vs=>match Gm v,xG vs with
  |some x,some l=>some (x::l)| _,_=>none
def Dj:Value->Option al
 | .agg cs=>match xG cs.toList with
  |some l=>some (.a l)| none=>none
 |v=>Gm v
def al.nat:al->Option Nat
 | .i _ (.ofNat n)=>some n| _=>none
inductive fW where
 |cells(cs:be al)(T fh:Nat)| map (es:List (al×al))| loop (busy:Bool) (n:Nat) (aj:be al) (ps:List Nat) (fm body:Code)| done (c:Code) (n:Nat) (aj:be al) (ps:List Nat) (fm body:Code)
structure bo where
 t:be fW
 n:Nat
def oG:Int->Int->Bool
 | .ofNat a,.ofNat b=>Nat.beq a b| .negSucc a,.negSucc b=>Nat.beq a b| _,_=>false
def Bd:Int->Int->Bool
 | .ofNat a,.ofNat b=>Nat.ble a b| .negSucc a,.negSucc b=>Nat.ble b a| .negSucc _,.ofNat _=>true| .ofNat _,.negSucc _=>false
def Ch(a b:Int):Bool:=!Bd b a
def Ot(op:BinOp)(x y:Int):Option Bool:=match op with
 | .eql=>some (oG x y)| .neq=>some (!oG x y)| .lss=>some (Ch x y)| .leq=>some (Bd x y)| .gtr=>some (Ch y x)| .geq=>some (Bd y x)| _=>none
def JI:IntKind->Nat
 | .i8=>127 | .i16=>32767 | .i32=>2147483647 | .i64=>9223372036854775807| .u8=>255 | .u16=>65535 | .u32=>4294967295 | .u64=>18446744073709551615
def wg(k:IntKind):Int->Int
 | .ofNat n=>bif Nat.ble n (JI k)then .ofNat n else k.wrap (.ofNat n)| n=>k.wrap n
def VY:Int->Int->Int
 | .ofNat a,.ofNat b=>.ofNat (Nat.add a b)| a,b=>a+b
def Ou:Int->Int->Int
 | .ofNat a,.ofNat b=>bif Nat.ble b a then .ofNat (Nat.sub a b)else(.ofNat a:Int) - .ofNat b| a,b=>a-b
def VZ:Int->Int->Int
 | .ofNat a,.ofNat b=>.ofNat (Nat.mul a b)| a,b=>a*b
def V0:Int->Int->Int
 | .ofNat a,.ofNat b=>.ofNat (Nat.div a b)| a,b=>a.tdiv b
def V1:Int->Int->Int
 | .ofNat a,.ofNat b=>.ofNat (Nat.mod a b)| a,b=>a.tmod b
def V2:Int->Nat->Int
 | .ofNat a,j=>.ofNat (Nat.mul a (Nat.pow 2 j))| a,j=>a*2^j
def V3:Int->Nat->Int
 | .ofNat a,j=>.ofNat (Nat.div a (Nat.pow 2 j))| a,j=>a.fdiv (2^j)
def Dk(op:BinOp)(k:IntKind)(x y:Int):Option Int:=
 match k,x,y with
 | .u64,.ofNat a,.ofNat b=>
  bif Nat.ble a 18446744073709551615&&Nat.ble b 18446744073709551615 then
   (match op with
   | .and=>some (.ofNat (Nat.land a b))| .or=>some (.ofNat (Nat.lor a b))| .xor=>some (.ofNat (Nat.xor a b))| .andNot=>some (.ofNat (Nat.land a (Nat.sub 18446744073709551615 b)))| _=>none)
  else none
 |_,_,_=>tQ op k x y
def Ov(a b:UInt8):Bool:=Nat.beq a.toNat b.toNat
def qw:List UInt8->List UInt8->Bool
 |[],[]=>true| a::l,b::m=>bif Ov a b then qw l m else false| _,_=>false
def Dl:al->al->Option Bool
 | .b x,.b w=>some (x == w)| .i k x,.i l w=>b7 (IntKind.ms k l) (some (oG x w)) none| .s x,.s w=>some (qw x w)| _,_=>none
def V4:List al->List al->Option Bool
 |[],[]=>some true
 |x::l,w::m=>match Dl x w with
  |some true=>V4 l m
  |some false=>(match V4 l m with
   |some _=>some false| none=>none)
  |none=>none
 |_,_=>none
def an9:al->al->Option Bool
 | .pn,.pn=>some true| .pn,.p _ _=>some false| .p _ _,.pn=>some false| .pn,.g _ _=>some false| .g _ _,.pn=>some false| _,_=>none
def Ow(op:BinOp)(k c7:IntKind)(a b:Int):Option al:=match op with
 | .shl=>(match b with
  | .ofNat j=>some (.i k (wg k (V2 a (b7 (Nat.ble j k.bits) j k.bits))))| _=>none)
 | .shr=>(match b with
  | .ofNat j=>some (.i k (V3 a (b7 (Nat.ble j k.bits) j k.bits)))| _=>none)
 | .add=>b7 (IntKind.ms k c7) (some (.i k (wg k (VY a b)))) none| .sub=>b7 (IntKind.ms k c7) (some (.i k (wg k (Ou a b)))) none| .mul=>b7 (IntKind.ms k c7) (some (.i k (wg k (VZ a b)))) none| .quo=>b7 (IntKind.ms k c7) (b7 (oG b 0) none (some (.i k (wg k (V0 a b))))) none| .rem=>b7 (IntKind.ms k c7) (b7 (oG b 0) none (some (.i k (V1 a b)))) none| .and=>b7 (IntKind.ms k c7) (b4 (Dk .and k a b) none λr=>some (.i k r)) none| .or=>b7 (IntKind.ms k c7) (b4 (Dk .or k a b) none λr=>some (.i k r)) none| .xor=>b7 (IntKind.ms k c7) (b4 (Dk .xor k a b) none λr=>some (.i k r)) none| .andNot=>b7 (IntKind.ms k c7) (b4 (Dk .andNot k a b) none λr=>some (.i k r)) none| op=>b7 (IntKind.ms k c7) (b4 (Ot op a b) none λr=>some (.b r)) none
def Ox(op:BinOp)(a b:List UInt8):Option al:=match op with
 | .eql=>some (.b (qw a b))| .neq=>some (.b (b7 (qw a b) false true))| .add=>b7 (Nat.ble (Nat.add a.length b.length) 9223372036854775807) (some (.s (a++b))) none| _=>none
def Oy(op:BinOp)(dn:Option dU)(a b:Bool):Option al:=match dn with
 |some { bK:=.bool,.. }=>
  (match op with
  | .eql=>some (.b (a == b))| .neq=>some (.b (!(a == b)))| _=>none)
 |_=>none
def Dm(agg:Bool)(l:List al):Option al:=bif agg then some (.a l)else match l with
 |[v]=>some v| _=>none
def Be:Nat->List al->Option (List al)
 |0,_=>some []| _+1,[]=>none
 |n+1,v::l=>match Be n l with
  |some r=>some (v::r)| none=>none
def Bf{α:Type}:List α->Nat->List α
 |[],_=>[]| v::l,n=>bif Nat.beq n 0 then v::l else Bf l (Nat.sub n 1)
def xH(E:Env)(t o:Nat)(l:List al):Option al:=b4 (E t) none λi=>b7 (Nat.beq i.size 0) none <| b4 (Be i.size (Bf l o)) none λr=>Dm i.bK.agg r
def Dn(F:Nat->al->al->Option Bool)(E:Env)(l m:List al):List (Nat×Nat)->Option Bool
 |[]=>some true|(t,o)::r=>b4 (xH E t o l) none λx=>b4 (xH E t o m) none λy=>b4 (F t x y) none λb=>b7 b (Dn F E l m r) (some false)
def Oz(P:Program)(t:Nat):Bool:=match P.underlying t with
 |some (.struct cb)=>!P.stoodInHeld t&&cb.toList.all λf=>decide (f.name ≠ "_")
 |_=>false
def oH(P:Program)(E:Env):Nat->Nat->al->al->Option Bool
 |0,_,_,_=>none
 |d+1,t,x,y=>b4 (E t) none λi=>match i.bK,x,y with
  | .bool,.b a,.b b=>some (a == b)| .int _,.i k a,.i c7 b=>b7 (IntKind.ms k c7) (some (oG a b)) none| .string,.s a,.s b=>some (qw a b)| .struct cb,.a l,.a m=>b7 (Oz P t) (Dn (oH P E d) E l m cb) none| .array n e,.a l,.a m=>b4 (E e) none λaJ=>Dn (oH P E d) E l m ((List.range n).map λi=>(e,i*aJ.size))
  |_,_,_=>none
def Gn(P:Program)(E:Env)(op:BinOp)(t:Nat)(l m:List al):Option al:=b7 (P.eqGuardType P.depth t) none (b4 (oH P E 8 t (.a l) (.a m)) none λb=>match op with
 | .eql=>some (.b b)| .neq=>some (.b (!b))| _=>none)
def OA:al->Option Bool
 | .sn=>some true| .sl .. | .sx .. | .gs .. | .so=>some false| _=>none
def OB:al->Option Bool
 | .pn=>some true| .p .. | .g ..=>some false| _=>none
def JJ(op:BinOp)(b:Bool):Option al:=match op with
 | .eql=>some (.b b)| .neq=>some (.b (!b))| _=>none
def OC(P:Program)(E:Env)(op:BinOp)(t:Nat)(x y:al):Option al:=
 match x,y with
 | .i k a,.i c7 b=>Ow op k c7 a b| .s a,.s b=>Ox op a b| .b a,.b b=>Oy op (E t) a b| .a l,.a m=>Gn P E op t l m
 |x,.sn=>b4 (E t) none λi=>(match i.bK with
  | .slice _=>b4 (OA x) none λb=>JJ op b
  |_=>none)
 |x,.pn=>b4 (E t) none λi=>(match i.bK with
  | .pointer _=>b4 (OB x) none λb=>JJ op b
  |_=>none)
 |_,_=>none
def wh{α:Type}:List α->Nat->Option α
 |[],_=>none| v::l,n=>bif Nat.beq n 0 then some v else wh l (Nat.sub n 1)
def xI:List al->Nat->List al->Option (List al)
 |cs,0,[]=>some cs
 |_::cs,0,v::vs=>match xI cs 0 vs with
  |some r=>some (v::r)| none=>none
 |c::cs,n+1,vs=>match xI cs n vs with
  |some r=>some (c::r)| none=>none
 |[],_,_=>none
def zf(place:Nat->Option (Nat×Nat)):List al->List (Nat×al)->Option (List al)
 |cells,[]=>some cells
 |cells,(i,v)::a6=>match place i with
  |none=>none
  |some (off,size)=>bif Nat.beq v.cells.length size then(match xI cells off v.cells with
   |some cs=>zf place cs a6| none=>none)else none
def dj(aj:be al):Operand->Option al
 | .tmp t=>aj.get t| .const v=>Dj v| .global g=>some (.g g 0)| .func f=>some (.f f [] [])
def nW(aj:be al):List Operand->Option (List al)
 |[]=>some []
 |x::xs=>match dj aj x,nW aj xs with
  |some v,some l=>some (v::l)| _,_=>none
def Dp(aj:be al):List (Nat×Operand)->Option (List (Nat×al))
 |[]=>some []
 |(i,x)::xs=>match dj aj x,Dp aj xs with
  |some v,some l=>some ((i,v)::l)| _,_=>none
abbrev GT:=Nat->Option (be al)
def wi{R:Type}(G:GT)(m:be fW)(x:al)(n:Nat)(K:List al->Option R):Option R:=match x with
 | .p id off=>(match m.get id with
  |some (.cells cs _ fh)=>bif Nat.ble (Nat.add off n) fh then cs.Di off n K else none| _=>none)
 | .g g off=>(match G g with
  |some cs=>cs.Di off n K| none=>none)
 |_=>none
def Gp(x:al)(n:Nat):Option al:=match x with
 | .p id off=>some (.p id (Nat.add off n))| .g g off=>some (.g g (Nat.add off n))| _=>none
def JK(x:al)(j sz:Nat):Option al:=match x with
 | .sl id off n _=>bif Nat.blt j n then some (.p id (Nat.add off (Nat.mul j sz)))else none| .sx id off _ n=>bif Nat.blt j n then some (.p id (Nat.add off (Nat.mul j sz)))else none| .gs g off n _=>bif Nat.blt j n then some (.g g (Nat.add off (Nat.mul j sz)))else none| _=>none
def wj:al->Option Nat
 | .sn | .so=>some 0| .sl _ _ n _ | .sx _ _ _ n | .gs _ _ n _=>some n| _=>none
def sA(v:al):Option Nat:=match v with
 | .s l=>some l.length| v=>wj v
def OD(x:al)(sz l:Nat)(h:Option Nat):Option al:=match x with
 | .sn=>bif Nat.beq l 0&&Nat.beq (h.getD 0) 0 then some .sn else none
 | .sl id off n c=>let h:=h.getD n
  bif Nat.ble l h&&Nat.ble h c then bif Nat.beq c l then some (.sl id off (Nat.sub h l) 0)else some (.sl id (Nat.add off (Nat.mul l sz)) (Nat.sub h l) (Nat.sub c l))else none
 | .sx id off e n=>let h:=h.getD n
  bif Nat.ble l h&&Nat.ble h n then(bif Nat.beq l 0||Nat.blt l n then some (.sx id (Nat.add off (Nat.mul l sz)) (Nat.add e l) (Nat.sub h l))else some .so)else none
 |_=>none
def Bg(o:Option (Option al)):Option (Option Nat):=match o with
 |none=>some none
 |some (some v)=>(match v.nat with
  |some n=>some (some n)| none=>none)
 |some none=>none
def OE(l:List UInt8)(lo hi:Nat):List UInt8:=(Bf l lo).take (Nat.sub hi lo)
def V5(c a b:Option al):Option al:=match c,a,b with
 |some (.b c),some u,some v=>some (b7 c u v)| _,_,_=>none
def V6(op:UnOp)(x:Option al):Option al:=match op,x with
 | .not,some (.b b)=>some (.b (b7 b false true))| .neg,some (.i k n)=>some (.i k (wg k (0-n)))| _,_=>none
def V7(P:Program)(E:Env)(op:BinOp)(t:Nat)(x y:Option al):Option al:=b4 x none λx=>b4 y none λy=>OC P E op t x y
def V8(G:GT)(m:be fW)(i:Option dU)(x:Option al):Option al:=b4 i none λi=>b4 x none λx=>wi G m x i.size λl=>Dm i.bK.agg l
def V9(x:Option al):Option al:=match x with
 |some (.p id off)=>some (.p id off)| some (.g g off)=>some (.g g off)| _=>none
def JL(E:Env)(t i:Nat):Option (Nat×dU):=match E t with
 |some { bK:=.struct cb,.. }=>(match wh cb i with
  |some (mr,off)=>(match E mr with
   |some g9=>some (off,g9)| none=>none)
  |none=>none)
 |_=>none
def V'(r:Option (Nat×dU))(x:Option al):Option al:=b4 r none λr=>b4 x none λx=>b7 (Nat.beq r.2.size 0) none (Gp x r.1)
def JM(aJ:dU)(cs:List al)(off:Nat):Option al:=b7 (Nat.beq aJ.size 0) none <| b4 (Be aJ.size (Bf cs off)) none λl=>Dm aJ.bK.agg l
def Wa(r:Option (Nat×dU))(x:Option al):Option al:=match r,x with
 |some (off,g9),some (.a cs)=>JM g9 cs off| _,_=>none
def OF(E:Env)(t:Nat):Option (Option Nat×dU):=match E t with
 |some { bK:=.slice e,.. }=>(match E e with
  |some aJ=>some (none,aJ)| none=>none)
 |some { bK:=.array n e,.. }=>(match E e with
  |some aJ=>some (some n,aJ)| none=>none)
 |_=>none
def Wb(r:Option (Option Nat×dU))(x i:Option al):Option al:=b4 r none λr=>b4 x none λx=>b4 i none λi=>b4 i.nat none λj=>
 b4 r.1 (JK x j r.2.size) λn=>b7 (Nat.blt j n) (Gp x (Nat.mul j r.2.size)) none
def OG(l:List UInt8)(j:Nat):Option al:=b4 (wh l j) none λb=>some (.i .u8 (.ofNat b.toNat))
def Wc(cs:List al)(j n:Nat)(aJ:dU):Option al:=b7 (Nat.beq (Nat.mul n aJ.size) cs.length&&Nat.blt j n) (JM aJ cs (Nat.mul j aJ.size)) none
def Gq(E:Env)(t:Nat)(x i:Option al):Option al:=match E t,x,i with
 |some { bK:=.string,.. },some (.s l),some i=>b4 i.nat none λj=>OG l j
 |some { bK:=.array n e,.. },some (.a cs),some i=>b4 (E e) none λaJ=>b4 i.nat none λj=>Wc cs j n aJ
 |_,_,_=>none
def Gr(o:Option (List al)):Option al:=b4 o none λl=>some (.a l)
def Wd(E:Env)(t:Nat)(ps:Option (List (Nat×al))):Option al:=match E t,ps with
 |some i,some vs=>b4 (xG i.zero) none λz=>(match i.bK with
  | .struct cb=>b7 (Ce E cb) (Gr (zf (places E cb) z vs)) none| .array _ e=>b4 (E e) none λaJ=>Gr (zf (λj=>some (j*aJ.size,aJ.size)) z vs)
  |_=>none)
 |_,_=>none
def We(f:Fn)(cb cs:Option (List al)):Option al:=match f,cb,cs with
 | .func g,some cb,some cs=>some (.f g cb cs)| _,_,_=>none
def OH(aJ:dU)(x:al)(lo hi:Option Nat):Option al:=match lo,hi with
 |none,none=>(match x with
  | .sn | .sl .. | .sx .. | .so=>some x| _=>none)
 |lo,hi=>OD x aJ.size (lo.getD 0) hi
def OI(l:List UInt8)(lo hi:Option Nat):Option al:=match lo,hi with
 |none,none=>some (.s l)| lo,hi=>b7 (Nat.ble (lo.getD 0) (hi.getD l.length)&&Nat.ble (hi.getD l.length) l.length) (some (.s (OE l (lo.getD 0) (hi.getD l.length)))) none
def Gs(E:Env)(t:Nat)(x:Option al)(lo hi:Option (Option Nat)):Option al:=match E t,x,lo,hi with
 |some { bK:=.slice e,.. },some x,some lo,some hi=>b4 (E e) none λaJ=>OH aJ x lo hi
 |some { bK:=.string,.. },some (.s l),some lo,some hi=>OI l lo hi| _,_,_,_=>none
def Wf(x:Option al)(i:Nat):Option al:=match x with
 |some (.t vs)=>wh vs i| _=>none
def Wg(E:Env)(s d:Nat)(x:Option al):Option al:=match E s,E d,x with
 |some _,some { bK:=.int k,.. },some (.i _ n)=>some (.i k (wg k n))| _,_,_=>none
def JN(o:Option Nat):Option al:=b4 o none λn=>some (.i .i64 (.ofNat n))
def Wh(E:Env)(ts:List Nat)(l:Option (List al)):Option al:=match ts,l with
 |[t],some [v]=>(match E t,v with
  |some { bK:=.slice _,.. },v=>JN (wj v)| some { bK:=.string,.. },.s l=>JN (some l.length)| some { bK:=.array n _,.. },_=>JN (some n)| _,_=>none)
 |_,_=>none
def Wi(l:Option (List al)):Option al:=match l with
 |some [.i k a,.i _ b]=>some (.i k (b7 (Bd a b) b a))| _=>none
def Wj(l:Option (List al)):Option al:=match l with
 |some [.i k a,.i _ b]=>some (.i k (b7 (Bd a b) a b))| _=>none
def Wk(E:Env)(ts:List Nat)(l:Option (List al)):Option al:=match ts,l with
 |[t],some [.sl _ _ _ c]=>(match E t with
  |some { bK:=.slice _,.. }=>some (.i .i64 (.ofNat c))| _=>none)
 |_,_=>none
def Wl(l:Option (List al)):Option al:=match l with
 |some [.sn]=>some .pn| some [.sl id off n c]=>b7 (Nat.beq c 0) none (some (.p id off))| some [.sx id off e n]=>b7 (Nat.beq n 0) none (some (.p id off))| _=>none
def OJ(E:Env)(b:Builtin)(ts:List Nat)(l:Option (List al)):Option al:=match b with
 | .len=>Wh E ts l| .max=>Wi l| .min=>Wj l| .cap=>Wk E ts l| .unsafeSliceData=>Wl l| _=>none
def OK(P:Program)(E:Env)(G:GT)(m:be fW)(op:Op)(aj:be al):Option al:=
 match op with
 | .move x=>dj aj x| .assign x=>dj aj x| .pick c a b=>V5 (dj aj c) (dj aj a) (dj aj b)| .unOp op _ x=>V6 op (dj aj x)| .binOp op t x y _=>V7 P E op t (dj aj x) (dj aj y)| .load t x=>V8 G m (E t) (dj aj x)| .nilCheck x=>V9 (dj aj x)| .fieldAddr t x i=>V' (JL E t i) (dj aj x)| .field t x i=>Wa (JL E t i) (dj aj x)| .indexAddr t x i=>Wb (OF E t) (dj aj x) (dj aj i)| .index t x i=>Gq E t (dj aj x) (dj aj i)| .build t parts=>Wd E t (Dp aj parts.toList)| .makeFunc f first captured=>We f (nW aj first.toList) (nW aj captured.toList)
 | .slice t x lo hi none=>Gs E t (dj aj x) (Bg (lo.map (dj aj))) (Bg (hi.map (dj aj)))| .extract x i=>Wf (dj aj x) i| .convert s d x=>Wg E s d (dj aj x)| .call { callee:=.builtin b,args,argTypes }=>OJ E b argTypes.toList (nW aj args.toList)| _=>none
def OL(E:Env)(t:Nat)(x hi mx:Option al):Option al:=match E t,x,hi,mx with
 |some { bK:=.slice e,.. },some (.sl id off n c),some (.i _ (.ofNat h)),some (.i _ (.ofNat k))=>b4 (E e) none λaJ=>
  b7 (Nat.ble h k&&(Nat.ble k c&&Nat.blt 0 k)) (some (.sl id off h k)) none
 |some { bK:=.slice e,.. },some (.sx id off ay n),some (.i _ (.ofNat h)),some (.i _ (.ofNat k))=>b4 (E e) none λaJ=>
  b7 (Nat.ble h k&&(Nat.ble k n&&Nat.blt 0 k)) (some (.sl id off h k)) none
 |_,_,_,_=>none
def OM(E:Env)(t:Nat)(x lo hi mx:Option al):Option al:=match E t,x,lo,hi,mx with
 |some { bK:=.slice e,.. },some (.sl id off n c),some (.i _ (.ofNat l)),some (.i _ (.ofNat h)),some (.i _ (.ofNat k))=>b4 (E e) none λaJ=>
  b7 (Nat.ble l h&&(Nat.ble h k&&(Nat.ble k c&&Nat.blt l k))) (some (.sl id (Nat.add off (Nat.mul l aJ.size)) (Nat.sub h l) (Nat.sub k l))) none
 |_,_,_,_,_=>none
def ON(x:Option al):Option al:=match x with
 |some (.i .u64 n)=>some (.i .u64 (g5 n))| _=>none
def uP(P:Program)(E:Env)(G:GT)(m:be fW)(op:Op)(aj:be al):Option al:=
 match op with
 | .unOp .xor t x=>ON (dj aj x)| .slice t x (some lo) (some hi) (some mx)=>OM E t (dj aj x) (dj aj lo) (dj aj hi) (dj aj mx)| .slice t x none (some hi) (some mx)=>OL E t (dj aj x) (dj aj hi) (dj aj mx)| op=>OK P E G m op aj
def rC{R:Type}(n:Nat)(K:Nat->R):R:=Nat.casesOn (Nat.add n 1) (K 0) K
def Wm{R:Type}(n:Int)(K:Int->R):R:=match n with
 | .ofNat n=>rC n λn=>K (.ofNat n)
 | .negSucc n=>rC n λn=>K (.negSucc n)
def Wn{R:Type}(b:Bool)(K:Bool->R):R:=b7 b (K true) (K false)
def OO{R:Type}(v:al)(K:al->R):R:=match v with
 | .b x=>Wn x λx=>K (.b x)
 | .i k n=>Wm n λn=>K (.i k n)
 | .p id off=>rC off λoff=>K (.p id off)
 | .g id off=>rC off λoff=>K (.g id off)
 | .sl id off n c=>rC off λoff=>rC n λn=>rC c λc=>K (.sl id off n c)
 | .sx id off e n=>rC off λoff=>rC e λe=>rC n λn=>K (.sx id off e n)
 |v=>K v
def Bh{R:Type}(m:bo)(e:fW)(K:Nat->bo->R):R:=rC m.n λn=>m.t.nl (some e) n λt=>K n ⟨t,Nat.add n 1⟩
def uQ{R:Type}(m:bo)(l:List al)(T:Nat)(K:Nat->bo->R):R:=be.xF l .nil 0 λcs=>Bh m (.cells cs T l.length) K
def xJ{R:Type}(m:bo)(x:al)(l:List al)(K:bo->Option R):Option R:=match x with
 | .p id off=>(match m.t.get id with
  |some (.cells cs T fh)=>bif Nat.ble (Nat.add off l.length) fh&&l.all al.one then be.xF l cs off λcs=>m.t.nl (some (.cells cs T fh)) id λt=>K ⟨t,m.n⟩else none
  |_=>none)
 |_=>none
def Bi:Nat->List al->List al
 |0,_=>[]| n+1,z=>z++Bi n z
def Dq(i:Option dU):Bool:=match i with
 |some { bK:=.int .u8,.. }=>true| _=>false
def wk(u:Option dU)(aJ:dU)(x:al):Bool:=match u,x with
 |some { bK:=.slice _,.. },.sn=>true| some { bK:=.slice _,.. },.so=>true| some { bK:=.slice _,.. },.sl ..=>true| some { bK:=.slice _,.. },.sx ..=>true| some { bK:=.string,.. },.s _=>Nat.beq aJ.size 1| _,_=>false
def Dr(G:GT)(m:be fW)(x:al)(sz:Nat){R:Type}(K:List al->Option R):Option R:=match x with
 | .sn | .so=>K []| .sl id off n _ | .sx id off _ n=>wi G m (.p id off) (Nat.mul n sz) K| .s l=>K (l.map λb=>.i .u8 (.ofNat b.toNat))| _=>none
def OP(G:GT)(m:bo)(id off n c:Nat)(l:List al)(k sz T:Nat):Option (al×bo):=
 b7 (Nat.ble (Nat.add n k) c) (xJ m (.p id (Nat.add off (Nat.mul n sz))) l λm=>some (.sl id off (Nat.add n k) c,m)) (wi G m.t (.p id off) (Nat.mul n sz) λc2=>uQ m (c2++l) T λid m=>some (.sx id 0 0 (Nat.add n k),m))
def OQ(m:bo)(id:Nat)(n:Nat)(cs:be al)(fh:Nat)(l:List al)(k sz T:Nat):Option (al×bo):=
 b7 (Nat.ble (Nat.mul n sz) fh) (m.t.nl none id λt=>be.xF l cs (Nat.mul n sz) λcs=>Bh ⟨t,m.n⟩ (.cells cs T (Nat.mul (Nat.add n k) sz)) λid m=>some (.sx id 0 0 (Nat.add n k),m)) none
def zg(G:GT)(m:bo)(s:al)(l:List al)(k sz bytes T:Nat):Option (al×bo):=match s with
 | .sn=>b7 (Nat.ble (Nat.mul k bytes) 140737488355328&&Nat.ble k 9223372036854775807) (uQ m l T λid m=>some (.sx id 0 0 k,m)) none| .sl id off n c=>b7 (Nat.ble (Nat.mul (Nat.add n k) bytes) 140737488355328&&Nat.ble (Nat.add n k) 9223372036854775807) (OP G m id off n c l k sz T) none
 | .sx id off e n=>(match m.t.get id with
  |some (.cells cs iF fh)=>b7 ((Nat.beq off 0&&Nat.beq e 0)&&(Nat.beq iF T&&(Nat.ble (Nat.mul (Nat.add n k) bytes) 140737488355328&&Nat.ble (Nat.add n k) 9223372036854775807))) (OQ m id n cs fh l k sz T) none| _=>none)
 |_=>none
def Ds:List al->Option (List UInt8)
 |[]=>some []
 | .i .u8 (.ofNat n)::l=>bif Nat.ble n 255 then(match Ds l with
  |some r=>some (UInt8.ofNat n::r)| none=>none)else none
 |_=>none
def Gt:al->List (al×al)->Option (Option al)
 |_,[]=>some none
 |k,(x,v)::l=>match Dl k x with
  |some true=>some (some v)| some false=>Gt k l| none=>none
def Gu(k v:al):List (al×al)->Option (List (al×al))
 |[]=>some [(k,v)]
 |(x,u)::l=>match Dl k x with
  |some true=>some ((k,v)::l)
  |some false=>(match Gu k v l with
   |some r=>some ((x,u)::r)| none=>none)
  |none=>none
abbrev lP:=Nat->List al->bo->Option (al×bo)
structure gE where
 P:Program
 E:Env
 G:GT
 pr:lP
def Wo(i:Option dU)(t:Nat)(x:Option al):Option (List al×Nat×Nat×(Nat->al)):=b4 i none λi=>b4 x none λv=>b7 (Nat.beq v.cells.length i.size) (some (v.cells,t,1,λid=>.p id 0)) none
def Wp(i:Option dU)(t:Nat):Option (List al×Nat×Nat×(Nat->al)):=b4 i none λi=>b4 (xG i.zero) none λz=>some (z,t,1,λid=>.p id 0)
def Wq(E:Env)(t len:Nat)(ps:Option (List (Nat×al))):Option (List al×Nat×Nat×(Nat->al)):=match E t,ps with
 |some { bK:=.slice e,.. },some vs=>b4 (E e) none λaJ=>b4 (xG aJ.zero) none λz=>
  b7 (Nat.ble (Nat.mul len aJ.size) 16777216&&Nat.blt 0 (Nat.mul len aJ.size)) (b4 (zf (λj=>some (j*aJ.size,aJ.size)) (Bi len z) vs) none λcs=>some (cs,e,len,λid=>.sl id 0 len len)) (b7 (Nat.beq len 0&&vs.isEmpty) (some ([],e,0,λid=>.sl id 0 0 0)) none)
 |_,_=>none
def Wr(E:Env)(t:Nat)(l c:Option al):Option (List al×Nat×Nat×(Nat->al)):=match E t,l,c with
 |some { bK:=.slice e,.. },some l,some c=>b4 (E e) none λaJ=>b4 l.nat none λn=>b4 c.nat none λk=>b4 (xG aJ.zero) none λz=>
  b7 (Nat.ble n k&&(Nat.ble (Nat.mul aJ.bytes k) 140737488355328&&Nat.ble k 9223372036854775807)) (some (Bi k z,e,k,λid=>.sl id 0 n k)) none
 |_,_,_=>none
def Bj(E:Env)(o:Oper)(aj:be al):Option (List al×Nat×Nat×(Nat->al)):=
 match o.op with
 | .box t x=>Wo (E t) t (dj aj x)| .alloc t=>Wp (E t) t| .buildSlice t len parts=>Wq E t len (Dp aj parts.toList)| .makeSlice t l c=>Wr E t (dj aj l) (dj aj c)| _=>none
def JO(i:Option dU)(m:bo)(x y:Option al):Option (al×bo):=b4 i none λi=>b4 x none λx=>b4 y none λv=>b7 (Nat.beq v.cells.length i.size) (xJ m x v.cells λm=>some (.t [],m)) none
def JP(i:Option dU)(m:bo):Option (al×bo):=match i with
 |some { bK:=.map k e,.. }=>Bh m (.map []) λid m=>some (.m id,m)
 |_=>none
def JQ(i:Option dU)(v:al):Bool:=match i,v with
 |some { bK:=.int k,.. },.i c7 _=>IntKind.ms k c7| some { bK:=.string,.. },.s _=>true| _,_=>false
def Ws(ok:Bool)(z:al)(r:Option al):al:=b7 ok (b4 r (.t [z,.b false]) λv=>.t [v,.b true]) (b4 r z λv=>v)
def OR(P:Program)(E:Env)(t:Nat)(m:bo)(x y:Option al)(ok:Bool):Option (al×bo):=match E t,x,y with
 |some { bK:=.map k e,.. },some (.m id),some y=>b7 (JQ (E k) y) (match m.t.get id with
  |some (.map es)=>b4 (Gt y es) none λr=>b4 (P.info? e) none λinf=>b4 inf.zero none λz=>b4 (Dj z) none λz=>some (Ws ok z r,m)
  |_=>none) none
 |_,_,_=>none
def Gv(E:Env)(t:Nat)(m:bo)(x y z:Option al):Option (al×bo):=match E t,x,y,z with
 |some { bK:=.map k e,.. },some (.m id),some y,some v=>b7 (JQ (E k) y) (match m.t.get id with
  |some (.map es)=>b4 (Gu y v es) none λes=>m.t.nl (some (.map es)) id λt=>some (.t [],⟨t,m.n⟩)
  |_=>none) none
 |_,_,_,_=>none
def JR(G:GT)(m:bo)(id off n:Nat):Option (al×bo):=wi G m.t (.p id off) n λl=>b4 (Ds l) none λl=>some (.s l,m)
def JS(Y:gE)(m:bo)(s d:Nat)(x:Option al):Option (al×bo):=match Y.E s,Y.E d,x with
 |some { bK:=.slice e,.. },some { bK:=.string,.. },some (.sl id off n _)=>b7 (Dq (Y.E e)) (JR Y.G m id off n) none| some { bK:=.slice e,.. },some { bK:=.string,.. },some (.sx id off _ n)=>b7 (Dq (Y.E e)) (JR Y.G m id off n) none| some { bK:=.slice e,.. },some { bK:=.string,.. },some .sn=>b7 (Dq (Y.E e)) (some (.s [],m)) none| _,_,_=>none
def Dt:al->Bool
 | .sn | .so | .sx ..=>true| .sl _ _ n c=>Nat.ble n c| _=>false
def OS(Y:gE)(m:bo)(ts:List Nat)(l:Option (List al)):Option (al×bo):=match ts,l with
 |[t,u],some [s,x]=>(match Y.E t with
  |some { bK:=.slice e,.. }=>b4 (Y.E e) none λaJ=>b7 (wk (Y.E u) aJ x) (Dr Y.G m.t x aJ.size λl=>b4 (sA x) none λk=>
    b7 (Nat.beq k 0) (b7 (Dt s) (some (s,m)) none) (b7 (l.all al.one) (zg Y.G m s l k aJ.size aJ.bytes e) none)) none
  |_=>none)
 |_,_=>none
def OT(Y:gE)(m:bo)(ts:List Nat)(l:Option (List al)):Option (al×bo):=match ts,l with
 |[t,u],some [.sl id off n c,.s q]=>(match Y.E t with
  |some { bK:=.slice e,.. }=>b4 (Y.E e) none λaJ=>b7 (Nat.beq aJ.size 1&&Nat.ble q.length n) (xJ m (.p id off) (q.map λb=>.i .u8 (.ofNat b.toNat)) λm=>some (.i .i64 (.ofNat q.length),m)) none
  |_=>none)
 |_,_=>none
def OU(Y:gE)(m:bo)(ts:List Nat)(l:Option (List al)):Option (al×bo):=match ts,l with
 |[t',it],some [.pn,.i .i64 (.ofNat 0)]=>some (.s [],m)
 |[t',it],some [.p id 0,.i .i64 (.ofNat n)]=>(match Y.E t',m.t.get id with
  |some { bK:=.pointer e,.. },some (.cells cs T fh)=>b4 (Y.E e) none λaJ=>
   b7 (Nat.beq aJ.size 1&&(Nat.beq T e&&Nat.blt 0 n)) (wi Y.G m.t (.p id 0) n λl=>b4 (Ds l) none λl=>b7 (Nat.ble n 9223372036854775807) (m.t.nl none id λt=>some (.s l,⟨t,m.n⟩)) none) none
  |_,_=>none)
 |_,_=>none
def Wt(Y:gE)(m:bo)(b:Builtin)(ts:List Nat)(l:Option (List al)):Option (al×bo):=match b with
 | .append=>OS Y m ts l| .copy=>OT Y m ts l| .unsafeString=>OU Y m ts l| _=>none
def OV(Y:gE)(m:bo)(o:Oper)(aj:be al):Option (al×bo):=
 match o.op with
 | .store t x y=>b4 o.dst (JO (Y.E t) m (dj aj x) (dj aj y)) λ_=>none
 | .makeMap t none=>JP (Y.E t) m
 | .makeMap t (some x)=>(match dj aj x with
  |some (.i _ _)=>JP (Y.E t) m| _=>none)
 | .lookup t x y ok=>OR Y.P Y.E t m (dj aj x) (dj aj y) ok| .mapUpdate t x y z=>b4 o.dst (Gv Y.E t m (dj aj x) (dj aj y) (dj aj z)) λ_=>none
 | .insert t x y z=>b4 o.dst (Gv Y.E t m (dj aj x) (dj aj y) (dj aj z)) λ_=>none
 | .convert s d x=>JS Y m s d (dj aj x)| .call { callee:=.builtin b,args,argTypes }=>Wt Y m b argTypes.toList (nW aj args.toList)| _=>none
def lg(E:Env)(op:Op):Nat:=match op with
 | .move _ | .assign _ | .pick .. | .binOp .. | .load .. | .nilCheck _ | .fieldAddr .. | .field .. | .indexAddr .. | .index .. | .build .. | .makeFunc .. | .extract .. | .unOp .. | .slice ..=>0| .alloc _ | .box .. | .buildSlice .. | .makeSlice ..=>1
 | .convert s d _=>(match E d with
  |some { bK:=.int _,.. }=>0| _=>2)
 | .call { callee:=.builtin .len,argTypes,.. }=>(match argTypes.toList with
  |[t]=>(match E t with
   |some { bK:=.map ..,.. }=>2| _=>0)
  |_=>2)
 | .call { callee:=.builtin .cap,.. }=>0| .call { callee:=.builtin .max,.. }=>0| .call { callee:=.builtin .min,.. }=>0| .call { callee:=.builtin .unsafeSliceData,.. }=>0| _=>2
def pG{R:Type}(dst:Option Nat)(aj:be al)(v:al)(K:be al->Option R):Option R:=b4 dst (K aj) λd=>OO v λv=>aj.nl (some v) d K
def Wu{R:Type}(call:al->List al->bo->Option (al×bo))(dst:Option Nat)(f:Option al)(l:Option (List al))(aj:be al)(m:bo)(K:be al->bo->Option R):Option R:=
 b4 f none λf=>b4 l none λl=>b4 (call f l m) none λr=>b7 (Nat.ble m.n r.2.n) (pG dst aj r.1 λaj=>K aj r.2) none
def Wv{R:Type}(dst:Option Nat)(r:Option (List al×Nat×Nat×(Nat->al)))(aj:be al)(m:bo)(K:be al->bo->Option R):Option R:=
 b4 dst none λd=>b4 r none λr=>uQ m r.1 r.2.1 λid m=>pG (some d) aj (r.2.2.2 id) λaj=>K aj m
def Ww{R:Type}(dst:Option Nat)(v:Option al)(aj:be al)(m:bo)(K:be al->bo->Option R):Option R:=
 b4 v none λv=>pG dst aj v λaj=>K aj m
def Wx{R:Type}(dst:Option Nat)(n:Nat)(r:Option (al×bo))(aj:be al)(K:be al->bo->Option R):Option R:=
 b4 r none λr=>b7 (Nat.ble n r.2.n) (pG dst aj r.1 λaj=>K aj r.2) none
def Wy{R:Type}(Y:gE)(k:Nat)(o:Oper)(aj:be al)(m:bo)(K:be al->bo->Option R):Option R:=match k with
 |0=>Ww o.dst (uP Y.P Y.E Y.G m.t o.op aj) aj m K| 1=>Wv o.dst (Bj Y.E o aj) aj m K| _=>Wx o.dst m.n (OV Y m o aj) aj K
def zh{R:Type}(Y:gE)(call:al->List al->bo->Option (al×bo))(o:Oper)(aj:be al)(m:bo)(K:be al->bo->Option R):Option R:=
 match o.op with
 | .call { callee:=.value f,args,.. }=>Wu call o.dst (dj aj f) (nW aj args.toList) aj m K| op=>Wy Y (lg Y.E op) o aj m K
def Bk{R:Type}(o:Oper)(aj:be al)(K:be al->Option R):Option R:=match o.dst with
 |none=>K aj| some d=>aj.nl (some (.t [])) d K
def uR(ops:List Oper)(o:Oper)(aj:be al):Option Bool:=match o.guard with
 |none=>some true
 |some (j,b)=>match(wh ops j).bind (·.dst)with
  |none=>none
  |some d=>match aj.get d with
   |some (.b c)=>some (c == b)| some (.t _)=>some false| _=>none
def Du(Y:gE)(call:al->List al->bo->Option (al×bo))(ops:List Oper)(l:List Oper):be al->bo->Option (be al×bo):=
 @List.rec Oper (λ_=>be al->bo->Option (be al×bo)) (λaj m=>some (aj,m)) (λo _ bc aj m=>b4 (uR ops o aj) none λw=>b7 w (zh Y call o aj m bc) (Bk o aj λaj=>bc aj m)) l
def Bl(E:Env)(ops:List Oper)(i:Nat):Nat:=b4 (wh ops i) 2 λo=>lg E o.op
def xK(E:Env)(ops:List Oper):List Nat:=(List.range ops.length).filter λi=>Nat.beq (Bl E ops i) 2
def Dv(es gL:List Nat)(i:Nat):Nat:=(es.filter λe=>(gL.getD i 0).testBit e).length
def A5(es gL:List Nat)(i:Nat):Nat:=(es.filter λe=>!(gL.getD e 0).testBit i).length
def Wz(E:Env)(ops:List Oper)(es gL:List Nat)(j:Nat):List (Nat×Nat):=((List.range ops.length).filter λi=>!Nat.beq (Bl E ops i) 2&&Nat.beq (Dv es gL i) j).map λi=>(i,Bl E ops i)
def WA(E:Env)(ops:List Oper)(es gL:List Nat):List Nat->Nat->List (Nat×Nat)
 |[],j=>Wz E ops es gL j| e::l,j=>Wz E ops es gL j++(e,2)::WA E ops es gL l (j+1)
def Gw(E:Env)(ops:List Oper):List (Nat×Nat):=WA E ops (xK E ops) (kT ops) (xK E ops) 0
def wm(ops:List Oper):List (Nat×Nat)->Nat->Bool
 |[],k=>Nat.beq k (2^ops.length-1)
 |(i,_)::l,k=>!k.testBit i&&(match ops[i]? with
  |some o=>E0 o k&&wm ops l (k ||| 2^i)| none=>false)
def JT(gL:List Nat):List Nat->Bool
 |[]=>true| x::l=>l.all (λy=>(gL.getD y 0).testBit x)&&JT gL l
def WB(E:Env)(ops:List Oper):Bool:=E3 ops&&(wm ops (Gw E ops) 0&&(JT (kT ops) (xK E ops)&&(((Gw E ops).filter λr=>Nat.beq r.2 2).map (·.1) == xK E ops)))
mutual
def Dw:al->al->Bool
 | .b x,.b w=>x == w| .i k x,.i l w=>IntKind.ms k l&&oG x w| .s x,.s w=>qw x w| .pn,.pn=>true| .p i x,.p j w=>Nat.beq i j&&Nat.beq x w| .g i x,.g j w=>Nat.beq i j&&Nat.beq x w| .sn,.sn=>true| .sl i x n c,.sl j w m d=>Nat.beq i j&&(Nat.beq x w&&(Nat.beq n m&&Nat.beq c d))| .sx i x n c,.sx j w m d=>Nat.beq i j&&(Nat.beq x w&&(Nat.beq n m&&Nat.beq c d))| .gs i x n c,.gs j w m d=>Nat.beq i j&&(Nat.beq x w&&(Nat.beq n m&&Nat.beq c d))| .mn,.mn=>true| .m i,.m j=>Nat.beq i j| .f g l r,.f h m s=>Nat.beq g h&&(wo l m&&wo r s)| .y i,.y j=>Nat.beq i j| .fn,.fn=>true| .ni,.ni=>true| .t l,.t m=>wo l m| .a l,.a m=>wo l m| _,_=>false
def wo:List al->List al->Bool
 |[],[]=>true| x::l,w::m=>Dw x w&&wo l m| _,_=>false
end
inductive qx where
 |made(i id:Nat)(l:List al)(T:Nat)| load (i:Nat) (o:Oper) (aj:be al) (v:al)
def oI(Y:gE)(call:al->List al->bo->Option (al×bo))(ops:List Oper):List (Nat×Nat)->be al->bo->List bo->List qx->Option (be al×bo×List bo×List qx)
 |[],aj,m,S,A=>some (aj,m,m::S,A)|(i,k)::a6,aj,m,S,A=>b4 (wh ops i) none λo=>b4 (uR ops o aj) none λw=>b7 (Nat.beq (lg Y.E o.op) k) (b7 w (b7 (Nat.beq k 0) (b4 (uP Y.P Y.E Y.G m.t o.op aj) none λv=>pG o.dst aj v λc4=>oI Y call ops a6 c4 m S (b7 (p1 o.op) (.load i o aj v::A) A)) (b7 (Nat.beq k 1) (b4 o.dst none λd=>b4 (Bj Y.E o aj) none λr=>uQ m r.1 r.2.1 λid m=>pG (some d) aj (r.2.2.2 id) λaj=>oI Y call ops a6 aj m S (.made i id r.1 r.2.1::A)) (zh Y call o aj m λaj m'=>oI Y call ops a6 aj m' (m::S) A))) (Bk o aj λaj=>oI Y call ops a6 aj m (b7 (Nat.beq k 2) (m::S) S) A)) none
def Dx(S:List bo)(lo hi:Nat)(p:bo->Bool):Bool:=((S.drop lo).take (hi+1-lo)).all p
def OW(Y:gE)(o:Oper)(aj:be al)(v:al)(m:bo):Bool:=match uP Y.P Y.E Y.G m.t o.op aj with
 |some u=>Dw u v| none=>false
def OX(id:Nat)(l:List al)(T:Nat)(m:bo):Bool:=Nat.blt id m.n&&(match m.t.get id with
 |some (.cells cs iF fh)=>Nat.beq iF T&&(Nat.beq fh l.length&&(match cs.Di 0 l.length (λdg=>some dg)with
  |some dg=>wo l dg| none=>false))
 |_=>false)
def OY(Y:gE)(es gL:List Nat)(S:List bo):qx->Bool
 | .made i id l T=>Dx S (Dv es gL i) (A5 es gL i) (OX id l T)| .load i o aj v=>Dx S (Dv es gL i) (A5 es gL i) (OW Y o aj v)
def OZ(Y:gE)(call:al->List al->bo->Option (al×bo))(ops:List Oper)(aj:be al)(m:bo):Option (be al×bo):=
 b7 (WB Y.E ops) (match oI Y call ops (Gw Y.E ops) aj m [] []with
  |none=>none| some (aj,m,S,A)=>b7 (A.all (OY Y (xK Y.E ops) (kT ops) S.reverse)) (some (aj,m)) none) none
def Dy{R:Type}:List Nat->List al->be al->(be al->Option R)->Option R
 |[],[],aj,K=>K aj| t::ps,v::vs,aj,K=>aj.nl (some v) t λaj=>Dy ps vs aj K
 |_,_,_,_=>none
def zi(Y:gE)(aj:be al)(m:be fW):List ResultVar->Option (List al)
 |[]=>some []
 | .tmp t::l=>(match aj.get t,zi Y aj m l with
  |some v,some vs=>some (v::vs)| _,_=>none)
 | .cell t ty::l=>(match aj.get t,Y.E ty,zi Y aj m l with
  |some x,some i,some vs=>(match wi Y.G m x i.size λl=>Dm i.bK.agg l with
   |some v=>some (v::vs)| none=>none)
  |_,_,_=>none)
abbrev pH:=sY×be al×bo
abbrev tz:=Bool->Nat->Code->be al->bo->Option pH
def WC:List al->al
 |[v]=>v| vs=>.t vs
def JU(Y:gE)(aj:be al)(m:bo)(a2:List ResultVar):Option (al×bo):=b4 (zi Y aj m.t a2) none λvs=>some (WC vs,m)
def WD(Y:gE)(r:Option pH)(a2:List ResultVar):Option (al×bo):=match r with
 |some (.normal,aj,m)=>JU Y aj m a2| some (.ret,aj,m)=>JU Y aj m a2| _=>none
def JV(Y:gE)(rec:tz)(g:Nat)(args:List al)(m:bo):Option (al×bo):=
 b4 (Y.P.funcs[g]?) none λfn=>b4 fn.body none λc=>b7 (Nat.ble args.length fn.ntmps) (be.xF args (be.bare 12) 0 λaj=>WD Y (rec true fn.ntmps c aj m) fn.results.toList) none
def sB(Y:gE)(rec:tz)(g:Nat)(args:List al)(m:bo):Option (al×bo):=b4 (Y.pr g args m) (JV Y rec g args m) some
def O0(l:Nat)(e:Option fW)(jump:Option Code)(m:bo):Option (al×bo):=match e with
 |some (.loop true n mN ps fm body)=>m.t.nl (some (b4 jump (.loop false n mN ps fm body) λc=>.done c n mN ps fm body)) l λt=>some (.b jump.isNone,⟨t,m.n⟩)
 |_=>none
def WE(l:Nat)(r:Option pH):Option (al×bo):=b4 r none λr=>O0 l (r.2.2.t.get l) (Cx r.1) r.2.2
def O1(rec:tz)(l n:Nat)(body:Code)(e:Option fW)(aj:be al)(m:bo):Option (al×bo):=match e with
 |some (.loop false fA mN ps fm O2)=>m.t.nl (some (.loop true fA mN ps fm O2)) l λt=>WE l (rec false n body aj ⟨t,m.n⟩)
 |_=>none
def WG(rec:tz)(l n:Nat)(body:Code)(r:Option pH):Option (al×bo):=match r with
 |some (.normal,aj,m)=>O1 rec l n body (m.t.get l) aj m| _=>none
def O3(rec:tz)(l:Nat)(args:List al)(m:bo):Option (al×bo):=match m.t.get l with
 |some (.loop false n mN ps fm body)=>Dy ps args mN λaj=>WG rec l n body (rec false n fm aj m)
 |_=>none
def JW(Y:gE)(rec:tz)(f:al)(args:List al)(m:bo):Option (al×bo):=match f with
 | .f g l r=>sB Y rec g (l++(args++r)) m| .y l=>O3 rec l args m| _=>none
def O4:Code->Option sY
 | .exit id=>some (.exit id)| .goto l=>some (.goto l)| .ret=>some .ret| _=>none
def Gx(r:Option pH)(k:be al->bo->Option pH):Option pH:=match r with
 |some (.normal,aj,m)=>k aj m| r=>r
def WH(id:Nat)(r:Option pH):Option pH:=match r with
 |some (.exit j,aj,m)=>b7 (Nat.beq j id) (some (.normal,aj,m)) (some (.exit j,aj,m))| r=>r
def JX(r:Option (be al×bo)):Option pH:=b4 r none λr=>some (.normal,r.1,r.2)
def WI(v:Option al)(x y:Option pH):Option pH:=match v with
 |some (.b b)=>b7 b x y| _=>none
def Gy(rec:tz)(iC:Bool)(n:Nat)(c:Code)(k:Nat):Code->be al->bo->Option pH:=@Nat.rec (λ_=>Code->be al->bo->Option pH) (λ_ _ _=>none)
 (λ_ bc x aj m=>match rec iC n x aj m with
  |some (.goto l,aj,m)=>b4 (findLabel c l) none λa6=>bc a6 aj m
  |r=>r) k
def WJ(l:Nat)(aj:be al)(r:Option (al×bo)):Option pH:=b4 r none λr=>match r.2.t.get l with
 |some (.loop false ..)=>r.2.t.nl none l λt=>some (.normal,aj,⟨t,r.2.n⟩)
 |some (.done c ..)=>b4 (O4 c) none λex=>r.2.t.nl none l λt=>some (ex,aj,⟨t,r.2.n⟩)
 |_=>none
def O5(Y:gE)(rec:tz)(iC:Bool)(n:Nat)(v:Option al)(ps:List Nat)(fm body:Code)(aj:be al)(m:bo):Option pH:=match iC,v with
 |true,some (.f g [] r)=>Bh m (.loop false n aj ps fm body) λl m=>WJ l aj (JV Y rec g (.y l::r) m)
 |_,_=>none
def O6(Y:gE)(f:Nat)(rec:tz):tz:=λiC n c aj m=>match c with
 | .skip=>some (.normal,aj,m)| .label _=>some (.normal,aj,m)| .ret=>some (.ret,aj,m)| .exit id=>some (.exit id,aj,m)| .goto l=>some (.goto l,aj,m)| .seq x y=>Gx (rec iC n x aj m) (rec iC n y)| .block id c=>WH id (rec iC n c aj m)| .cond c x y=>WI (dj aj c) (rec iC n x aj m) (rec iC n y aj m)| .loop c=>Gx (rec iC n c aj m) (rec iC n (.loop c))| .region _ ops false=>JX (Du Y (JW Y rec) ops.toList ops.toList aj m)| .region _ ops true=>JX (OZ Y (JW Y rec) ops.toList aj m)| .scope c=>Gy rec iC n c f c aj m| .rangeFunc x ps fm body=>O5 Y rec iC n (dj aj x) ps.toList fm body aj m| .refuse _=>none
def jx(Y:gE)(f:Nat):tz:=@Nat.rec (λ_=>tz) (λ_ _ _ _ _=>none) (λf bc=>O6 Y f bc) f
end
section
variable{α R:Type}
def ke(b:Bool)(x y:α):b7 b x y=bif b then x else y:=by cases b<;>rfl
def cL{o:Option α}{f:α->Option R}{r:R}(h:b4 o none f=some r):∃ v,o=some v/\f v=some r:=by
 cases o with
 |none=>cases h| some v=>exact⟨v,rfl,h⟩
def gF{b:Bool}{x:Option α}{r:α}(h:b7 b x none=some r):b=true/\x=some r:=by
 cases b with
 |true=>exact⟨rfl,h⟩| false=>cases h
def zj{b:Bool}{x:Option α}{r:α}(h:b7 b none x=some r):b=false/\x=some r:=by
 cases b with
 |false=>exact⟨rfl,h⟩| true=>cases h
def be.Gz(x:Option α)(l r:be α)(k:Nat):(be.node x l r).get k=bif Nat.beq k 0 then x else bif Nat.beq (k%2) 1 then l.get (k/2)else r.get (k/2-1):=by show b7 _ _ (b7 _ _ _)=_;rw[ke,ke];rfl
def be.oJ(v:Option α):∀ (t:be α) (k:Nat),∃ e9:be α,(∀ {R:Type} (K:be α->R),t.nl v k K=K e9)/\∀ j x,e9.get j=some x->(j=k/\v=some x)\/(j≠k/\t.get j=some x)
 | .nil,k=>by
  cases af:Nat.beq k 0 with
  |true=>
   have:=cM af;subst this;refine⟨.node v .nil .nil,λK=>rfl,λj x h=>?_⟩;rw[be.Gz]at h;cases ak:Nat.beq j 0 with
   |true=>rw[ak]at h;exact .inl ⟨cM ak,h⟩
   |false=>
    rw[ak]at h;cases hm:Nat.beq (j%2) 1<;>(rw[hm]at h;cases h)
  |false=>refine⟨.nil,λK=>?_,λj x h=>by cases h⟩;show b7 _ _ _=_;rw[ke,af];rfl
 | .node x l r,k=>by
  cases af:Nat.beq k 0 with
  |true=>
   have:=cM af;subst this;refine⟨.node v l r,λK=>rfl,λj y h=>?_⟩;rw[be.Gz]at h |-;cases ak:Nat.beq j 0 with
   |true=>rw[ak]at h;exact .inl ⟨cM ak,h⟩| false=>rw[ak]at h;exact .inr ⟨(λe=>by subst e;cases ak),h⟩
  |false=>
   have dY:k≠0:=λe=>by subst e;cases af
   cases hm:Nat.beq (k%2) 1 with
   |true=>
    have jK:=cM hm;obtain⟨dg,U,aa⟩:=be.oJ v l (k/2);refine⟨.node x dg r,λK=>?_,λj y h=>?_⟩;·show b7 _ _ (b7 _ _ _)=_;rw[ke,ke,af];show(bif Nat.beq (k%2) 1 then _ else _)=_;rw[hm];exact U _
    ·rw[be.Gz]at h |-;cases ak:Nat.beq j 0 with
     |true=>rw[ak]at h;exact .inr ⟨λe=>by have:=cM ak;omega,h⟩
     |false=>
      rw[ak]at h;have af1:j≠0:=λe=>by subst e;cases ak
      cases tA:Nat.beq (j%2) 1 with
      |true=>
       have af2:=cM tA;rw[tA]at h;rcases aa _ _ h with⟨e,ai⟩ | ⟨e,ai⟩;·exact .inl ⟨by omega,ai⟩
       ·exact .inr ⟨λa4=>e (by rw[a4]),ai⟩
      |false=>rw[tA]at h;exact .inr ⟨(λe=>by subst e;rw[hm]at tA;cases tA),h⟩
   |false=>
    have jK:k%2≠1:=λe=>by rw[e]at hm;cases hm
    obtain⟨r2,U,aa⟩:=be.oJ v r (k/2-1);refine⟨.node x l r2,λK=>?_,λj y h=>?_⟩;·show b7 _ _ (b7 _ _ _)=_;rw[ke,ke,af];show(bif Nat.beq (k%2) 1 then _ else _)=_;rw[hm];exact U _
    ·rw[be.Gz]at h |-;cases ak:Nat.beq j 0 with
     |true=>rw[ak]at h;exact .inr ⟨λe=>by have:=cM ak;omega,h⟩
     |false=>
      rw[ak]at h;have af1:j≠0:=λe=>by subst e;cases ak
      cases tA:Nat.beq (j%2) 1 with
      |true=>rw[tA]at h;exact .inr ⟨(λe=>by subst e;rw[hm]at tA;cases tA),h⟩
      |false=>
       have af2:j%2≠1:=λe=>by rw[e]at tA;cases tA
       rw[tA]at h;rcases aa _ _ h with⟨e,ai⟩ | ⟨e,ai⟩;·exact .inl ⟨by omega,ai⟩
       ·exact .inr ⟨λa4=>e (by rw[a4]),ai⟩
def be.Dz(t:be α):∀ (n off:Nat) (K:List α->Option R) (r:R),t.Di off n K=some r->∃ l,l.length=n/\(∀ i,i<n->t.get (off+i)=l[i]?)/\K l=some r
 |0,off,K,r,h=>⟨[],rfl,λi hi=>by omega,h⟩
 |n+1,off,K,r,h=>by
  have bh:b4 (t.get off) none (λv=>t.Di (off+1) n λl=>K (v::l))=some r:=h;obtain⟨v,ai,bh⟩:=cL bh;obtain⟨l,U,aa,ae⟩:=be.Dz t n (off+1) _ r bh;refine⟨v::l,by simp[U],λi hi=>?_,ae⟩;cases i with
  |zero=>simpa using ai| succ i=>have:=aa i (by omega);rw[show off+(i+1)=off+1+i by omega,this];simp
def be.xL:∀ (l:List α) (t:be α) (off:Nat),∃ e9:be α,(∀ {R:Type} (K:be α->R),be.xF l t off K=K e9) /\ ∀ j x,e9.get j=some x->(off<=j/\l[j-off]?=some x)\/((j<off\/off+l.length<=j)/\t.get j=some x)
 |[],t,off=>⟨t,λK=>rfl,λj x h=>.inr ⟨by simp;omega,h⟩⟩
 |v::l,t,off=>by
  obtain⟨t1,U,aa⟩:=be.oJ (some v) t off;obtain⟨t2,ae,aR⟩:=be.xL l t1 (off+1);refine⟨t2,λK=>(U _).trans (ae K),λj x h=>?_⟩;rcases aR j x h with⟨aV,aX⟩ | ⟨aV,aX⟩;·exact .inl ⟨by omega,by rw[show j-off=(j-(off+1))+1 by omega];simpa using aX⟩
  ·rcases aa j x aX with⟨rfl,e⟩ | ⟨e,bq⟩
   ·exact .inl ⟨b1 _,by simp at e;simp[e]⟩
   ·exact .inr ⟨by simp only[dL];omega,bq⟩
end
def O7(n:Nat)(K:Nat->R):rC n K=K n:=rfl
def af3(n:Int)(K:Int->R):Wm n K=K n:=by cases n<;>rfl
def af4(b:Bool)(K:Bool->R):Wn b K=K b:=by cases b<;>rfl
def af5(v:al)(K:al->R):OO v K=K v:=by
 cases v with
 |b x=>exact af4 x λx=>K (.b x)
 |i k n=>exact af3 n λn=>K (.i k n)
 |_=>rfl
def O8(a b:Nat):Nat.beq a b=decide (a=b):=by
 by_cases h:a=b
 ·subst h;simp
 ·rw[gS h];simp[h]
def JY(a b:Nat):Nat.ble a b=decide (a<=b):=by
 by_cases h:a<=b
 ·rw[AR h];simp[h]
 ·cases ag:Nat.ble a b with
  |false=>simp[h]| true=>exact absurd (bN ag) h
def zk(a b:Int):oG a b=decide (a=b):=by
 cases a<;>cases b<;>simp only[oG,O8]<;>simp
 omega
def JZ(a b:Int):Bd a b=decide (a<=b):=by
 cases a<;>cases b<;>simp only[Bd]
 ·rw[JY];simp only[CN];exact Int.ofNat_le.symm
 ·symm;simp only[oY];rename_i a b;have:=Int.negSucc_lt_zero b;have:(0:Int)<=Int.ofNat a:=Db a;omega
 ·symm;simp only[e7];rename_i a b;have:=Int.negSucc_lt_zero a;have:(0:Int)<=Int.ofNat b:=Db b;omega
 ·rw[JY];simp only[CN,Int.negSucc_eq];omega
def af6(a b:Int):Ch a b=decide (a<b):=by
 unfold Ch;rw[JZ];by_cases h:a<b
 ·simp[h]
 ·simp[h];omega
def af7(op:BinOp)(x y:Int):Ot op x y=wY op x y:=by cases op<;>simp only[Ot,wY,zk,af6,JZ]
def zl(k:IntKind)(n:Int):wg k n=k.wrap n:=by
 cases n with
 |negSucc n=>rfl
 |ofNat n=>
  simp only[wg];cases h:Nat.ble n (JI k)with
  |false=>rfl
  |true=>
   have bh:=bN h;simp only[bg];cases k<;>simp only[JI]at bh<;>simp only[IntKind.wrap,IntKind.signed,IntKind.bits]<;>simp<;>omega
def af8(a b:Int):VY a b=a+b:=by cases a<;>cases b<;>rfl
def af9(a b:Int):Ou a b=a-b:=by
 cases a<;>cases b<;>try rfl
 rename_i a b;simp only[Ou];cases h:Nat.ble b a with
 |false=>rfl| true=>have:=bN h;show((a-b:Nat):Int)=(a:Int)-b;omega
def aga(a b:Int):VZ a b=a*b:=by cases a<;>cases b<;>rfl
def agb(a b:Int):V0 a b=a.tdiv b:=by cases a<;>cases b<;>rfl
def agc(a b:Int):V1 a b=a.tmod b:=by cases a<;>cases b<;>rfl
def agd(a:Int)(j:Nat):V2 a j=a*2^j:=by
 cases a with
 |negSucc a=>rfl| ofNat a=>show((a*2^j:Nat):Int)=(a:Int)*2^j;simp
def age(a:Int)(j:Nat):V3 a j=a.fdiv (2^j):=by
 cases a with
 |negSucc a=>rfl| ofNat a=>show((a/2^j:Nat):Int)=(a:Int).fdiv (2^j);rw[show(2:Int)^j=((2^j:Nat):Int) by simp];rw[IB _ (Db _)];simp
def WK(j b:Nat):(bif Nat.ble j b then j else b)=min j b:=by
 rw[JY];by_cases h:j<=b
 ·simp[h,Ey h]
 ·simp[h];omega
def zm{a:Nat}(h:a<=18446744073709551615):(BitVec.ofInt IntKind.u64.bits (Int.ofNat a)).toNat=a:=by show(BitVec.ofInt 64 (a:Int)).toNat=a;rw[BitVec.ofInt_natCast,Nj];omega
def wrap64{a:Nat}(h:a<=18446744073709551615):IntKind.u64.wrap (a:Int)=Int.ofNat a:=by show IntKind.u64.wrap (.ofNat a)=_;rw[<-zl];simp only[wg,JI,AR h,bg]
def J0{op:BinOp}{k:IntKind}{x y r:Int}(h:Dk op k x y=some r):tQ op k x y=some r:=by
 unfold Dk at h;split at h
 ·rename_i a b;cases aN:(Nat.ble a 18446744073709551615&&Nat.ble b 18446744073709551615)with
  |false=>rw[aN]at h;cases h
  |true=>
   rw[aN]at h;rw[cA]at aN;have ax:=bN aN.1;have ag:=bN aN.2;have uS:a<2^64:=by omega
   have J1:b<2^64:=by omega
   simp only[bg]at h;split at h;·rw[<-h];simp only[tQ,IE,zm ax,zm ag];rw[wrap64 (by have:=Nat.and_lt_two_pow a J1;omega)];rfl
   ·rw[<-h];simp only[tQ,BitVec.toNat_or,zm ax,zm ag];rw[wrap64 (by have:=Nat.or_lt_two_pow uS J1;omega)];rfl
   ·rw[<-h];simp only[tQ,BitVec.toNat_xor,zm ax,zm ag];rw[wrap64 (by have:=Nat.xor_lt_two_pow uS J1;omega)];rfl
   ·rw[<-h];have an:(~~~(BitVec.ofInt IntKind.u64.bits (Int.ofNat b))).toNat=18446744073709551615-b:=by rw[BitVec.toNat_not,zm ag];rfl
    simp only[tQ,IE,zm ax,an];rw[wrap64 (by have:=Nat.and_lt_two_pow a (show 18446744073709551615-b<2^64 by omega);omega)];rfl
   ·cases h
 ·exact h
def agf(a b:UInt8):Ov a b=decide (a=b):=by unfold Ov;rw[O8];simp only[CN];exact UInt8.toNat_inj
def Bm:∀ (l m:List UInt8),qw l m=decide (l=m)
 |[],[]=>by simp[qw]
 |[],_::_=>by simp[qw]
 |_::_,[]=>by simp[qw]
 |a::l,b::m=>by
  simp only[qw,agf,Bm l m];by_cases h:a=b;·subst h;simp
  ·simp[h]
def zn{α:Type}:∀ (l:List α) (n:Nat),wh l n=l[n]?
 |[],n=>by simp[wh]
 |v::l,n=>by
  unfold wh;cases n with
  |zero=>rfl| succ n=>exact(zn l n).trans (by simp)
def J2{α:Type}:∀ (l:List α) (n:Nat),Bf l n=l.drop n
 |[],n=>by simp[Bf]
 |v::l,n=>by
  unfold Bf;cases n with
  |zero=>rfl| succ n=>exact(J2 l n).trans (by simp)
def WL{n:Nat}{l r:List al}(h:Be n l=some r):r=l.take n/\r.length=n:=by
 induction n generalizing l r with
 |zero=>simp[Be]at h;subst h;simp
 |succ n bc=>
  cases l with
  |nil=>simp[Be]at h
  |cons v l=>
   simp only[Be]at h;split at h;·rename_i q az;obtain⟨rfl,aa⟩:=bc az;cases h;simp at aa |-;omega
   ·cases h
structure Loc where
 b:Nat
 o:Nat
 c:Nat
abbrev bH:=Nat->Option Loc
def bH.le(D br:bH):Prop:=∀ i a,D i=some a->br i=some a
mutual
def aU(D:bH):al->Value->Prop
 | .b x,u=>u=.bool x| .i k n,u=>u=.int k n| .s l,u=>u=.string ⟨l.toArray⟩| .pn,u=>u=.pointer none| .p id off,u=>∃ a,D id=some a/\u=.pointer (some ⟨a.b,a.o+off,none⟩)| .g n off,u=>u=.pointer (some ⟨n,off,none⟩)| .sn,u=>u=.slice none 0 0| .sl id off n c,u=>∃ a,D id=some a/\u=.slice (some ⟨a.b,a.o+off,none⟩) n c| .sx id off e n,u=>∃ a,D id=some a/\e+n<=a.c/\u=.slice (some ⟨a.b,a.o+off,none⟩) n (a.c-e)| .gs n off k c,u=>u=.slice (some ⟨n,off,none⟩) k c| .so,u=>∃ a c,u=.slice (some a) 0 c| .mn,u=>u=.map none| .m id,u=>∃ a,D id=some a/\u=.map (some a.b)| .f g l r,u=>∃ vs ws,bM D l vs/\bM D r ws/\u=.func (.func g) vs.toArray ws.toArray| .y id,u=>∃ a,D id=some a/\u=.func (.yield a.b) #[] #[]| .fn,u=>u=.nilFunc| .ni,u=>u=.nilIface| .Gl t v,u=>∃ x,aU D v x/\u=.iface t x| .t l,u=>∃ vs,bM D l vs/\u=.tuple vs.toArray| .a l,u=>∃ vs,bM D l vs/\u=.agg vs.toArray
def bM(D:bH):List al->List Value->Prop
 |[],us=>us=[]| v::l,us=>∃ x xs,aU D v x/\bM D l xs/\us=x::xs
end
section
variable{D br:bH}
mutual
def aU.mono(h:D.le br):∀ {v:al} {u:Value},aU D v u->aU br v u
 | .b _,_,ai | .i _ _,_,ai | .s _,_,ai | .pn,_,ai | .g _ _,_,ai | .sn,_,ai | .gs ..,_,ai | .so,_,ai | .mn,_,ai | .fn,_,ai | .ni,_,ai=>by simpa only[aU]using ai
 | .p ..,_,ai | .sl ..,_,ai | .m _,_,ai | .y _,_,ai=>by simp only[aU]at ai |-;obtain⟨a,U,aa⟩:=ai;exact⟨a,h _ _ U,aa⟩
 | .sx ..,_,ai=>by simp only[aU]at ai |-;obtain⟨a,U,aa⟩:=ai;exact⟨a,h _ _ U,aa⟩
 | .f _ l r,_,ai=>by simp only[aU]at ai |-;obtain⟨vs,ws,U,aa,ae⟩:=ai;exact⟨vs,ws,bM.mono h U,bM.mono h aa,ae⟩
 | .Gl _ v,_,ai=>by simp only[aU]at ai |-;obtain⟨x,U,aa⟩:=ai;exact⟨x,aU.mono h U,aa⟩
 | .t l,_,ai=>by simp only[aU]at ai |-;obtain⟨x,U,aa⟩:=ai;exact⟨x,bM.mono h U,aa⟩
 | .a l,_,ai=>by simp only[aU]at ai |-;obtain⟨x,U,aa⟩:=ai;exact⟨x,bM.mono h U,aa⟩
def bM.mono(h:D.le br):∀ {l:List al} {us:List Value},bM D l us->bM br l us
 |[],_,ai=>by simpa only[bM]using ai
 |v::l,_,ai=>by simp only[bM]at ai |-;obtain⟨x,xs,U,aa,ae⟩:=ai;exact⟨x,xs,aU.mono h U,bM.mono h aa,ae⟩
end
def bM.nil:bM D [] []:=by simp[bM]
def bM.cons{v:al}{l:List al}{x:Value}{xs:List Value}(h:aU D v x)(k:bM D l xs):bM D (v::l) (x::xs):=by simp only[bM];exact⟨x,xs,h,k,rfl⟩
def bM.kf{v:al}{l:List al}{us:List Value}(h:bM D (v::l) us):∃ x xs,aU D v x/\bM D l xs/\us=x::xs:=by simpa only[bM]using h
def bM.nm{us:List Value}(h:bM D [] us):us=[]:=by simpa only[bM]using h
def bM.len:∀ {l:List al} {us:List Value},bM D l us->us.length=l.length
 |[],_,h=>by rw[h.nm];rfl
 |v::l,_,h=>by obtain⟨x,xs,U,aa,rfl⟩:=h.kf;simp[bM.len aa]
def bM.get:∀ {l:List al} {us:List Value} {i:Nat} {v:al},bM D l us->l[i]?=some v->∃ x,us[i]?=some x/\aU D v x
 |[],_,i,v,h,hi=>by simp at hi
 |w::l,_,i,v,h,hi=>by
  obtain⟨x,xs,U,aa,rfl⟩:=h.kf;cases i with
  |zero=>simp at hi;subst hi;exact⟨x,rfl,U⟩| succ i=>simpa using bM.get aa (by simpa using hi)
def bM.O9:∀ {l:List al} {us:List Value},us.length=l.length->(∀ (i:Nat) (v:al),l[i]?=some v->∃ x,us[i]?=some x/\aU D v x)->bM D l us
 |[],us,aw,h=>by have:us=[]:=nB (by simpa using aw);subst this;exact .nil
 |w::l,us,aw,h=>by
  cases us with
  |nil=>simp at aw| cons x xs=>obtain⟨y,aG,U⟩:=h 0 w rfl;simp at aG;subst aG;exact .cons U (bM.O9 (by simpa using aw) λi v hi=>by simpa using h (i+1) v (by simpa using hi))
def bM.append:∀ {l:List al} {us:List Value} {m:List al} {ws:List Value},bM D l us->bM D m ws->bM D (l++m) (us++ws)
 |[],_,m,ws,h,k=>by rw[h.nm];exact k
 |w::l,_,m,ws,h,k=>by obtain⟨x,xs,U,aa,rfl⟩:=h.kf;exact .cons U (bM.append aa k)
def bM.take:∀ {l:List al} {us:List Value} (n:Nat),bM D l us->bM D (l.take n) (us.take n)
 |[],_,n,h=>by rw[h.nm];simpa using bM.nil
 |w::l,_,n,h=>by
  obtain⟨x,xs,U,aa,rfl⟩:=h.kf;cases n with
  |zero=>simpa using bM.nil| succ n=>simpa using bM.cons U (bM.take n aa)
def bM.drop:∀ {l:List al} {us:List Value} (n:Nat),bM D l us->bM D (l.drop n) (us.drop n)
 |[],_,n,h=>by rw[h.nm];simpa using bM.nil
 |w::l,us,n,h=>by
  cases n with
  |zero=>simpa using h| succ n=>obtain⟨x,xs,U,aa,rfl⟩:=h.kf;simpa using bM.drop n aa
def bM.l7{l:List al}{us:List Value}(h:bM D l us):∀ n,bM D (Bi n l) ((List.replicate n us).flatten)
 |0=>by simpa[Bi]using bM.nil
 |n+1=>by rw[yZ,Nk];exact h.append (bM.l7 h n)
def aU.bool{x:Bool}{u:Value}(h:aU D (.b x) u):u=.bool x:=by simpa only[aU]using h
def aU.int{k:IntKind}{n:Int}{u:Value}(h:aU D (.i k n) u):u=.int k n:=by simpa only[aU]using h
def aU.str{l:List UInt8}{u:Value}(h:aU D (.s l) u):u=.string ⟨l.toArray⟩:=by simpa only[aU]using h
def aU.ptr{id off:Nat}{u:Value}(h:aU D (.p id off) u):∃ a,D id=some a/\u=.pointer (some ⟨a.b,a.o+off,none⟩):=by simpa only[aU]using h
def aU.qy{id off:Nat}{u:Value}(h:aU D (.g id off) u):u=.pointer (some ⟨id,off,none⟩):=by simpa only[aU]using h
def aU.sC{id off n c:Nat}{u:Value}(h:aU D (.sl id off n c) u):∃ a,D id=some a/\u=.slice (some ⟨a.b,a.o+off,none⟩) n c:=by simpa only[aU]using h
def aU.uT{id off e n:Nat}{u:Value}(h:aU D (.sx id off e n) u):∃ a,D id=some a/\e+n<=a.c/\u=.slice (some ⟨a.b,a.o+off,none⟩) n (a.c-e):=by simpa only[aU]using h
def aU.O'{id off n c:Nat}{u:Value}(h:aU D (.gs id off n c) u):u=.slice (some ⟨id,off,none⟩) n c:=by simpa only[aU]using h
def aU.J3{u:Value}(h:aU D .so u):∃ a c,u=.slice (some a) 0 c:=by simpa only[aU]using h
def aU.Bn{u:Value}(h:aU D .sn u):u=.slice none 0 0:=by simpa only[aU]using h
def aU.agg{l:List al}{u:Value}(h:aU D (.a l) u):∃ vs,bM D l vs/\u=.agg vs.toArray:=by simpa only[aU]using h
def aU.Pa{l:List al}{u:Value}(h:aU D (.t l) u):∃ vs,bM D l vs/\u=.tuple vs.toArray:=by simpa only[aU]using h
def aU.J4{l:List al}(h:bM D l vs):aU D (.a l) (.agg vs.toArray):=by simp only[aU];exact⟨vs,h,rfl⟩
def aU.J5{l:List al}(h:bM D l vs):aU D (.t l) (.tuple vs.toArray):=by simp only[aU];exact⟨vs,h,rfl⟩
def aU.undef:aU D (.t []) undef:=by simp only[aU];exact⟨[],.nil,rfl⟩
def aU.cells{v:al}{u:Value}(h:aU D v u):bM D v.cells u.cells.toList:=by
 cases v<;>simp only[al.cells]
 case a l=>obtain⟨vs,U,rfl⟩:=h.agg;simpa[Value.cells]using U
 all_goals
  have key:∀ w:Value,(∀ cs,w≠.agg cs)->w.cells.toList=[w]:=λw hw=>by cases w<;>first | rfl | exact(hw _ rfl).elim
  rw[key u ?_];·exact .cons h .nil
  ·rintro cs rfl;simp[aU]at h
def aU.one{v:al}{u:Value}(h:aU D v u)(ar:v.one=true):u.oneCell'=true:=by
 cases v<;>simp only[al.one,j0]at ar<;>simp only[aU]at h
 all_goals first
  |(subst h;rfl)|(obtain⟨_,_,rfl⟩:=h;rfl)|(obtain⟨_,_,_,rfl⟩:=h;rfl)|(obtain⟨_,_,_,_,rfl⟩:=h;rfl)
def bM.one{l:List al}{us:List Value}(h:bM D l us)(ar:l.all al.one=true):gI us=true:=by refine g0.2 λx ab=>?_;obtain⟨i,hi⟩:=Jy ab;have aO:=(iY.1 hi).1;rw[h.len]at aO;obtain⟨y,aG,ai⟩:=h.get (fJ aO);rw[hi]at aG;cases aG;exact ai.one (g0.1 ar _ (cZ aO))
def aU.WM{u:Value}{v:al}(h:Gm u=some v):aU D v u:=by
 unfold Gm at h;split at h<;>cases h<;>simp[aU]
def bM.DA:∀ {us:List Value} {l:List al},xG us=some l->bM D l us
 |[],l,h=>by simp only[xG]at h;cases h;exact .nil
 |u::us,l,h=>by
  simp only[xG]at h;split at h;·rename_i x m U aa;cases h;exact .cons (.WM U) (bM.DA aa)
  ·cases h
def aU.of{u:Value}{v:al}(h:Dj u=some v):aU D v u:=by
 unfold Dj at h;split at h
 ·split at h
  ·rename_i l aw;cases h;have:=bM.DA (D:=D) aw;simpa using aU.J4 this
  ·cases h
 ·exact .WM h
def J6{agg:Bool}{l:List al}{v:al}(h:Dm agg l=some v)(aw:bM D l vs):aU D v (pack agg vs):=by
 unfold Dm at h;cases agg with
 |true=>simp only[bg]at h;cases h;exact .J4 aw
 |false=>
  simp only[bd]at h;split at h;·cases h;obtain⟨x,xs,U,aa,rfl⟩:=aw.kf;rw[aa.nm];exact U
  ·cases h
def Pb:∀ {cs:List al} {off:Nat} {vs r:List al} {us xs:List Value},xI cs off vs=some r->bM D cs us->bM D vs xs->bM D r (bO us off xs)/\off+xs.length<=us.length
 |cs,0,[],r,us,xs,h,aN,ai=>by simp[xI]at h;subst h;rw[ai.nm];exact⟨by simpa[bO]using aN,by simp⟩
 |[],0,_::_,r,us,xs,h,aN,ai=>by simp[xI]at h
 |[],_+1,_,r,us,xs,h,aN,ai=>by simp[xI]at h
 |c::cs,0,v::vs,r,us,xs,h,aN,ai=>by
  simp only[xI]at h;split at h
  ·rename_i q az;cases h;obtain⟨x,us,U,aa,rfl⟩:=aN.kf;obtain⟨y,xs,ae,aR,rfl⟩:=ai.kf;obtain⟨bn,b2⟩:=Pb az aa aR;refine⟨?_,by simp at b2 |-;omega⟩;have e:bO (x::us) 0 (y::xs)=y::bO us 0 xs:=by simp[bO]
   rw[e];exact .cons ae bn
  ·cases h
 |c::cs,n+1,vs,r,us,xs,h,aN,ai=>by
  simp only[xI]at h;split at h
  ·rename_i q az;cases h;obtain⟨x,us,U,aa,rfl⟩:=aN.kf;obtain⟨bn,b2⟩:=Pb az aa ai;refine⟨?_,by simp;omega⟩;have e:bO (x::us) (n+1) xs=x::bO us n xs:=by simp only[bO,pX,qa,ta,true_and];rw[show n+1+xs.length=(n+xs.length)+1 by omega,List.drop_succ_cons]
   rw[e];exact .cons U bn
  ·cases h
inductive GA(D:bH):List (Nat×al)->List (Nat×Value)->Prop
 |nil:GA D [] []| cons {i v u l us} (h:aU D v u) (k:GA D l us):GA D ((i,v)::l) ((i,u)::us)
def J7{place:Nat->Option (Nat×Nat)}:∀ {vs:List (Nat×al)} {cells r:List al} {us:List Value} {xs:List (Nat×Value)},zf place cells vs=some r->bM D cells us->GA D vs xs -> ∃ a2,sS place us xs=some a2/\bM D r a2
 |[],cells,r,us,_,h,aN,.nil=>by simp only[zf]at h;cases h;exact⟨us,rfl,aN⟩
 |(i,v)::vs,cells,r,us,_,h,aN,.cons (u:=u) (us:=xs) ai im=>by
  simp only[zf]at h;split at h;·cases h
  ·rename_i off size aK;cases ag:Nat.beq v.cells.length size with
   |false=>rw[ag]at h;cases h
   |true=>
    rw[ag]at h;simp only[bg]at h;split at h
    ·rename_i cs lZ;obtain⟨U,aa⟩:=Pb lZ aN ai.cells;obtain⟨a2,ae,aR⟩:=J7 h U im;refine⟨a2,?_,aR⟩;have aw:u.cells.size=v.cells.length:=by simpa using ai.cells.len
     simp only[sS,aK,aw,ag];rw[show Nat.ble (off+size) us.length=true by rw[JY,e7];have:=cM ag;simp at aa;omega];exact ae
    ·cases h
end
def gd(D:bH)(x:dD)(v:al):Prop:=(∃ u,x=.val u/\aU D v u)\/∃ q,v=.b q/\x=.lit q
def gd.val{D:bH}{u:Value}{v:al}(h:aU D v u):gd D (.val u) v:=.inl ⟨u,rfl,h⟩
def gd.mono{D br:bH}(dr:D.le br){x:dD}{v:al}(h:gd D x v):gd br x v:=by
 rcases h with⟨u,rfl,h⟩ | ⟨q,rfl,rfl⟩
 ·exact .val (h.mono dr)
 ·exact .inr ⟨q,rfl,rfl⟩
def qz(D:bH)(F:Fr)(aj:be al):Prop:=∀ t v,aj.get t=some v->gd D (F t) v
def iV(D:bH)(F:Fr)(aj:be al)(xs:List Operand):Prop:=∀ x∈xs,∀ v,dj aj x=some v->gd D (dk F x) v
def qz.op{D:bH}{aj:be al}(h:qz D F aj)(xs:List Operand):iV D F aj xs:=λx _ v ai=>by
 cases x with
 |tmp t=>exact h t v ai
 |const c=>
  have ny:Dj c=some v:=ai;cases c with
  |bool q=>
   have:v=.b q:=by simp[Dj,Gm]at ny;exact ny.symm
   exact .inr ⟨q,this,rfl⟩
  |_=>exact .val (.of ny)
 |global g=>
  have:v=.g g 0:=by simpa[dj]using ai.symm
  subst this;exact .val (by simp[aU])
 |func f=>
  have:v=.f f [] []:=by simpa[dj]using ai.symm
  subst this;exact .val (by simp only[aU];exact⟨[],[],.nil,.nil,rfl⟩)
section
variable{D:bH}{F:Fr}{aj:be al}{xs:List Operand}
def gd.dB{v:al}(h:gd D (dk F x) v):∃ u,bw F x=.val u/\aU D v u:=by
 unfold bw Go.V.dB;rcases h with⟨u,h,ai⟩ | ⟨q,rfl,h⟩
 ·rw[h];exact⟨u,rfl,ai⟩
 ·rw[h];exact⟨.bool q,rfl,by simp[aU]⟩
def gd.uU{x:dD}{v:al}(h:gd D x v)(ai:∀ q,v≠.b q):∃ u,x=.val u/\aU D v u:=by
 rcases h with h | ⟨q,h,_⟩
 ·exact h
 ·exact(ai q h).elim
def iV.bw(h:iV D F aj xs)(ab:x∈xs){v:al}(ai:dj aj x=some v):∃ u,bw F x=.val u/\aU D v u:=(h x ab v ai).dB
def iV.mq(h:iV D F aj xs):∀ {l:List Operand} {vs:List al},(∀ x∈l,x∈xs)->nW aj l=some vs->∃ us,mq F l=some us/\bM D vs us
 |[],vs,_,ai=>by simp only[nW]at ai;cases ai;exact⟨[],rfl,.nil⟩
 |x::l,vs,aw,ai=>by
  simp only[nW]at ai;split at ai;·rename_i v vs U aa;cases ai;obtain⟨u,aC,aV⟩:=h.bw (aw x (by simp)) U;obtain⟨us,ay,aX⟩:=iV.mq h (λy aG=>aw y (by simp[aG])) aa;refine⟨u::us,?_,.cons aV aX⟩;show jG (dk F) (x::l)=_;rw[jG];have eb:dB (dk F) x=.val u:=aC;have eF:jG (dk F) l=some us:=ay;rw[eb,eF]
  ·cases ai
def iV.parts(h:iV D F aj xs):∀ {l:List (Nat×Operand)} {vs:List (Nat×al)},(∀ x∈l.map (·.2),x∈xs)->Dp aj l=some vs->∃ us,zY F l=some us/\GA D vs us
 |[],vs,_,ai=>by simp only[Dp]at ai;cases ai;exact⟨[],rfl,.nil⟩
 |(i,x)::l,vs,aw,ai=>by
  simp only[Dp]at ai;split at ai;·rename_i v vs U aa;cases ai;obtain⟨u,aC,aV⟩:=h.bw (aw x (by simp)) U;obtain⟨us,ay,aX⟩:=iV.parts h (λy aG=>aw y (by simp only[ek,et];exact .inr aG)) aa;refine⟨(i,u)::us,?_,.cons aV aX⟩;show sT (dk F) ((i,x)::l)=_;rw[sT];have eb:dB (dk F) x=.val u:=aC;have eF:sT (dk F) l=some us:=ay;rw[eb,eF]
  ·cases ai
end
inductive qA(D:bH):List (al×al)->List MapEntry->Prop
 |nil:qA D [] []| cons {k v es e l} (af:aU D k e.key) (ai:aU D v e.val) (t:qA D es l):qA D ((k,v)::es) (e::l)
def hQ(n:Nat):Code->Bool
 | .seq x y=>hQ n x&&hQ n y| .block _ c=>hQ n c| .cond _ x y=>hQ n x&&hQ n y| .loop c=>hQ n c| .scope c=>hQ n c| .region _ ops _=>Ad n ops| .rangeFunc _ ps fm body=>hQ n fm&&(hQ n body&&ps.toList.all λt=>Nat.blt t n)| _=>true
structure WN(D:bH)(busy:Bool)(n:Nat)(aj:be al)(ps:List Nat)(fm body:Code)(L:Loop):Prop where
 aA:L.state=bif busy then .busy else .ready
 p5:L.pending=none
 sz:L.tmps.size=n
 aj:∀ t v,aj.get t=some v->aU D v (L.tmps.getD t undef)
 ps:L.params.toList=ps
 fm:L.assign=fm
 body:L.body=body
 AG:hQ n L.assign=true
 mZ:hQ n L.body=true
 op:∀ t∈L.params.toList,t<n
inductive lh(D:bH)(E:Env)(M:List aE)(a:Loc):fW->Prop
 |cells{cs:be al}{T fh:Nat}(arr:Array Value)(ar:a.o=0)(bb:(⟨a.b,.cells arr T (0,0)⟩:aE)∈M)(aw:a.o+fh<=arr.size)(aN:∀ i v,i<fh->cs.get i=some v->∃ x,arr[a.o+i]?=some x/\aU D v x)(af:∀ i,E T=some i->arr.size=a.o+a.c*i.size)(hm:a.c<=maxLen):lh D E M a (.cells cs T fh)| map {es:List (al×al)} (l:List MapEntry) (clock:Nat) (bb:(⟨a.b,.map l.toArray clock⟩:aE)∈M) (he:qA D es l):lh D E M a (.map es)| loop {busy n aj ps fm body} (L:Loop) (bb:(⟨a.b,.loop L⟩:aE)∈M) (bQ:WN D busy n aj ps fm body L):lh D E M a (.loop busy n aj ps fm body)| done {c n aj ps fm body} (L:Loop) (bb:(⟨a.b,.loop L⟩:aE)∈M) (ap:L.state=.done) (aK:L.pending=some c):lh D E M a (.done c n aj ps fm body)
def qA.mono{D br:bH}(dr:D.le br){es:List (al×al)}{l:List MapEntry}(h:qA D es l):qA br es l:=by
 induction h with
 |nil=>exact .nil| cons af ai t bc=>exact .cons (af.mono dr) (ai.mono dr) bc
def lh.mono{D br:bH}{M':List aE}{a:Loc}(dr:D.le br)(bb:∀ x∈M,x.num=a.b->x∈M'){e:fW}(h:lh D E M a e):lh br E M' a e:=by
 cases h with
 |cells arr aq U aa ae aR bn=>exact .cells arr aq (bb _ U rfl) aa (λi v hi aB=>by obtain⟨x,aV,aX⟩:=ae i v hi aB;exact⟨x,aV,aX.mono dr⟩) aR bn| map l clock U aa=>exact .map l clock (bb _ U rfl) (aa.mono dr)| loop L U aa=>exact .loop L (bb _ U rfl) { aa with aj:=λt v au=>(aa.aj t v au).mono dr }| done L U aa ae=>exact .done L (bb _ U rfl) aa ae
def GB(G:GT)(I:aH):Prop:=∀ g cs,G g=some cs->∃ (arr:Array Value) (T:Nat) (f:Nat×Nat),I g=some (.cells arr T f)/\∀ i v,cs.get i=some v->∃ x,arr[i]?=some x/\∀ D,aU D v x
structure df(Y:gE)(D:bH)(m:bo)(I:aH)(M:List aE):Prop where
 iD:∀ id e a,m.t.get id=some e->D id=some a->lh D Y.E M a e
 inj:∀ id ih e a4 a bX,m.t.get id=some e->m.t.get ih=some a4->D id=some a->D ih=some bX->a.b=bX.b->id=ih
 jy:∀ id a,D id=some a->id<m.n
 qy:GB Y.G I
section
variable{Y:gE}{D:bH}{m:bo}{I:aH}{M:List aE}{R:Type}
def zo(h:df Y D m I M){x:al}{u:Value}(ab:aU D x u){n:Nat}{K:List al->Option R}{r:R}(ao:wi Y.G m.t x n K=some r) :
  ∃ ad l vs,u=.pointer (some ad)/\bD I M ad n vs/\bM D l vs/\K l=some r:=by
 have key:∀ (arr:Array Value) (a0 off:Nat) (l:List al),l.length=n->a0+off+n<=arr.size->(∀ i,i<n->∀ v,l[i]?=some v->∃ x,arr[a0+off+i]?=some x/\aU D v x) ->
   ((arr.toList.drop (a0+off)).take n).length=n/\bM D l ((arr.toList.drop (a0+off)).take n):=by
  intro arr a0 off l aw cr aB;have bY:((arr.toList.drop (a0+off)).take n).length=n:=by simp;omega
  refine⟨bY,bM.O9 (by rw[bY,aw]) λi v hi=>?_⟩;have eW:i<n:=by rw[<-aw];exact(iY.1 hi).1
  obtain⟨x,U,aa⟩:=aB i eW v hi;refine⟨x,?_,aa⟩;rw[lW,dd eW,qO];simpa using U
 unfold wi at ao;split at ao
 ·rename_i id off;split at ao
  ·rename_i cs T fh aB;cases ag:Nat.ble (Nat.add off n) fh with
   |false=>rw[ag]at ao;cases ao
   |true=>
    rw[ag]at ao;have h2:off+n<=fh:=bN ag;simp only[bg]at ao;obtain⟨l,U,aa,ae⟩:=be.Dz cs n off K r ao;obtain⟨a,ax,hu⟩:=ab.ptr;have he:=h.iD _ _ _ aB ax;obtain⟨arr,-,bb,aw,aN,-,-⟩:=he;obtain⟨db,cR⟩:=key arr a.o off l U (by omega) λi hi v ai=>by have:=aN (off+i) v (by omega) (by rw[aa i hi,ai]);rw[<-pR]at this;exact this
    exact⟨_,l,_,hu,⟨rfl,arr,T,(0,0),.inr ⟨_,bb,rfl,rfl⟩,rfl,db⟩,cR,ae⟩
  ·cases ao
 ·rename_i g off;split at ao
  ·rename_i cs aB;obtain⟨l,U,aa,ae⟩:=be.Dz cs n off K r ao;obtain⟨arr,T,f,bx,aN⟩:=h.qy _ _ aB;have hu:=ab.qy;have eT:∀ i,i<n->∀ v,l[i]?=some v->∃ x,arr[0+off+i]?=some x/\aU D v x:=λi hi v ai=>by obtain⟨x,aV,aX⟩:=aN (off+i) v (by rw[aa i hi,ai]);exact⟨x,by simpa using aV,aX D⟩
   by_cases an:n=0;·subst an;have:l=[]:=nB U;subst this;exact⟨_,[],[],hu,⟨rfl,arr,T,f,.inl bx,by simp,rfl⟩,.nil,ae⟩
   ·have cr:0+off+n<=arr.size:=by
     have aO:n-1<l.length:=by omega
     obtain⟨x,aV,_⟩:=eT (n-1) (by omega) l[n-1] (fJ aO);have:=(lv.1 aV).1;omega
    obtain⟨db,cR⟩:=key arr 0 off l U cr eT;simp only[dK]at db cR;exact⟨_,l,_,hu,⟨rfl,arr,T,f,.inl bx,rfl,db⟩,cR,ae⟩
  ·cases ao
 ·cases ao
end
def agh{k c7:IntKind}(h:IntKind.ms k c7=true):k=c7:=IntKind.Ci h
def J8(l m:List UInt8):decide ((⟨l.toArray⟩:ByteArray)=⟨m.toArray⟩)=decide (l=m):=by
 simp only[CN];constructor
 ·intro h;simpa using h
 ·rintro rfl;rfl
def agi(a b:ByteArray):(a == b)=decide (a=b):=by
 rw[pQ];simp only[e7];constructor
 ·intro h
  first | exact eq_of_beq h | exact qP (eq_of_beq (a:=a.data) (b:=b.data) h)
 ·rintro rfl
  first | exact Cs _ | exact Cs a.data
section
variable{P:Program}{E:Env}{D:bH}
def J9(aP:cY P E){o:Nat}{l:List al}{x:al}(h:xH E t o l=some x){us:List Value}(aw:bM D l us):∃ u,aU D x u/\∀ w,(part t us.toArray o).run P w=.ok u w:=by
 unfold xH at h;obtain⟨i,U,h⟩:=cL h;obtain⟨aq,h⟩:=zj h;have mX:i.size≠0:=λe=>by rw[e]at aq;cases aq
 obtain⟨r,aa,h⟩:=cL h;obtain⟨aC,ay⟩:=WL aa;rw[J2]at aC;have bY:=aw.len;subst aC;refine⟨_,J6 h ((aw.drop o).take _),λw=>?_⟩;have:=LN (aP _ _ U) (cs:=us.toArray) (off:=o) (by rw[mV,yo]at ay;simp;omega) w;simpa using this
def Pc{F:Nat->al->al->Option Bool}{l m:List al}{α β:Type}{pl:α->Nat×Nat}{g:α->β->Sem (ForInStep β)}{fY s1:β}{w:World}:∀ (L:List α) {b:Bool},Dn F E l m (L.map pl)=some b -> (∀ a∈L,∀ x y c,xH E (pl a).1 (pl a).2 l=some x->xH E (pl a).1 (pl a).2 m=some y->F (pl a).1 x y=some c->(g a fY).run P w=.ok (if c then .yield fY else .done s1) w) -> (forIn L fY g).run P w=.ok (if b then fY else s1) w
 |[],b,h,_=>by cases h;simp[c5]
 |a::L,b,h,aB=>by
  simp only[ek]at h;unfold Dn at h;obtain⟨x,U,h⟩:=cL h;obtain⟨y,aa,h⟩:=cL h;obtain⟨c,ae,h⟩:=cL h;simp only[L1,ca];rw[aB a (by simp) x y c U aa ae];rw[ke]at h;cases c with
  |true=>simp only[sQ,bR];exact Pc L h λbX ax=>aB bX (by simp[ax])
  |false=>cases h;simp[bR,c5]
def Pd(aP:cY P E):∀ (d:Nat) {t:Nat} {x y:al} {b:Bool} {u v:Value},oH P E d t x y=some b->aU D x u->aU D y v->∀ n,d<=n->∀ w,(Op.equalIn n t u v).run P w=.ok b w
 |0,t,x,y,b,u,v,h,ab,aG,n,an,w=>by cases h
 |d+1,t,x,y,b,u,v,h,ab,aG,0,an,w=>by omega
 |d+1,t,x,y,b,u,v,h,ab,aG,n+1,an,w=>by
  unfold oH at h;obtain⟨i,hi,h⟩:=cL h;obtain⟨p8,fy,nw⟩:=(aP _ _ hi).fk;rw[Op.equalIn];simp only[ca,run_underlying fy,bR];split at h
  ·rename_i a bX ap _;cases h;have aV:p8=.bool:=by cases p8<;>simp_all[fj]
   subst aV;rw[ab.bool,aG.bool];rfl
  ·rename_i c7 k a cR bX ap _;obtain⟨aC,h⟩:=gF h;cases h;have aV:p8=.int c7:=by cases p8<;>simp_all[fj]
   subst aV;rw[ab.int,aG.int];rw[agh aC];have ag:(a == bX)=oG a bX:=by
    rw[zk];by_cases e:a=bX;·subst e;simp
    ·simp[e]
   simp[ag]
  ·rename_i a bX ap _;cases h;have aV:p8=.string:=by cases p8<;>simp_all[fj]
   subst aV;rw[ab.str,aG.str];show Result.ok _ _=_;rw[Bm,<-J8];congr 1;exact agi _ _
  ·rename_i cb l m ap _;obtain⟨aC,h⟩:=gF h;unfold Oz at aC;rw[fy]at aC;cases p8 with
   |struct fields=>
    simp only[cA,pY,g0,e7]at aC;obtain⟨aC,ay⟩:=aC;rw[ap]at nw;simp only[fj,EC.struct.injEq]at nw;subst nw;obtain⟨us,U,rfl⟩:=ab.agg;obtain⟨ws,aa,rfl⟩:=aG.agg;simp only[ca,run_program,bR,aC,j0,kO];rw[<-Array.forIn_toList];rw[Pc (P:=P) (s1:=⟨some false,⟨⟩⟩) fields.toList h (λf aF x y c ru pB aN=>by
     obtain⟨p,db,cR⟩:=J9 aP ru U;obtain⟨q,eB,ha⟩:=J9 aP pB aa;have az:=Pd aP d aN db eB n (by omega) w;simp only[ay f aF,sQ,ne_eq,not_false_eq_true,ca,cR,ha,bR,az];cases c<;>simp[c5])]
    cases b<;>simp[bR,c5]
   |_=>cases aC
  ·rename_i len e l m ap _;obtain⟨aJ,hj,h⟩:=cL h;have aV:p8=.array len e:=by cases p8<;>simp_all[fj]
   subst aV;obtain⟨us,U,rfl⟩:=ab.agg;obtain⟨ws,aa,rfl⟩:=aG.agg;simp only[ca,(aP _ _ hj).run_sizeOf,bR,LX];have ao:List.range' 0 ([:len]:Std.Legacy.Range).size=List.range len:=by simp[Std.Legacy.Range.size,Ly]
   rw[ao];rw[Pc (P:=P) (s1:=⟨some false,⟨⟩⟩) (List.range len) h (λf aF x y c ru pB aN=>by
    obtain⟨p,db,cR⟩:=J9 aP ru U;obtain⟨q,eB,ha⟩:=J9 aP pB aa;have az:=Pd aP d aN db eB n (by omega) w;simp only[ca,cR,ha,bR,az];cases c<;>simp[c5])]
   cases b<;>simp[bR,c5]
  ·cases h
end
section
variable{X:cW}{D:bH}
def WO(aP:cY X.P X.E){op:BinOp}{l m:List al}{v:al}{us ws:List Value}{K:Value->Prop}{O:Prop}(h:Gn X.P X.E op t l m=some v)(aw:bM D l us)(hm:bM D m ws)(af:∀ u,aU D v u->K u) :
  cC X.P op t x y (.val (.agg us.toArray)) (.val (.agg ws.toArray)) K O:=by
 unfold Gn at h;obtain⟨aB,h⟩:=zj h;obtain⟨b,U,h⟩:=cL h;have az:=Pd (D:=D) aP 8 U (u:=.agg us.toArray) (v:=.agg ws.toArray) (by simp only[aU];exact⟨us,aw,rfl⟩) (by simp only[aU];exact⟨ws,hm,rfl⟩) Op.maxDepth (by decide);split at h
 ·cases h;refine .mk _ _ _ rfl rfl (λw=>?_) (af _ (by simp only[aU];rfl));simp only[ca,run_eqGuard_agg (hm:=aB),bR,binOp,Op.equal,az,c5]
 ·cases h;refine .mk _ _ _ rfl rfl (λw=>?_) (af _ (by simp only[aU];rfl));simp only[ca,run_eqGuard_agg (hm:=aB),bR,binOp,Op.equal,az,c5]
 ·cases h
end
end Go.V
