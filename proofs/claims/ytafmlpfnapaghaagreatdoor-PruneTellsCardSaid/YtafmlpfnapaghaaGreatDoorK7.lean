/- Part 7 of what the proofs of this seat share: the executor, data in memory, walks.
-/
import Derived.Test.YtafmlpfnapaghaaGreatDoorK4
import Derived.Test.YtafmlpfnapaghaaGreatDoorK5
import Derived.Test.YtafmlpfnapaghaaGreatDoorK3
import Derived.Test.YtafmlpfnapaghaaGreatDoorK6
set_option linter.all false
set_option maxHeartbeats 16000000
namespace Go.V
open Go Go.Proofs
def BP:=@Bool.true_or
def KY:=@List.all_nil
variable{I:aT}{M M0 N:List aD}{d:aH}{t:bx}{W i ln lc e:Nat}{n:Int}{P:Program}{L:List (List UInt8)}{deb:List Int}{g:bP}{ds:List aK}{p0:Option Addr}{a4 F:List aM}{w:World}{s:dA}{os:aY}{l:List Nat}{pl:List (ByteArray×Int)}
def Qo(x:aM):Spec Tryz.prog 181 [x.val] I M λv I' M'=>v=.bool x.lj/\I'=I/\M'=M:=by
 obtain⟨a,b,c⟩:=x;refine bn [] aI Tryz.func181 rfl rfl rfl ?_;intro B av;refine a9.mk (λh=>?_) (λh=>?_)
 ·exact⟨_,_,.refl,by rw[show a=false from h];rfl,rfl,rfl⟩
 ·exact⟨_,_,.refl,by rw[show a=true from h];rfl,rfl,rfl⟩
section
variable{I:aT}{M:List aD}{d:aH}{a:Option Addr}{n c:Nat}{ks:List aM}
def akN(af:hW I M a n ks)(az:n<=140737488355328):Spec Tryz.prog 179 [.slice a n c] I M λv I' M'=>v=(Bc ks).val/\I'=I/\M'=M:=by
 refine bn [] aI Tryz.func179 rfl rfl rfl ?_;intro B j7;have eR:=af.n;refine bu.inv (ι:=Nat×(Bool×Bool)×Bool×Bool) (λx=>{ a4:=[(0,.val (.slice a n c)),(2,.ref 2 0),(3,.ref 3 0),(4,.val (.bool x.2.2.1)),(5,.val (.bool x.2.2.2)),(6,.val (.int .i64 x.1))],cl:=[(2,bw.cells),(3,[.bool x.2.1.1,.bool false,.bool x.2.1.2])],br:=I,bO:=M }) (λx=>x.1<=n/\qV (ks.take x.1)=(⟨x.2.1.1,x.2.2.2,x.2.1.2⟩,x.2.2.1)) (λx=>n-x.1) ?_ ?_
 ·exact⟨(0,(true,false),true,false),⟨bQ _,rfl⟩,.refl,.cons .refl (.cons .refl (.cons .refl (.cons .lit (.cons .lit (.cons .refl .nil))))),.cons rfl (.cons rfl .nil)⟩
 rintro⟨i,⟨z,f⟩,gX,so⟩⟨hi,au⟩;simp only at hi au;refine aB.mk (λh=>?_) (λh=>?_)
 rotate_left
 ·have bS:n<=i:=by have:=cR h;omega
  rw[dX (by omega)]at au;refine a9.mk (λab=>?_) (λab=>?_)
  all_goals refine⟨_,_,.refl,Bb ?_ ?_ ?_,rfl,rfl⟩
  all_goals simp_all[Bc]
 have ax:i<n:=by have:=cq h;omega
 obtain⟨ad,ba,a3⟩:=af.rd i (by omega);have dc:∀ g:aM×Bool,kv (⟨z,so,f⟩,gX) (ks[i]'(by omega))=g->qV (ks.take (i+1))=g:=λg ao=>by rw[er (by omega),VM,au,ao]
 generalize ks[i]'(by omega)=k at a3 dc;obtain⟨s4,s5,qW⟩:=k
 repeat' first
  |refine a9.mk (λh=>?_) (λh=>?_)| refine aB.mk (λh=>?_) (λh=>?_)| refine aW.mk ad i ba rfl ax ?_| refine aE.mk _ a3 ?_| refine aE.mk _ (a3.part (k:=0) (m:=1) (by decide)) ?_| refine aE.mk _ (a3.part (k:=1) (m:=1) (by decide)) ?_| refine aE.mk _ (a3.part (k:=2) (m:=1) (by decide)) ?_|(refine aU.mk M [] _ perm_nil (Qo ⟨s4,s5,qW⟩) ?_;rintro v I' M' -⟨rfl,rfl,rfl⟩;rw[db])
 all_goals refine aQ.mk _ (bl (i:=i) (by omega)) ?_
 all_goals first
  |(exfalso;simp_all;done)
  |(refine⟨(i+1,((kv (⟨z,so,f⟩,gX) ⟨s4,s5,qW⟩).1.z,(kv (⟨z,so,f⟩,gX) ⟨s4,s5,qW⟩).1.f),(kv (⟨z,so,f⟩,gX) ⟨s4,s5,qW⟩).2,(kv (⟨z,so,f⟩,gX) ⟨s4,s5,qW⟩).1.s),⟨⟨by simp only;omega,dc _ rfl⟩,by simp only;omega⟩,.refl,.cons .refl (.cons .refl (.cons .refl (.cons ?_ (.cons ?_ (.cons .refl .nil))))),.cons rfl (.cons ?_ .nil)⟩
    all_goals clear dc au a3
    all_goals first
    |(refine NW ?_;simp_all[kv];done)|(refine Dl ?_;simp_all[kv];done)|(refine congrArg some ?_;simp_all[kv]<;>rfl))
def akO(af:hW I M a n ks)(az:n<=140737488355328):Spec Tryz.prog 180 [.slice a n c] I M λv I' M'=>v=(Dm ks).val/\I'=I/\M'=M:=by
 refine bn [] aI Tryz.func180 rfl rfl rfl ?_;intro B j7;have eR:=af.n;refine bu.inv (ι:=Nat×aM) (λx=>{ a4:=[(0,.val (.slice a n c)),(2,.ref 2 0),(3,.ref 3 0),(4,.val (.bool x.2.f)),(5,.val (.int .i64 x.1))],cl:=[(2,bw.cells),(3,[.bool x.2.z,.bool x.2.s,.bool false])],br:=I,bO:=M }) (λx=>x.1<=n/\(ks.take x.1).foldl om ⟨false,false,true⟩=x.2) (λx=>n-x.1) ?_ ?_
 ·exact⟨(0,⟨false,false,true⟩),⟨bQ _,rfl⟩,.refl,.cons .refl (.cons .refl (.cons .refl (.cons .lit (.cons .refl .nil)))),.cons rfl (.cons rfl .nil)⟩
 rintro⟨i,⟨z,s,f⟩⟩⟨hi,au⟩;simp only at hi au;refine aB.mk (λh=>?_) (λh=>?_)
 rotate_left
 ·have bS:n<=i:=by have:=cR h;omega
  rw[dX (by omega)]at au;refine⟨_,_,.refl,Bb ?_ ?_ ?_,rfl,rfl⟩
  all_goals rw[Dm,au]
 have ax:i<n:=by have:=cq h;omega
 obtain⟨ad,ba,a3⟩:=af.rd i (by omega);have dc:∀ g:aM,om ⟨z,s,f⟩ (ks[i]'(by omega))=g->(ks.take (i+1)).foldl om ⟨false,false,true⟩=g:=λg ao=>by rw[er (by omega),xp,au,<-ao];rfl
 generalize ks[i]'(by omega)=k at a3 dc;obtain⟨s4,s5,qW⟩:=k
 repeat' first
  |refine a9.mk (λh=>?_) (λh=>?_)| refine aB.mk (λh=>?_) (λh=>?_)| refine aW.mk ad i ba rfl ax ?_| refine aE.mk _ (a3.part (k:=0) (m:=1) (by decide)) ?_| refine aE.mk _ (a3.part (k:=1) (m:=1) (by decide)) ?_| refine aE.mk _ (a3.part (k:=2) (m:=1) (by decide)) ?_
 all_goals refine aQ.mk _ (bl (i:=i) (by omega)) ?_
 all_goals first
  |(exfalso;simp_all;done)
  |(refine⟨(i+1,om ⟨z,s,f⟩ ⟨s4,s5,qW⟩),⟨⟨by simp only;omega,dc _ rfl⟩,by simp only;omega⟩,.refl,.cons .refl (.cons .refl (.cons .refl (.cons ?_ (.cons .refl .nil)))),.cons rfl (.cons ?_ .nil)⟩
    all_goals clear dc au a3
    all_goals first
    |(refine NW ?_;simp_all[om];done)|(refine Dl ?_;simp_all[om];done)|(refine congrArg some ?_;simp_all[om]<;>rfl))
def ky(d:aH)(ks:List aM)(rule:aM):aM:=bif decide (d.k=3)then rule else fE d ks
def Zt(al:0<=d.k/\d.k<10)(af:hW I M a n ks)(az:n<=140737488355328)(b5:6<=d.k->0<n)(rule:aM):Spec Tryz.prog 158 [d.val,.slice a n c,rule.val] I M λv I' M'=>v=(ky d ks rule).val/\I'=I/\M'=M:=by
 refine bn [] aI Tryz.func158 rfl rfl rfl ?_;intro B j7;have akP:=λav=>af.head av;refine aB.mk (λe=>?_) (λc9=>?_)
 ·exact⟨_,_,.refl,by simp at e;simp[ky,fE,e];rfl,rfl,rfl⟩
 refine aB.mk (λe=>?_) (λaF=>?_)
 ·refine cx.NX aI (e:=57) rfl rfl rfl rfl (by kernel_rfl) ?_;exact⟨_,_,.refl,by rw[show ky d ks rule=⟨false,!d.oS,true⟩ by simp at e;simp[ky,fE,e]];rfl,rfl,rfl⟩
 refine aB.mk (λe=>?_) (λa7=>?_)
 ·exact⟨_,_,.refl,by simp at e;simp[ky,fE,e];rfl,rfl,rfl⟩
 refine aB.mk (λe=>?_) (λbC=>?_)
 ·exact⟨_,_,.refl,by simp at e;simp[ky,fE,e];rfl,rfl,rfl⟩
 refine aB.mk (λe=>?_) (λdi=>?_)
 ·refine aU.mk M [] _ perm_nil (akN af az) ?_;rintro v I' M' -⟨rfl,rfl,rfl⟩;rw[db];exact⟨_,_,.refl,by simp at e;simp[ky,fE,e];rfl,rfl,rfl⟩
 refine aB.mk (λe=>?_) (λhE=>?_)
 ·refine aU.mk M [] _ perm_nil (akO af az) ?_;rintro v I' M' -⟨rfl,rfl,rfl⟩;rw[db];exact⟨_,_,.refl,by simp at e;simp[ky,fE,e];rfl,rfl,rfl⟩
 simp at c9 aF a7 bC di hE;have av:0<n:=b5 (by omega);obtain⟨ad,ba,a3⟩:=akP av;have Av:∀ x:aM,ky d ks rule=x->ky d ks rule=x:=λ_ h=>h;refine aB.mk (λe=>?_) (λkx=>?_)
 ·have rX:ky d ks rule=r1 d (ks.headD bw):=by simp at e;simp[ky,fE,e]
  rw[rX];generalize ks.headD bw=k at a3;obtain⟨s4,s5,qW⟩:=k;refine aB.mk (λh=>?_) (λh=>?_)
  ·refine⟨_,_,.refl,Bb ?_ ?_ ?_,rfl,rfl⟩<;>simp[r1,h]
  refine cr.draw aI rfl rfl rfl ?_
  repeat' first
   |refine a9.mk (λh=>?_) (λh=>?_)| refine aW.mk ad 0 ba rfl av ?_| refine aE.mk _ (a3.part (k:=0) (m:=1) (by decide)) ?_| refine aE.mk _ (a3.part (k:=1) (m:=1) (by decide)) ?_| refine aE.mk _ (a3.part (k:=2) (m:=1) (by decide)) ?_
  all_goals refine⟨_,_,.refl,Bb ?_ ?_ ?_,rfl,rfl⟩
  all_goals first | (simp_all[r1];done) | (simp_all[r1];intros;omega)
 refine aB.mk (λe=>?_) (λuM=>?_)
 ·have rX:ky d ks rule=⟨(ks.headD bw).lj,false,(ks.headD bw).f⟩:=by simp at e;simp[ky,fE,e]
  rw[rX];refine cr.draw aI rfl rfl rfl ?_;refine aW.mk ad 0 ba rfl av ?_;refine aE.mk _ a3 ?_;refine aW.mk ad 0 ba rfl av ?_;refine aE.mk _ (a3.part (k:=2) (m:=1) (by decide)) ?_;refine e7.mT M [] _ perm_nil (Qo (ks.headD bw)) (λv I' M' h x ae=>by rw[h.2.2];exact ae) ?_;rintro v I' M' -⟨rfl,rfl,rfl⟩;rw[db];exact⟨_,_,.refl,rfl,rfl,rfl⟩
 refine aB.mk (λe=>?_) (λwx=>?_)
 ·have rX:ky d ks rule=⟨(ks.headD bw).f,false,(ks.headD bw).lj⟩:=by simp at e;simp[ky,fE,e]
  rw[rX];refine cr.draw aI rfl rfl rfl ?_;refine aW.mk ad 0 ba rfl av ?_;refine aE.mk _ (a3.part (k:=2) (m:=1) (by decide)) ?_;refine aW.mk ad 0 ba rfl av ?_;refine aE.mk _ a3 ?_;refine e7.mT M [] _ perm_nil (Qo (ks.headD bw)) (λv I' M' h x ae=>by rw[h.2.2];exact ae) ?_;rintro v I' M' -⟨rfl,rfl,rfl⟩;rw[db];exact⟨_,_,.refl,rfl,rfl,rfl⟩
 simp at kx uM wx;have rX:ky d ks rule=ks.headD bw:=by simp[ky,fE,c9,aF,a7,bC,di,hE,kx,uM,wx]
 rw[rX];refine aW.mk ad 0 ba rfl av ?_;refine aE.mk _ a3 ?_;exact⟨_,_,.refl,rfl,rfl,rfl⟩
end
def akQ:∀ n:Fin 16,(yN.extract n.val (n.val+1)).data.toList=[n7 n.val]:=by decide +kernel
def KZ(n:Nat)(az:n<16):Spec Tryz.prog 202 [.int .i64 n] I [] λv I' M'=>v=.string (strOf [n7 n])/\I'=I/\M'=[]:=by refine bn [] aI Tryz.func202 rfl rfl rfl ?_;intro B av;refine aQ.mk ((n+1:Nat):Int) (by rw[wrap_i64 ⟨by omega,by omega⟩];omega) ?_;refine jv.mk n (n+1) rfl rfl (by omega) (by show _<=16;omega) ?_;refine⟨_,_,.refl,?_,rfl,rfl⟩;have:yN.extract n (n+1)=strOf [n7 n]:=yO (akQ ⟨n,az⟩);rw[<-this];rfl
def K0(c:UInt8)(s:ByteArray):Bool:=s.data.toList.any λx=>decide (x.toNat=c.toNat)
def akR(c:UInt8)(s:ByteArray)(ar:s.size<=140737488355328):Spec Tryz.prog 203 [.int .u8 c.toNat,.string s] I [] λv I' M'=>v=.bool (K0 c s)/\I'=I/\M'=[]:=by
 refine bn [] aI Tryz.func203 rfl rfl rfl ?_;intro B av;have fY:s.data.toList.length=s.size:=rfl;refine bu.inv (ι:=Nat) (λi=>{ a4:=[(0,.val (.int .u8 c.toNat)),(1,.val (.string s)),(5,.val (.int .i64 i))],br:=I }) (λi=>i<=s.size/\K0 c s=(s.data.toList.drop i).any λx=>decide (x.toNat=c.toNat)) (λi=>s.size-i) ?_ ?_
 ·exact⟨0,⟨bQ _,rfl⟩,.refl,cU,.nil⟩
 intro i ⟨hi,c1⟩;refine aB.mk (λh=>?_) (λh=>?_)
 ·have ax:i<s.size:=by simpa using h
  rw[dv (show i<s.data.toList.length from ax),List.any_cons]at c1;have FX:s.data.toList[i]'ax=s[i]:=rfl;rw[FX]at c1;refine sv.mk i rfl ax ?_;refine aB.mk (λab=>?_) (λab=>?_)
  ·have e:decide (s[i].toNat=c.toNat)=true:=by simp at ab |-;omega
   rw[e,BP]at c1;exact⟨_,_,.refl,congrArg Value.bool c1.symm,rfl,rfl⟩
  ·have e:decide (s[i].toNat=c.toNat)=false:=by simp at ab |-;omega
   rw[e,mL]at c1;refine aQ.mk _ (bl (i:=i) (by omega)) ?_;exact⟨i+1,⟨⟨by omega,c1⟩,by omega⟩,.refl,cU,.nil⟩
 ·have:i=s.size:=by simp at h;omega
  subst this;rw[iK (by omega)]at c1;exact⟨_,_,.refl,congrArg Value.bool c1.symm,rfl,rfl⟩
def tf(c:UInt8)(ek:ByteArray):List UInt8:=
 bif decide ((c.toNat:Int)=10)then [92,110]else
 bif decide ((c.toNat:Int)=13)then [92,114]else
 bif decide ((c.toNat:Int)=9)then [92,116]else
 bif decide ((c.toNat:Int)<32)||decide (126<(c.toNat:Int))then [92,120,n7 (c.toNat/16),n7 (c.toNat%16)]else
 bif K0 c ek then [92,c]else [c]
def Hk(c:UInt8)(ek:ByteArray)(ar:ek.size<=140737488355328):Spec Tryz.prog 183 [.int .u8 c.toNat,.string ek] I [] λv I' M'=>v=.string (strOf (tf c ek))/\I'=I/\M'=[]:=by
 refine bn [] aI Tryz.func183 rfl rfl rfl ?_;intro B av;have aC:=c.toNat_lt;refine aB.mk (λU=>?_) (λU=>?_)
 ·exact⟨_,_,.refl,by rw[tf,U];rfl,rfl,rfl⟩
 refine aB.mk (λab=>?_) (λab=>?_)
 ·exact⟨_,_,.refl,by rw[tf,U,ab];rfl,rfl,rfl⟩
 refine aB.mk (λak=>?_) (λak=>?_)
 ·exact⟨_,_,.refl,by rw[tf,U,ab,ak];rfl,rfl,rfl⟩
 have Zu:(decide ((c.toNat:Int)<32)||decide (126<(c.toNat:Int)))=true->tf c ek=[92,120,n7 (c.toNat/16),n7 (c.toNat%16)]:=λh=>by rw[tf,U,ab,ak,h];rfl
 have Zv:(decide ((c.toNat:Int)<32)||decide (126<(c.toNat:Int)))=false->tf c ek=bif K0 c ek then [92,c]else [c]:=λh=>by rw[tf,U,ab,ak,h];rfl
 refine a9.mk (λaL=>?_) (λaL=>?_)
 ·refine aB.mk (λbm=>?_) (λbm=>?_)
  ·have a0:(decide ((c.toNat:Int)<32)||decide (126<(c.toNat:Int)))=true:=by rw[aL,bm];rfl
   refine aQ.mk (c.toNat:Int) (wrap_i64 ⟨by omega,by omega⟩) ?_;refine j2.mk (by decide) ?_;refine aQ.mk ((c.toNat/16:Nat):Int) (wrap_i64 (x:=((c.toNat/16:Nat):Int)) ⟨by omega,by omega⟩) ?_;refine aU.mk [] [] _ (.refl _) (KZ (c.toNat/16) (by omega)) ?_;rintro v J N -⟨rfl,bg,rfl⟩;subst J;refine cx.eW (a:=[92,120]) (by simp) ?_;refine aQ.mk (c.toNat:Int) (wrap_i64 ⟨by omega,by omega⟩) ?_;refine j2.mk (by decide) ?_;refine aU.mk [] [] _ (.refl _) (KZ (c.toNat%16) (by omega)) ?_;rintro v J N -⟨rfl,bg,rfl⟩;subst J;refine cx.eW (a:=[92,120,n7 (c.toNat/16)]) (by simp) ?_;exact⟨_,_,.refl,by rw[Zu a0];rfl,rfl,rfl⟩
  have a0:(decide ((c.toNat:Int)<32)||decide (126<(c.toNat:Int)))=false:=by rw[aL,bm];rfl
  refine aU.mk [] [] _ (.refl _) (akR c ek ar) ?_;rintro v J N -⟨rfl,bg,rfl⟩;subst J;refine aB.mk (λb5=>?_) (λb5=>?_);·refine bL.mk λb ah jJ=>?_;refine bk.Dy aI rfl (by simp) rfl rfl rfl rfl rfl rfl (ad:=⟨b,0,none⟩) (n:=1) (l:=[c]) rfl rfl (dj (b:=b) (cs:=[.int .u8 c.toNat]) (k:=0) (n:=1) (T:=5) (.head _) (by simp)) ?_;refine cx.eW (a:=[92]) (b:=[c]) (by simp) ?_;exact⟨_,_,.sub (cW _) .refl,by rw[Zv a0,b5];rfl,rfl,rfl⟩
  ·refine bL.mk λb ah jJ=>?_;refine bk.Dy aI rfl (by simp) rfl rfl rfl rfl rfl rfl (ad:=⟨b,0,none⟩) (n:=1) (l:=[c]) rfl rfl (dj (b:=b) (cs:=[.int .u8 c.toNat]) (k:=0) (n:=1) (T:=5) (.head _) (by simp)) ?_;exact⟨_,_,.sub (cW _) .refl,by rw[Zv a0,b5];rfl,rfl,rfl⟩
 ·have a0:(decide ((c.toNat:Int)<32)||decide (126<(c.toNat:Int)))=true:=by simp at aL;simp[aL]
  refine aQ.mk (c.toNat:Int) (wrap_i64 ⟨by omega,by omega⟩) ?_;refine j2.mk (by decide) ?_;refine aQ.mk ((c.toNat/16:Nat):Int) (wrap_i64 (x:=((c.toNat/16:Nat):Int)) ⟨by omega,by omega⟩) ?_;refine aU.mk [] [] _ (.refl _) (KZ (c.toNat/16) (by omega)) ?_;rintro v J N -⟨rfl,bg,rfl⟩;subst J;refine cx.eW (a:=[92,120]) (by simp) ?_;refine aQ.mk (c.toNat:Int) (wrap_i64 ⟨by omega,by omega⟩) ?_;refine j2.mk (by decide) ?_;refine aU.mk [] [] _ (.refl _) (KZ (c.toNat%16) (by omega)) ?_;rintro v J N -⟨rfl,bg,rfl⟩;subst J;refine cx.eW (a:=[92,120,n7 (c.toNat/16)]) (by simp) ?_;exact⟨_,_,.refl,by rw[Zu a0];rfl,rfl,rfl⟩
def Qp:ByteArray:=⟨#[34,92]⟩
def D8:ByteArray:=⟨#[93,45,94,92]⟩
def Hl(c:UInt8):tf c Qp=iB c n9/\tf c D8=iB c nz:=by
 have h:∀ n:Fin 256,tf (UInt8.ofNat n.val) Qp=iB (UInt8.ofNat n.val) n9/\tf (UInt8.ofNat n.val) D8=iB (UInt8.ofNat n.val) nz:=by decide +kernel
 have:=h ⟨c.toNat,c.toNat_lt⟩;simpa using this
def akS(s:ByteArray)(ar:s.size<=1099511627776):Spec Tryz.prog 161 [.string s] I [] λr I' M'=>r=.string (strOf (vD s))/\I'=I/\M'=[]:=by
 refine bn [] aI Tryz.func161 rfl rfl rfl ?_;intro B av;have im:∀ i,((s.data.toList.take i).flatMap (iB · n9)).length<=4*i:=λi=>by have:=AM (iB · n9) 4 (λc=>rJ c n9) (s.data.toList.take i);have ab:=rD i s.data.toList;omega
 refine bu.inv (ι:=Nat) (λi=>{ a4:=[(0,.val (.string s)),(3,.val (.string (strOf ((s.data.toList.take i).flatMap (iB · n9))))),(4,.val (.int .i64 i))],br:=I }) (λi=>i<=s.size) (λi=>s.size-i) ?_ ?_
 ·exact⟨0,bQ _,.refl,cU,.nil⟩
 intro i hi;have K1:=im i;refine aB.mk (λh=>?_) (λh=>?_)
 ·have ax:i<s.size:=by simpa using h
  have bo:i<s.data.toList.length:=ax;refine sv.mk i rfl ax ?_;have AP:=Hk (I:=I) s[i] Qp (by decide);rw[(Hl s[i]).1]at AP;refine aU.mk [] [] _ (.refl _) AP ?_;rintro v J N -⟨rfl,bg,rfl⟩;subst J;have vC:=rJ s[i] n9;refine cx.eW (by omega) ?_;refine aQ.mk _ (bl (i:=i) (by omega)) ?_;have e:(s.data.toList.take (i+1)).flatMap (iB · n9)=(s.data.toList.take i).flatMap (iB · n9)++iB s[i] n9:=by rw[er bo,jF];simp;rfl
  refine⟨i+1,⟨ax,by omega⟩,.refl,.cons .refl (.cons ?_ (.cons .refl .nil)),.nil⟩;rw[e];exact .refl
 ·have:i=s.size:=by simp at h;omega
  subst this;have e:s.data.toList.take s.size=s.data.toList:=dX (b2 _);refine cx.eW (a:=[34]) (by simp only[cS,dI];omega) ?_;refine cx.eW (b:=[34]) (by simp only[cz,cS,dI];omega) ?_;exact⟨_,_,.refl,by rw[vD,e],rfl,rfl⟩
def K2(n:Nat)(az:n<100):Spec Tryz.prog 184 [.int .i64 n] I [] λr I' M'=>r=.string (tO n)/\I'=I/\M'=[]:=by
 refine bn [] aI Tryz.func184 rfl rfl rfl ?_;intro B av;refine aQ.mk (n:Int) (vA ⟨by omega,by omega⟩) ?_;refine aB.mk (λh=>by simp at h;omega) (λ_=>?_);refine bu.inv (ι:=Bool) (λx=>{ a4:=[(3,.val (.int .u64 ((bif x then n/10 else n:Nat):Int))),(4,.val (.string (strOf []))),(5,.val (.string (strOf (bif x then [UInt8.ofNat (48+n%10)]else []))))],br:=I }) (λx=>x=true->10<=n) (λx=>bif x then 0 else 1) ?_ ?_
 ·exact⟨false,(λh=>by cases h),.refl,cU,.nil⟩
 intro x ae;cases x with
 |false=>
  refine aB.mk (λh=>?_) (λh=>?_)
  ·have fP:10<=n:=by simp at h;omega
   refine j2.mk (by decide) ?_;refine aQ.mk ((48+n%10:Nat):Int) (vA (x:=((48+n%10:Nat):Int)) ⟨by omega,by omega⟩) ?_;refine aQ.mk _ (qa (n:=48+n%10) (by omega)) ?_;refine bL.mk λb ah jJ=>?_;refine bk.Dy aI rfl (by simp) rfl rfl rfl rfl rfl rfl (ad:=⟨b,0,none⟩) (n:=1) (l:=[UInt8.ofNat (48+n%10)]) rfl rfl (dj (b:=b) (cs:=[.int .u8 (UInt8.ofNat (48+n%10)).toNat]) (k:=0) (n:=1) (T:=5) (.head _) (by simp)) ?_;refine cx.eW (a:=[UInt8.ofNat (48+n%10)]) (b:=[]) (by simp) ?_;refine j2.mk (by decide) ?_;refine aQ.mk ((n/10:Nat):Int) (vA (x:=((n/10:Nat):Int)) ⟨by omega,by omega⟩) ?_;exact⟨true,⟨λ_=>fP,by decide⟩,.sub (cW _) .refl,cU,.nil⟩
  ·have fP:n<10:=by simp at h;omega
   refine aQ.mk ((48+n:Nat):Int) (vA (x:=((48+n:Nat):Int)) ⟨by omega,by omega⟩) ?_;refine aQ.mk _ (qa (n:=48+n) (by omega)) ?_;refine bL.mk λb ah jJ=>?_;refine bk.Dy aI rfl (by simp) rfl rfl rfl rfl rfl rfl (ad:=⟨b,0,none⟩) (n:=1) (l:=[UInt8.ofNat (48+n)]) rfl rfl (dj (b:=b) (cs:=[.int .u8 (UInt8.ofNat (48+n)).toNat]) (k:=0) (n:=1) (T:=5) (.head _) (by simp)) ?_;refine cx.eW (a:=[]) (b:=[UInt8.ofNat (48+n)]) (by simp) ?_;refine cx.eW (a:=[]++[UInt8.ofNat (48+n)]) (b:=[]) (by simp) ?_;have e:hS n=[UInt8.ofNat (48+n)]:=by
    have:Nat.blt n 10=true:=by simp[Nat.blt_eq];omega
    rw[hS,this];rfl
   exact⟨_,_,.sub (cW _) .refl,by rw[tO,e];rfl,rfl,rfl⟩
 |true=>
  have fP:=ae rfl;refine aB.mk (λh=>?_) (λh=>?_);·simp at h;omega
  refine aQ.mk ((48+n/10:Nat):Int) (vA (x:=((48+n/10:Nat):Int)) ⟨by omega,by omega⟩) ?_;refine aQ.mk _ (qa (n:=48+n/10) (by omega)) ?_;refine bL.mk λb ah jJ=>?_;refine bk.Dy aI rfl (by simp) rfl rfl rfl rfl rfl rfl (ad:=⟨b,0,none⟩) (n:=1) (l:=[UInt8.ofNat (48+n/10)]) rfl rfl (dj (b:=b) (cs:=[.int .u8 (UInt8.ofNat (48+n/10)).toNat]) (k:=0) (n:=1) (T:=5) (.head _) (by simp)) ?_;refine cx.eW (a:=[]) (b:=[UInt8.ofNat (48+n/10)]) (by simp) ?_;refine cx.eW (a:=[]++[UInt8.ofNat (48+n/10)]) (b:=[UInt8.ofNat (48+n%10)]) (by simp) ?_;have e:hS n=[UInt8.ofNat (48+n/10),UInt8.ofNat (48+n%10)]:=by
   have:Nat.blt n 10=false:=by rw[Bool.eq_false_iff];simp[Nat.blt_eq];omega
   rw[hS,this];rfl
  exact⟨_,_,.sub (cW _) .refl,by rw[tO,e];rfl,rfl,rfl⟩
def lr(p:UInt8×UInt8):List UInt8:=iB p.1 nz++((bif decide ((p.1.toNat:Int)+1<p.2.toNat)then [45]else [])++(bif decide ((p.1.toNat:Int)<p.2.toNat)then iB p.2 nz else []))
def zJ(aJ:List (UInt8×UInt8)):Bool:=match aJ with
 |[p]=>((p.1.toNat:Int) == 0)&&((p.2.toNat:Int) == 255)| _=>false
def D9(aJ:List (UInt8×UInt8)):List UInt8:=bif zJ aJ then [46]else [91]++aJ.flatMap lr++[93]
def akT(p:UInt8×UInt8):(lr p).length<=9:=by
 have U:=rJ p.1 nz;have ab:=rJ p.2 nz;unfold lr;cases decide ((p.1.toNat:Int)+1<p.2.toNat)<;>cases decide ((p.1.toNat:Int)<p.2.toNat)<;>simp<;>omega
def akU{a b c d:Int}(g5:∀ x∈[a,b,c,d],e5 x):Spec Tryz.prog 160 [.agg #[.int .u64 a,.int .u64 b,.int .u64 c,.int .u64 d]] I []
  λr I' M'=>r=.string (strOf (D9 (ot (lY [a,b,c,d]) 256)))/\I'=I/\M'=[]:=by
 refine bn [] aI Tryz.func160 rfl rfl rfl ?_;intro B av;refine aU.mk [] [] _ (.refl _) (aia g5) ?_;rintro v J N -⟨bg,os,rfl,bf,rfl⟩;subst J;have dp:=XJ (lY [a,b,c,d]) 256;generalize ot (lY [a,b,c,d]) 256=aJ at *;have az:aJ.length=os.n:=by have:=bf.len;rw[CP]at this;omega
 have main:zJ aJ=false->D9 aJ=[91]++aJ.flatMap lr++[93]:=λh=>by rw[D9,h];rfl
 have im:∀ i,((aJ.take i).flatMap lr).length<=9*i:=λi=>by have:=AM lr 9 akT (aJ.take i);have ab:=rD i aJ;omega
 have row:∀ {i:Nat} (hi:i<aJ.length) (M:List aD),(∀ y∈os.aw 228,y∈M)->∃ ad,(os.a.map λg=>(⟨g,0,none⟩:Addr))=some ad/\bq I M (ad.add (i*2)) 2 (fR aJ[i]):=fun {i} hi M aV=>aY.ok.row (I:=I) (M:=M) (f:=fR) (λ_=>rfl) (by decide) bf (e:=228) aV hi;refine a9.mk (λU=>?_) (λU=>?_)
 ·have jk:os.n=1:=by simp at U;omega
  obtain⟨p,rfl⟩:∃ p,aJ=[p]:=by
   match aJ,(show aJ.length=1 by omega)with
   |[p],_=>exact⟨p,rfl⟩
  obtain⟨ad,ba,a3⟩:=row (i:=0) (by simp) (os.aw 228++[]) (λy aA=>by simp[aA]);refine aW.mk ad 0 ba rfl (by omega) ?_;refine aE.mk _ a3 ?_;refine cx.ahF aI (e:=5) rfl rfl rfl rfl (by kernel_rfl) ?_;refine aB.mk (λab=>?_) (λab=>?_);·exact⟨_,_,.sub (cW _) .refl,by rw[D9,show zJ [p]=true from ab];rfl,rfl,rfl⟩
  ·have eg:zJ [p]=false:=ab;have hm:=main eg;refine bu.inv (ι:=Nat×List UInt8) (λx=>{ a4:=[(3,.val os.val),(4,.val (.string (strOf x.2))),(5,.val (.int .i64 x.1))],br:=I,bO:=os.aw 228 }) (λx=>x.1<=os.n/\x.2=([p].take x.1).flatMap lr) (λx=>os.n-x.1) ?_ ?_
   ·exact⟨(0,[]),⟨bQ _,rfl⟩,.perm (by simp) .refl,cU,.nil⟩
   rintro⟨i,w⟩⟨hi,hw⟩;simp only at hi hw;have K1:=im i;rw[<-hw]at K1;refine aB.mk (λh=>?_) (λh=>?_)
   ·have ax:i<os.n:=by simpa using h
    have bo:i<([p]:List (UInt8×UInt8)).length:=by omega
    obtain⟨ad,ba,a3⟩:=row (i:=i) bo (os.aw 228) (λy aA=>aA);have q8:([p].take (i+1)).flatMap lr=([p].take i).flatMap lr++lr ([p]:List (UInt8×UInt8))[i]:=by rw[er bo,jF];simp
    generalize a0:([p]:List (UInt8×UInt8))[i]=q at a3 q8;have vX:=q.1.toNat_lt;have vY:=q.2.toNat_lt;have yE:=rJ q.1 nz;have tS:=rJ q.2 nz;refine cr.draw aI rfl rfl rfl ?_;refine aW.mk ad i ba rfl ax ?_;refine eb.mk 0 rfl (by decide) ?_;refine aE.mk _ (bq.part (k:=0*1) (m:=1) a3 (by decide)) ?_;refine aQ.mk (q.1.toNat:Int) (wrap_i64 ⟨by omega,by omega⟩) ?_;refine aW.mk ad i ba rfl ax ?_;refine eb.mk 1 rfl (by decide) ?_;refine aE.mk _ (bq.part (k:=1*1) (m:=1) a3 (by decide)) ?_;refine aQ.mk (q.2.toNat:Int) (wrap_i64 ⟨by omega,by omega⟩) ?_;have Qq:IntKind.u8.wrap (q.1.toNat:Int)=(q.1.toNat:Int):=by simp[IntKind.wrap,IntKind.signed,IntKind.bits];omega
    have BQ:IntKind.u8.wrap (q.2.toNat:Int)=(q.2.toNat:Int):=by simp[IntKind.wrap,IntKind.signed,IntKind.bits];omega
    refine aQ.mk _ Qq ?_;have eu:=Hk (I:=I) q.1 D8 (by decide);rw[(Hl q.1).2]at eu;refine aU.mk [] (os.aw 228) _ (.refl _) eu ?_;rintro v J N -⟨rfl,bg,rfl⟩;subst J;refine cx.eW (a:=w) (by omega) ?_;refine aQ.mk ((q.1.toNat:Int)+1) (wrap_i64 ⟨by omega,by omega⟩) ?_;have iR:=Hk (I:=I) q.2 D8 (by decide);rw[(Hl q.2).2]at iR;refine aB.mk (λda=>?_) (λda=>?_)
    ·refine cx.eW (b:=[45]) (by simp only[cz,cS,dI];omega) ?_;refine aB.mk (λbZ=>?_) (λbZ=>?_)
     ·refine aQ.mk _ BQ ?_;refine aU.mk [] (os.aw 228) _ (.refl _) iR ?_;rintro v J N -⟨rfl,bg,rfl⟩;subst J;refine cx.eW (by simp only[cz,cS,dI];omega) ?_;refine aQ.mk _ (bl (i:=i) (by omega)) ?_;refine⟨(i+1,_),⟨⟨ax,?_⟩,by simp only;omega⟩,.refl,cU,.nil⟩;simp only;rw[hw,q8,lr,da,bZ,bt,bt,<-fx,<-fx]
     ·simp at da bZ;omega
    ·refine aB.mk (λbZ=>?_) (λbZ=>?_)
     ·refine aQ.mk _ BQ ?_;refine aU.mk [] (os.aw 228) _ (.refl _) iR ?_;rintro v J N -⟨rfl,bg,rfl⟩;subst J;refine cx.eW (by simp only[cz,cS,dI];omega) ?_;refine aQ.mk _ (bl (i:=i) (by omega)) ?_;refine⟨(i+1,_),⟨⟨ax,?_⟩,by simp only;omega⟩,.refl,cU,.nil⟩;simp only;rw[hw,q8,lr,da,bZ,bz,bt,hO,<-fx]
     ·refine aQ.mk _ (bl (i:=i) (by omega)) ?_;refine⟨(i+1,_),⟨⟨ax,?_⟩,by simp only;omega⟩,.refl,cU,.nil⟩;simp only;rw[hw,q8,lr,da,bZ,bz,bz,hO,db]
   ·have:i=os.n:=by simp at h;omega
    subst this;have e:[p].take os.n=[p]:=dX (by omega);refine cx.eW (a:=[91]) (by simp only[cS,dI];omega) ?_;refine cx.eW (b:=[93]) (by simp only[cz,cS,dI];omega) ?_;exact⟨_,_,.sub (cW _) .refl,by rw[hm,hw,e],rfl,rfl⟩
 ·have eg:zJ aJ=false:=by
   match aJ,az with
   |[],_=>rfl| [p],az=>simp at U az;omega| _::_::_,_=>rfl
  have hm:=main eg;refine bu.inv (ι:=Nat×List UInt8) (λx=>{ a4:=[(3,.val os.val),(4,.val (.string (strOf x.2))),(5,.val (.int .i64 x.1))],br:=I,bO:=os.aw 228 }) (λx=>x.1<=os.n/\x.2=(aJ.take x.1).flatMap lr) (λx=>os.n-x.1) ?_ ?_;·exact⟨(0,[]),⟨bQ _,rfl⟩,.perm (by simp) .refl,cU,.nil⟩
  rintro⟨i,w⟩⟨hi,hw⟩;simp only at hi hw;have K1:=im i;rw[<-hw]at K1;refine aB.mk (λh=>?_) (λh=>?_)
  ·have ax:i<os.n:=by simpa using h
   have bo:i<(aJ:List (UInt8×UInt8)).length:=by omega
   obtain⟨ad,ba,a3⟩:=row (i:=i) bo (os.aw 228) (λy aA=>aA);have q8:(aJ.take (i+1)).flatMap lr=(aJ.take i).flatMap lr++lr (aJ:List (UInt8×UInt8))[i]:=by rw[er bo,jF];simp
   generalize a0:(aJ:List (UInt8×UInt8))[i]=q at a3 q8;have vX:=q.1.toNat_lt;have vY:=q.2.toNat_lt;have yE:=rJ q.1 nz;have tS:=rJ q.2 nz;refine cr.draw aI rfl rfl rfl ?_;refine aW.mk ad i ba rfl ax ?_;refine eb.mk 0 rfl (by decide) ?_;refine aE.mk _ (bq.part (k:=0*1) (m:=1) a3 (by decide)) ?_;refine aQ.mk (q.1.toNat:Int) (wrap_i64 ⟨by omega,by omega⟩) ?_;refine aW.mk ad i ba rfl ax ?_;refine eb.mk 1 rfl (by decide) ?_;refine aE.mk _ (bq.part (k:=1*1) (m:=1) a3 (by decide)) ?_;refine aQ.mk (q.2.toNat:Int) (wrap_i64 ⟨by omega,by omega⟩) ?_;have Qq:IntKind.u8.wrap (q.1.toNat:Int)=(q.1.toNat:Int):=by simp[IntKind.wrap,IntKind.signed,IntKind.bits];omega
   have BQ:IntKind.u8.wrap (q.2.toNat:Int)=(q.2.toNat:Int):=by simp[IntKind.wrap,IntKind.signed,IntKind.bits];omega
   refine aQ.mk _ Qq ?_;have eu:=Hk (I:=I) q.1 D8 (by decide);rw[(Hl q.1).2]at eu;refine aU.mk [] (os.aw 228) _ (.refl _) eu ?_;rintro v J N -⟨rfl,bg,rfl⟩;subst J;refine cx.eW (a:=w) (by omega) ?_;refine aQ.mk ((q.1.toNat:Int)+1) (wrap_i64 ⟨by omega,by omega⟩) ?_;have iR:=Hk (I:=I) q.2 D8 (by decide);rw[(Hl q.2).2]at iR;refine aB.mk (λda=>?_) (λda=>?_)
   ·refine cx.eW (b:=[45]) (by simp only[cz,cS,dI];omega) ?_;refine aB.mk (λbZ=>?_) (λbZ=>?_)
    ·refine aQ.mk _ BQ ?_;refine aU.mk [] (os.aw 228) _ (.refl _) iR ?_;rintro v J N -⟨rfl,bg,rfl⟩;subst J;refine cx.eW (by simp only[cz,cS,dI];omega) ?_;refine aQ.mk _ (bl (i:=i) (by omega)) ?_;refine⟨(i+1,_),⟨⟨ax,?_⟩,by simp only;omega⟩,.refl,cU,.nil⟩;simp only;rw[hw,q8,lr,da,bZ,bt,bt,<-fx,<-fx]
    ·simp at da bZ;omega
   ·refine aB.mk (λbZ=>?_) (λbZ=>?_)
    ·refine aQ.mk _ BQ ?_;refine aU.mk [] (os.aw 228) _ (.refl _) iR ?_;rintro v J N -⟨rfl,bg,rfl⟩;subst J;refine cx.eW (by simp only[cz,cS,dI];omega) ?_;refine aQ.mk _ (bl (i:=i) (by omega)) ?_;refine⟨(i+1,_),⟨⟨ax,?_⟩,by simp only;omega⟩,.refl,cU,.nil⟩;simp only;rw[hw,q8,lr,da,bZ,bz,bt,hO,<-fx]
    ·refine aQ.mk _ (bl (i:=i) (by omega)) ?_;refine⟨(i+1,_),⟨⟨ax,?_⟩,by simp only;omega⟩,.refl,cU,.nil⟩;simp only;rw[hw,q8,lr,da,bZ,bz,bz,hO,db]
  ·have:i=os.n:=by simp at h;omega
   subst this;have e:aJ.take os.n=aJ:=dX (by omega);refine cx.eW (a:=[91]) (by simp only[cS,dI];omega) ?_;refine cx.eW (b:=[93]) (by simp only[cz,cS,dI];omega) ?_;exact⟨_,_,.sub (cW _) .refl,by rw[hm,hw,e],rfl,rfl⟩
def akV(aq:t.ok I)(au:Fit t W):Spec Tryz.prog 91 [t.val] I [] (λv I' M'=>v=.int .i64 (lQ t:Nat)/\I'=I/\M'=[]):=by
 refine bn [] aI Tryz.func91 rfl rfl rfl ?_;intro B av;refine aU.mk [] [] _ (.refl _) (xF aq W au.w au.b) ?_;rintro v J N -⟨rfl,bg,rfl⟩;subst J;refine aB.mk (λh=>?_) (λh=>?_)
 ·refine⟨_,_,.refl,?_,rfl,rfl⟩;simp[lQ,show right t=false by simpa using h]
 ·refine⟨_,_,.refl,?_,rfl,rfl⟩;simp[lQ,show right t=true by simpa using h]
def akW(aq:t.ok I)(au:Fit t W):Spec Tryz.prog 92 [t.val] I [] (λv I' M'=>v=.int .i64 (depth t)/\I'=I/\M'=[]):=by
 refine bn [] aI Tryz.func92 rfl rfl rfl ?_;intro B av;have az:=aq.n;have gk:=aq.aJ.cap;refine aU.mk [] [] _ (.refl _) (xF aq W au.w au.b) ?_;rintro v J N -⟨rfl,bg,rfl⟩;subst J;refine aB.mk (λh=>?_) (λh=>?_)
 ·refine⟨_,_,.refl,?_,rfl,rfl⟩;simp[depth,show right t=false by simpa using h]
 ·have ag:right t=true:=by simpa using h
  have lL:=h1 ag;obtain⟨a6,bb⟩:=lK ag;refine mO.mk t.n t.n rfl rfl (b2 _) (by show 8*t.n<=_;omega) (by omega) ?_;refine bL.mk λb ah jJ=>?_;refine bu.inv (ι:=Nat×List Int) (λx=>{ a4:=[(1,.ref 1 0),(3,.val (.slice (some ⟨b,0,none⟩) t.n t.n)),(4,.val (.int .i64 x.1))],cl:=[(1,t.cells)],br:=I,bO:=[eC b x.2] }) (λx=>x.1<=t.n/\x.2.length=t.n/\(∀ j,0<=x.2.getD j 0/\x.2.getD j 0<=x.1)/\(∀ j,x.1<=j->x.2.getD j 0=0)/\qK 0 t.aa (List.replicate t.aa.length 0)=qK x.1 (t.aa.drop x.1) x.2) (λx=>t.n-x.1) ?_ ?_
  ·have z:∀ j,(List.replicate t.n (0:Int)).getD j 0=0:=λj=>by
    by_cases aj:j<t.n<;>simp[bV,aj]
   refine⟨(0,List.replicate t.n 0),⟨by omega,by simp,λj=>by rw[z];simp,λj _=>z j,by simp[az]⟩,?_,cU,.cons rfl .nil⟩;show hk _ _ [⟨b,.cells (rowOf [Value.int .i64 0] (t.n*1)).toArray 3 (0,0)⟩] _ [eC b (List.replicate t.n 0)];rw[tJ,fh];simp only[eC,yB];exact .refl
  ·rintro⟨i,d'⟩⟨e3,hA,hB,kg,tA⟩;simp only at e3 hA hB kg tA;refine aB.mk (λh=>?_) (λh=>?_)
   ·have ax:i<t.n:=by simpa using h
    have bo:i<t.aa.length:=by omega
    obtain⟨ad,ba,a3⟩:=aq.aJ.row aH.bI ax bo;have fz:=aq.aa t.aa[i] (bJ bo);have eR:=fz.aZ;have fO:t.aa.drop i=t.aa[i]::t.aa.drop (i+1):=dv bo;have Zw:∀ M,bq I M ((ad.add (i*9)).add 8) 1 [.slice t.aa[i].eA t.aa[i].aZ t.aa[i].ej]:=λM=>(a3 M).part (k:=8) (m:=1) (by decide);refine bu.inv (ι:=Nat×Int) (λx=>{ a4:=[(1,.ref 1 0),(3,.val (.slice (some ⟨b,0,none⟩) t.n t.n)),(4,.val (.int .i64 i)),(5,.val (.int .i64 x.1))],cl:=[(1,t.cells)],br:=I,bO:=[eC b (d'.set i x.2)] }) (λx=>x.1<=t.aa[i].aZ/\0<=x.2/\x.2<=i/\yK d' t.aa[i].kids 0=yK d' (t.aa[i].kids.drop x.1) x.2) (λx=>t.aa[i].aZ-x.1) ?_ ?_
    ·refine⟨(0,0),⟨by omega,by omega,by simp,rfl⟩,?_,cI,.cons rfl .nil⟩;have e:d'.set i 0=d':=by
      have U:=kg i (b2 _);rw[bV]at U;apply yC;intro j;rw[iz];split
      ·rename_i e;subst e;have:i<d'.length:=by omega
       simp[this]at U |-;exact U.symm
      ·rfl
     simp only;rw[e];exact .refl
    ·rintro⟨j,m⟩⟨AD,tK,yI,AG⟩;simp only at AD tK yI AG;refine aW.mk ad i ba rfl ax ?_;refine aE.mk _ (Zw _) ?_;refine aB.mk (λh=>?_) (λh=>?_)
     ·have eS:j<t.aa[i].aZ:=by simpa using h
      have hR:j<t.aa[i].kids.length:=by omega
      obtain⟨eU,eO,eB⟩:=fz.aJ.one eS hR;have nv:t.aa[i].kids.drop j=t.aa[i].kids[j]::t.aa[i].kids.drop (j+1):=dv hR;have af:=lL i bo t.aa[i].kids[j] (bJ hR);have gT:t.aa[i].kids[j]=((t.aa[i].kids[j].toNat:Nat):Int):=by omega
      have bj:t.aa[i].kids[j].toNat<t.n:=by omega
      refine cr.draw aI rfl rfl rfl ?_;have cd:i<(d'.set i m).length:=by simp;omega
      have gy:t.aa[i].kids[j].toNat<(d'.set i m).length:=by simp;omega
      have AH:(d'.set i m)[i]=m:=by simp
      have e6:(d'.set i m)[t.aa[i].kids[j].toNat]=d'.getD t.aa[i].kids[j].toNat 0:=by
       have bB:i≠t.aa[i].kids[j].toNat:=by omega
       have fP:t.aa[i].kids[j].toNat<d'.length:=by omega
       rw[IF,cB bB];simp[bV,fP]
      refine aW.mk ⟨b,0,none⟩ i rfl rfl ax ?_;refine aE.mk [.int .i64 m] (yJ cd AH (by simp)) ?_;refine aW.mk ad i ba rfl ax ?_;refine aE.mk _ (Zw _) ?_;refine aW.mk eU j eO rfl eS ?_;refine aE.mk [.int .i64 t.aa[i].kids[j]] (eB _) ?_;refine aW.mk ⟨b,0,none⟩ t.aa[i].kids[j].toNat rfl gT bj ?_;refine aE.mk [.int .i64 (d'.getD t.aa[i].kids[j].toNat 0)] (yJ gy e6 (by simp)) ?_;refine aW.mk ⟨b,0,none⟩ i rfl rfl ax ?_;refine cu.add [] [] _ 3 rfl ?_ rfl ?_;·simp only[jZ,cT];show 0+i*1+1<=_;simp;omega
      have eT:IntKind.i64.wrap ((j:Int)+1)=((j+1:Nat):Int):=by rw[wrap_i64 ⟨by omega,by have:=fz.aJ.cap;omega⟩];omega
      refine aQ.mk _ eT ?_;have aea:=hB t.aa[i].kids[j].toNat;refine⟨(j+1,max m (d'.getD t.aa[i].kids[j].toNat 0)),⟨⟨by omega,by simp only;omega,by simp only;omega,?_⟩,by show _<_;simp only;omega⟩,?_,cI,.cons rfl .nil⟩;·simp only;rw[AG,nv];rfl
      ·have e:=AF (d'.set i m) i cd (max m (d'.getD t.aa[i].kids[j].toNat 0));simp only[eC];rw[CI]at e;rw[<-e];simp only[cM,fh];exact .refl
     ·have eS:¬ j<t.aa[i].aZ:=by simpa using h
      have tL:t.aa[i].kids.drop j=[]:=iW (by omega);have hm:yK d' t.aa[i].kids 0=m:=by rw[AG,tL];rfl
      have cd:i<(d'.set i m).length:=by simp;omega
      have AH:(d'.set i m)[i]=m:=by simp
      have Fo:IntKind.i64.wrap (m+1)=m+1:=wrap_i64 ⟨by omega,by omega⟩;have eT:IntKind.i64.wrap ((i:Int)+1)=((i+1:Nat):Int):=by rw[wrap_i64 ⟨by omega,by omega⟩];omega
      refine aW.mk ⟨b,0,none⟩ i rfl rfl ax ?_;refine aE.mk [.int .i64 m] (yJ cd AH (by simp)) ?_;refine aQ.mk _ Fo ?_;refine aW.mk ⟨b,0,none⟩ i rfl rfl ax ?_;refine cu.add [] [] _ 3 rfl ?_ rfl ?_;·simp only[jZ,cT];show 0+i*1+1<=_;omega
      refine aQ.mk _ eT ?_;refine⟨(i+1,d'.set i (m+1)),⟨⟨by omega,by simp[hA],?_,?_,?_⟩,by show _<_;simp only;omega⟩,?_,cU,.cons rfl .nil⟩
      ·intro q;have MM:=hB q;simp only[bV,iz]at MM |-;split
       ·rename_i e;subst e;have:i<d'.length:=by omega
        simp[this];omega
       ·omega
      ·intro q a0;have Fp:=kg q (by omega);simp only at a0;simp only[bV,iz]at Fp |-;rw[cB (by omega)];exact Fp
      ·simp only;rw[tA,fO];simp only[qK,hm]
      ·have e:=AF (d'.set i m) i cd (m+1);simp only[eC];rw[CI]at e;rw[<-e];simp only[cM,fh];exact .refl
   ·have bS:¬ i<t.n:=by simpa using h
    have gw:t.aa.drop i=[]:=iW (by omega);have eg:qK 0 t.aa (List.replicate t.aa.length 0)=d':=by rw[tA,gw];rfl
    have g3:t.root=((t.root.toNat:Nat):Int):=by omega
    have dp:t.root.toNat<d'.length:=by omega
    refine aW.mk ⟨b,0,none⟩ t.root.toNat rfl g3 (by omega) ?_;refine aE.mk [.int .i64 d'[t.root.toNat]] (yJ dp rfl (by simp)) ?_;refine⟨_,_,.sub (cW _) .refl,?_,rfl,rfl⟩;have:depth t=d'[t.root.toNat]:=by unfold depth;rw[ag,eg];simp[bV,dp]
    rw[this];rfl
def Zx(aq:t.ok I)(au:Fit t W):Spec Tryz.prog 61 [t.val] I [] (λv I' M'=>v=.bool (hD t)/\I'=I/\M'=[]):=by
 refine bn [] aI Tryz.func61 rfl rfl rfl ?_;intro B av;refine aU.mk [] [] _ (.refl _) (xF aq W au.w au.b) ?_;rintro v J N -⟨rfl,bg,rfl⟩;subst J;refine a9.mk (λU=>?_) (λU=>?_)
 ·refine a9.mk (λab=>?_) (λab=>?_)
  ·refine aU.mk [] [] _ (.refl _) (akW aq au) ?_;rintro v J N -⟨rfl,bg,rfl⟩;subst J;refine⟨_,_,.refl,?_,rfl,rfl⟩;have gx:t.n<=1024:=by simp at ab;omega
   simp[hD,U,gx]
  ·refine⟨_,_,.refl,?_,rfl,rfl⟩;have gx:¬ t.n<=1024:=by simp at ab;omega
   simp[hD,gx]
 ·refine⟨_,_,.refl,?_,rfl,rfl⟩;have jL:right t=false:=U;simp[hD,jL]
def l1(qY gu:Int):Bool:=(decide (qY=4)&&(decide (gu=4)||decide (gu=0)))||(decide (qY=5)&&decide (gu=5))
def BR(aa:List aH):List aH->Bool
 |[]=>true| d::ds=>(d.kids.all λk=>!l1 d.k (fD aa k))&&BR aa ds
def Qr(aa:List aH)(qY:Int)(h:qY=4\/qY=5):∀ ks,kQ aa qY ks=ks.all λk=>!l1 qY (fD aa k)
 |[]=>rfl
 |k::ks=>by
  rw[kQ,su,Qr aa qY h ks];have e:(decide (fD aa k=qY)||(decide (fD aa k=0)&&decide (qY=4)))=l1 qY (fD aa k):=by
   unfold l1;rcases h with rfl | rfl;·simp
   ·simp
  rw[e];cases l1 qY (fD aa k)<;>rfl
def Zy(aa:List aH):∀ ds,kR aa ds=BR aa ds
 |[]=>rfl
 |d::ds=>by
  rw[kR,BR,Zy aa ds];by_cases aL:d.k=4
  ·rw[Qr aa d.k (.inl aL)];simp only[aL,A6,nS,nr,bz];cases(d.kids.all λk=>!l1 4 (fD aa k))<;>rfl
  ·by_cases bm:d.k=5
   ·rw[Qr aa d.k (.inr bm)];simp only[bm,A6,nS,yT,bz];cases(d.kids.all λk=>!l1 5 (fD aa k))<;>rfl
   ·have e:(d.kids.all λk=>!l1 d.k (fD aa k))=true:=by rw[et];intro k _;simp[l1,aL,bm]
    rw[e];simp[aL,bm]
def akX(aq:t.ok I)(au:Fit t W):Spec Tryz.prog 59 [t.val] I [] (λv I' M'=>v=.bool (normal t)/\I'=I/\M'=[]):=by
 refine bn [] aI Tryz.func59 rfl rfl rfl ?_;intro B av;have az:=aq.n;have gk:=aq.aJ.cap;refine aU.mk [] [] _ (.refl _) (xF aq W au.w au.b) ?_;rintro v J N -⟨rfl,bg,rfl⟩;subst J;refine aB.mk (λh=>?_) (λh=>?_)
 ·refine⟨_,_,.refl,?_,rfl,rfl⟩;simp[normal,show right t=false by simpa using h]
 have ag:right t=true:=by simpa using h
 have cm:normal t=BR t.aa t.aa:=by simp[normal,ag,Zy]
 refine bu.inv (ι:=Nat) (λi=>{ a4:=[(1,.ref 1 0),(3,.val (.int .i64 i))],cl:=[(1,t.cells)],br:=I }) (λi=>i<=t.n/\BR t.aa t.aa=BR t.aa (t.aa.drop i)) (λi=>t.n-i) ?_ ?_
 ·exact⟨0,⟨by simp,rfl⟩,.refl,ih,.cons rfl .nil⟩
 rintro i⟨hi,c1⟩;refine aB.mk (λh=>?_) (λh=>?_)
 ·have ax:i<t.n:=by simpa using h
  have bo:i<t.aa.length:=by omega
  obtain⟨ad,ba,a3⟩:=aq.aJ.row aH.bI ax bo;have fz:=aq.aa t.aa[i] (bJ bo);have eR:=fz.aZ;have fO:t.aa.drop i=t.aa[i]::t.aa.drop (i+1):=dv bo;have lL:=h1 ag i bo;generalize al:t.aa[i]=d at a3 fz eR fO lL;rw[fO,BR]at c1;refine aW.mk ad i ba rfl ax ?_;refine aE.mk _ (a3 _) ?_;refine bu.inv (ι:=Nat) (λj=>{ a4:=[(1,.ref 1 0),(3,.val (.int .i64 i)),(4,.ref 4 0),(5,.val (.int .i64 j))],cl:=[(1,t.cells),(4,d.cells)],br:=I }) (λj=>j<=d.aZ/\(d.kids.all λk=>!l1 d.k (fD t.aa k))=((d.kids.drop j).all λk=>!l1 d.k (fD t.aa k))) (λj=>d.aZ-j) ?_ ?_;·exact⟨0,⟨by simp,rfl⟩,.refl,cI,.cons rfl (.cons rfl .nil)⟩
  rintro j⟨aj,ms⟩;refine aB.mk (λh=>?_) (λh=>?_)
  ·have eS:j<d.aZ:=by simpa using h
   have hR:j<d.kids.length:=by omega
   obtain⟨eU,eO,eB⟩:=fz.aJ.one eS hR;have nv:d.kids.drop j=d.kids[j]::d.kids.drop (j+1):=dv hR;have e6:=lL _ (bJ hR);generalize fC:d.kids[j]=Jc at eB nv e6;obtain⟨q,rfl⟩:=en e6.1;have ee:q<t.aa.length:=by omega
   have kP:q<t.n:=by omega
   obtain⟨iD,lb,rS⟩:=aq.aJ.row aH.bI kP ee;have ld:∀ M,bq I M ((iD.add (q*9)).add 0) 1 [.int .u8 t.aa[q].k]:=λM=>(rS M).part (k:=0) (m:=1) (by decide);have pS:fD t.aa ((q:Nat):Int)=t.aa[q].k:=by simp[fD,bV,ee]
   rw[nv,su,pS]at ms;have bad:l1 d.k t.aa[q].k=true->normal t=false:=λah=>by rw[cm,c1,ms,ah];rfl
   have tY:l1 d.k t.aa[q].k=false->(d.kids.all λk=>!l1 d.k (fD t.aa k))=((d.kids.drop (j+1)).all λk=>!l1 d.k (fD t.aa k)):=λah=>by rw[ms,ah];rfl
   have eT:=bl (i:=j) (by have:=fz.aJ.cap;omega);refine cr.draw aI rfl rfl rfl ?_;refine aW.mk eU j eO rfl eS ?_;refine aE.mk _ (eB _) ?_;refine aW.mk iD q lb rfl kP ?_;refine aE.mk _ (ld _) ?_;refine a9.mk (λc6=>?_) (λc6=>?_)
   ·have d4:d.k=4:=by simpa using c6
    refine a9.mk (λdg=>?_) (λdg=>?_)
    ·refine a9.mk (λgB=>?_) (λgB=>?_)
     ·refine a9.mk (λmy=>?_) (λ_=>?_)
      ·exfalso;simp at my;omega
      refine aQ.mk _ eT ?_;exact⟨j+1,⟨⟨by omega,tY (by simp at dg gB;simp[l1,d4,dg,gB])⟩,by omega⟩,.refl,cI,.cons rfl (.cons rfl .nil)⟩
     ·exact⟨_,_,.refl,congrArg Value.bool (bad (by simp at gB;simp[l1,d4,gB])).symm,rfl,rfl⟩
    ·exact⟨_,_,.refl,congrArg Value.bool (bad (by simp at dg;simp[l1,d4,dg])).symm,rfl,rfl⟩
   ·have d4:d.k≠4:=by simpa using c6
    refine a9.mk (λmy=>?_) (λmy=>?_)
    ·have d5:d.k=5:=by simpa using my
     refine aB.mk (λoi=>?_) (λoi=>?_);·exact⟨_,_,.refl,congrArg Value.bool (bad (by simp at oi;simp[l1,d5,oi])).symm,rfl,rfl⟩
     ·refine aQ.mk _ eT ?_;exact⟨j+1,⟨⟨by omega,tY (by simp at oi;simp[l1,d5,oi])⟩,by omega⟩,.refl,cI,.cons rfl (.cons rfl .nil)⟩
    ·have d5:d.k≠5:=by simpa using my
     refine aQ.mk _ eT ?_;exact⟨j+1,⟨⟨by omega,tY (by simp[l1,d4,d5])⟩,by omega⟩,.refl,cI,.cons rfl (.cons rfl .nil)⟩
  ·have tL:d.kids.drop j=[]:=iW (by simp at h;omega);refine aQ.mk _ (bl (i:=i) (by omega)) ?_;refine⟨i+1,⟨⟨by omega,?_⟩,by omega⟩,.refl,ih,.cons rfl .nil⟩;rw[c1,ms,tL];rfl
 ·have bS:t.n<=i:=by simpa using h
  have gw:t.aa.drop i=[]:=iW (by omega);refine⟨_,_,.refl,?_,rfl,rfl⟩;rw[cm,c1,gw];rfl
def akY(a b:Int):Spec Tryz.prog 159 [.int .u8 a,.int .u8 b] I [] λr I' M'=>r=.bool (fI a b)/\I'=I/\M'=[]:=by
 refine bn [] aI Tryz.func159 rfl rfl rfl ?_;intro B av
 repeat' first
  |refine aB.mk (λh=>?_) (λh=>?_)| refine a9.mk (λh=>?_) (λh=>?_)
 all_goals (first | (exfalso;simp at *;omega;done) | refine⟨_,_,.refl,?_,rfl,rfl⟩)
 all_goals (simp only[fk,rA,nS,EG]at *;simp_all[fI])
def akZ(lo:Nat)(hi:Int)(gN:lo<=99)(ia:hi=-1\/((lo:Int)<=hi/\hi<=99)):Spec Tryz.prog 162 [.int .i64 lo,.int .i64 hi] I [] λr I' M'=>r=.string (strOf (la lo hi))/\I'=I/\M'=[]:=by
 have al:=yP lo;have mu:=yP hi.toNat;refine bn [] aI Tryz.func162 rfl rfl rfl ?_;intro B av;have e4:2<=lo->la lo (-1)=[123]++hS lo++[44,125]:=λh=>by have aF:decide ((0:Int)=lo)=false:=dk (by omega);have a7:decide ((1:Int)=lo)=false:=dk (by omega);have bC:decide ((-1:Int)=lo)=false:=dk (by omega);simp[la,tR,aF,a7,bC]
 have sZ:la lo lo=[123]++hS lo++[125]:=by
  have aF:(decide ((0:Int)=lo)&&decide ((1:Int)=lo))=false:=by
   rw[IZ];by_cases h:(0:Int)=lo;·exact .inr (dk (by omega))
   ·exact .inl (dk h)
  have bC:decide ((-1:Int)=lo)=false:=dk (by omega);unfold la tR;rw[aF,bC];simp
 have lC:∀ h:Nat,lo<h->¬ (lo=0/\h=1)->la lo (h:Int)=[123]++hS lo++[44]++hS h++[125]:=λh U ab=>by
  have aF:(decide ((0:Int)=lo)&&decide ((1:Int)=h))=false:=by
   rw[IZ];by_cases h:(0:Int)=lo;·exact .inr (dk (by omega))
   ·exact .inl (dk h)
  have bC:decide ((-1:Int)=h)=false:=dk (by omega);have di:decide ((h:Int)=lo)=false:=dk (by omega);have hE:decide ((h:Int)=-1)=false:=dk (by omega);unfold la tR;rw[aF,bC,di,hE];simp
 rcases ia with rfl | ⟨U,ab⟩
 ·rcases(by omega:lo=0\/lo=1\/2<=lo)with rfl | rfl | ak0
  ·repeat' first
    |refine aB.mk (λh=>?_) (λh=>?_)| refine a9.mk (λh=>?_) (λh=>?_)
   all_goals (try (exfalso;simp at *;done))
   all_goals exact⟨_,_,.refl,rfl,rfl,rfl⟩
  ·repeat' first
    |refine aB.mk (λh=>?_) (λh=>?_)| refine a9.mk (λh=>?_) (λh=>?_)
   all_goals (try (exfalso;simp at *;done))
   all_goals exact⟨_,_,.refl,rfl,rfl,rfl⟩
  ·have e:=e4 ak0;clear e4 sZ lC
   repeat' first
    |refine aB.mk (λh=>?_) (λh=>?_)| refine a9.mk (λh=>?_) (λh=>?_)
   all_goals (try (exfalso;simp at *;done))
   all_goals (try (exfalso;simp at *;omega;done))
   refine aU.mk [] [] _ (.refl _) (K2 lo (by omega)) ?_;rintro v J N -⟨rfl,rfl,rfl⟩;refine cx.eW (a:=[123]) (b:=hS lo) (by simp;omega) ?_;refine cx.eW (b:=[44,125]) (by simp;omega) ?_;exact⟨_,_,.refl,by rw[e],rfl,rfl⟩
 ·obtain⟨w,rfl⟩:=en (show 0<=hi by omega);rcases(by omega:(lo=0/\w=1)\/lo=w\/(lo<w/\¬ (lo=0/\w=1)))with⟨rfl,rfl⟩ | rfl | ⟨da,bZ⟩
  ·clear e4 sZ lC
   repeat' first
    |refine aB.mk (λh=>?_) (λh=>?_)| refine a9.mk (λh=>?_) (λh=>?_)
   all_goals (try (exfalso;simp at *;done))
   all_goals exact⟨_,_,.refl,rfl,rfl,rfl⟩
  ·clear e4 lC
   repeat' first
    |refine aB.mk (λh=>?_) (λh=>?_)| refine a9.mk (λh=>?_) (λh=>?_)
   all_goals (try (exfalso;simp at *;done))
   all_goals (try (exfalso;simp at *;omega;done))
   all_goals
    refine aU.mk [] [] _ (.refl _) (K2 lo (by omega)) ?_;rintro v J N -⟨rfl,rfl,rfl⟩;refine cx.eW (a:=[123]) (b:=hS lo) (by simp;omega) ?_;refine cx.eW (b:=[125]) (by simp;omega) ?_;exact⟨_,_,.refl,by rw[sZ],rfl,rfl⟩
  ·have e:=lC w da bZ;clear e4 sZ lC
   repeat' first
    |refine aB.mk (λh=>?_) (λh=>?_)| refine a9.mk (λh=>?_) (λh=>?_)
   all_goals (try (exfalso;simp at *;done))
   all_goals (try (exfalso;simp at *;omega;done))
   all_goals
    have AZ:(hS w).length<=2:=yP w;refine aU.mk [] [] _ (.refl _) (K2 lo (by omega)) ?_;rintro v J N -⟨rfl,rfl,rfl⟩;refine cx.eW (a:=[123]) (b:=hS lo) (by simp;omega) ?_;refine cx.eW (b:=[44]) (by simp;omega) ?_;refine aU.mk [] [] _ (.refl _) (K2 w (by omega)) ?_;rintro v J N -⟨rfl,rfl,rfl⟩;refine cx.eW (b:=hS w) (by simp;omega) ?_;refine cx.eW (b:=[125]) (by simp;omega) ?_;exact⟨_,_,.refl,by rw[e],rfl,rfl⟩
structure ak1(d:aH)(n:Int):Prop where
 z:d.k=0->d.t=⟨#[]⟩
 leaf:d.k<=3->n=0
 one:6<=d.k->n=1
 two:d.k=4\/d.k=5->2<=n
def zK(av:0<=d.k)(h:fits d n=true):ak1 d n:=by
 have ar:=(CZ h).k;have af:d.k=0\/d.k=1\/d.k=2\/d.k=3\/d.k=4\/d.k=5\/d.k=6\/d.k=7\/d.k=8\/d.k=9:=by omega
 have cv:∀ j:Fin 10,xj j.val=mo.getD (j.val*2) 0/\tI j.val=mo.getD (j.val*2+1) 0:=by decide
 unfold fits at h;rcases af with e | e | e | e | e | e | e | e | e | e<;>rw[e]at h<;>simp[xj,tI,mo]at h <;>
  refine⟨λq=>?_,λq=>?_,λq=>?_,λq=>?_⟩<;>first | (omega;done) | (exact h.2.2.1;done) | (exact h.2.1;done) | (simp_all;done)
def jU(sep:List UInt8):List (List UInt8)->List UInt8
 |[]=>[]| x::xs=>x++xs.flatMap λy=>sep++y
def Zz(sep:List UInt8)(f:Int->List UInt8):∀ ks,n' sep f true ks=(ks.map f).flatMap λy=>sep++y
 |[]=>rfl| k::ks=>by rw[n',Zz sep f ks];simp
def ak2(sep:List UInt8)(f:Int->List UInt8)(ks:List Int):n' sep f false ks=jU sep (ks.map f):=by
 cases ks with
 |nil=>rfl| cons k ks=>rw[n',Zz];simp[jU]
def ZA(sep:List UInt8)(L:List (List UInt8))(h:L≠[])(y:List UInt8):jU sep (L++[y])=jU sep L++sep++y:=by
 cases L with
 |nil=>exact absurd rfl h| cons x xs=>simp[jU]
def q9(deb:List Int)(d:aH)(L:List (List UInt8)):List UInt8:=
 bif decide (d.k=0)then [34,34]else
 bif decide (d.k=1)then sR deb d.cF d.s1 d.s2 d.dt else
 bif decide (d.k=2)then vD d.t else
 bif decide (d.k=3)then d.t.data.toList else
 bif decide (d.k=7)then [38]++L.headD []else
 bif decide (d.k=8)then [33]++L.headD []else
 bif decide (d.k=6)then L.headD []++la d.lo.toNat d.hi else
 bif decide (d.k=9)then [60]++d.t.data.toList++[58,32]++L.headD []++[62]else
 jU (bif decide (d.k=5)then [32,47,32]else [32]) L
def ZB(deb:List Int)(aa:List aH)(av:0<=d.k)(h:fits d d.kids.length=true)(g:Int->List UInt8):xq deb aa d g=q9 deb d (d.kids.map λk=>paren (fI d.k (fD aa k)) (g k)):=by
 have ar:=(CZ h).k;have hm:=zK av h;have af:d.k=0\/d.k=1\/d.k=2\/d.k=3\/d.k=4\/d.k=5\/d.k=6\/d.k=7\/d.k=8\/d.k=9:=by omega
 unfold xq q9;rw[ak2];generalize cL:(d.kids.map λk=>paren (fI d.k (fD aa k)) (g k))=L;have iT:L.length=d.kids.length:=by rw[<-cL];simp
 have cF:h2 2=[]/\h2 3=[]/\h2 5=[]/\h2 8=[]/\h2 11=[]/\h2 12=[]/\h2 13=[32]/\h2 14=[]/\h2 15=[]/\h2 16=[32,47,32]/\h2 17=[]/\h2 18=[]/\h2 21=[38]/\h2 23=[]/\h2 24=[33]/\h2 26=[]/\h2 27=[60]/\h2 29=[62]:=by decide
 obtain⟨PA,arz,ak3,ak4,ak5,ak6,ak7,ak8,ak9,ala,alb,alc,ald,ale,alf,alg,alh,ali⟩:=cF;have nil:d.k<=3->L=[]:=λq=>hZ (by have:=hm.leaf q;omega);have one:6<=d.k->∃ x,L=[x]:=λq=>by
  have:=hm.one q
  match L,iT with
  |[x],_=>exact⟨x,rfl⟩| [],iT=>simp at iT;omega| _::_::_,iT=>simp at iT;omega
 rcases af with e | e | e | e | e | e | e | e | e | e
 ·rw[nil (by omega)];simp[kp,jN,oa,jU,e,PA,hm.z e,vD]
 ·rw[nil (by omega)];simp[kp,jN,oa,jU,e,ak3]
 ·rw[nil (by omega)];simp[kp,jN,oa,jU,e,ak4]
 ·rw[nil (by omega)];simp[kp,jN,oa,jU,e,ak5]
 ·simp[kp,jN,oa,e,ak6,ak7,ak8]
 ·simp[kp,jN,oa,e,ak9,ala,alb]
 ·obtain⟨x,rfl⟩:=one (by omega);simp[kp,jN,oa,jU,e,alc]
 ·obtain⟨x,rfl⟩:=one (by omega);simp[kp,jN,oa,jU,e,ald,ale]
 ·obtain⟨x,rfl⟩:=one (by omega);simp[kp,jN,oa,jU,e,alf,alg]
 ·obtain⟨x,rfl⟩:=one (by omega);simp[kp,jN,oa,jU,e,alh,ali]
def mF(deb:List Int):Prop:=∀ a b c d:Int,(∀ x∈[a,b,c,d],e5 x)->D9 (ot (lY [a,b,c,d]) 256)=sR deb a b c d
def Hm(l:List UInt8):List Value:=[.string (strOf l)]
def D'(L:List (List UInt8)):List Value:=L.flatMap Hm
def ZC(L:List (List UInt8))(x:List UInt8):D' (L++[x])=D' L++[.string (strOf x)]:=by simp[D',Hm]
def alj(L:List (List UInt8)):(D' L).length=L.length:=by have:=gd Hm 1 (λ_=>rfl) L;simpa[D']using this
def cx.alk{t:Nat}{x y:Operand}{a:List UInt8}{b:ByteArray}(ar:a.length+b.size<=9223372036854775807){V:Value->Prop}{other:Prop}(h:V (.string (strOf (a++b.data.toList)))):cx P .add t x y (.val (.string (strOf a))) (.val (.string b)) V other:=
 cx.concat (a:=strOf a) (b:=b) ar (by rw[<-Ug,M7]at h;exact h)
def ZD{sep:List UInt8}{f:Int->List UInt8}:∀ {ks:List Int} {b:Bool} {k:Int},k∈ks->(f k).length<=(n' sep f b ks).length
 |y2::ks,b,k,h=>by
  unfold n';simp only[cz];rcases ea.1 h with rfl | h;·omega
  ·have:=ZD (sep:=sep) (f:=f) (b:=true) h;omega
def ZE(sep:List UInt8)(L:List (List UInt8))(i:Nat):(jU sep (L.take i)).length<=(jU sep L).length:=by
 cases L with
 |nil=>simp
 |cons x xs=>
  cases i with
  |zero=>simp[jU]
  |succ i=>
   rw[nq,jU,jU,cz,cz];have:((xs.take i).flatMap λy=>sep++y).length<=(xs.flatMap λy=>sep++y).length:=by
    conv=>rhs;rw[<-rB i xs,jF,cz]
    omega
   omega
def head_mem(h:0<L.length):L.headD []=L[0]:=by
 cases L with
 |nil=>simp at h| cons x xs=>rfl
set_option maxRecDepth 100000 in
def ZF{I:aT}{deb:List Int}(cv:mF deb){t:bx}(aq:t.ok I)(ag:right t=true)(af:∀ d∈t.aa,d.aZ<=1099511627776):∀ (m j:Nat),j<m->∀ (aj:j<t.aa.length),(fX deb t.aa j).length<=1152921504606846976 -> Spec Tryz.prog 139 [t.val,.int .i64 j] I [] λr I' M'=>r=.string (strOf (fX deb t.aa j))/\I'=I/\M'=[]
 |0,j,h,_,_=>absurd h (qb _)
 |m+1,j,Ea,aj,hlen=>by
  have a8:=ZF (I:=I) cv aq ag af m;have g7:=aq.n;have cN:t.aa[j]∈t.aa:=bJ aj;have fz:=aq.aa t.aa[j] cN;have eR:=fz.aZ;have Vs:=af _ cN;have lL:=h1 ag j aj;have ga:=tM ag aj;have k7:=CZ ga;have Eb:=zK fz.k.1 ga;have jA:j<t.n:=by omega
  obtain⟨ad,ba,a3⟩:=aq.aJ.row aH.bI jA aj;have x4:fX deb t.aa j=q9 deb t.aa[j] (t.aa[j].kids.map λk=>paren (fI t.aa[j].k (fD t.aa k)) (fX deb t.aa k)):=by rw[Fz ag aj,ZB deb t.aa fz.k.1 ga]
  have bj:∀ k∈t.aa[j].kids,(paren (fI t.aa[j].k (fD t.aa k)) (fX deb t.aa k)).length<=1152921504606846976:=λk zL=>by refine k5 ?_ hlen;rw[Fz ag aj,xq];have:=ZD (sep:=oa t.aa[j]) (f:=λk=>paren (fI t.aa[j].k (fD t.aa k)) (fX deb t.aa k)) (b:=false) zL;simp only[cz]at this |-;omega
  generalize al:t.aa[j]=d at *;generalize bs:(λk:Int=>paren (fI d.k (fD t.aa k)) (fX deb t.aa k))=F at *;have ZG:∀ k,F k=paren (fI d.k (fD t.aa k)) (fX deb t.aa k):=λk=>by rw[<-bs]
  refine bn [] aI Tryz.func139 rfl rfl rfl ?_;intro B av;refine aW.mk ad j ba rfl jA ?_;refine aE.mk _ (a3 _) ?_;refine bu.inv (ι:=Nat×aY) (λx=>{ a4:=[(2,.ref 2 0),(5,.ref 5 0),(6,.val x.2.val),(7,.val (.int .i64 x.1))],cl:=[(2,t.cells),(5,d.cells)],br:=I,bO:=x.2.aw 9 }) (λx=>x.1<=d.aZ/\x.2.ok 1 (D' ((d.kids.take x.1).map F))) (λx=>d.aZ-x.1) ?_ ?_;·exact⟨(0,fs),⟨bQ _,fT 1⟩,.refl,cI,.cons rfl (.cons rfl .nil)⟩
  rintro⟨i,os⟩⟨hi,bf⟩;simp only at hi bf;have hV:os.n=i:=by have:=bf.len;rw[alj,cT,rO (by omega)]at this;omega
  refine aB.mk (λh=>?_) (λh=>?_)
  ·have ax:i<d.aZ:=by simpa using h
   have cd:i<d.kids.length:=by omega
   obtain⟨eU,eO,eB⟩:=fz.aJ.one ax cd;have zL:d.kids[i]∈d.kids:=bJ cd;have e6:=lL _ zL;have gW:=bj _ zL;have q8:(d.kids.take (i+1)).map F=(d.kids.take i).map F++[F d.kids[i]]:=by rw[er cd,eL];rfl
   generalize fC:d.kids[i]=Jc at *;obtain⟨q,rfl⟩:=en e6.1;have ee:q<t.aa.length:=by omega
   have kP:q<t.n:=by omega
   obtain⟨iD,lb,rS⟩:=aq.aJ.row aH.bI kP ee;have ld:∀ M,bq I M ((iD.add (q*9)).add 0) 1 [.int .u8 t.aa[q].k]:=λM=>(rS M).part (k:=0) (m:=1) (by decide);have pS:fD t.aa ((q:Nat):Int)=t.aa[q].k:=by simp[fD,bV,ee]
   have vC:(fX deb t.aa q).length<=1152921504606846976:=by rw[paren]at gW;simp only[cz]at gW;omega
   refine cr.draw aI rfl rfl rfl ?_;refine aW.mk eU i eO rfl ax ?_;refine aE.mk _ (eB _) ?_;refine aU.mk [] (os.aw 9) _ (.refl _) (a8 q (by omega) ee vC) ?_;rintro v J N -⟨rfl,bg,rfl⟩;subst J;refine cr.draw aI rfl rfl rfl ?_;refine aW.mk eU i eO rfl ax ?_;refine aE.mk _ (eB _) ?_;refine aW.mk iD q lb rfl kP ?_;refine aE.mk _ (ld _) ?_;refine aU.mk [] (os.aw 9) _ (.refl _) (akY d.k t.aa[q].k) ?_;rintro v J N -⟨rfl,bg,rfl⟩;subst J;have Qs:=ZG q;rw[pS]at Qs;refine aB.mk (λab=>?_) (λab=>?_)
   ·have Qt:F q=[40]++fX deb t.aa q++[41]:=by rw[Qs,ab];rfl
    refine cx.eW (a:=[40]) (by simp only[cS,dI];omega) ?_;refine cx.eW (b:=[41]) (by simp only[cz,cS,dI];omega) ?_;refine bL.mk λbT h3 iF=>?_;refine bk.sL aI rfl (by simp) (e:=9) rfl rfl rfl os bf rfl (m:=1) rfl (news:=[.string (strOf ([40]++fX deb t.aa q++[41]))]) (by decide) (dj (b:=bT) (cs:=[.string (strOf ([40]++fX deb t.aa q++[41]))]) (k:=0) (n:=1) (T:=9) (.head _) (by simp)) rfl (Mr:=[⟨bT,.cells #[.string (strOf ([40]++fX deb t.aa q++[41]))] 9 (0,0)⟩]) (gQ (l₁:=[_])) (by simp only[maxLen];omega) (by show(os.n+1)*16<=_;omega) ?_;intro dh c' fi ub c5 c7 dS eP;refine aQ.mk _ (bl (i:=i) (by omega)) ?_;refine⟨(i+1,⟨some dh,os.n+1,c',fi⟩),⟨⟨by simp only;omega,?_⟩,by simp only;omega⟩,.sub (List.Sublist.cons_cons _ (cW _)) .refl,cI,.cons rfl (.cons rfl .nil)⟩;simp only;rw[q8,Qt,ZC];exact xv bf c5 c7 dS eP
   ·have Qt:F q=fX deb t.aa q:=by rw[Qs,ab];simp[paren]
    refine bL.mk λbT h3 iF=>?_;refine bk.sL aI rfl (by simp) (e:=9) rfl rfl rfl os bf rfl (m:=1) rfl (news:=[.string (strOf (fX deb t.aa q))]) (by decide) (dj (b:=bT) (cs:=[.string (strOf (fX deb t.aa q))]) (k:=0) (n:=1) (T:=9) (.head _) (by simp)) rfl (Mr:=[⟨bT,.cells #[.string (strOf (fX deb t.aa q))] 9 (0,0)⟩]) (gQ (l₁:=[_])) (by simp only[maxLen];omega) (by show(os.n+1)*16<=_;omega) ?_;intro dh c' fi ub c5 c7 dS eP;refine aQ.mk _ (bl (i:=i) (by omega)) ?_;refine⟨(i+1,⟨some dh,os.n+1,c',fi⟩),⟨⟨by simp only;omega,?_⟩,by simp only;omega⟩,.sub (List.Sublist.cons_cons _ (cW _)) .refl,cI,.cons rfl (.cons rfl .nil)⟩;simp only;rw[q8,Qt,ZC];exact xv bf c5 c7 dS eP
  ·have Hn:i=d.aZ:=by simp at h;omega
   have q8:(d.kids.take i).map F=d.kids.map F:=by rw[dX (by omega)]
   rw[q8]at bf;generalize cL:d.kids.map F=L at *;have D1:L.length=d.aZ:=by rw[<-cL];simp;omega
   have row:∀ {i:Nat} (hi:i<L.length),∃ ad,(os.a.map λg=>(⟨g,0,none⟩:Addr))=some ad/\bq I (os.aw 9) (ad.add (i*1)) 1 (Hm L[i]):=fun {i} hi=>aY.ok.row (I:=I) (M:=os.aw 9) (f:=Hm) (λ_=>rfl) (by decide) bf (e:=9) (λy aA=>aA) hi;have Ec:∀ x∈L,x.length<=1152921504606846976:=λx ae=>by rw[<-cL]at ae;obtain⟨k,zL,rfl⟩:=dB.1 ae;rw[ZG];exact bj k zL
   have ma:6<=d.k->0<L.length/\L.headD []=L.headD []:=λb5=>⟨by have:=Eb.one b5;omega,rfl⟩;refine aB.mk (λiH=>?_) (λiH=>?_);·exact⟨_,_,.sub (cW _) .refl,by rw[x4,q9,iH];rfl,rfl,rfl⟩
   refine aB.mk (λc6=>?_) (λc6=>?_)
   ·have g5:∀ x∈[d.cF,d.s1,d.s2,d.dt],e5 x:=by
     intro x ae;simp only[ea,M3,or_false]at ae;rcases ae with rfl | rfl | rfl | rfl;·exact fz.cF
     ·exact fz.s1
     ·exact fz.s2
     ·exact fz.dt
    have c4:=akU (I:=I) g5;rw[cv _ _ _ _ g5]at c4;refine aU.mk [] (os.aw 9) _ (.refl _) c4 ?_;rintro v J N -⟨rfl,bg,rfl⟩;subst J;exact⟨_,_,.sub (cW _) .refl,by rw[x4,q9,iH,c6];rfl,rfl,rfl⟩
   refine aB.mk (λdg=>?_) (λdg=>?_);·refine aU.mk [] (os.aw 9) _ (.refl _) (akS d.t (by have:=k7.t;omega)) ?_;rintro v J N -⟨rfl,bg,rfl⟩;subst J;exact⟨_,_,.sub (cW _) .refl,by rw[x4,q9,iH,c6,dg];rfl,rfl,rfl⟩
   refine aB.mk (λgB=>?_) (λgB=>?_);·exact⟨_,_,.sub (cW _) .refl,by rw[x4,q9,iH,c6,dg,gB];exact congrArg Value.string (M7 d.t).symm,rfl,rfl⟩
   refine aB.mk (λsX=>?_) (λsX=>?_);·have mG:0<L.length:=(ma (by simp at sX;omega)).1;have sQ:=Ec _ (bJ mG);obtain⟨dE,uR,g3⟩:=row (i:=0) mG;refine aW.mk dE 0 uR rfl (show 0<os.n by omega) ?_;refine aE.mk _ (g3.sub λy aA=>aA) ?_;refine cx.eW (a:=[38]) (by simp only[cS,dI];omega) ?_;exact⟨_,_,.sub (cW _) .refl,by rw[x4,q9,iH,c6,dg,gB,sX,head_mem mG];rfl,rfl,rfl⟩
   refine aB.mk (λue=>?_) (λue=>?_);·have mG:0<L.length:=(ma (by simp at ue;omega)).1;have sQ:=Ec _ (bJ mG);obtain⟨dE,uR,g3⟩:=row (i:=0) mG;refine aW.mk dE 0 uR rfl (show 0<os.n by omega) ?_;refine aE.mk _ (g3.sub λy aA=>aA) ?_;refine cx.eW (a:=[33]) (by simp only[cS,dI];omega) ?_;exact⟨_,_,.sub (cW _) .refl,by rw[x4,q9,iH,c6,dg,gB,sX,ue,head_mem mG];rfl,rfl,rfl⟩
   refine aB.mk (λsW=>?_) (λsW=>?_)
   ·have Qu:d.k=6:=by simpa using sW
    have mG:0<L.length:=(ma (by omega)).1;have sQ:=Ec _ (bJ mG);have yY:=k7.CY Qu;have gN:((d.lo.toNat:Nat):Int)=d.lo:=by omega
    have c4:=akZ (I:=I) d.lo.toNat d.hi (by omega) (by omega);rw[gN]at c4;have iU:=Ue d.lo.toNat d.hi;refine cr.draw aI rfl rfl rfl ?_;obtain⟨dE,uR,g3⟩:=row (i:=0) mG;refine aW.mk dE 0 uR rfl (show 0<os.n by omega) ?_;refine aE.mk _ (g3.sub λy aA=>aA) ?_;refine e7.mk _ c4 ?_;rintro v J N -⟨rfl,bg,rfl⟩;subst J;refine cx.eW (a:=L[0]) (by omega) ?_;exact⟨_,_,.sub (cW _) .refl,by rw[x4,q9,iH,c6,dg,gB,sX,ue,sW,head_mem mG];rfl,rfl,rfl⟩
   refine aB.mk (λzM=>?_) (λzM=>?_)
   ·have ZH:d.k=9:=by simpa using zM
    have mG:0<L.length:=(ma (by omega)).1;have sQ:=Ec _ (bJ mG);have eo:=k7.t;have oZ:d.t.data.toList.length=d.t.size:=rfl;refine cr.draw aI rfl rfl rfl ?_;refine cx.alk (a:=[60]) (by simp only[cS,dI];omega) ?_;refine cx.eW (b:=[58,32]) (by simp only[cz,cS,dI];omega) ?_;obtain⟨dE,uR,g3⟩:=row (i:=0) mG;refine aW.mk dE 0 uR rfl (show 0<os.n by omega) ?_;refine aE.mk _ (g3.sub λy aA=>aA) ?_;refine cx.eW (b:=L[0]) (by simp only[cz,cS,dI];omega) ?_;refine cx.eW (b:=[62]) (by simp only[cz,cS,dI];omega) ?_;exact⟨_,_,.sub (cW _) .refl,by rw[x4,q9,iH,c6,dg,gB,sX,ue,sW,zM,head_mem mG];rfl,rfl,rfl⟩
   have mG:0<L.length:=by
    have:d.k=4\/d.k=5:=by have U:=k7.k;have ab:=fz.k.1;simp at iH c6 dg gB sX ue sW zM;omega
    have:=Eb.two this;omega
   have ZI:∀ sep,(bif decide (d.k=5)then [32,47,32]else [32])=sep->fX deb t.aa j=jU sep L:=λsep alm=>by rw[x4,q9,iH,c6,dg,gB,sX,ue,sW,zM,alm];rfl
   refine aB.mk (λoi=>?_) (λoi=>?_)
   ·have Ho:=ZI [32,47,32] (by rw[oi];rfl);obtain⟨dE,uR,g3⟩:=row (i:=0) mG;refine aW.mk dE 0 uR rfl (show 0<os.n by omega) ?_;refine aE.mk _ (g3.sub λy aA=>aA) ?_;refine bu.inv (ι:=Nat×List UInt8) (λx=>{ a4:=[(6,.val os.val),(9,.val (.string (strOf [32,47,32]))),(10,.val (.string (strOf x.2))),(11,.val (.int .i64 x.1))],br:=I,bO:=os.aw 9 }) (λx=>1<=x.1/\x.1<=os.n/\x.2=jU [32,47,32] (L.take x.1)) (λx=>os.n-x.1) ?_ ?_
    ·refine⟨(1,L[0]),⟨b2 _,by simp only;omega,?_⟩,.refl,cI,.nil⟩;simp only;rw[er mG];simp[jU]
    rintro⟨i,w⟩⟨e3,hA,hw⟩;simp only at e3 hA hw;have lR:=ZE [32,47,32] L i;have cv:=hlen;rw[Ho]at cv;rw[<-hw]at lR;refine aB.mk (λh=>?_) (λh=>?_)
    ·have ax:i<os.n:=by simpa using h
     have cd:i<L.length:=by omega
     have ah:=Ec _ (bJ cd);obtain⟨tg,kb,q'⟩:=row cd;have bB:L.take i≠[]:=by intro h;have:=congrArg List.length h;rw[rO (by omega)]at this;simp at this;omega
     have dc:=ZA [32,47,32] (L.take i) bB L[i];rw[<-er cd,<-hw]at dc;refine cx.eW (a:=w) (by simp only[cS,dI];omega) ?_;refine aW.mk tg i kb rfl ax ?_;refine aE.mk _ (q'.sub λy aA=>aA) ?_;refine cx.eW (b:=L[i]) (by simp only[cz,cS,dI];omega) ?_;refine aQ.mk _ (bl (i:=i) (by omega)) ?_;refine⟨(i+1,_),⟨⟨by simp only;omega,ax,?_⟩,by simp only;omega⟩,.refl,cI,.nil⟩;exact dc.symm
    ·have aln:i=L.length:=by simp at h;omega
     rw[dX (by omega)]at hw;exact⟨_,_,.sub (cW _) .refl,by rw[Ho,hw],rfl,rfl⟩
   ·have Ho:=ZI [32] (by rw[oi];rfl);obtain⟨dE,uR,g3⟩:=row (i:=0) mG;refine aW.mk dE 0 uR rfl (show 0<os.n by omega) ?_;refine aE.mk _ (g3.sub λy aA=>aA) ?_;refine bu.inv (ι:=Nat×List UInt8) (λx=>{ a4:=[(6,.val os.val),(9,.val (.string (strOf [32]))),(10,.val (.string (strOf x.2))),(11,.val (.int .i64 x.1))],br:=I,bO:=os.aw 9 }) (λx=>1<=x.1/\x.1<=os.n/\x.2=jU [32] (L.take x.1)) (λx=>os.n-x.1) ?_ ?_
    ·refine⟨(1,L[0]),⟨b2 _,by simp only;omega,?_⟩,.refl,cI,.nil⟩;simp only;rw[er mG];simp[jU]
    rintro⟨i,w⟩⟨e3,hA,hw⟩;simp only at e3 hA hw;have lR:=ZE [32] L i;have cv:=hlen;rw[Ho]at cv;rw[<-hw]at lR;refine aB.mk (λh=>?_) (λh=>?_)
    ·have ax:i<os.n:=by simpa using h
     have cd:i<L.length:=by omega
     have ah:=Ec _ (bJ cd);obtain⟨tg,kb,q'⟩:=row cd;have bB:L.take i≠[]:=by intro h;have:=congrArg List.length h;rw[rO (by omega)]at this;simp at this;omega
     have dc:=ZA [32] (L.take i) bB L[i];rw[<-er cd,<-hw]at dc;refine cx.eW (a:=w) (by simp only[cS,dI];omega) ?_;refine aW.mk tg i kb rfl ax ?_;refine aE.mk _ (q'.sub λy aA=>aA) ?_;refine cx.eW (b:=L[i]) (by simp only[cz,cS,dI];omega) ?_;refine aQ.mk _ (bl (i:=i) (by omega)) ?_;refine⟨(i+1,_),⟨⟨by simp only;omega,ax,?_⟩,by simp only;omega⟩,.refl,cI,.nil⟩;exact dc.symm
    ·have aln:i=L.length:=by simp at h;omega
     rw[dX (by omega)]at hw;exact⟨_,_,.sub (cW _) .refl,by rw[Ho,hw],rfl,rfl⟩
def alo(lo:Nat)(hi:Int):la lo hi≠[]:=by
 unfold la tR;cases(decide ((0:Int)=lo)&&decide (1=hi))<;>cases(decide ((0:Int)=lo)&&decide (-1=hi))<;>cases(decide ((1:Int)=lo)&&decide (-1=hi))<;>cases decide (hi=lo)<;>cases decide (hi=-1)<;>simp
def alp(deb:List Int)(a b c d:Int):sR deb a b c d≠[]:=by
 unfold sR;cases(a == g4 0&&(b == g4 0&&(c == g4 0&&d == g4 0)))<;>simp
def alq(h:fits d n=true)(ak:d.k=3):d.t≠⟨#[]⟩:=by unfold fits at h;rw[ak]at h;simp[xj,tI,mo,h0]at h;intro e;simp[e]at h
def alr(deb:List Int)(av:0<=d.k)(h:fits d d.kids.length=true)(cL:L.length=d.kids.length):q9 deb d L≠[]:=by
 have ar:=(CZ h).k;have hm:=zK av h;have af:d.k=0\/d.k=1\/d.k=2\/d.k=3\/d.k=4\/d.k=5\/d.k=6\/d.k=7\/d.k=8\/d.k=9:=by omega
 have two:d.k=4\/d.k=5->∃ x y zs,L=x::y::zs:=λq=>by
  have:=hm.two q
  match L,cL with
  |x::y::zs,_=>exact⟨x,y,zs,rfl⟩| [],cL=>simp at cL;omega| [_],cL=>simp at cL;omega
 unfold q9;rcases af with e | e | e | e | e | e | e | e | e | e
 ·simp[e]
 ·simp only[e,A6,bt];exact alp deb d.cF d.s1 d.s2 d.dt
 ·simp[e,vD]
 ·have:=alq h e;simp[e];intro q;exact this (qo (by simpa using q))
 ·obtain⟨x,y,zs,rfl⟩:=two (.inl e);simp[e,jU]
 ·obtain⟨x,y,zs,rfl⟩:=two (.inr e);simp[e,jU]
 ·have:=alo d.lo.toNat d.hi;simp[e,this]
 ·simp[e]
 ·simp[e]
 ·simp[e]
def als(deb:List Int)(aq:t.ok I)(ag:right t=true):ij deb t≠[]:=by
 obtain⟨a6,bb⟩:=lK ag;obtain⟨r,gP⟩:=en a6;have dp:r<t.aa.length:=by omega
 have ga:=tM ag dp;have av:=(aq.aa _ (bJ dp)).k.1;rw[ij,ag,bt,gP,Fz ag dp,ZB deb t.aa av ga];exact alr deb av ga (by simp)
def alt(cv:mF deb)(aq:t.ok I)(au:Fit t W)(gi:W<=1099511627776):Spec Tryz.prog 120 [t.val] I [] λr I' M'=>r=.string (strOf (ij deb t))/\I'=I/\M'=[]:=by
 refine bn [] aI Tryz.func120 rfl rfl rfl ?_;intro B av;refine aU.mk [] [] _ (.refl _) (xF aq W au.w au.b) ?_;rintro v J N -⟨rfl,bg,rfl⟩;subst J;refine aB.mk (λh=>?_) (λh=>?_)
 ·have ag:right t=false:=by simpa using h
  exact⟨_,_,.refl,by rw[ij,ag];rfl,rfl,rfl⟩
 ·have ag:right t=true:=by simpa using h
  obtain⟨a6,bb⟩:=lK ag;obtain⟨r,gP⟩:=en a6;have az:=au.n;have g7:=aq.n;have hlen:=I6 deb t;have c4:=ZF cv aq ag (λd al=>by have:=au.w d al;omega) (r+1) r (by omega) (by omega) (by rw[ij,ag,bt,gP]at hlen;omega);rw[<-gP]at c4;refine aU.mk [] [] _ (.refl _) c4 ?_;rintro v J N -⟨rfl,bg,rfl⟩;subst J;exact⟨_,_,.refl,by rw[ij,ag];rfl,rfl,rfl⟩
def alu(l:List UInt8):decide (strOf l=⟨#[]⟩)=decide (l=[]):=by
 congr 1;rw[eq_iff_iff];constructor
 ·intro h;have:=congrArg (λb:ByteArray=>b.data.toList) h;simpa[strOf]using this
 ·rintro rfl;rfl
def alv(cv:mF deb){d:aK}(al:d.ok I)(au:Fit d.t W)(gi:W<=1099511627776):Spec Tryz.prog 93 [d.val] I [] λr I' M'=>r=.string (strOf (lP deb d))/\I'=I/\M'=[]:=by
 refine bn [] aI Tryz.func93 rfl rfl rfl ?_;intro B av;refine aU.mk [] [] _ (.refl _) (NM I d.name) ?_;rintro v J N -⟨rfl,bg,rfl⟩;subst J;refine a9.mk (λU=>?_) (λU=>?_)
 ·have hm:h0 d.name=true:=by simpa using U
  refine aU.mk [] [] _ (.refl _) (xF al.t W au.w au.b) ?_;rintro v J N -⟨rfl,bg,rfl⟩;subst J;refine aB.mk (λab=>?_) (λab=>?_)
  ·have ag:right d.t=false:=by simpa using ab
   exact⟨_,_,.refl,by rw[lP,ij,ag];rfl,rfl,rfl⟩
  ·have ag:right d.t=true:=by simpa using ab
   have bB:=als deb al.t ag;have ay:=I6 deb d.t;have az:=au.n;have g7:=al.t.n;have gz:=Nk hm;have kI:d.name.data.toList.length=d.name.size:=rfl;refine cr.draw aI rfl rfl rfl ?_;refine cx.concat (a:=d.name) (b:=strOf [32,60,45,32]) (by show _+4<=_;omega) ?_;refine e7.mk _ (alt cv al.t au gi) ?_;rintro v J N -⟨rfl,bg,rfl⟩;subst J;refine cx.concat (a:=d.name++strOf [32,60,45,32]) (b:=strOf (ij deb d.t)) (by rw[AN];show _+4+(ij deb d.t).length<=_;omega) ?_;refine cx.concat (a:=d.name++strOf [32,60,45,32]++strOf (ij deb d.t)) (b:=strOf [10]) (by rw[AN,AN];show _+4+(ij deb d.t).length+1<=_;omega) ?_;refine⟨_,_,.refl,congrArg Value.string (yO ?_),rfl,rfl⟩;rw[lP,alu,dk bB,hm];simp[strOf]
 ·have hm:h0 d.name=false:=by simpa using U
  exact⟨_,_,.refl,by rw[lP,hm,EG,Dx];rfl,rfl,rfl⟩
def ZJ(cv:mF deb)(ao:g.ok I)(az:g.n<=64)(au:∀ d∈g.ds,Fit d.t W/\d.t.n<=1024)(gi:W<=1099511627776):Spec Tryz.prog 62 [g.val] I [] λr I' M'=>r=.string (strOf (ik deb g.ds []))/\I'=I/\M'=[]:=by
 refine bn [] aI Tryz.func62 rfl rfl rfl ?_;intro B av;have cK:=ao.n;have oZ:∀ d∈g.ds,d.t.aa.length<=1024:=λd al=>by rw[(ao.ds d al).t.n];exact(au d al).2
 refine bu.inv (ι:=Nat×List UInt8) (λp=>{ a4:=[(1,.ref 1 0),(3,.val (.string (strOf p.2))),(4,.val (.int .i64 p.1))],cl:=[(1,[.slice g.a g.n g.c])],br:=I }) (λp=>p.1<=g.n/\p.2.length<=2500000*p.1/\ik deb g.ds []=ik deb (g.ds.drop p.1) p.2) (λp=>g.n-p.1) ?_ ?_
 ·exact⟨(0,[]),⟨by simp,by simp,rfl⟩,.refl,cU,.cons rfl .nil⟩
 rintro⟨i,w⟩⟨hi,lR,hw⟩;simp only at hi lR hw;refine aB.mk (λh=>?_) (λh=>?_)
 ·have ax:i<g.n:=by simpa using h
  have bo:i<g.ds.length:=by omega
  obtain⟨ad,ba,a3⟩:=ao.aJ.row aK.bI ax bo;have cN:g.ds[i]∈g.ds:=bJ bo;have aeU:=Nl deb g.ds[i];have fP:=oZ _ cN;have fO:g.ds.drop i=g.ds[i]::g.ds.drop (i+1):=dv bo;refine aW.mk ad i ba rfl ax ?_;refine aE.mk _ (a3 _) ?_;refine aU.mk [] [] _ (.refl _) (alv cv (ao.ds _ cN) (au _ cN).1 gi) ?_;rintro v J N -⟨rfl,bg,rfl⟩;subst J;refine aB.mk (λU=>?_) (λU=>?_);·exact⟨_,_,.refl,by rw[hw,fO,ik,U];rfl,rfl,rfl⟩
  ·refine cx.eW (a:=w) (by omega) ?_;refine aQ.mk _ (bl (i:=i) (by omega)) ?_;refine⟨(i+1,_),⟨⟨by simp only;omega,?_,?_⟩,by simp only;omega⟩,.refl,cU,.cons rfl .nil⟩
   ·simp only[cz];omega
   ·simp only;rw[hw,fO,ik,U];rfl
 ·have bS:g.n<=i:=by simpa using h
  have gw:g.ds.drop i=[]:=iW (by omega);exact⟨_,_,.refl,by rw[hw,gw];rfl,rfl,rfl⟩
def ZK(nm:ByteArray):∀ (ds:List aK) (i:Nat),cy nm ds i=bif decide (cy nm ds 0<0)then -1 else cy nm ds 0+i
 |[],i=>rfl
 |d::ds,i=>by
  unfold cy;cases h:decide (d.name=nm)with
  |true=>
   have:decide ((((0:Nat):Int))<0)=false:=by decide
   simp[this]
  |false=>
   rw[bz,bz,ZK nm ds (i+1),ZK nm ds (0+1)];have ag:cy nm ds 0<0\/0<=cy nm ds 0:=by omega
   rcases ag with ag | ag;·rw[eD ag];rfl
   ·have e:decide (cy nm ds 0<0)=false:=dk (by omega);rw[e,bz,bz];have a7:decide (cy nm ds 0+((0+1:Nat):Int)<0)=false:=dk (by omega);rw[a7,bz];omega
def ZL(nm:ByteArray)(ar bd:List aK):cy nm (ar++bd) 0=bif decide (cy nm ar 0<0)then cy nm bd ar.length else cy nm ar 0:=by
 have key:∀ (ar:List aK) (i:Nat),cy nm (ar++bd) i=bif decide (cy nm ar i<0)then cy nm bd (i+ar.length)else cy nm ar i:=by
  intro ar
  induction ar with
  |nil=>intro i;simp[cy]
  |cons d ar a8=>
   intro i;rw[oO,cy,cy];cases decide (d.name=nm)with
   |true=>have:decide ((i:Int)<0)=false:=dk (by omega);rw[bt,bt,this,bz]| false=>rw[bz,bz,a8 (i+1),cS];rw[show i+1+ar.length=i+(ar.length+1)from by omega]
 have:=key ar 0;rwa [cM]at this
structure Ed(ar:List aK)(acc:List (ByteArray×Int)):Prop where
 look:∀ nm,(dP nm acc).isSome=decide (0<=cy nm ar 0)
def ZM(nm:ByteArray)(p:ByteArray×Int):∀ acc:List (ByteArray×Int),(dP nm (acc++[p])).isSome=((dP nm acc).isSome||decide (nm=p.1))
 |[]=>by
  show(bif decide (nm=p.1)then some p.2 else none:Option Int).isSome=_;cases decide (nm=p.1)<;>rfl
 |q::acc=>by
  rw[oO,dP,dP];cases decide (nm=q.1)with
  |true=>rfl| false=>rw[bz,bz,ZM nm p acc]
def Ed.snoc{ar:List aK}{acc:List (ByteArray×Int)}(h:Ed ar acc)(d:aK)(v:Int):Ed (ar++[d]) (acc++[(d.name,v)]):=by
 refine⟨λnm=>?_⟩;rw[ZM,h.look,ZL];by_cases ag:cy nm ar 0<0
 ·rw[eD ag,bt,dk (by omega:¬ 0<=cy nm ar 0),mL];unfold cy;have:decide (d.name=nm)=decide (nm=d.name):=decide_eq_decide.2 ⟨Eq.symm,Eq.symm⟩;rw[this];cases decide (nm=d.name)with
  |true=>simp| false=>rw[bz];rfl
 ·rw[dk ag,bz,eD (by omega:0<=cy nm ar 0),BP]
def nM(ds:List aK)(i:Nat):Bool:=match ds[i]? with
 |some d=>decide (cy d.name ds 0=i)| none=>true
def alw(d:aK)(bd:List aK)(i:Nat):cy d.name (d::bd) i=i:=by rw[cy,eD rfl];rfl
def alx(bd:List aK):∀ (ar:List aK) (acc:List (ByteArray×Int)),Ed ar acc->(∀ i,i<ar.length->nM (ar++bd) i=true) ->
  match lg acc ar.length bd with
  |none=>∃ i,i<(ar++bd).length/\nM (ar++bd) i=false/\∀ k,k<i->nM (ar++bd) k=true| some r=>Ed (ar++bd) r/\∀ i,i<(ar++bd).length->nM (ar++bd) i=true:=by
 induction bd with
 |nil=>intro ar acc h au;rw[db]at *;exact⟨h,au⟩
 |cons d bd a8=>
  intro ar acc h au;have n8:(ar++d::bd)[ar.length]?=some d:=by simp
  have mQ:nM (ar++d::bd) ar.length=!(dP d.name acc).isSome:=by
   unfold nM;rw[n8,h.look];simp only;rw[ZL];by_cases ag:cy d.name ar 0<0;·rw[eD ag,bt,alw];simp;omega
   ·rw[dk ag,bz];have ax:cy d.name ar 0<ar.length:=by
     have:∀ (ar:List aK) (i:Nat),0<=cy d.name ar i->cy d.name ar i<i+ar.length:=by
      intro ar
      induction ar with
      |nil=>intro i h;simp[cy]at h
      |cons e ar aly=>
       intro i h;unfold cy at h |-;cases aC:decide (e.name=d.name)with
       |true=>simp;omega| false=>rw[aC,bz]at h;rw[bz];have:=aly (i+1) h;simp;omega
     have:=this ar 0 (by omega);omega
    have aF:decide (cy d.name ar 0=(ar.length:Int))=false:=dk (by omega);have a7:decide (0<=cy d.name ar 0)=true:=eD (by omega);rw[aF,a7];rfl
  rw[lg];cases ay:(dP d.name acc).isSome with
  |true=>rw[ay]at mQ;exact⟨ar.length,by simp,mQ,au⟩
  |false=>
   rw[ay]at mQ;have:=a8 (ar++[d]) (acc++[(d.name,(ar.length:Int))]) (h.snoc d _) (λi hi=>by
    rw[fx];simp at hi;rcases Nat.lt_or_eq_of_le (Nat.lt_succ_iff.1 (by omega:i<ar.length+1))with U | U;·exact au i U
    ·rw[U];exact mQ)
   rw[cz,fx]at this;exact this
def alz:Ed [] []:=⟨λnm=>by simp[dP,cy]⟩
def ra(ds:List aK)(n:aH):Bool:=!decide (n.k=3)||decide (0<=cy n.t ds 0)
def ZN(p:aH->Bool):∀ (ds:List aK) (i:Nat),((pU i ds).all λx=>p x.2)=ds.all λd=>d.t.aa.all p
 |[],i=>rfl| d::ds,i=>by rw[pU,Fv,su,ZN p ds (i+1),List.all_map];rfl
def uS(deb:List Int)(g:bP):Int:=
 bif decide ((g.n:Int)=0)then 4 else bif !mv g.ds then 4 else bif iZ deb g then 40 else
 bif !(List.range g.ds.length).all (nM g.ds)then 6 else bif g.ds.all λd=>d.t.aa.all (ra g.ds)then 0 else 41
def K3(deb:List Int)(g:bP):uS deb g=cn deb g:=by
 unfold uS cn;have h:=alx g.ds [] [] alz (λi hi=>by simp at hi);simp only[dI,hO]at h;cases al:lg [] 0 g.ds with
 |none=>
  rw[al]at h;obtain⟨i,U,ab,_⟩:=h;have:(List.range g.ds.length).all (nM g.ds)=false:=by rw[Bool.eq_false_iff];intro eg;rw[et]at eg;have:=eg i (kf.2 U);rw[ab]at this;cases this
  rw[this];rfl
 |some acc=>
  rw[al]at h;obtain⟨U,ab⟩:=h;have ak:(List.range g.ds.length).all (nM g.ds)=true:=by rw[et];intro i hi;exact ab i (kf.1 hi)
  rw[ak];have aL:(g.ds.all λd=>d.t.aa.all (ra g.ds))=qO acc g.ds:=by unfold qO;rw[ZN];congr 1;funext d;congr 1;funext n;unfold yX ra;rw[U.look]
  rw[aL];rfl
def Ee(ao:g.ok I)(name:ByteArray):Spec Tryz.prog 63 [g.val,.string name] I [] (λv I' M'=>v=.int .i64 (cy name g.ds 0)/\I'=I/\M'=[]):=by
 refine bn [] aI Tryz.func63 rfl rfl rfl ?_;intro B av;have cK:=ao.n;have gk:=ao.aJ.cap;refine bu.inv (ι:=Nat) (λi=>{ a4:=[(1,.val (.string name)),(2,.ref 2 0),(5,.val (.int .i64 i))],cl:=[(2,[.slice g.a g.n g.c])],br:=I }) (λi=>i<=g.n/\cy name g.ds 0=cy name (g.ds.drop i) i) (λi=>g.n-i) ?_ ?_
 ·exact⟨0,⟨by simp,rfl⟩,.refl,cU,.cons rfl .nil⟩
 rintro i⟨hi,au⟩;refine aB.mk (λh=>?_) (λh=>?_)
 ·have ax:i<g.n:=by simpa using h
  have bo:i<g.ds.length:=by omega
  obtain⟨ad,ba,a3⟩:=ao.aJ.row aK.bI ax bo;have fO:g.ds.drop i=g.ds[i]::g.ds.drop (i+1):=dv bo;refine aW.mk ad i ba rfl ax ?_;refine aE.mk _ (bq.part (k:=0) (m:=1) (a3 _) (by decide)) ?_;refine aB.mk (λab=>?_) (λab=>?_);·exact⟨_,_,.refl,by rw[au,fO,cy,ab];rfl,rfl,rfl⟩
  ·refine aQ.mk _ (bl (i:=i) (by omega)) ?_;refine⟨i+1,⟨⟨by omega,?_⟩,by omega⟩,.refl,cU,.cons rfl .nil⟩;rw[au,fO,cy,ab];rfl
 ·have bS:g.n<=i:=by simpa using h
  have gw:g.ds.drop i=[]:=iW (by omega);exact⟨_,_,.refl,by rw[au,gw];rfl,rfl,rfl⟩
def alA:lQ t<=t.n:=by
 unfold lQ;cases right t<;>simp
def alB(ao:g.ok I)(au:∀ d∈g.ds,Fit d.t W)(az:g.n<=1000000):Spec Tryz.prog 60 [g.val] I [] (λv I' M'=>v=.int .i64 (pT g:Nat)/\I'=I/\M'=[]):=by
 refine bn [] aI Tryz.func60 rfl rfl rfl ?_;intro B av;have cK:=ao.n;refine bu.inv (ι:=Nat×Nat) (λx=>{ a4:=[(1,.ref 1 0),(3,.val (.int .i64 x.2)),(4,.val (.int .i64 x.1))],cl:=[(1,[.slice g.a g.n g.c])],br:=I }) (λx=>x.1<=g.n/\x.2=((g.ds.take x.1).map λd=>lQ d.t).sum/\x.2<=1099511627776*x.1) (λx=>g.n-x.1) ?_ ?_
 ·exact⟨(0,0),⟨by simp,by simp,by simp⟩,.refl,cU,.cons rfl .nil⟩
 rintro⟨i,s⟩⟨hi,ar,ah⟩;simp only at hi ar ah;refine aB.mk (λh=>?_) (λh=>?_)
 ·have ax:i<g.n:=by simpa using h
  have bo:i<g.ds.length:=by omega
  obtain⟨ad,ba,a3⟩:=ao.aJ.row aK.bI ax bo;have cN:g.ds[i]∈g.ds:=bJ bo;have mQ:=au _ cN;have cQ:=alA (t:=g.ds[i].t);have o7:=mQ.n;refine aW.mk ad i ba rfl ax ?_;refine aE.mk _ (bq.part (k:=1) (m:=2) (a3 _) (by decide)) ?_;refine aU.mk [] [] _ (.refl _) (akV (ao.ds _ cN).t mQ) ?_;rintro v J N -⟨rfl,bg,rfl⟩;subst J;refine aQ.mk ((s+lQ g.ds[i].t:Nat):Int) (wrap_i64 (x:=((s+lQ g.ds[i].t:Nat):Int)) ⟨by omega,by omega⟩) ?_;refine aQ.mk _ (bl (i:=i) (by omega)) ?_;refine⟨(i+1,s+lQ g.ds[i].t),⟨⟨by simp only;omega,?_,by simp only;omega⟩,by simp only;omega⟩,.refl,cU,.cons rfl .nil⟩;simp only;rw[ar,er bo,eL,M5];simp
 ·have bS:g.n<=i:=by simpa using h
  rw[dX (by omega)]at ar;exact⟨_,_,.refl,by rw[ar];rfl,rfl,rfl⟩
structure ls(g:bP):Prop where
 n:g.n<=1000000
 ds:∀ d∈g.ds,Fit d.t 1000000
def alC(d:aK)(ds:List aK):mv (d::ds)=((h0 d.name&&normal d.t)&&mv ds):=rfl
def ZO(h:(decide (1024<pT g) || !g.ds.all λd=>hD d.t)=true):iZ deb g=true:=by
 unfold iZ;generalize(g.ds.all λd=>hD d.t)=a at *;generalize decide (1024<pT g)=c at *;cases a<;>cases c<;>simp at h |-
def Qv(h:i<ds.length):nM ds i=decide (cy ds[i].name ds 0=i):=by unfold nM;rw[ev h]
def ZP{n:Nat}(p:Nat->Bool)(h:i<n):((List.range n).drop i).all p=(p i&&((List.range n).drop (i+1)).all p):=by rw[dv (by simpa using h),su];simp
def ZQ(h:∀ d∈ds,d.t.aa.length<=1024)(az:ds.length<=64):(ik deb ds []).length<=160000000:=by have:=Ux deb ds [] 0 h (by simp);omega
set_option maxRecDepth 100000 in
def Qw(cv:mF deb)(ao:g.ok I)(au:ls g):Spec Tryz.prog 39 [g.val] I [] (λv I' M'=>v=.int .i64 (uS deb g)/\I'=I/\M'=[]):=by
 refine bn [] aI Tryz.func39 rfl rfl rfl ?_;intro B av;have cK:=ao.n;have o7:=au.n;refine aB.mk (λc9=>?_) (λc9=>?_)
 ·exact⟨_,_,.refl,by rw[uS,c9];rfl,rfl,rfl⟩
 refine bu.inv (ι:=Nat) (λi=>{ a4:=[(1,.ref 1 0),(3,.val (.int .i64 i))],cl:=[(1,[.slice g.a g.n g.c])],br:=I }) (λi=>i<=g.n/\mv g.ds=mv (g.ds.drop i)) (λi=>g.n-i) ?_ ?_
 ·exact⟨0,⟨bQ _,rfl⟩,.refl,ih,.cons rfl .nil⟩
 rintro i⟨hi,bM⟩;refine aB.mk (λh=>?_) (λh=>?_)
 ·have ax:i<g.n:=by simpa using h
  have bo:i<g.ds.length:=by omega
  obtain⟨ad,ba,a3⟩:=ao.aJ.row aK.bI ax bo;have cN:g.ds[i]∈g.ds:=bJ bo;have fO:g.ds.drop i=g.ds[i]::g.ds.drop (i+1):=dv bo;rw[fO,alC]at bM;refine aW.mk ad i ba rfl ax ?_;refine aE.mk _ (bq.part (k:=0) (m:=1) (a3 _) (by decide)) ?_;refine aU.mk [] [] _ (.refl _) (NM I g.ds[i].name) ?_;rintro v J N -⟨rfl,bg,rfl⟩;subst J;refine a9.mk (λU=>?_) (λU=>?_)
  ·have hm:h0 g.ds[i].name=true:=by simpa using U
   refine aW.mk ad i ba rfl ax ?_;refine aE.mk _ (bq.part (k:=1) (m:=2) (a3 _) (by decide)) ?_;refine aU.mk [] [] _ (.refl _) (akX (ao.ds _ cN).t (au.ds _ cN)) ?_;rintro v J N -⟨rfl,bg,rfl⟩;subst J;refine aB.mk (λab=>?_) (λab=>?_)
   ·have cm:normal g.ds[i].t=false:=by simpa using ab
    exact⟨_,_,.refl,by rw[uS,c9,bM,cm,yT];rfl,rfl,rfl⟩
   ·have cm:normal g.ds[i].t=true:=by simpa using ab
    refine aQ.mk _ (bl (i:=i) (by omega)) ?_;refine⟨i+1,⟨⟨by omega,?_⟩,by omega⟩,.refl,ih,.cons rfl .nil⟩;rw[bM,hm,cm];rfl
  ·have hm:h0 g.ds[i].name=false:=by simpa using U
   exact⟨_,_,.refl,by rw[uS,c9,bM,hm,nr,nr];rfl,rfl,rfl⟩
 have Hn:i=g.n:=by simp at h;omega
 have alD:mv g.ds=true:=by rw[bM,iK (by omega)];rfl
 have nN:uS deb g=bif iZ deb g then 40 else bif !(List.range g.ds.length).all (nM g.ds)then 6 else bif g.ds.all λd=>d.t.aa.all (ra g.ds)then 0 else 41:=by rw[uS,c9,alD];rfl
 have pos:0<g.n:=by simp at c9;omega
 refine a9.mk (λU=>?_) (λU=>?_)
 ·have BS:g.n<=64:=by simp at U;omega
  refine aU.mk [] [] _ (.refl _) (alB ao au.ds o7) ?_;rintro v J N -⟨rfl,bg,rfl⟩;subst J;refine bu.inv (ι:=Nat×Bool) (λx=>{ a4:=[(1,.ref 1 0),(4,.val (.bool x.2)),(5,.val (.int .i64 x.1))],cl:=[(1,[.slice g.a g.n g.c])],br:=I }) (λx=>x.1<=g.n/\(decide (1024<pT g) || !g.ds.all λd=>hD d.t)=(x.2 || !(g.ds.drop x.1).all λd=>hD d.t)) (λx=>g.n-x.1) ?_ ?_;·exact⟨(0,decide (((1024:Nat):Int)<(pT g:Nat))),⟨bQ _,by simp only[qC];congr 1;exact decide_eq_decide.2 (by omega)⟩,.refl,cU,.cons rfl .nil⟩
  rintro⟨k,b⟩⟨af,ah⟩;simp only at af ah;refine a9.mk (λda=>?_) (λda=>?_)
  ·have bj:k<g.n:=by simpa using da
   have gy:k<g.ds.length:=by omega
   refine aB.mk (λbZ=>?_) (λbZ=>?_)
   ·have uT:b=false:=by simpa using bZ
    obtain⟨ad,ba,a3⟩:=ao.aJ.row aK.bI bj gy;have cN:g.ds[k]∈g.ds:=bJ gy;have fO:g.ds.drop k=g.ds[k]::g.ds.drop (k+1):=dv gy;refine aW.mk ad k ba rfl bj ?_;refine aE.mk _ (bq.part (k:=1) (m:=2) (a3 _) (by decide)) ?_;refine aU.mk [] [] _ (.refl _) (Zx (ao.ds _ cN).t (au.ds _ cN)) ?_;rintro v J N -⟨rfl,bg,rfl⟩;subst J;refine aQ.mk _ (bl (i:=k) (by omega)) ?_;refine⟨(k+1,!hD g.ds[k].t),⟨⟨by simp only;omega,?_⟩,by simp only;omega⟩,.refl,cU,.cons rfl .nil⟩;simp only;rw[ah,fO,su,uT,mL,Bool.not_and]
   ·have x5:b=true:=by simpa using bZ
    have ja:(decide (1024<pT g) || !g.ds.all λd=>hD d.t)=b:=by rw[ah,x5,BP]
    refine a9.mk (λfG=>?_) (λfG=>?_)
    ·have uT:b=false:=by simpa using fG
     rw[uT,qB,I2,et]at ja;have eg:∀ d∈g.ds,Fit d.t 1000000/\d.t.n<=1024:=λd al=>by have:=ja.2 d al;unfold hD at this;simp only[b',fk]at this;exact⟨au.ds d al,this.1⟩
     have ZR:=ZQ (deb:=deb) (ds:=g.ds) (λd al=>by rw[(ao.ds d al).t.n];exact(eg d al).2) (by omega);refine aU.mk [] [] _ (.refl _) (ZJ cv ao BS eg (by decide)) ?_;rintro v J N -⟨rfl,bg,rfl⟩;subst J;have Hp:iZ deb g=decide (8192<(ik deb g.ds []).length):=by have aF:decide (64<g.n)=false:=dk (by omega);have a7:(g.ds.all λd=>hD d.t)=true:=et.2 ja.2;rw[iZ,aF,a7,ja.1];rfl
     have cQ:((strOf (ik deb g.ds [])).size:Int)=((ik deb g.ds []).length:Int):=rfl;refine aB.mk (λhF=>?_) (λhF=>?_)
     ·have:iZ deb g=true:=by rw[Hp];rw[cQ]at hF;simp at hF |-;omega
      exact⟨_,_,.refl,by rw[nN,this];rfl,rfl,rfl⟩
     have Gq:iZ deb g=false:=by rw[Hp];rw[cQ]at hF;simp at hF |-;omega
     rw[Gq,bz]at nN;refine bu.inv (ι:=Nat) (λi=>{ a4:=[(1,.ref 1 0),(6,.val (.int .i64 i))],cl:=[(1,[.slice g.a g.n g.c])],br:=I }) (λi=>i<=g.n/\(List.range g.ds.length).all (nM g.ds)=((List.range g.ds.length).drop i).all (nM g.ds)) (λi=>g.n-i) ?_ ?_;·exact⟨0,⟨bQ _,rfl⟩,.refl,ih,.cons rfl .nil⟩
     rintro u⟨hu,rG⟩;refine aB.mk (λh=>?_) (λh=>?_)
     ·have ax:u<g.n:=by simpa using h
      have bo:u<g.ds.length:=by omega
      obtain⟨ad,ba,a3⟩:=ao.aJ.row aK.bI ax bo;rw[ZP _ bo,Qv bo]at rG;refine cr.draw aI rfl rfl rfl ?_;refine aW.mk ad u ba rfl ax ?_;refine aE.mk _ (bq.part (k:=0) (m:=1) (a3 _) (by decide)) ?_;refine e7.mk _ (Ee ao g.ds[u].name) ?_;rintro v J N -⟨rfl,bg,rfl⟩;subst J;refine aB.mk (λab=>?_) (λab=>?_)
      ·have e:decide (cy g.ds[u].name g.ds 0=(u:Int))=false:=by simpa using ab
       exact⟨_,_,.refl,by rw[nN,rG,e,nr];rfl,rfl,rfl⟩
      ·have e:decide (cy g.ds[u].name g.ds 0=(u:Int))=true:=by simpa using ab
       refine aQ.mk _ (bl (i:=u) (by omega)) ?_;refine⟨u+1,⟨⟨by omega,?_⟩,by omega⟩,.refl,ih,.cons rfl .nil⟩;rw[rG,e,kj]
     have Ay:u=g.n:=by simp at h;omega
     rw[iK (by simp;omega)]at rG;rw[rG,KY,nS,bz]at nN;refine bu.inv (ι:=Nat) (λi=>{ a4:=[(1,.ref 1 0),(7,.val (.int .i64 i))],cl:=[(1,[.slice g.a g.n g.c])],br:=I }) (λi=>i<=g.n/\(g.ds.all λd=>d.t.aa.all (ra g.ds))=((g.ds.drop i).all λd=>d.t.aa.all (ra g.ds))) (λi=>g.n-i) ?_ ?_;·exact⟨0,⟨bQ _,rfl⟩,.refl,ih,.cons rfl .nil⟩
     rintro p⟨aN,n6⟩;refine aB.mk (λh=>?_) (λh=>?_)
     ·have ax:p<g.n:=by simpa using h
      have bo:p<g.ds.length:=by omega
      obtain⟨ad,ba,a3⟩:=ao.aJ.row aK.bI ax bo;have fO:g.ds.drop p=g.ds[p]::g.ds.drop (p+1):=dv bo;have aq:=(ao.ds _ (bJ bo)).t;rw[fO,su]at n6;generalize g.ds[p]=d at a3 n6 aq;have g7:=aq.n;refine aW.mk ad p ba rfl ax ?_;refine aE.mk _ (bq.part (k:=0) (m:=1) (bq.part (k:=1) (m:=2) (a3 _) (by decide)) (by decide)) ?_;refine bu.inv (ι:=Nat) (λk=>{ a4:=[(1,.ref 1 0),(7,.val (.int .i64 p)),(8,.val (.slice d.t.a d.t.n d.t.c)),(9,.val (.int .i64 k))],cl:=[(1,[.slice g.a g.n g.c])],br:=I }) (λk=>k<=d.t.n/\d.t.aa.all (ra g.ds)=(d.t.aa.drop k).all (ra g.ds)) (λk=>d.t.n-k) ?_ ?_;·exact⟨0,⟨bQ _,rfl⟩,.refl,cI,.cons rfl .nil⟩
      rintro w⟨hw,mH⟩;refine aB.mk (λak=>?_) (λak=>?_)
      ·have lR:w<d.t.n:=by simpa using ak
       have zN:w<d.t.aa.length:=by omega
       obtain⟨iD,lb,ld⟩:=aq.aJ.row aH.bI lR zN;have gk:=aq.aJ.cap;have Hq:d.t.aa.drop w=d.t.aa[w]::d.t.aa.drop (w+1):=dv zN;rw[Hq,su,ra]at mH;refine cr.draw aI rfl rfl rfl ?_;refine aW.mk iD w lb rfl lR ?_;refine aE.mk _ (bq.part (k:=0) (m:=1) (ld _) (by decide)) ?_;refine a9.mk (λc6=>?_) (λc6=>?_)
       ·have bC:decide (d.t.aa[w].k=3)=true:=c6;refine aW.mk iD w lb rfl lR ?_;refine aE.mk _ (bq.part (k:=5) (m:=1) (ld _) (by decide)) ?_;refine aU.mk [] [] _ (.refl _) (Ee ao d.t.aa[w].t) ?_;rintro v J N -⟨rfl,bg,rfl⟩;subst J;refine aB.mk (λdg=>?_) (λdg=>?_)
        ·have e:decide (0<=cy d.t.aa[w].t g.ds 0)=false:=by simp at dg |-;omega
         exact⟨_,_,.refl,by rw[nN,n6,mH,bC,e];rfl,rfl,rfl⟩
        ·have e:decide (0<=cy d.t.aa[w].t g.ds 0)=true:=by simp at dg |-;omega
         refine aQ.mk _ (bl (i:=w) (by omega)) ?_;refine⟨w+1,⟨⟨by omega,?_⟩,by omega⟩,.refl,cI,.cons rfl .nil⟩;rw[mH,e,Dx,kj]
       ·have bC:decide (d.t.aa[w].k=3)=false:=c6;refine aQ.mk _ (bl (i:=w) (by omega)) ?_;refine⟨w+1,⟨⟨by omega,?_⟩,by omega⟩,.refl,cI,.cons rfl .nil⟩;rw[mH,bC];rfl
      ·have ZS:w=d.t.n:=by simp at ak;omega
       rw[iK (by omega)]at mH;refine aQ.mk _ (bl (i:=p) (by omega)) ?_;refine⟨p+1,⟨⟨by omega,?_⟩,by omega⟩,.refl,ih,.cons rfl .nil⟩;rw[n6,mH,KY,kj]
     ·have BH:p=g.n:=by simp at h;omega
      rw[iK (by omega)]at n6;exact⟨_,_,.refl,by rw[nN,n6];rfl,rfl,rfl⟩
    ·have x5:b=true:=by simpa using fG
     exact⟨_,_,.refl,by rw[nN,ZO (deb:=deb) (ja.trans x5)];rfl,rfl,rfl⟩
  ·have mY:k=g.n:=by simp at da;omega
   have ja:(decide (1024<pT g) || !g.ds.all λd=>hD d.t)=b:=by rw[ah,mY,iK (by omega)];simp
   refine a9.mk (λfG=>?_) (λfG=>?_)
   ·have uT:b=false:=by simpa using fG
    rw[uT,qB,I2,et]at ja;have eg:∀ d∈g.ds,Fit d.t 1000000/\d.t.n<=1024:=λd al=>by have:=ja.2 d al;unfold hD at this;simp only[b',fk]at this;exact⟨au.ds d al,this.1⟩
    have ZR:=ZQ (deb:=deb) (ds:=g.ds) (λd al=>by rw[(ao.ds d al).t.n];exact(eg d al).2) (by omega);refine aU.mk [] [] _ (.refl _) (ZJ cv ao BS eg (by decide)) ?_;rintro v J N -⟨rfl,bg,rfl⟩;subst J;have Hp:iZ deb g=decide (8192<(ik deb g.ds []).length):=by have aF:decide (64<g.n)=false:=dk (by omega);have a7:(g.ds.all λd=>hD d.t)=true:=et.2 ja.2;rw[iZ,aF,a7,ja.1];rfl
    have cQ:((strOf (ik deb g.ds [])).size:Int)=((ik deb g.ds []).length:Int):=rfl;refine aB.mk (λhF=>?_) (λhF=>?_)
    ·have:iZ deb g=true:=by rw[Hp];rw[cQ]at hF;simp at hF |-;omega
     exact⟨_,_,.refl,by rw[nN,this];rfl,rfl,rfl⟩
    have Gq:iZ deb g=false:=by rw[Hp];rw[cQ]at hF;simp at hF |-;omega
    rw[Gq,bz]at nN;refine bu.inv (ι:=Nat) (λi=>{ a4:=[(1,.ref 1 0),(6,.val (.int .i64 i))],cl:=[(1,[.slice g.a g.n g.c])],br:=I }) (λi=>i<=g.n/\(List.range g.ds.length).all (nM g.ds)=((List.range g.ds.length).drop i).all (nM g.ds)) (λi=>g.n-i) ?_ ?_;·exact⟨0,⟨bQ _,rfl⟩,.refl,ih,.cons rfl .nil⟩
    rintro u⟨hu,rG⟩;refine aB.mk (λh=>?_) (λh=>?_)
    ·have ax:u<g.n:=by simpa using h
     have bo:u<g.ds.length:=by omega
     obtain⟨ad,ba,a3⟩:=ao.aJ.row aK.bI ax bo;rw[ZP _ bo,Qv bo]at rG;refine cr.draw aI rfl rfl rfl ?_;refine aW.mk ad u ba rfl ax ?_;refine aE.mk _ (bq.part (k:=0) (m:=1) (a3 _) (by decide)) ?_;refine e7.mk _ (Ee ao g.ds[u].name) ?_;rintro v J N -⟨rfl,bg,rfl⟩;subst J;refine aB.mk (λab=>?_) (λab=>?_)
     ·have e:decide (cy g.ds[u].name g.ds 0=(u:Int))=false:=by simpa using ab
      exact⟨_,_,.refl,by rw[nN,rG,e,nr];rfl,rfl,rfl⟩
     ·have e:decide (cy g.ds[u].name g.ds 0=(u:Int))=true:=by simpa using ab
      refine aQ.mk _ (bl (i:=u) (by omega)) ?_;refine⟨u+1,⟨⟨by omega,?_⟩,by omega⟩,.refl,ih,.cons rfl .nil⟩;rw[rG,e,kj]
    have Ay:u=g.n:=by simp at h;omega
    rw[iK (by simp;omega)]at rG;rw[rG,KY,nS,bz]at nN;refine bu.inv (ι:=Nat) (λi=>{ a4:=[(1,.ref 1 0),(7,.val (.int .i64 i))],cl:=[(1,[.slice g.a g.n g.c])],br:=I }) (λi=>i<=g.n/\(g.ds.all λd=>d.t.aa.all (ra g.ds))=((g.ds.drop i).all λd=>d.t.aa.all (ra g.ds))) (λi=>g.n-i) ?_ ?_;·exact⟨0,⟨bQ _,rfl⟩,.refl,ih,.cons rfl .nil⟩
    rintro p⟨aN,n6⟩;refine aB.mk (λh=>?_) (λh=>?_)
    ·have ax:p<g.n:=by simpa using h
     have bo:p<g.ds.length:=by omega
     obtain⟨ad,ba,a3⟩:=ao.aJ.row aK.bI ax bo;have fO:g.ds.drop p=g.ds[p]::g.ds.drop (p+1):=dv bo;have aq:=(ao.ds _ (bJ bo)).t;rw[fO,su]at n6;generalize g.ds[p]=d at a3 n6 aq;have g7:=aq.n;refine aW.mk ad p ba rfl ax ?_;refine aE.mk _ (bq.part (k:=0) (m:=1) (bq.part (k:=1) (m:=2) (a3 _) (by decide)) (by decide)) ?_;refine bu.inv (ι:=Nat) (λk=>{ a4:=[(1,.ref 1 0),(7,.val (.int .i64 p)),(8,.val (.slice d.t.a d.t.n d.t.c)),(9,.val (.int .i64 k))],cl:=[(1,[.slice g.a g.n g.c])],br:=I }) (λk=>k<=d.t.n/\d.t.aa.all (ra g.ds)=(d.t.aa.drop k).all (ra g.ds)) (λk=>d.t.n-k) ?_ ?_;·exact⟨0,⟨bQ _,rfl⟩,.refl,cI,.cons rfl .nil⟩
     rintro w⟨hw,mH⟩;refine aB.mk (λak=>?_) (λak=>?_)
     ·have lR:w<d.t.n:=by simpa using ak
      have zN:w<d.t.aa.length:=by omega
      obtain⟨iD,lb,ld⟩:=aq.aJ.row aH.bI lR zN;have gk:=aq.aJ.cap;have Hq:d.t.aa.drop w=d.t.aa[w]::d.t.aa.drop (w+1):=dv zN;rw[Hq,su,ra]at mH;refine cr.draw aI rfl rfl rfl ?_;refine aW.mk iD w lb rfl lR ?_;refine aE.mk _ (bq.part (k:=0) (m:=1) (ld _) (by decide)) ?_;refine a9.mk (λc6=>?_) (λc6=>?_)
      ·have bC:decide (d.t.aa[w].k=3)=true:=c6;refine aW.mk iD w lb rfl lR ?_;refine aE.mk _ (bq.part (k:=5) (m:=1) (ld _) (by decide)) ?_;refine aU.mk [] [] _ (.refl _) (Ee ao d.t.aa[w].t) ?_;rintro v J N -⟨rfl,bg,rfl⟩;subst J;refine aB.mk (λdg=>?_) (λdg=>?_)
       ·have e:decide (0<=cy d.t.aa[w].t g.ds 0)=false:=by simp at dg |-;omega
        exact⟨_,_,.refl,by rw[nN,n6,mH,bC,e];rfl,rfl,rfl⟩
       ·have e:decide (0<=cy d.t.aa[w].t g.ds 0)=true:=by simp at dg |-;omega
        refine aQ.mk _ (bl (i:=w) (by omega)) ?_;refine⟨w+1,⟨⟨by omega,?_⟩,by omega⟩,.refl,cI,.cons rfl .nil⟩;rw[mH,e,Dx,kj]
      ·have bC:decide (d.t.aa[w].k=3)=false:=c6;refine aQ.mk _ (bl (i:=w) (by omega)) ?_;refine⟨w+1,⟨⟨by omega,?_⟩,by omega⟩,.refl,cI,.cons rfl .nil⟩;rw[mH,bC];rfl
     ·have ZS:w=d.t.n:=by simp at ak;omega
      rw[iK (by omega)]at mH;refine aQ.mk _ (bl (i:=p) (by omega)) ?_;refine⟨p+1,⟨⟨by omega,?_⟩,by omega⟩,.refl,ih,.cons rfl .nil⟩;rw[n6,mH,KY,kj]
    ·have BH:p=g.n:=by simp at h;omega
     rw[iK (by omega)]at n6;exact⟨_,_,.refl,by rw[nN,n6];rfl,rfl,rfl⟩
   ·have x5:b=true:=by simpa using fG
    exact⟨_,_,.refl,by rw[nN,ZO (deb:=deb) (ja.trans x5)];rfl,rfl,rfl⟩
 ·have BS:64<g.n:=by simp at U;omega
  refine bu.inv (ι:=Nat×Bool) (λx=>{ a4:=[(1,.ref 1 0),(4,.val (.bool x.2)),(5,.val (.int .i64 x.1))],cl:=[(1,[.slice g.a g.n g.c])],br:=I }) (λx=>x.1<=g.n/\true=(x.2 || !(g.ds.drop x.1).all λd=>hD d.t)) (λx=>g.n-x.1) ?_ ?_;·exact⟨(0,true),⟨bQ _,rfl⟩,.refl,.cons .refl (.cons .lit (.cons .refl .nil)),.cons rfl .nil⟩
  rintro⟨k,b⟩⟨af,ah⟩;simp only at af ah;refine a9.mk (λda=>?_) (λda=>?_)
  ·have bj:k<g.n:=by simpa using da
   have gy:k<g.ds.length:=by omega
   refine aB.mk (λbZ=>?_) (λbZ=>?_)
   ·have uT:b=false:=by simpa using bZ
    obtain⟨ad,ba,a3⟩:=ao.aJ.row aK.bI bj gy;have cN:g.ds[k]∈g.ds:=bJ gy;have fO:g.ds.drop k=g.ds[k]::g.ds.drop (k+1):=dv gy;refine aW.mk ad k ba rfl bj ?_;refine aE.mk _ (bq.part (k:=1) (m:=2) (a3 _) (by decide)) ?_;refine aU.mk [] [] _ (.refl _) (Zx (ao.ds _ cN).t (au.ds _ cN)) ?_;rintro v J N -⟨rfl,bg,rfl⟩;subst J;refine aQ.mk _ (bl (i:=k) (by omega)) ?_;refine⟨(k+1,!hD g.ds[k].t),⟨⟨by simp only;omega,?_⟩,by simp only;omega⟩,.refl,cU,.cons rfl .nil⟩;simp only;rw[ah,fO,su,uT,mL,Bool.not_and]
   ·have x5:b=true:=by simpa using bZ
    have ja:true=b:=by rw[ah,x5,BP]
    refine a9.mk (λfG=>?_) (λfG=>?_)
    ·have uT:b=false:=by simpa using fG
     rw[uT]at ja;cases ja
    ·have x5:b=true:=by simpa using fG
     exact⟨_,_,.refl,by rw[nN,show iZ deb g=true from by rw[iZ,eD BS,BP]];rfl,rfl,rfl⟩
  ·have mY:k=g.n:=by simp at da;omega
   have ja:true=b:=by rw[ah,mY,iK (by omega)];simp
   refine a9.mk (λfG=>?_) (λfG=>?_)
   ·have uT:b=false:=by simpa using fG
    rw[uT]at ja;cases ja
   ·have x5:b=true:=by simpa using fG
    exact⟨_,_,.refl,by rw[nN,show iZ deb g=true from by rw[iZ,eD BS,BP]];rfl,rfl,rfl⟩
def ZT(nm:ByteArray):∀ (ds:List aK) (i:Nat),xJ nm ds i=bif decide (cy nm ds i<0)then none else some (cy nm ds i)
 |[],i=>rfl
 |d::ds,i=>by
  unfold xJ cy;rw[show decide (nm=d.name)=decide (d.name=nm) by rw[l7];simp[eq_comm]];cases decide (d.name=nm)with
  |true=>rw[bt,bt,dk (by omega)];rfl| false=>rw[bz,bz];exact ZT nm ds (i+1)
def ZU(nm:ByteArray)(ds:List aK):dP nm (a' ds)=bif decide (cy nm ds 0<0)then none else some (cy nm ds 0):=by rw[JK,ZT]
def ZV(pl:List (ByteArray×Int))(a4:List aM):∀ (ds es:List aH) (acc:List aM),dq pl a4 (ds++es) acc=dq pl a4 es (dq pl a4 ds acc)
 |[],es,acc=>rfl| d::ds,es,acc=>by rw[oO,dq,dq,ZV]
set_option maxRecDepth 100000 in
def alE(ao:g.ok I)(aq:t.ok I)(au:Fit t W)(im:hW I M0 p0 ln a4) :
  Spec Tryz.prog 137 [g.val,.slice p0 ln lc,t.val] I M0 λv I' M'=>I'=I /\
   ((lU g a4 t=none/\v=.tuple #[.slice none 0 0,.bool false]/\M'=M0)\/∃ (r:List aM) (os:aY),lU g a4 t=some r/\os.ok 3 (r.flatMap aM.cells)/\v=.tuple #[os.val,.bool true]/\M'=os.aw 159++M0):=by
 refine bn [] aI Tryz.func137 rfl rfl rfl ?_;intro B av;have cK:=ao.n;have g7:=aq.n;have gk:=aq.aJ.cap;have o7:=im.n;have arA:=au.n;refine aU.mk [] M0 _ (.refl _) (xF aq W au.w au.b) ?_;rintro v bR M1 -⟨rfl,rfl,rfl⟩;rw[hO];refine a9.mk (λag=>?_) (λag=>?_)
 rotate_left
 ·refine⟨_,_,.refl,rfl,.inl ⟨?_,rfl,rfl⟩⟩;have:right t=false:=by simpa using ag
  simp[lU,this]
 have ag:right t=true:=by simpa using ag
 refine aB.mk (λh=>?_) (λh=>?_)
 ·refine⟨_,_,.refl,rfl,.inl ⟨?_,rfl,rfl⟩⟩;have bB:¬ (ln:Int)=(g.n:Int):=by simpa using h
  have:decide (a4.length=g.n)=false:=dk (by omega);simp[lU,this]
 have JN:ln=g.n:=by
  have:(ln:Int)=(g.n:Int):=by simpa using h
  omega
 have gU:decide (a4.length=g.n)=true:=eD (by omega);refine bu.inv (ι:=Nat×aY) (λx=>{ a4:=[(1,.val (.slice p0 ln lc)),(3,.ref 3 0),(5,.ref 5 0),(8,.val x.2.val),(9,.val (.int .i64 x.1))],cl:=[(3,[.slice g.a g.n g.c]),(5,t.cells)],br:=bR,bO:=x.2.aw 159++M0 }) (λx=>x.1<=t.n/\x.2.ok 3 ((dq (a' g.ds) a4 (t.aa.take x.1) []).flatMap aM.cells)/\∀ d∈t.aa.take x.1,(!decide (d.k=3)||(dP d.t (a' g.ds)).isSome)=true) (λx=>t.n-x.1) ?_ ?_
 ·exact⟨(0,fs),⟨bQ _,fT 3,λd al=>by simp at al⟩,.refl,ec,.cons rfl (.cons rfl (.nil))⟩
 rintro⟨i,os⟩⟨hi,bf,jh⟩;simp only at hi bf jh;refine aB.mk (λh=>?_) (λh=>?_)
 rotate_left
 ·have bS:i=t.n:=by have:¬ (i:Int)<(t.n:Int):=cR h;omega
  rw[dX (by omega)]at jh bf;have cm:lT (a' g.ds) t.aa=true:=et.2 jh;exact⟨_,_,.refl,rfl,.inr ⟨_,os,by rw[lU,gU,ag,cm];rfl,bf,rfl,rfl⟩⟩
 have ax:i<t.n:=by have:(i:Int)<(t.n:Int):=cq h;omega
 have bo:i<t.aa.length:=by omega
 obtain⟨ad,ba,a3⟩:=aq.aJ.row aH.bI ax bo;have cN:=bJ bo;have al:=aq.aa _ cN;have eR:=al.aZ;have qT:=al.aJ.cap;have fC:=h1 ag i bo;have kT:=tM ag bo;have ZW:=Bd (a' g.ds) a4 (t.aa.take i) [];rw[rO (by omega),dI,cM]at ZW;have eG:dq (a' g.ds) a4 (t.aa.take (i+1)) []=dq (a' g.ds) a4 (t.aa.take i) []++[fE t.aa[i] (nD (a' g.ds) a4 (dq (a' g.ds) a4 (t.aa.take i) []) t.aa[i])]:=by rw[er bo,ZV,dq,dq]
 generalize dq (a' g.ds) a4 (t.aa.take i) []=acc at bf ZW eG;have Zs:os.n=acc.length:=by have:=bf.len;rw[s6]at this;omega
 have x6:(!decide (t.aa[i].k=3)||(dP t.aa[i].t (a' g.ds)).isSome)=true->∀ d∈t.aa.take (i+1),(!decide (d.k=3)||(dP d.t (a' g.ds)).isSome)=true:=λh d al=>by
  rw[er bo]at al;rcases dm.1 al with al | al;·exact jh d al
  ·simp only[fb]at al;rw[al];exact h
 have nC:decide (t.aa[i].k=3)=true->(dP t.aa[i].t (a' g.ds)).isSome=false->lU g a4 t=none:=λaF a7=>by
  have bm:lT (a' g.ds) t.aa=false:=by rw[lT,Fu];exact⟨_,cN,by rw[aF,a7];simp⟩
  simp[lU,bm]
 generalize t.aa[i]=d at a3 al eR qT fC kT eG x6 nC;have gT:=al.k.1;have N4:=N1 kT;refine aW.mk ad i ba rfl ax ?_;refine aE.mk _ (a3 _) ?_;refine aB.mk (λak=>?_) (λak=>?_)
 ·have bC:d.k=3:=by simpa using ak
  refine aU.mk [] (os.aw 159++M0) _ (.refl _) (Ee ao d.t) ?_;rintro v dG ew -⟨rfl,rfl,rfl⟩;rw[hO];have ho:=ZU d.t g.ds;refine aB.mk (λaL=>?_) (λaL=>?_);·refine⟨_,M0,.sub (e' _ _) .refl,rfl,.inl ⟨nC (eD bC) ?_,rfl,rfl⟩⟩;rw[ho,show decide (cy d.t g.ds 0<0)=true from aL];rfl
  ·have xu:¬ cy d.t g.ds 0<0:=cR aL;rw[show decide (cy d.t g.ds 0<0)=false from aL,bz]at ho;obtain⟨q,a0⟩:=en (by omega:0<=cy d.t g.ds 0);have zO:=ho;rw[JK]at zO;obtain⟨j,AD,tK⟩:=JL zO;have ee:q<a4.length:=by omega
   obtain⟨gX,tW,dp⟩:=im.rd q ee;refine aW.mk gX q tW a0 (by omega) ?_;refine aE.mk _ (dp.sub λx ae=>by simp[ae]) ?_;obtain⟨rule,K4⟩:∃ rule:aM,rule=a4[q]:=⟨_,rfl⟩;have Qx:∀ eN:List aM,eN=d.kids.map (λk=>acc.getD k.toNat bw)->ky d eN rule=fE d (nD (a' g.ds) a4 acc d):=λeN bj=>by
    have av:d.kids=[]:=by have:=(zK gT kT).leaf (by omega);exact hZ (by omega)
    rw[ky,bC,nD,av,bC,ho,a0];simp[fE,bC,K4,bV,ee]
   have Hr:=x6 (by rw[ho];simp);have A7:a4[q].cells=rule.cells:=by rw[K4]
   have Qy:=eG;clear eG x6 nC ho zO a0 dp tW;refine bu.inv (ι:=Nat×aY×List aM) (λx=>{ a4:=[(1,.val (.slice p0 ln lc)),(3,.ref 3 0),(5,.ref 5 0),(8,.val os.val),(9,.val (.int .i64 i)),(10,.ref 10 0),(11,.ref 11 0),(13,.val x.2.1.val),(14,.val (.int .i64 x.1))],cl:=[(3,[.slice g.a g.n g.c]),(5,t.cells),(10,d.cells),(11,rule.cells)],br:=dG,bO:=x.2.1.aw 159++(os.aw 159++M0) }) (λx=>x.1<=d.aZ/\x.2.1.ok 3 (x.2.2.flatMap aM.cells)/\x.2.2=(d.kids.take x.1).map λk=>acc.getD k.toNat bw) (λx=>d.aZ-x.1) ?_ ?_;·exact⟨(0,fs,[]),⟨bQ _,fT 3,rfl⟩,.refl,lE,.cons rfl (.cons rfl (.cons rfl (.cons (congrArg some A7) .nil)))⟩
   rintro⟨k,qe,eN⟩⟨af,eh,bj⟩;simp only at af eh bj;have VW:qe.n=eN.length:=by have:=eh.len;rw[s6]at this;omega
   have Gg:eN.length<=k:=by rw[bj,cT];exact rD _ _
   refine aB.mk (λh=>?_) (λh=>?_)
   ·have e6:k<d.aZ:=by have:(k:Int)<(d.aZ:Int):=cq h;omega
    have iS:k<d.kids.length:=by omega
    obtain⟨eU,eO,eB⟩:=al.aJ.one e6 iS;have a0:=fC _ (bJ iS);have ee:d.kids[k].toNat<acc.length:=by omega
    obtain⟨Qz,QA,iw⟩:=aY.ok.row (I:=dG) (M:=qe.aw 159++(os.aw 159++M0)) (e:=159) aM.bI (by decide) bf (λx ae=>by simp[ae]) ee;refine aW.mk eU k eO rfl e6 ?_;refine aE.mk _ (eB _) ?_;refine aW.mk Qz d.kids[k].toNat QA (by omega) (by omega) ?_;refine aE.mk _ iw ?_;refine bL.mk λbT h3 iF=>?_;refine bk.nF aI rfl (by simp) (e:=159) rfl rfl rfl qe eh rfl (cs:=acc[d.kids[k].toNat].cells) rfl rfl rfl [] (os.aw 159++M0) rfl (by omega) (by show(qe.n+1)*3<=_;omega) ?_;intro gL h8 ed eX;refine aQ.mk _ (bl (i:=k) (by omega)) ?_;refine⟨(k+1,gL,eN++[acc[d.kids[k].toNat]]),⟨⟨by simp only;omega,?_,?_⟩,by simp only;omega⟩,.refl,lE,.cons rfl (.cons rfl (.cons rfl (.cons rfl (.nil))))⟩;·simp only;rw[Dp];exact eX
    ·simp only;rw[er iS,eL,<-bj];simp[bV,ee]
   ·have bS:d.aZ<=k:=by have:¬ (k:Int)<(d.aZ:Int):=cR h;omega
    rw[dX (by omega)]at bj;have VX:eN.length=d.kids.length:=by rw[bj,cT]
    have hT:=aY.JH (I:=dG) (M:=qe.aw 159++(os.aw 159++M0)) (e:=159) eh (λx ae=>by simp[ae]);refine aU.mk (qe.aw 159++(os.aw 159++M0)) [] _ perm_nil (Zt ⟨gT,N4⟩ hT (by omega) (λb5=>by have:=JI gT kT b5;omega) rule) ?_;rintro v gJ qE -⟨rfl,rfl,rfl⟩;rw[db];refine bL.mk λbT h3 iF=>?_;refine bk.nF aI rfl (by simp) (e:=159) rfl rfl rfl os bf rfl (cs:=(ky d eN rule).cells) rfl rfl rfl (qe.aw 159) M0 rfl (by omega) (by show(os.n+1)*3<=_;omega) ?_;intro gL h8 ed eX;refine aQ.mk _ (bl (i:=i) (by omega)) ?_;refine⟨(i+1,gL),⟨⟨by simp only;omega,?_,Hr⟩,by simp only;omega⟩,.sub (e' _ _) .refl,ec,.cons rfl (.cons rfl (.nil))⟩;simp only;rw[Qy,Dp,<-Qx eN bj];exact eX
 ·have bC:¬ d.k=3:=by simpa using ak
  obtain⟨rule,K4⟩:∃ rule:aM,rule=bw:=⟨_,rfl⟩;have Qx:∀ eN:List aM,eN=d.kids.map (λk=>acc.getD k.toNat bw)->ky d eN rule=fE d (nD (a' g.ds) a4 acc d):=λeN bj=>by rw[ky,nD,dk bC,bz,bz,db,bj]
  have Hr:=x6 (by rw[dk bC];rfl);have A7:bw.cells=rule.cells:=by rw[K4]
  have Qy:=eG;clear eG x6 nC;refine bu.inv (ι:=Nat×aY×List aM) (λx=>{ a4:=[(1,.val (.slice p0 ln lc)),(3,.ref 3 0),(5,.ref 5 0),(8,.val os.val),(9,.val (.int .i64 i)),(10,.ref 10 0),(11,.ref 11 0),(13,.val x.2.1.val),(14,.val (.int .i64 x.1))],cl:=[(3,[.slice g.a g.n g.c]),(5,t.cells),(10,d.cells),(11,rule.cells)],br:=bR,bO:=x.2.1.aw 159++(os.aw 159++M0) }) (λx=>x.1<=d.aZ/\x.2.1.ok 3 (x.2.2.flatMap aM.cells)/\x.2.2=(d.kids.take x.1).map λk=>acc.getD k.toNat bw) (λx=>d.aZ-x.1) ?_ ?_;·exact⟨(0,fs,[]),⟨bQ _,fT 3,rfl⟩,.refl,lE,.cons rfl (.cons rfl (.cons rfl (.cons (congrArg some A7) .nil)))⟩
  rintro⟨k,qe,eN⟩⟨af,eh,bj⟩;simp only at af eh bj;have VW:qe.n=eN.length:=by have:=eh.len;rw[s6]at this;omega
  have Gg:eN.length<=k:=by rw[bj,cT];exact rD _ _
  refine aB.mk (λh=>?_) (λh=>?_)
  ·have e6:k<d.aZ:=by have:(k:Int)<(d.aZ:Int):=cq h;omega
   have iS:k<d.kids.length:=by omega
   obtain⟨eU,eO,eB⟩:=al.aJ.one e6 iS;have a0:=fC _ (bJ iS);have ee:d.kids[k].toNat<acc.length:=by omega
   obtain⟨Qz,QA,iw⟩:=aY.ok.row (I:=bR) (M:=qe.aw 159++(os.aw 159++M0)) (e:=159) aM.bI (by decide) bf (λx ae=>by simp[ae]) ee;refine aW.mk eU k eO rfl e6 ?_;refine aE.mk _ (eB _) ?_;refine aW.mk Qz d.kids[k].toNat QA (by omega) (by omega) ?_;refine aE.mk _ iw ?_;refine bL.mk λbT h3 iF=>?_;refine bk.nF aI rfl (by simp) (e:=159) rfl rfl rfl qe eh rfl (cs:=acc[d.kids[k].toNat].cells) rfl rfl rfl [] (os.aw 159++M0) rfl (by omega) (by show(qe.n+1)*3<=_;omega) ?_;intro gL h8 ed eX;refine aQ.mk _ (bl (i:=k) (by omega)) ?_;refine⟨(k+1,gL,eN++[acc[d.kids[k].toNat]]),⟨⟨by simp only;omega,?_,?_⟩,by simp only;omega⟩,.refl,lE,.cons rfl (.cons rfl (.cons rfl (.cons rfl (.nil))))⟩;·simp only;rw[Dp];exact eX
   ·simp only;rw[er iS,eL,<-bj];simp[bV,ee]
  ·have bS:d.aZ<=k:=by have:¬ (k:Int)<(d.aZ:Int):=cR h;omega
   rw[dX (by omega)]at bj;have VX:eN.length=d.kids.length:=by rw[bj,cT]
   have hT:=aY.JH (I:=bR) (M:=qe.aw 159++(os.aw 159++M0)) (e:=159) eh (λx ae=>by simp[ae]);refine aU.mk (qe.aw 159++(os.aw 159++M0)) [] _ perm_nil (Zt ⟨gT,N4⟩ hT (by omega) (λb5=>by have:=JI gT kT b5;omega) rule) ?_;rintro v gJ qE -⟨rfl,rfl,rfl⟩;rw[db];refine bL.mk λbT h3 iF=>?_;refine bk.nF aI rfl (by simp) (e:=159) rfl rfl rfl os bf rfl (cs:=(ky d eN rule).cells) rfl rfl rfl (qe.aw 159) M0 rfl (by omega) (by show(os.n+1)*3<=_;omega) ?_;intro gL h8 ed eX;refine aQ.mk _ (bl (i:=i) (by omega)) ?_;refine⟨(i+1,gL),⟨⟨by simp only;omega,?_,Hr⟩,by simp only;omega⟩,.sub (e' _ _) .refl,ec,.cons rfl (.cons rfl (.nil))⟩;simp only;rw[Qy,Dp,<-Qx eN bj];exact eX
def QB(ao:g.ok I)(aq:t.ok I)(au:Fit t W)(im:hW I M0 p0 ln a4) :
  Spec Tryz.prog 114 [g.val,.slice p0 ln lc,t.val] I M0 λv I' M'=>I'=I/\M'=M0 /\
   v=.tuple #[((vZ g a4 t).getD bw).val,.bool (vZ g a4 t).isSome]:=by
 refine bn [] aI Tryz.func114 rfl rfl rfl ?_;intro B av;have g7:=aq.n;refine aU.mk M0 [] _ perm_nil (alE ao aq au im) ?_;rintro v bR M1 -⟨rfl,⟨az,rfl,rfl⟩|⟨r,os,az,bf,rfl,rfl⟩⟩
 ·rw[db];refine aB.mk (λ_=>?_) (λh=>by simp at h);exact⟨_,_,.refl,rfl,rfl,by rw[vZ,az];rfl⟩
 ·obtain⟨ag,dp⟩:=agQ az;have rI:=lK ag;rw[db];refine aB.mk (λh=>by simp at h) (λ_=>?_);have ZX:t.root.toNat<r.length:=by omega
  have Zs:os.n=r.length:=by have:=bf.len;rw[s6]at this;omega
  obtain⟨ad,ba,a3⟩:=aY.ok.row (I:=bR) (M:=os.aw 159++M0) aM.bI (by decide) bf (λx ae=>dm.2 (.inl ae)) ZX;refine aW.mk ad t.root.toNat ba (by omega) (by omega) ?_;refine aE.mk _ a3 ?_;refine⟨_,M0,.sub (e' _ _) .refl,rfl,rfl,?_⟩;rw[vZ,az];simp only[mK,je,Option.isSome_some,bV,ev ZX];rfl
def QC{nm:ByteArray}(h:(dP nm (a' ds)).isSome=true):∃ q:Nat,cy nm ds 0=q/\q<ds.length/\((dP nm (a' ds)).getD 0).toNat=q:=by
 have ho:=ZU nm ds;cases al:decide (cy nm ds 0<0)with
 |true=>rw[al,bt]at ho;rw[ho]at h;cases h| false=>rw[al,bz]at ho;have aL:¬ cy nm ds 0<0:=cR al;obtain⟨q,a0⟩:=en (by omega:0<=cy nm ds 0);have zO:=ho;rw[JK]at zO;obtain⟨j,AD,tK⟩:=JL zO;refine⟨q,a0,by omega,?_⟩;rw[ho,a0];rfl
def alF(ao:g.ok I)(name:ByteArray){q:Nat}(a0:cy name g.ds 0=q):Spec Tryz.prog 63 [g.val,.string name] I M0 (λv I' M'=>v=.int .i64 q/\I'=I/\M'=M0):=by refine Spec.iM (Spec.frame (Ee ao name)) ?_;rintro v J M⟨M',rfl,-,-,rfl,rfl,rfl⟩;rw[a0];exact⟨rfl,rfl,rfl⟩
def dA.marks(s:dA)(i:Nat)(l:List Nat):dA:=l.foldl (λs k=>s.mark i k) s
def dA.ZY(s:dA)(i:Nat)(l m:List Nat):s.marks i (l++m)=(s.marks i l).marks i m:=xp
def dA.hb:∀ (l:List Nat) (s:dA) (i:Nat),(s.marks i l).m.length=s.m.length
 |[],s,i=>rfl| k::l,s,i=>by have:=dA.hb l (s.mark i k) i;unfold dA.marks at this |-;rw[qm,this];simp[dA.mark]
def QD(b1 b6 b7:Nat):Value:=.func (.func 70) #[] #[ptr b1,ptr b6,ptr b7]
set_option maxRecDepth 100000 in
def ZZ{I:aT}{g:bP}(ao:g.ok I)(h9:g.n<=64){t:bx}(aq:t.ok I)(gW:nc t)(ag:right t=true)(cm:lT (a' g.ds) t.aa=true){F:List aM}{M1:List aD}{b1 b6 b7 i:Nat}(hi:i<64)(U:(⟨b1,.cells #[.slice g.a g.n g.c] 24 (0,0)⟩:aD)∈M1)(fw:(⟨b7,.cells #[.int .i64 i] 3 (0,0)⟩:aD)∈M1){xa:Option Addr}{xc:Nat}(ae:hW I M1 xa t.n (dq (a' g.ds) F t.aa [])) : ∀ (m j:Nat),j<m->∀ (aj:j<t.aa.length) (s:dA) (ar:s.m.length=64),Spec Tryz.prog 69 [t.val,.slice xa t.n xc,.int .i64 j,QD b1 b6 b7] I (kc b6 s::M1) λv I' M'=>I'=I/\M'=kc b6 (s.marks i (dU (a' g.ds) F t.aa j).2)::M1
 |0,j,h,_,_,_=>absurd h (qb _)
 |m+1,j,Ea,aj,s,ar=>by
  have a8:=ZZ (b6:=b6) (xc:=xc) ao h9 aq gW ag cm hi U fw ae m;have g7:=aq.n;have cK:=ao.n;have cN:=bJ aj;have al:=aq.aa _ cN;have eR:=al.aZ;have QE:=gW _ cN;have ga:=tM ag aj;have Eb:=zK al.k.1 ga;have fC:=h1 ag j aj;have jh:=et.1 cm _ cN;have hle:=GA (pl:=a' g.ds) (F:=F) ag aj;have e8:=Bd (a' g.ds) F t.aa [];simp only[dI,cM]at e8;obtain⟨ad,ba,a3⟩:=aq.aJ.row aH.bI (show j<t.n by omega) aj;have tS:(dU (a' g.ds) F t.aa j).2=jR (a' g.ds) t.aa[j] (t.aa[j].kids.map (dU (a' g.ds) F t.aa)):=by rw[hle];rfl
  rw[tS];clear hle tS;have wF:∀ q (h:q<t.aa[j].kids.length),∃ k:Nat,t.aa[j].kids[q]=k/\k<j:=λq h=>by have:=fC _ (bJ h);exact⟨t.aa[j].kids[q].toNat,by omega,by omega⟩
  generalize t.aa[j]=d at *;refine bn [] aI Tryz.func69 rfl rfl rfl ?_;intro B av;refine aW.mk ad j ba rfl (by omega) ?_;refine aE.mk _ (a3 _) ?_;refine aB.mk (λe=>?_) (λbC=>?_);·have e:d.k=3:=cq e;obtain⟨q,vX,vY,Hs⟩:=QC (nm:=d.t) (ds:=g.ds) (by simpa[e]using jh);refine aU.whole _ (akG ao vX (by omega) hi ar U fw) ?_;rintro v J N -⟨bg,cH⟩;subst J;subst N;refine⟨_,_,.refl,rfl,?_⟩;rw[jR,eD e,bt,Hs];rfl
  have bC:¬ d.k=3:=cR bC;refine aB.mk (λe=>?_) (λdi=>?_)
  ·have e:d.k=4:=cq e;have wG:jR (a' g.ds) d (d.kids.map (dU (a' g.ds) F t.aa))=zg (d.kids.map (dU (a' g.ds) F t.aa)):=by rw[jR,dk bC,eD e];rfl
   rw[wG];refine bu.inv (ι:=Nat×dA) (λx=>{ a4:=[(1,.val (.slice xa t.n xc)),(3,.val (QD b1 b6 b7)),(4,.ref 4 0),(42,.val (.slice d.eA d.aZ d.ej)),(43,.val (.int .i64 d.aZ)),(44,.val (.int .i64 x.1))],cl:=[(4,t.cells)],br:=I,bO:=kc b6 x.2::M1 }) (λx=>x.1<=d.aZ/\x.2.m.length=64/\s.marks i (zg (d.kids.map (dU (a' g.ds) F t.aa)))=x.2.marks i (zg ((d.kids.drop x.1).map (dU (a' g.ds) F t.aa)))) (λx=>d.aZ-x.1) ?_ ?_;·exact⟨(0,s),⟨bQ _,ar,rfl⟩,.refl,jD,.cons rfl (.nil)⟩
   rintro⟨q,b3⟩⟨a0,rr,dK⟩;simp only at a0 rr dK;refine aB.mk (λh=>?_) (λh=>?_)
   rotate_left
   ·have bS:d.kids.length<=q:=by have:¬ (q:Int)<(d.aZ:Int):=cR h;omega
    rw[iK bS]at dK;refine⟨_,_,.refl,rfl,?_⟩;rw[dK];rfl
   have ax:q<d.aZ:=by have:(q:Int)<(d.aZ:Int):=cq h;omega
   have bo:q<d.kids.length:=by omega
   obtain⟨eU,eO,eB⟩:=al.aJ.one ax bo;obtain⟨k,af,Ht⟩:=wF q bo;rw[af]at eB;have Z0:k<(dq (a' g.ds) F t.aa []).length:=by omega
   obtain⟨Ql,Qm,qd⟩:=ae.rd k Z0;have iL:(d.kids.drop q).map (dU (a' g.ds) F t.aa)=dU (a' g.ds) F t.aa k::(d.kids.drop (q+1)).map (dU (a' g.ds) F t.aa):=by rw[dv bo,cZ,af]
   have im:(dU (a' g.ds) F t.aa k).1=(dq (a' g.ds) F t.aa [])[k]:=by rw[J2];simp[bV,Z0]
   rw[iL,zg,im,dA.ZY]at dK;refine aW.mk eU q eO rfl ax ?_;refine aE.mk _ (eB _) ?_;refine aU.whole _ (a8 k (by omega) (by omega) b3 rr) ?_;rintro v J N -⟨bg,cH⟩;subst J;subst N;refine aW.mk Ql k Qm rfl (by omega) ?_;refine aE.mk _ ((qd.sub λx ae=>.tail _ ae).part (k:=0) (m:=1) (by decide)) ?_;refine aB.mk (λa2=>?_) (λa2=>?_)
   ·have fW:(dq (a' g.ds) F t.aa [])[k].z=false:=by simpa using a2
    rw[fW]at dK;refine⟨_,_,.refl,rfl,?_⟩;rw[dK];rfl
   ·have fW:(dq (a' g.ds) F t.aa [])[k].z=true:=by simpa using a2
    rw[fW]at dK;refine aQ.mk _ (bl (i:=q) (by omega)) ?_;exact⟨(q+1,b3.marks i (dU (a' g.ds) F t.aa k).2),⟨⟨ax,by rw[dA.hb];exact rr,dK⟩,by simp only;omega⟩,.refl,jD,.cons rfl (.nil)⟩
  have di:¬ d.k=4:=cR di;refine aB.mk (λe=>?_) (λkx=>?_)
  ·have e:d.k=6:=cq e;have alG:=Eb.one (by omega);have gT:0<d.kids.length:=by omega
   refine aB.mk (λcj=>?_) (λcj=>?_)
   ·have rs:decide (d.hi=0)=false:=by have Ag:(!decide (d.hi=0))=true:=cj;simpa using Ag
    obtain⟨eU,eO,eB⟩:=al.aJ.one (j:=0) (by omega) gT;obtain⟨k,af,Ht⟩:=wF 0 gT;rw[af]at eB;have wG:jR (a' g.ds) d (d.kids.map (dU (a' g.ds) F t.aa))=(dU (a' g.ds) F t.aa k).2:=by
     have e6:d.kids=[(k:Int)]:=by
      match ae:d.kids,gT,alG,af with
      |[a],_,_,af=>simp only[vp]at af;rw[af]| _::_::_,_,h,_=>simp at h;omega
     rw[jR,dk bC,dk di,rs,e6];simp
    rw[wG];refine cr.draw aI rfl rfl rfl ?_;refine aW.mk eU 0 eO rfl (by omega) ?_;refine aE.mk _ (eB _) ?_;refine aU.whole _ (a8 k (by omega) (by omega) s ar) ?_;rintro v J N -⟨bg,cH⟩;subst J;subst N;exact⟨_,_,.refl,rfl,rfl⟩
   ·have rs:decide (d.hi=0)=true:=by have Ag:(!decide (d.hi=0))=false:=cj;simpa using Ag
    have wG:jR (a' g.ds) d (d.kids.map (dU (a' g.ds) F t.aa))=[]:=by rw[jR,dk bC,dk di,eD e,rs];rfl
    rw[wG];exact⟨_,_,.refl,rfl,rfl⟩
  have kx:¬ d.k=6:=cR kx;have wG:jR (a' g.ds) d (d.kids.map (dU (a' g.ds) F t.aa))=(d.kids.map (dU (a' g.ds) F t.aa)).flatMap (·.2):=by rw[jR,dk bC,dk di,dk kx];rfl
  rw[wG];refine bu.inv (ι:=Nat×dA) (λx=>{ a4:=[(1,.val (.slice xa t.n xc)),(3,.val (QD b1 b6 b7)),(4,.ref 4 0),(21,.val (.slice d.eA d.aZ d.ej)),(22,.val (.int .i64 d.aZ)),(23,.val (.int .i64 x.1))],cl:=[(4,t.cells)],br:=I,bO:=kc b6 x.2::M1 }) (λx=>x.1<=d.aZ/\x.2.m.length=64/\s.marks i ((d.kids.map (dU (a' g.ds) F t.aa)).flatMap (·.2))=x.2.marks i (((d.kids.drop x.1).map (dU (a' g.ds) F t.aa)).flatMap (·.2))) (λx=>d.aZ-x.1) ?_ ?_;·exact⟨(0,s),⟨bQ _,ar,rfl⟩,.refl,jD,.cons rfl (.nil)⟩
  rintro⟨q,b3⟩⟨a0,rr,dK⟩;simp only at a0 rr dK;refine aB.mk (λh=>?_) (λh=>?_)
  rotate_left
  ·have bS:d.kids.length<=q:=by have:¬ (q:Int)<(d.aZ:Int):=cR h;omega
   rw[iK bS]at dK;refine⟨_,_,.refl,rfl,?_⟩;rw[dK];rfl
  have ax:q<d.aZ:=by have:(q:Int)<(d.aZ:Int):=cq h;omega
  have bo:q<d.kids.length:=by omega
  obtain⟨eU,eO,eB⟩:=al.aJ.one ax bo;obtain⟨k,af,Ht⟩:=wF q bo;rw[af]at eB;rw[dv bo,cZ,af,mh,dA.ZY]at dK;refine aW.mk eU q eO rfl ax ?_;refine aE.mk _ (eB _) ?_;refine aU.whole _ (a8 k (by omega) (by omega) b3 rr) ?_;rintro v J N -⟨bg,cH⟩;subst J;subst N;refine aQ.mk _ (bl (i:=q) (by omega)) ?_;exact⟨(q+1,b3.marks i (dU (a' g.ds) F t.aa k).2),⟨⟨ax,by rw[dA.hb];exact rr,dK⟩,by simp only;omega⟩,.refl,jD,.cons rfl (.nil)⟩
def ef.x7(h:ef I M w)(aN:M.Perm N):ef I N w:=
 ⟨h.i,λx ae=>h.m x (aN.mem_iff.2 ae),λx ae=>h.d x (aN.mem_iff.2 ae),((aN.map (·.num)).nodup_iff).1 h.bE⟩
def Kept.x7{I':aT}{M' x8:List aD}{w':World}(h:Kept I M w I' M' w')(aN:M.Perm N)(rW:M'.Perm x8):Kept I N w I' x8 w':=
 ⟨h.le,h.sw,λx ae=>by
  rcases h.tu x (rW.mem_iff.2 ae)with⟨y,aA,e⟩ | U;·exact .inl ⟨y,aN.mem_iff.1 aA,e⟩
  ·exact .inr U,λb ah aA=>h.dL b ah λy vd=>aA y (aN.mem_iff.1 vd),h.out,h.sz⟩
def Spec.x7{f:Nat}{args:List Value}{p q:Value->aT->List aD->Prop}(aN:M.Perm N)(a0:∀ v I' M',p v I' M'->∃ x8,M'.Perm x8/\q v I' x8)(h:Spec P f args I M p):Spec P f args I N q:=by
 rcases h with⟨U,ab⟩ | ab
 ·refine .inl ⟨U,λw hw=>(ab w (hw.x7 aN.symm)).mono ?_⟩;rintro e w'⟨v,I',M',ak,aL,bm,b5⟩;obtain⟨x8,fw,fu⟩:=a0 _ _ _ aL;exact⟨v,I',x8,ak,fu,bm.x7 fw,b5.x7 aN fw⟩
 ·refine .inr λw hw=>?_;obtain⟨v,w',I',M',ak,aL,bm,b5⟩:=ab w (hw.x7 aN.symm);obtain⟨x8,fw,fu⟩:=a0 _ _ _ aL;exact⟨v,w',I',x8,ak,fu,bm.x7 fw,b5.x7 aN fw⟩
def dA.loop(s:dA)(i:Nat):dA:=⟨s.n,s.m,s.w ||| kW i⟩
def qf(pl:List (ByteArray×Int))(F:List aM)(s:dA)(i:Nat)(d:aK):dA:=
 bif nL d.t.aa (dq pl F d.t.aa [])then(s.marks i (dU pl F d.t.aa d.t.root).2).loop i else s.marks i (dU pl F d.t.aa d.t.root).2
def kd(n:Nat):dA:=⟨n,List.replicate 64 0,0⟩
def js(pl:List (ByteArray×Int))(F:List aM):Nat->List aK->dA->dA
 |_,[],s=>s| i,d::ds,s=>js pl F (i+1) ds (qf pl F s i d)
def qg(ds:List aK)(F:List aM):dA:=js (a' ds) F 0 ds (kd ds.length)
def Z1(pl:List (ByteArray×Int))(F:List aM)(s:dA)(i:Nat)(d:aK):(qf pl F s i d).m.length=s.m.length:=by
 unfold qf;cases nL d.t.aa (dq pl F d.t.aa [])with
 |true=>exact dA.hb _ s i| false=>exact dA.hb _ s i
def Z2(pl:List (ByteArray×Int))(F:List aM):∀ (l:List aK) (i:Nat) (s:dA) (d:aK),js pl F i (l++[d]) s=qf pl F (js pl F i l s) (i+l.length) d
 |[],i,s,d=>rfl| a::l,i,s,d=>by rw[oO,js,js,Z2 pl F l];congr 1;simp;omega
def QF(pl:List (ByteArray×Int))(F:List aM):∀ (l:List aK) (i:Nat) (s:dA),(js pl F i l s).m.length=s.m.length
 |[],i,s=>rfl| d::l,i,s=>by rw[js,QF pl F l,Z1]
def Z3{b:Nat}(aV:kc b s∈M):bq I M ((⟨b,0,none⟩:Addr).add 65) 1 [ou s.w]:=by rw[dF _ rfl];refine⟨rfl,_,_,_,.inr ⟨_,aV,rfl,rfl⟩,?_,rfl⟩;show(s.cells.drop (0+65)).take 1=_;rw[dA.cells,cM,Gx,CF (td _)];rfl
def alH(s:dA)(i:Nat):bG s.cells (0+65) [ou (s.w ||| kW i)]=(s.loop i).cells:=by unfold dA.cells dA.loop bG;simp only[cM,cS,dI];rw[nq,pJ (td _),Gx,iK (by simp[td])];simp
def K5{b:Nat}(aV:kc b s∈M):bq I M (⟨b,0,none⟩:Addr) 66 s.cells:=
 ⟨rfl,_,_,_,.inr ⟨_,aV,rfl,rfl⟩,by simp only[qC];exact dX (show s.cells.length<=66 by rw[dA.bI];exact b2 _),dA.bI s⟩
set_option maxRecDepth 100000 in
def alI(bA:fr I deb)(ao:g.ok I)(gW:∀ d∈g.ds,nc d.t)(h9:cn deb g=0->g.n<=64):Spec Tryz.prog 45 [g.val] I [] λv I' M'=>(∀ b o,I b=some o->I' b=some o)/\M'=[] /\
  ((cn deb g≠0/\v=.tuple #[(kd 0).val,.int .i64 (cn deb g)])\/(cn deb g=0/\∃ F,h7 g.ds F/\v=.tuple #[(qg g.ds F).val,.int .i64 0])):=by
 refine bn [1,2,6,7] aI Tryz.func45 rfl rfl rfl ?_;intro B av;have cK:=ao.n;have gk:=ao.aJ.cap;refine bL.mk λb1 jG F3=>?_;refine bL.mk λcc hc FL=>?_;refine aE.mk [.slice g.a g.n g.c] (dj (cs:=[.slice g.a g.n g.c]) (k:=0) (n:=1) (.tail _ (.head _)) (by simp)) ?_;refine aU.mk [] [kc cc (kd 0),⟨b1,.cells #[.slice g.a g.n g.c] 24 (0,0)⟩] _ (.refl _) (agV bA ao) ?_;rintro v bR N -⟨bK,⟨hm,rfl,rfl⟩|⟨hm,iJ,F,rfl,rfl,bs⟩⟩
 ·refine aB.mk (λ_=>?_) (λh=>absurd h (by simp[hm]));refine cu.kU [] _ _ _ rfl rfl rfl rfl (kd 0).cells rfl ?_;refine aE.mk _ (K5 (.head _)) ?_;exact⟨_,_,.sub (cW _) .refl,bK,rfl,.inl ⟨hm,rfl⟩⟩
 refine aB.mk (λh=>absurd h (by simp)) (λ_=>?_);have aV:=v0 cK hm;have rb:F.length=g.n:=by rw[bs.len,cK]
 have BS:=h9 hm;refine aE.mk [.slice g.a g.n g.c] (dj (cs:=[.slice g.a g.n g.c]) (k:=0) (n:=1) (.tail _ (.tail _ (.head _))) (by simp)) ?_;refine bL.mk λb6 FE Nj=>?_;refine cu.kU [] _ _ _ rfl rfl rfl rfl (kd g.n).cells rfl ?_;refine aE.mk [.slice g.a g.n g.c] (dj (cs:=[.slice g.a g.n g.c]) (k:=0) (n:=1) (.tail _ (.tail _ (.tail _ (.head _)))) (by simp)) ?_;refine bu.inv (ι:=Nat×aT) (λx=>{ a4:=[(1,.val (ptr b1)),(2,.val (ptr cc)),(4,.val (.slice (some ⟨iJ,0,none⟩) g.n g.n)),(6,.val (ptr b6)),(25,.val (.slice g.a g.n g.c)),(26,.val (.int .i64 g.n)),(27,.val (.int .i64 x.1))],cl:=[],br:=x.2,bO:=[kc b6 (js (a' g.ds) F 0 (g.ds.take x.1) (kd g.n)),ft iJ F,kc cc (kd 0),⟨b1,.cells #[.slice g.a g.n g.c] 24 (0,0)⟩] }) (λx=>x.1<=g.n/\∀ b o,I b=some o->x.2 b=some o) (λx=>g.n-x.1) ?_ ?_
 ·exact⟨(0,bR),⟨bQ _,bK⟩,.refl,np,.nil⟩
 rintro⟨i,J⟩⟨hi,bg⟩;simp only at hi bg;refine aB.mk (λh=>?_) (λh=>?_)
 rotate_left
 ·have bS:i=g.n:=by have:¬ (i:Int)<(g.n:Int):=cR h;omega
  refine aE.mk _ (K5 (.head _)) ?_;refine cu.kU [kc b6 (js (a' g.ds) F 0 (g.ds.take i) (kd g.n)),ft iJ F] _ _ _ rfl rfl rfl rfl (js (a' g.ds) F 0 (g.ds.take i) (kd g.n)).cells ?_ ?_;·rfl
  refine aE.mk _ (K5 (.tail _ (.tail _ (.head _)))) ?_;refine⟨_,_,.sub (cW _) .refl,bg,rfl,.inr ⟨hm,F,bs,?_⟩⟩;rw[bS,dX (l:=g.ds) (by omega),qg,cK];rfl
 have ax:i<g.n:=by have:(i:Int)<(g.n:Int):=cq h;omega
 have bo:i<g.ds.length:=by omega
 have k1:=ao.mono bg;have x9:=bA.mono bg;obtain⟨ad,ba,a3⟩:=k1.aJ.row aK.bI ax bo;have cN:=bJ bo;have al:=k1.ds _ cN;have ag:=aV.right _ cN;have cm:=aV.named _ cN;have QE:=gW _ cN;have eG:js (a' g.ds) F 0 (g.ds.take (i+1)) (kd g.n)=qf (a' g.ds) F (js (a' g.ds) F 0 (g.ds.take i) (kd g.n)) i g.ds[i]:=by rw[er bo,Z2,rO (by omega),cM]
 have fY:(js (a' g.ds) F 0 (g.ds.take i) (kd g.n)).m.length=64:=by rw[QF];rfl
 generalize g.ds[i]=d at a3 al ag cm QE eG;refine aW.mk ad i ba rfl ax ?_;refine aE.mk _ (a3 _) ?_;refine bL.mk λb7 Gr N9=>?_;refine cu.kU [] _ _ _ rfl rfl rfl rfl [.int .i64 i] rfl ?_;refine aE.mk [.slice g.a g.n g.c] (dj (cs:=[.slice g.a g.n g.c]) (k:=0) (n:=1) (.tail _ (.tail _ (.tail _ (.tail _ (.head _))))) (by simp)) ?_;generalize arB:js (a' g.ds) F 0 (g.ds.take i) (kd g.n)=s at fY eG |-;have n8:∀ {M:List aD},ft iJ F∈M->hW J M (some ⟨iJ,0,none⟩) g.n F:=λPG=>by have:=JM (I:=J) PG;rwa [rb]at this
 have Z4:lU g F d.t=some (dq (a' g.ds) F d.t.aa []):=by rw[lU,ag,cm,eD rb];rfl
 refine aU.whole _ (agP (lc:=g.n) x9 k1 al.t (n8 (.tail _ (.tail _ (.head _))))) ?_;rintro v iu ew -⟨jt,⟨az,-,-⟩|⟨r,cf,az,rfl,rfl⟩⟩
 ·rw[Z4]at az;cases az
 rw[Z4]at az;obtain rfl:=kn az;refine a9.mk (λh=>?_) (λh=>?_)
 rotate_left
 ·cases h
 refine aB.mk (λh=>absurd h (by simp)) (λ_=>?_);have rI:=lK ag;have zz:=ZZ (b1:=b1) (b6:=b6) (b7:=b7) (i:=i) (xa:=some ⟨cf,0,none⟩) (xc:=d.t.n) (F:=F) (k1.mono jt) BS (al.t.mono jt) QE ag cm (by omega) (M1:=[ft cf (dq (a' g.ds) F d.t.aa []),⟨b7,.cells #[.int .i64 i] 3 (0,0)⟩,ft iJ F,kc cc (kd 0),⟨b1,.cells #[.slice g.a g.n g.c] 24 (0,0)⟩]) (.tail _ (.tail _ (.tail _ (.tail _ (.head _))))) (.tail _ (.head _)) (by
  have:=JM (I:=iu) (M:=[ft cf (dq (a' g.ds) F d.t.aa []),⟨b7,.cells #[.int .i64 i] 3 (0,0)⟩,ft iJ F,kc cc (kd 0),⟨b1,.cells #[.slice g.a g.n g.c] 24 (0,0)⟩]) (b:=cf) (l:=dq (a' g.ds) F d.t.aa []) (.head _);rw[Bd,al.t.n]at this;simpa using this) d.t.aa.length d.t.root.toNat (by omega) (by omega) s fY
 rw[yA rI.1]at zz;have alJ:=Spec.x7 (q:=λv I' M'=>I'=iu/\M'=kc b6 (s.marks i (dU (a' g.ds) F d.t.aa d.t.root.toNat).2)::[ft cf (dq (a' g.ds) F d.t.aa []),⟨b7,.cells #[.int .i64 i] 3 (0,0)⟩,ft iJ F,kc cc (kd 0),⟨b1,.cells #[.slice g.a g.n g.c] 24 (0,0)⟩]) (o3 (a:=kc b6 s) (l₁:=[ft cf (dq (a' g.ds) F d.t.aa []),⟨b7,.cells #[.int .i64 i] 3 (0,0)⟩]) (l₂:=[ft iJ F,kc cc (kd 0),⟨b1,.cells #[.slice g.a g.n g.c] 24 (0,0)⟩])).symm (λv I' M' h=>⟨M',.refl _,h⟩) zz;refine aU.whole _ alJ ?_;rintro v th N -⟨k2,cH⟩;subst th;subst N;generalize eu:s.marks i (dU (a' g.ds) F d.t.aa d.t.root.toNat).2=s1 at *;have arC:s1.m.length=64:=by rw[<-eu,dA.hb,fY]
 refine aU.whole _ (akC (xs:=dq (a' g.ds) F d.t.aa []) (al.t.mono jt) ag ?_) ?_
 ·have:=JM (I:=iu) (M:=kc b6 s1::[ft cf (dq (a' g.ds) F d.t.aa []),⟨b7,.cells #[.int .i64 i] 3 (0,0)⟩,ft iJ F,kc cc (kd 0),⟨b1,.cells #[.slice g.a g.n g.c] 24 (0,0)⟩]) (b:=cf) (l:=dq (a' g.ds) F d.t.aa []) (.tail _ (.head _));rw[Bd,al.t.n]at this;simpa using this
 rintro v th N -⟨ai,k2,cH⟩;subst th;subst N;subst v;have dc:(kc b6 (qf (a' g.ds) F s i d))=(kc b6 (bif nL d.t.aa (dq (a' g.ds) F d.t.aa [])then s1.loop i else s1)):=by rw[qf,<-eu];rfl
 refine aB.mk (λhe=>?_) (λhe=>?_)
 rotate_left
 ·have fM:nL d.t.aa (dq (a' g.ds) F d.t.aa [])=false:=he;refine aQ.mk _ (bl (i:=i) (by omega)) ?_;refine⟨(i+1,iu),⟨⟨ax,λb o h=>jt _ _ (bg _ _ h)⟩,by simp only;omega⟩,.sub (.cons_cons _ (.cons _ (.cons _ (.refl _)))) (.lW ?_),np,.nil⟩;simp only;rw[eG,dc,fM];rfl
 have fM:nL d.t.aa (dq (a' g.ds) F d.t.aa [])=true:=he;refine cr.draw aI rfl rfl rfl ?_;refine aE.mk _ (Z3 (.head _)) ?_;refine aE.mk [.int .i64 i] (dj (cs:=[.int .i64 i]) (k:=0) (n:=1) (.tail _ (.tail _ (.head _))) (by simp)) ?_;refine wW.mk i rfl ?_;refine aQ.mk _ (Pm (by omega)) ?_;refine cu.kN [] _ s1.cells _ rfl ?_ rfl (s1.loop i).cells ?_ ?_
 ·rw[dA.bI];rfl
 ·show bG s1.cells (0+65) [Value.int .u64 (DR s1.w.toNat (kW i).toNat)]=_;rw[Kv];exact alH s1 i
 refine aQ.mk _ (bl (i:=i) (by omega)) ?_;refine⟨(i+1,iu),⟨⟨ax,λb o h=>jt _ _ (bg _ _ h)⟩,by simp only;omega⟩,.sub (.cons_cons _ (.cons _ (.cons _ (.refl _)))) (.lW ?_),np,.nil⟩;simp only;rw[eG,dc,fM];rfl
def hv(l:List Nat):List Value:=l.map λn:Nat=>Value.int .i64 n
def zP(s:dA):List Nat:=bitsOf s.w 64
open Classical in
noncomputable def wH(s:dA):List Nat:=(List.range 64).filter λi=>decide (p5 s.m i i)
def alK{b:dd}(h:∀ i,i<64->(b.getLsbD i=true ↔ p5 s.m i i)):bitsOf b 64=wH s:=by
 unfold bitsOf wH;apply wT;intro i hi;have:=h i (by simpa using hi);by_cases aC:p5 s.m i i
 ·simp[aC,this.2 aC]
 ·have:b.getLsbD i=false:=by
   cases ah:b.getLsbD i with
   |false=>rfl| true=>exact absurd (this.1 ah) aC
  simp[aC,this]
def Z5(pl:List (ByteArray×Int))(F:List aM):∀ (l:List aK) (i:Nat) (s:dA),(js pl F i l s).n=s.n
 |[],i,s=>rfl
 |d::l,i,s=>by
  rw[js,Z5 pl F l];have hm:∀ (q:List Nat) (s:dA),(s.marks i q).n=s.n:=λq=>by
   induction q with
   |nil=>exact λs=>rfl
   |cons k q a8=>exact λs=>a8 (s.mark i k)
  unfold qf;cases nL d.t.aa (dq pl F d.t.aa [])with
  |true=>exact hm _ s| false=>exact hm _ s
def alL(ds:List aK)(F:List aM):(qg ds F).n=ds.length:=Z5 _ _ _ _ _
def alM(ds:List aK)(F:List aM):(qg ds F).m.length=64:=by rw[qg,QF];rfl
noncomputable def Hu(e:Int)(s:dA):Int×Int:=
 if e≠0 then(0,e)else if 0<(wH s).length then(((wH s).headD 0:Nat),42)else if 0<(zP s).length then(((zP s).headD 0:Nat),43)else(0,0)
def aY.pos(h:os.ok 1 (hv l)):l.length=os.n:=by have:=h.len;simpa[hv]using this
def K6(h:os.ok 1 (hv l))(ay:0<l.length)(aV:os.aw e++M0=M):∃ ad,os.a.map (λg=>(⟨g,0,none⟩:Addr))=some ad/\bq I M (ad.add (0*1)) 1 [.int .i64 (l.headD 0:Nat)]:=by
 have aN:=aY.pos h;cases aX:os.a with
 |none=>have:=(h.nil aX).1;omega
 |some b=>
  obtain⟨U,ab,ak,aL⟩:=h.cap b aX;refine⟨⟨b,0,none⟩,rfl,?_⟩;subst aV;cases l with
  |nil=>simp at ay
  |cons a l=>
   cases aC:os.cur with
   |nil=>rw[aC]at aL;simp[hv]at aL
   |cons x xs=>
    rw[aC]at aL;have az:os.n*1=(os.n-1)+1:=by omega
    rw[az,nq]at aL;have ae:x=.int .i64 a:=(List.cons.inj aL).1;refine⟨rfl,_,_,_,.inr ⟨⟨b,.cells os.cur.toArray e (0,0)⟩,?_,rfl,rfl⟩,?_,rfl⟩;·unfold aY.aw;rw[aX];exact .head _
    ·rw[aC,ae];rfl
def alN(bA:fr I deb)(ao:g.ok I)(gW:∀ d∈g.ds,nc d.t)(h9:cn deb g=0->g.n<=64):Spec Tryz.prog 30 [g.val] I [] λv I' M'=>(∀ b o,I b=some o->I' b=some o)/\M'=[] /\
  ∃ r:Int×Int,v=.tuple #[.int .i64 r.1,.int .i64 r.2]/\((cn deb g≠0/\r=(0,cn deb g))\/(cn deb g=0/\∃ F,h7 g.ds F/\r=Hu 0 (qg g.ds F))):=by
 refine bn [4] aI Tryz.func30 rfl rfl rfl ?_;intro B av;have cK:=ao.n;refine aU.mk [] [] _ (.refl _) (alI bA ao gW h9) ?_;rintro v bR N -⟨bK,rfl,⟨hm,rfl⟩|⟨hm,F,bs,rfl⟩⟩
 ·refine bL.mk λfS Jg Jh=>?_;refine cu.kU [] _ _ _ rfl rfl rfl rfl (kd 0).cells rfl ?_;refine aB.mk (λh=>?_) (λh=>absurd h (by simp[hm]));exact⟨_,_,.sub (cW _) .refl,bK,rfl,(0,cn deb g),rfl,.inl ⟨hm,rfl⟩⟩
 refine bL.mk λfS Jg Jh=>?_;refine cu.kU [] _ _ _ rfl rfl rfl rfl (qg g.ds F).cells rfl ?_;have eG:=alL g.ds F;have fY:=alM g.ds F;have az:=h9 hm;generalize ar:qg g.ds F=s at eG fY;refine aB.mk (λh=>absurd h (by simp)) (λ_=>?_);refine aE.mk _ (K5 (.head _)) ?_;refine aU.whole _ (ail s ⟨fY,by omega⟩) ?_;rintro v J N -⟨rfl,rfl,b,rfl,ah⟩;refine aU.whole _ (XP b) ?_;rintro v J N -⟨rfl,os,bf,rfl,rfl⟩;have bf:os.ok 1 (hv (wH s)):=by rw[<-alK ah];exact bf
 have aN:=aY.pos bf;refine aB.mk (λh=>?_) (λh=>?_)
 ·have aG:0<(wH s).length:=by have:(0:Int)<(os.n:Int):=cq h;omega
  obtain⟨ad,ba,a3⟩:=K6 (I:=J) bf aG rfl;refine aW.mk ad 0 ba rfl (by omega) ?_;refine aE.mk _ a3 ?_;exact⟨_,_,.sub (cW _) .refl,bK,rfl,(((wH s).headD 0:Nat),42),rfl,.inr ⟨hm,F,bs,by rw[ar,Hu,cB (by simp),cw aG]⟩⟩
 have aG:¬ 0<(wH s).length:=by have:¬ (0:Int)<(os.n:Int):=cR h;omega
 refine aE.mk _ (Z3 (ly _ (.head _))) ?_;refine aU.whole _ (XP s.w) ?_;rintro v iu N -⟨rfl,uU,BT,rfl,rfl⟩;have BT:uU.ok 1 (hv (zP s)):=BT;have q2:=aY.pos BT;refine aB.mk (λh=>?_) (λh=>?_)
 ·have ab:0<(zP s).length:=by have:(0:Int)<(uU.n:Int):=cq h;omega
  obtain⟨ad,ba,a3⟩:=K6 (I:=iu) BT ab rfl;refine aW.mk ad 0 ba rfl (by omega) ?_;refine aE.mk _ a3 ?_;exact⟨_,_,.sub (cW _) .refl,bK,rfl,(((zP s).headD 0:Nat),43),rfl,.inr ⟨hm,F,bs,by rw[ar,Hu,cB (by simp),cB aG,cw ab]⟩⟩
 have ab:¬ 0<(zP s).length:=by have:¬ (0:Int)<(uU.n:Int):=cR h;omega
 exact⟨_,_,.sub (cW _) .refl,bK,rfl,(0,0),rfl,.inr ⟨hm,F,bs,by rw[ar,Hu,cB (by simp),cB aG,cB ab]⟩⟩
def K7(l:List Nat)(w:dd):dd:=l.foldl (λw k=>w ||| kW k) w
def alO(l:List Nat)(w:dd)(hi:i<64):(K7 l w).getLsbD i=(w.getLsbD i||l.contains i):=ahA l w hi
def pe(m:List dd)(i:Nat):m.set i (m.getD i 0)=m:=by
 apply yC;intro j;rw[iz];by_cases h:i=j
 ·subst h;by_cases ay:i<m.length
  ·simp[ay,bV]
  ·simp[ay]
 ·simp[h]
def Z6(i:Nat):∀ (l:List Nat) (s:dA),i<s.m.length->(s.marks i l).m=s.m.set i (K7 l (s.m.getD i 0))
 |[],s,h=>(pe s.m i).symm| k::l,s,h=>by have a8:=Z6 i l (s.mark i k) (by simpa[dA.mark]using h);show((s.mark i k).marks i l).m=_;rw[a8,dA.mark];simp only;rw[CI,Pn (by simpa using h)];rfl
def QG(i:Nat):∀ (l:List Nat) (s:dA),(s.marks i l).w=s.w
 |[],s=>rfl| k::l,s=>QG i l (s.mark i k)
def Z7(pl:List (ByteArray×Int))(F:List aM)(s:dA)(i:Nat)(d:aK)(h:i<s.m.length):(qf pl F s i d).m=s.m.set i (K7 (dU pl F d.t.aa d.t.root).2 (s.m.getD i 0)):=by
 unfold qf;rw[<-Z6 i _ s h];cases nL d.t.aa (dq pl F d.t.aa [])<;>rfl
def Z8(pl:List (ByteArray×Int))(F:List aM)(s:dA)(i:Nat)(d:aK):(qf pl F s i d).w=bif nL d.t.aa (dq pl F d.t.aa [])then s.w ||| kW i else s.w:=by
 unfold qf;cases nL d.t.aa (dq pl F d.t.aa [])
 ·exact QG i _ s
 ·show(s.marks i _).w ||| kW i=_
  rw[QG];rfl
def QH(pl:List (ByteArray×Int))(F:List aM):∀ (l:List aK) (i:Nat) (s:dA),s.m.length=64->i+l.length<=64 -> (∀ j,j<i\/i+l.length<=j->(js pl F i l s).m.getD j 0=s.m.getD j 0) /\ (∀ q (h:q<l.length),(js pl F i l s).m.getD (i+q) 0=K7 (dU pl F l[q].t.aa l[q].t.root).2 (s.m.getD (i+q) 0)) /\ (∀ j,j<64->j<i\/i+l.length<=j->(js pl F i l s).w.getLsbD j=s.w.getLsbD j) /\ (∀ q (h:q<l.length),(js pl F i l s).w.getLsbD (i+q)=(s.w.getLsbD (i+q)||nL l[q].t.aa (dq pl F l[q].t.aa [])))
 |[],i,s,_,_=>⟨λ_ _=>rfl,λ_ h=>absurd h (by simp),λ_ _ _=>rfl,λ_ h=>absurd h (by simp)⟩
 |d::l,i,s,ar,ay=>by
  rw[cS]at ay;obtain⟨U,ab,ak,aL⟩:=QH pl F l (i+1) (qf pl F s i d) (by rw[Z1,ar]) (by omega);have hm:∀ j,j≠i->(qf pl F s i d).m.getD j 0=s.m.getD j 0:=λj aj=>by rw[Z7 pl F s i d (by omega)];simp[bV,iz,rm aj]
  have hw:∀ j,j<64->j≠i->(qf pl F s i d).w.getLsbD j=s.w.getLsbD j:=λj aj bB=>by
   rw[Z8];cases nL d.t.aa (dq pl F d.t.aa []);·rfl
   ·rw[bt,Bg,J3 aj];simp[bB]
  refine⟨λj aj=>?_,λq h=>?_,λj aj tK=>?_,λq h=>?_⟩;·rw[cS]at aj;rw[js,U j (by omega),hm j (by omega)]
  ·cases q with
   |zero=>rw[js,U _ (by omega),Z7 pl F s i d (by omega)];rw[nT,Pn (by omega)];rfl| succ q=>have:=ab q (by simpa using h);rw[show i+1+q=i+(q+1) by omega]at this;rw[js,this,hm _ (by omega)];rfl
  ·rw[cS]at tK;rw[js,ak j aj (by omega),hw j aj (by omega)]
  ·cases q with
   |zero=>
    rw[js,ak _ (by omega) (by omega),Z8,nT,vp];cases he:nL d.t.aa (dq pl F d.t.aa []);·simp
    ·rw[bt,Bg,J3 (by omega)];simp
   |succ q=>
    have a0:q<l.length:=by simpa using h
    have:=aL q a0;rw[show i+1+q=i+(q+1) by omega]at this;rw[js,this,hw _ (by omega) (by omega)];rfl
def lu(ds:List aK)(F:List aM)(i:Nat):List Nat:=match ds[i]? with
 |some d=>(dU (a' ds) F d.t.aa d.t.root).2| none=>[]
def Hv(ds:List aK)(F:List aM)(i:Nat):Bool:=match ds[i]? with
 |some d=>nL d.t.aa (dq (a' ds) F d.t.aa [])| none=>false
def K8(az:ds.length<=64){k:Nat}(af:k<64):((qg ds F).m.getD i 0).getLsbD k=(lu ds F i).contains k:=by
 obtain⟨U,ab,-,-⟩:=QH (a' ds) F ds 0 (kd ds.length) (by rfl) (by omega);have av:∀ j,(kd ds.length).m.getD j 0=0#64:=λj=>by
  simp only[kd,bV,NC];by_cases h:j<64<;>simp[h]
 unfold lu qg;by_cases h:i<ds.length
 ·have:=ab i h;rw[cM]at this;rw[this,av,alO _ _ af,ev h];simp
 ·rw[U i (by omega),av,ql (by omega)];simp
def Z9(az:ds.length<=64)(hi:i<64):(qg ds F).w.getLsbD i=Hv ds F i:=by
 obtain⟨-,-,U,ab⟩:=QH (a' ds) F ds 0 (kd ds.length) (by rfl) (by omega);unfold Hv qg;by_cases h:i<ds.length
 ·have:=ab i h;rw[cM]at this;rw[this,ev h];simp[kd]
 ·rw[U i hi (by omega),ql (by omega)];simp[kd]
section
variable{α:Type}{O:Dw α}{n:Nat}{body:List α->Nat->α}(ze:∀ {l m:List α},o8 O l m->∀ i,i<n->O.le (body l i) (body m i))
include ze
end
section
variable{n:Nat}{body:List du->Nat->du}(ze:∀ {l m:List du},o8 Gv l m->∀ i,i<n->Gv.le (body l i) (body m i))
include ze
end
def Bu(d:aH)(JF:List (List aH)):List aH:=agD d (JF.map ag8)
structure Z'(t:bx):Prop where
 n:t.n<2500
 aa:∀ bE∈t.aa,NA bE
def xC.ok(h:xC I t)(ar:Z' t):t.ok I:=
 ⟨h.aJ.A3 (by have:=ar.n;omega),λbE bW=>(h.aa bE bW).ok (ar.aa bE bW),h.root⟩
def arD(g:bP)(alP:List bx)(i:Nat):List bx:=alP++(g.ds.take i).map aK.t
structure zG(L:List bx)(n0:Nat)(x:Nat×Nat):Prop where
 i:x.2<=L.length
 n:x.1<=6000
 ge:n0<=x.1
 small:x.1<2500->x.2<=x.1/\∀ j (h:j<L.length),j<x.2->Z' L[j]
structure aaa where
 l:List aM
 a:Option Addr
 n:Nat
 c:Nat
def aaa.val(x:aaa):Value:=.slice x.a x.n x.c
def alQ(h:ur g){m:List aM}(hm:m.length=g.n){d:aK}(al:d∈g.ds):vZ g m d.t=some (gl (a' g.ds) m d):=by unfold vZ lU gl;rw[h.right d al,h.named d al];simp[hm]
def hX(ds:List aK):Nat->List aM
 |0=>List.replicate ds.length bw| n+1=>ds.map (gl (a' ds) (hX ds n))
def Hw{f:aK->aM}(h:i<ds.length):(ds.map f).getD i bw=f ds[i]:=by simp[bV,h]
def nE.all{l:List aM}(h:nE ds l):nE ds (ds.map (gl (a' ds) l))/\ep l (ds.map (gl (a' ds) l)):=by
 have hle:ep l (ds.map (gl (a' ds) l)):=ep.of (by simp[h.len]) λi hi=>by rw[Hw (by rw[<-h.len];exact hi)];exact h.up i _
 refine⟨⟨by simp,λi hi=>?_,λm hm aC=>ep.of (by simp[hm]) λi hi=>?_⟩,hle⟩
 ·rw[Hw hi];exact Gj hle _
 ·have ck:i<ds.length:=by simpa using hi
  rw[Hw ck];exact(Gj (h.least m hm aC) _).trans (aC i ck)
def K9(ds:List aK):∀ n,nE ds (hX ds n)
 |0=>.start ds| n+1=>(K9 ds n).all.1
def alR(n:Nat):uq (List.replicate n bw)=3*n:=by
 induction n with
 |zero=>rfl| succ n a8=>rw[AO];simp only[uq,cZ,n4]at a8 |-;rw[a8,show Bf bw=3 from rfl];omega
def aab(ds:List aK):∀ n,hX ds (n+1)=hX ds n\/uq (hX ds n)+n<=3*ds.length
 |0=>.inr (by rw[hX,alR];omega)
 |n+1=>by
  rcases aab ds n with h | h
  ·left
   rw[hX,h];exact h
  ·by_cases e:hX ds (n+1)=hX ds n
   ·left
    rw[hX,e];exact e
   ·right
    have:=V2 (K9 ds n).all.2 e;have a7:ds.map (gl (a' ds) (hX ds n))=hX ds (n+1):=rfl;rw[a7]at this;omega
def alS(ds:List aK){n:Nat}(az:3*ds.length<n):h7 ds (hX ds n):=by
 have h:hX ds (n+1)=hX ds n:=by
  rcases aab ds n with h | h;·exact h
  ·omega
 have aN:=K9 ds n;refine⟨aN.len,λi hi=>?_,aN.least⟩;have:(hX ds (n+1)).getD i bw=(hX ds n).getD i bw:=by rw[h]
 rw[<-this,hX,Hw hi]
def l2(b:Nat)(l:List aM):aD:=⟨b,.cells (l.flatMap aM.cells).toArray 159 (0,0)⟩
def QI{b:Nat}{l:List aM}(aV:l2 b l∈M):hW I M (some ⟨b,0,none⟩) l.length l:=
 ⟨rfl,λj aj=>⟨_,rfl,by
  have:=dj (I:=I) (cs:=l.flatMap aM.cells) (k:=j*3) (n:=3) aV (by rw[s6];omega);rwa [xi aM.cells 3 aM.bI l j aj]at this⟩⟩
def alT(f:aK->aM)(ds:List aK)(i:Nat)(hi:i<ds.length):((ds.take i).map f++List.replicate (ds.length-i) bw).set i (f ds[i])=(ds.take (i+1)).map f++List.replicate (ds.length-(i+1)) bw:=by rw[VT _ ds.length i (by simp;omega) hi,er hi,eL];rfl
def alU(cv:mF deb)(ao:g.ok I)(au:ls g):Spec Tryz.prog 87 [g.val] I [] λv I' M'=>I'=I /\
  ((cn deb g≠0/\v=.tuple #[.slice none 0 0,.int .i64 (cn deb g)]/\M'=[])\/(cn deb g=0/\∃ b l,v=.tuple #[.slice (some ⟨b,0,none⟩) g.n g.n,.int .i64 0]/\M'=[l2 b l]/\h7 g.ds l)):=by
 refine bn [] aI Tryz.func87 rfl rfl rfl ?_;intro B av;have cK:=ao.n;have gk:=ao.aJ.cap;have o7:=au.n;refine aU.mk [] [] _ (.refl _) (Qw cv ao au) ?_;rintro v bR M1 -⟨rfl,rfl,rfl⟩;have qN:uS deb g=cn deb g:=K3 deb g;refine aB.mk (λh=>?_) (λh=>?_)
 ·have hm:uS deb g≠0:=by simpa using h
  rw[qN]at hm;exact⟨_,_,.refl,rfl,.inl ⟨hm,by rw[<-qN],rfl⟩⟩
 have hm:cn deb g=0:=by rw[<-qN];simpa using h
 have aV:=v0 cK hm;refine mO.mk g.n g.n rfl rfl (b2 _) (by show 3*g.n<=_;omega) (by omega) ?_;refine bL.mk λdO sQ alV=>?_;have e:rowOf bw.cells (g.n*3)=(List.replicate g.ds.length bw).flatMap aM.cells:=by rw[cK];exact N2 g.n
 refine bu.inv (ι:=Nat×Nat) (λx=>{ a4:=[(1,.ref 1 0),(5,.val (.slice (some ⟨x.2,0,none⟩) g.n g.n)),(6,.val (.int .i64 x.1))],cl:=[(1,[.slice g.a g.n g.c])],br:=bR,bO:=[l2 x.2 (hX g.ds x.1)] }) (λx=>x.1<=3*g.n+1) (λx=>3*g.n+1-x.1) ?_ ?_
 ·refine⟨(0,dO),bQ _,.lW ?_,cU,.cons rfl (.nil)⟩;simp only[l2,hX];rw[<-e];rfl
 rintro⟨k,b⟩af;simp only at af;refine aQ.mk ((3*g.n:Nat):Int) (ku (by simp) (by omega)) ?_;refine aB.mk (λh=>?_) (λh=>?_)
 rotate_left
 ·have bS:k=3*g.n+1:=by have:¬ (k:Int)<=((3*g.n:Nat):Int):=cR h;omega
  exact⟨_,_,.refl,rfl,.inr ⟨hm,b,_,rfl,rfl,alS g.ds (by omega)⟩⟩
 have ax:k<=3*g.n:=by have:(k:Int)<=((3*g.n:Nat):Int):=cq h;omega
 have eS:(hX g.ds k).length=g.n:=by rw[(K9 g.ds k).len,cK]
 refine mO.mk g.n g.n rfl rfl (b2 _) (by show 3*g.n<=_;omega) (by omega) ?_;refine bL.mk λcc hc FL=>?_;refine bu.inv (ι:=Nat) (λi=>{ a4:=[(1,.ref 1 0),(5,.val (.slice (some ⟨b,0,none⟩) g.n g.n)),(6,.val (.int .i64 k)),(7,.val (.slice (some ⟨cc,0,none⟩) g.n g.n)),(8,.val (.int .i64 i))],cl:=[(1,[.slice g.a g.n g.c])],br:=bR,bO:=[l2 cc ((g.ds.take i).map (gl (a' g.ds) (hX g.ds k))++List.replicate (g.ds.length-i) bw),l2 b (hX g.ds k)] }) (λi=>i<=g.n) (λi=>g.n-i) ?_ ?_
 ·refine⟨0,bQ _,.lW ?_,ec,.cons rfl (.nil)⟩;simp only[mi,jj,hO,A5];unfold l2;rw[<-e];rfl
 rintro i hi;refine aB.mk (λh=>?_) (λh=>?_)
 rotate_left
 ·have bS:i=g.n:=by have:¬ (i:Int)<(g.n:Int):=cR h;omega
  refine aQ.mk _ (bl (i:=k) (by omega)) ?_;refine⟨(k+1,cc),⟨by simp only;omega,by simp only;omega⟩,.sub (.cons_cons _ (cW _)) (.lW ?_),cU,.cons rfl (.nil)⟩;rw[bS,<-cK,Mu,pZ,List.replicate_zero,db];rfl
 have cd:i<g.n:=by have:(i:Int)<(g.n:Int):=cq h;omega
 have lO:i<g.ds.length:=by omega
 obtain⟨ad,ba,a3⟩:=ao.aJ.row aK.bI cd lO;have cN:=bJ lO;have xt:=alQ aV eS cN;refine cr.draw aI rfl rfl rfl ?_;refine aW.mk ad i ba rfl cd ?_;refine aE.mk _ ((a3 _).part (k:=1) (m:=2) (by decide)) ?_;have k7:=QI (I:=bR) (M:=[l2 cc ((g.ds.take i).map (gl (a' g.ds) (hX g.ds k))++List.replicate (g.ds.length-i) bw),l2 b (hX g.ds k)]) (b:=b) (l:=hX g.ds k) (.tail _ (.head _));rw[eS]at k7;have c4:=QB ao (ao.ds _ cN).t (au.ds _ cN) (lc:=g.n) k7;rw[xt]at c4;refine e7.mT _ [] _ perm_nil c4 (λv I' M' h x ae=>by rw[h.2.1];exact ae) ?_;rintro v dG ew -⟨rfl,rfl,rfl⟩;rw[db];refine aW.mk ⟨cc,0,none⟩ i rfl rfl cd ?_;refine cu.kN [] [l2 b (hX g.ds k)] (((g.ds.take i).map (gl (a' g.ds) (hX g.ds k))++List.replicate (g.ds.length-i) bw).flatMap aM.cells) _ rfl ?_ rfl (((g.ds.take (i+1)).map (gl (a' g.ds) (hX g.ds k))++List.replicate (g.ds.length-(i+1)) bw).flatMap aM.cells) ?_ ?_
 ·exact ui (by simp;omega) lO (gl (a' g.ds) (hX g.ds k) g.ds[i])
 ·rw[cM];have:=JG ((g.ds.take i).map (gl (a' g.ds) (hX g.ds k))++List.replicate (g.ds.length-i) bw) i (by simp;omega) (gl (a' g.ds) (hX g.ds k) g.ds[i]);rw[alT _ _ _ lO]at this;exact this
 refine aQ.mk _ (bl (i:=i) (by omega)) ?_;exact⟨i+1,⟨by omega,by omega⟩,.refl,ec,.cons rfl (.nil)⟩
def aac(deb:List Int)(g:bP)(l:List du)(t:bx):Bool:=decide (l.length=g.n)&&(decide (cn deb g=0)&&(right t&&lT (a' g.ds) t.aa))
def K'(cv:mF deb)(ao:g.ok I)(au:ls g):Spec Tryz.prog 39 [g.val] I M0 (λv I' M'=>v=.int .i64 (cn deb g)/\I'=I/\M'=M0):=by refine Spec.iM (Spec.frame (Qw cv ao au)) ?_;rintro v J M⟨M',rfl,-,-,rfl,rfl,rfl⟩;rw[K3];exact⟨rfl,rfl,rfl⟩
def aad(cv:mF deb)(ao:g.ok I)(au:ls g):Spec Tryz.prog 87 [g.val] I M0 λv I' M'=>I'=I /\
  ((cn deb g≠0/\v=.tuple #[.slice none 0 0,.int .i64 (cn deb g)]/\M'=M0)\/(cn deb g=0/\∃ b F,v=.tuple #[.slice (some ⟨b,0,none⟩) g.n g.n,.int .i64 0]/\M'=l2 b F::M0/\h7 g.ds F)):=by
 refine Spec.iM (Spec.frame (alU cv ao au)) ?_;rintro v J M⟨M',rfl,-,-,rfl,⟨U,rfl,rfl⟩|⟨U,b,F,rfl,rfl,ab⟩⟩
 ·exact⟨rfl,.inl ⟨U,rfl,rfl⟩⟩
 ·exact⟨rfl,.inr ⟨U,b,F,rfl,rfl,ab⟩⟩
def se(b:Bool)(xs:List (aM×List Nat)):List Nat:=bif b then zg xs else xs.flatMap (·.2)
def QJ(b:Bool):se b []=[]:=by cases b<;>rfl
def QK(b:Bool)(x:aM×List Nat)(xs:List (aM×List Nat)):se b (x::xs)=x.2++bif b && !x.1.z then []else se b xs:=by
 cases b with
 |true=>
  cases a2:x.1.z<;>simp[se,zg,a2]
 |false=>simp[se]
def La{xs:List (aM×List Nat)}(ak:¬ d.k=3)(b5:¬ (d.k=6/\d.hi=0)):jR pl d xs=se (decide (d.k=4)) xs:=by
 unfold jR se;rw[dk ak,bz];cases aL:decide (d.k=4)with
 |true=>rfl
 |false=>
  rw[bz,bz];by_cases a:d.k=6;·have b:¬ d.hi=0:=λe=>b5 ⟨a,e⟩;rw[eD a,dk b];rfl
  ·rw[dk a];rfl
def aae{b:Bool}{f:Int->aM×List Nat}{g:Int->Nat}:∀ (ks:List Int),(∀ k∈ks,(f k).2.length<=g k)->(se b (ks.map f)).length<=eV g ks
 |[],_=>by rw[jj,QJ];exact bQ _
 |k::ks,h=>by
  have U:=h k (.head _);have ab:=aae (b:=b) ks λq a0=>h q (.tail _ a0);rw[cZ,QK,cz];unfold eV at ab |-;rw[cZ,n4];cases b && !(f k).1.z;·rw[bz];omega
  ·rw[bt,dI];omega
def aaf{pl:List (ByteArray×Int)}{F:List aM}{t:bx}(ag:right t=true):∀ (m j:Nat),j<m->j<t.aa.length->(dU pl F t.aa j).2.length<=g' t.aa j
 |0,j,h,_=>absurd h (qb _)
 |m+1,j,hm,aj=>by
  rw[GA ag aj,vP ag aj];have af:=h1 ag j aj;have hle:∀ k∈t.aa[j].kids,(dU pl F t.aa k).2.length<=g' t.aa k:=λk zL=>by obtain⟨U,ab⟩:=af k zL;obtain⟨q,rfl⟩:=en U;exact aaf ag m q (by omega) (by omega)
  show(jR pl t.aa[j] (t.aa[j].kids.map (dU pl F t.aa))).length<=_;by_cases ak:t.aa[j].k=3;·rw[jR,eD ak,bt];simp
  by_cases b5:t.aa[j].k=6/\t.aa[j].hi=0;·rw[jR,dk ak,bz,dk (show ¬ t.aa[j].k=4 by omega),bz,eD b5.1,eD b5.2];simp
  ·rw[La ak b5];have:=aae (b:=decide (t.aa[j].k=4)) t.aa[j].kids hle;omega
def aag(ag:right t=true):(dU pl F t.aa t.root).2.length<=t.aa.length:=by obtain⟨U,ab⟩:=lK ag;obtain⟨q,a0⟩:=en U;have:=aaf (pl:=pl) (F:=F) ag (q+1) q (by omega) (by omega);have h:=Vx ag;rw[a0]at h |-;omega
def Hx(a b:List Nat):hv (a++b)=hv a++hv b:=eL
def aah(l:List Nat):gh (hv l)=true:=by
 induction l with
 |nil=>rfl| cons a l a8=>exact a8
def aai(l:List Nat):(hv l).length=l.length:=cT _
def alW(l:List Nat):l.flatMap (λn:Nat=>[Value.int .i64 n])=hv l:=by
 unfold hv
 induction l with
 |nil=>rfl| cons a l a8=>rw[mh,a8];rfl
def QL(h:os.ok 1 (hv l))(aV:∀ z∈os.aw e,z∈M){j:Nat}(aj:j<l.length):∃ ad,os.a.map (λg=>(⟨g,0,none⟩:Addr))=some ad/\bq I M (ad.add (j*1)) 1 [.int .i64 l[j]]:=by
 have aG:os.ok 1 (l.flatMap λn:Nat=>[Value.int .i64 n]):=by rw[alW];exact h
 exact aY.ok.row (f:=λn:Nat=>[Value.int .i64 n]) (size:=1) (λ_=>rfl) (by decide) aG aV aj
def alX{xs:List Value}(h:os.ok 1 xs)(av:0<os.n)(aV:∀ z∈os.aw e,z∈M):∃ ad,os.a.map (λg=>(⟨g,0,none⟩:Addr))=some ad/\bq I M ad (os.n*1) xs:=by
 cases aX:os.a with
 |none=>have:=(h.nil aX).1;omega| some b=>obtain⟨U,ab,ak,aL⟩:=h.cap b aX;refine⟨⟨b,0,none⟩,rfl,rfl,_,_,_,.inr ⟨⟨b,.cells os.cur.toArray e (0,0)⟩,aV _ (by unfold aY.aw;rw[aX];exact .head _),rfl,rfl⟩,?_,h.len⟩;simp only[qC];exact aL
def QM(n:Nat)(h:os.ok 1 (hv l))(aV:∀ z∈os.aw 3,z∈M0)(aC:l.length<=140737488355328):Spec Tryz.prog 86 [.int .i64 n,os.val] I M0 λv I' M'=>v=.bool (l.contains n)/\I'=I/\M'=M0:=by
 refine bn [] aI Tryz.func86 rfl rfl rfl ?_;intro B av;have aN:=aY.pos h;refine bu.inv (ι:=Nat) (λi=>{ a4:=[(0,.val (.int .i64 n)),(1,.val os.val),(5,.val (.int .i64 i))],br:=I,bO:=M0 }) (λi=>i<=l.length/\l.contains n=(l.drop i).contains n) (λi=>l.length-i) ?_ ?_
 ·exact⟨0,⟨bQ _,rfl⟩,.refl,cU,.nil⟩
 rintro i⟨hi,dK⟩;refine aB.mk (λh=>?_) (λh=>?_)
 rotate_left
 ·have bS:l.length<=i:=by have:¬ (i:Int)<(os.n:Int):=cR h;omega
  rw[iK bS]at dK;exact⟨_,_,.refl,by rw[dK];rfl,rfl,rfl⟩
 have ax:i<l.length:=by have:(i:Int)<(os.n:Int):=cq h;omega
 obtain⟨ad,ba,a3⟩:=QL (I:=I) (by assumption) aV ax;rw[dv ax,Oo]at dK;refine aW.mk ad i ba rfl (by omega) ?_;refine aE.mk _ a3 ?_;refine aB.mk (λhe=>?_) (λhe=>?_)
 ·have fM:(l[i]:Int)=(n:Int):=cq he;have alY:n=l[i]:=by omega
  exact⟨_,_,.refl,by rw[dK,<-alY];simp,rfl,rfl⟩
 ·have fM:¬ (l[i]:Int)=(n:Int):=cR he;refine aQ.mk _ (bl (i:=i) (by omega)) ?_;refine⟨i+1,⟨⟨ax,?_⟩,by omega⟩,.refl,cU,.nil⟩;rw[dK];have:(n == l[i])=false:=by simpa using λe:n=l[i]=>fM (by omega)
  rw[this,mL]
set_option maxRecDepth 100000 in
def aaj{g:bP}{F:List aM}(rb:F.length=g.n){W:Nat}:∀ (m:Nat) {I:aT} {M0:List aD} (ao:g.ok I) {t:bx} (aq:t.ok I) (ag:right t=true) (au:Fit t W) (cm:lT (a' g.ds) t.aa=true) {mP:Option Addr} {fc:Nat} (bs:hW I M0 mP g.n F),t.aa.length<=m -> Spec Tryz.prog 113 [g.val,.slice mP g.n fc,t.val] I M0 λv I' M'=>(∀ b o,I b=some o->I' b=some o)/\∃ os:aY,os.ok 1 (hv (dU (a' g.ds) F t.aa t.root).2)/\v=os.val/\M'=os.aw 3++M0
 |0,_,_,_,t,_,ag,_,_,_,_,_,hm=>by have:=lK ag;omega
 |m+1,I,M0,ao,t,aq,ag,au,cm,mP,fc,bs,hm=>by
  have a8:=@aaj g F rb W m;have g7:=aq.n;have cK:=ao.n;obtain⟨g3,gI⟩:=lK ag;obtain⟨r,lD⟩:=en g3;have dp:r<t.aa.length:=by omega
  have cN:=bJ dp;have al:=aq.aa _ cN;have ga:=tM ag dp;have Eb:=zK al.k.1 ga;have fC:=h1 ag r dp;have jh:=et.1 cm _ cN;have o7:=au.n;have BH:dU (a' g.ds) F t.aa t.root=p4 (a' g.ds) F t.aa[r] (t.aa[r].kids.map (dU (a' g.ds) F t.aa)):=by rw[lD];exact GA ag dp
  have hlen:=aag (pl:=a' g.ds) (F:=F) ag;have lL:=Zr (M0:=M0) aq ag au;have rI:=Zq (M0:=M0) aq ag au;have cQ:=vP ag dp;have fY:=y5 ag t.aa.length r dp (by omega);have qU:nodeAt t.aa t.root.toNat=t.aa[r]:=by rw[lD];exact jO dp
  have Qn:t.aa[r].kids.length<=t.aa.length:=by
   have ak:t.aa[r].kids.length<=eV (g' t.aa) t.aa[r].kids:=y6 ag λk af=>by have:=fC k af;omega
   omega
  rw[qU]at lL rI;rw[BH]at hlen |-;generalize t.aa[r]=d at *;refine bn [11] aI Tryz.func113 rfl rfl rfl ?_;intro B av;refine aU.whole _ rI ?_;rintro v J N -⟨rfl,bg,cH⟩;subst J;subst N;refine aU.whole _ lL ?_;rintro v J N -⟨bg,os,L,bf,rfl,cH,D1,cL⟩;subst N;have k1:=ao.mono bg;have hT:d.kids.map (dU (a' g.ds) F t.aa)=L.map λbh=>dU (a' g.ds) F bh.aa bh.root:=by
   apply rE;·simp[D1]
   ·intro q U ab;have a0:q<d.kids.length:=by simpa using U
    have ee:q<L.length:=by omega
    obtain⟨-,fo⟩:=cL q ee;have e:d.kids.getD q 0=d.kids[q]:=by simp[bV,a0]
    rw[e]at fo;have ai:=fC _ (bJ a0);obtain⟨k,af⟩:=en ai.1;rw[af]at fo;have:=ahz (pl:=a' g.ds) (F:=F) ag (j:=k) (by omega) fo;simp only[oP];rw[this,af]
  have wF:∀ q (h:q<L.length),(L[q]).ok J/\right L[q]=true/\Fit L[q] W/\lT (a' g.ds) L[q].aa=true/\L[q].aa.length<=m:=λq ee=>by
   obtain⟨bM,fo⟩:=cL q ee;have a0:q<d.kids.length:=by omega
   have e:d.kids.getD q 0=d.kids[q]:=by simp[bV,a0]
   have e2:=bJ a0;rw[e]at fo;have ai:=fC _ e2;obtain⟨k,af⟩:=en ai.1;have eu:=JB (g:=g' t.aa) e2;rw[af]at fo eu;have bj:k<t.aa.length:=by omega
   have U:=WH ag bj fo;have ab:=Zo ag au aq bj fo bM;have ak:=Zp ag cm bj fo;have aL:=Ov ag bj fo;exact⟨bM,U,ab,ak,by omega⟩
  rw[hT]at hlen |-;have hV:os.n=L.length:=by have:=bf.len;rw[gd bx.cells 2 (λ_=>rfl)]at this;omega
  have kk:∀ {K:aT} {M:List aD} q (h:q<L.length),(∀ b o,J b=some o->K b=some o)->(∀ z∈M0,z∈M)->Spec Tryz.prog 113 [g.val,.slice mP g.n fc,L[q].val] K M λv I' M'=>(∀ b o,K b=some o->I' b=some o)/\∃ os:aY,os.ok 1 (hv (dU (a' g.ds) F L[q].aa L[q].root).2)/\v=os.val/\M'=os.aw 3++M:=fun {K M} q a0 cb aV=>by obtain⟨U,ab,ak,aL,bm⟩:=wF q a0;exact a8 (k1.mono cb) (U.mono cb) ab ak aL (((bs.mono bg).mono cb).sub aV) bm
  have QN:∀ {K:aT} {M:List aD} q (h:q<L.length),(∀ b o,J b=some o->K b=some o)->(∀ z∈M0,z∈M)->Spec Tryz.prog 114 [g.val,.slice mP g.n fc,L[q].val] K M λv I' M'=>I'=K/\M'=M/\v=.tuple #[(dU (a' g.ds) F L[q].aa L[q].root).1.val,.bool true]:=fun {K M} q a0 cb aV=>by
   obtain⟨U,ab,ak,aL,bm⟩:=wF q a0;have c4:=QB (k1.mono cb) (U.mono cb) ak (lc:=fc) (((bs.mono bg).mono cb).sub aV);have QO:vZ g F L[q]=some (dU (a' g.ds) F L[q].aa L[q].root).1:=by rw[vZ,lU,eD rb,ab,aL,J2];rfl
   rw[QO]at c4;exact c4
  have lS:∀ {K:aT} {M:List aD} q (h:q<L.length),(∀ z∈os.aw 46,z∈M)->∃ ad,(os.a.map λg=>(⟨g,0,none⟩:Addr))=some ad/\bq K M (ad.add (q*2)) 2 L[q].cells:=fun {K M} q a0 aV=>
   aY.ok.row (I:=K) (M:=M) (e:=46) (f:=bx.cells) (size:=2) (λ_=>rfl) (by decide) bf aV a0
  have wG:(p4 (a' g.ds) F d (L.map λbh=>dU (a' g.ds) F bh.aa bh.root)).2=jR (a' g.ds) d (L.map λbh=>dU (a' g.ds) F bh.aa bh.root):=rfl;rw[wG]at hlen |-;clear wG;have fin:∀ {K:aT} {M:List aD} {v:Value} {l:List Nat} {q:aY},(∀ b o,J b=some o->K b=some o)->q.ok 1 (hv l)->v=q.val->M=q.aw 3++M0->l=jR (a' g.ds) d (L.map λbh=>dU (a' g.ds) F bh.aa bh.root)->(∀ b o,I b=some o->K b=some o)/\∃ os:aY,os.ok 1 (hv (jR (a' g.ds) d (L.map λbh=>dU (a' g.ds) F bh.aa bh.root)))/\v=os.val/\M=os.aw 3++M0:=fun {K M v l q} U ab ak aL bm=>by subst bm;exact⟨λb o h=>U _ _ (bg _ _ h),q,ab,ak,aL⟩
  refine aB.mk (λe=>?_) (λbC=>?_)
  ·have e:d.k=3:=cq e;obtain⟨q,vX,vY,Hs⟩:=QC (nm:=d.t) (ds:=g.ds) (by simpa[e]using jh);refine aU.whole _ (alF k1 d.t vX) ?_;rintro v K N -⟨rfl,cb,cH⟩;subst K;subst N;refine bL.mk λbT h3 iF=>?_;refine⟨_,⟨bT,.cells #[.int .i64 q] 3 (0,0)⟩::M0,.sub (.cons_cons _ (e' _ _)) .refl,fin (λ_ _ h=>h) (q:=⟨some bT,1,1,[.int .i64 q]⟩) (l:=[q]) ⟨rfl,λh=>by simp at h,λg h=>⟨rfl,b2 1,show 1<=maxLen by unfold maxLen;omega,rfl⟩⟩ rfl rfl ?_⟩;rw[jR,eD e,bt,Hs]
   try rfl
  have bC:¬ d.k=3:=cR bC;refine a9.mk (λb5=>aB.mk (λcj=>?y) (λcj=>?Fs)) (λb5=>?IX)
  case y=>
   have kx:d.k=6:=cq b5;have rs:d.hi=0:=cq cj;refine⟨_,M0,.sub (e' _ _) .refl,fin (λ_ _ h=>h) (q:=fs) (l:=[]) (fT 1) rfl rfl ?_⟩;rw[jR,dk bC,bz,dk (show ¬ d.k=4 by omega),bz,eD kx,eD rs];rfl
  case' Fs=>
   have aak:jR (a' g.ds) d (L.map λbh=>dU (a' g.ds) F bh.aa bh.root)=se (decide (d.k=4)) (L.map λbh=>dU (a' g.ds) F bh.aa bh.root):=La bC λh=>(show ¬ d.hi=0 from cR cj) h.2
  case' IX=>
   have aak:jR (a' g.ds) d (L.map λbh=>dU (a' g.ds) F bh.aa bh.root)=se (decide (d.k=4)) (L.map λbh=>dU (a' g.ds) F bh.aa bh.root):=La bC λh=>(show ¬ d.k=6 from cR b5) h.1
  all_goals
   rw[aak]at hlen fin |-;refine bu.inv (ι:=Nat×aY×List Nat×aT) (λx=>{ a4:=[(1,.val (.slice mP g.n fc)),(3,.ref 3 0),(7,.ref 7 0),(8,.val os.val),(9,.val x.2.1.val),(10,.val (.int .i64 x.1))],cl:=[(3,[.slice g.a g.n g.c]),(7,(d.m6 []).cells)],br:=x.2.2.2,bO:=x.2.1.aw 3++(os.aw 46++M0) }) (λx=>(x.1<=L.length/\x.2.1.ok 1 (hv x.2.2.1))/\(∀ b o,J b=some o->x.2.2.2 b=some o)/\se (decide (d.k=4)) (L.map λbh=>dU (a' g.ds) F bh.aa bh.root)=x.2.2.1++se (decide (d.k=4)) ((L.drop x.1).map λbh=>dU (a' g.ds) F bh.aa bh.root)) (λx=>L.length-x.1) ?_ ?_;·exact⟨(0,fs,[],J),⟨⟨bQ _,fT 1⟩,λ_ _ h=>h,rfl⟩,.refl,jD,.cons rfl (.cons rfl (.nil))⟩
   rintro⟨i,l3,done,K⟩⟨⟨hi,kr⟩,cb,dK⟩;simp only at hi kr cb dK;have aN:=aY.pos kr;refine aB.mk (λh=>?_) (λh=>?_)
   rotate_left
   ·have bS:L.length<=i:=by have:¬ (i:Int)<(os.n:Int):=cR h;omega
    rw[iK bS,jj,QJ,db]at dK;exact⟨_,l3.aw 3++M0,.sub (Dc (.refl _) (e' _ _)) .refl,fin cb kr rfl rfl dK.symm⟩
   have ax:i<L.length:=by have:(i:Int)<(os.n:Int):=cq h;omega
   rw[dv ax,cZ,QK,<-fx]at dK;have iT:=congrArg List.length dK;rw[cz,cz]at iT;obtain⟨Tm,-⟩:=wF i ax;obtain⟨ad,ba,a3⟩:=lS (K:=K) (M:=l3.aw 3++(os.aw 46++M0)) i ax (λz a2=>ly _ (gM _ a2));have sb:=kk (K:=K) (M:=l3.aw 3++(os.aw 46++M0)) i ax cb (λz a2=>ly _ (ly _ a2));refine cr.draw aI rfl rfl rfl ?_;refine aW.mk ad i ba rfl (by omega) ?_;refine aE.mk _ a3 ?_;refine e7.whole _ sb (λv I' M' h x ae=>by
    obtain⟨-,BU,-,-,rfl⟩:=h;exact ly _ ae) ?_
   rintro v hh N -⟨jr,op,sD,rfl,cH⟩;subst N;have pz:=aY.pos sD;have arE:done.length+(dU (a' g.ds) F L[i].aa L[i].root).2.length<=1099511627776:=by omega
   refine bk.v8 aI rfl (by simp) (e:=3) rfl rfl rfl l3 kr rfl (sa:=op.a.map λg=>(⟨g,0,none⟩:Addr)) (m:=op.n) (c':=op.c) (news:=hv (dU (a' g.ds) F L[i].aa L[i].root).2) rfl (by rw[aai];show _=op.n*1;omega) (λav=>?_) (aah _) (op.aw 3) (os.aw 46++M0) rfl (by omega) (by show(l3.n+op.n)*8<=_;omega) ?_;·obtain⟨vV,mu,pH⟩:=alX (I:=hh) (M:=op.aw 3++(l3.aw 3++(os.aw 46++M0))) sD av (λz a2=>gM _ a2);exact⟨vV,mu,pH⟩
   intro gL h8 ed eX;rw[<-Hx]at eX;have wI:∀ b o,J b=some o->hh b=some o:=λb o h=>jr _ _ (cb _ _ h);have pQ:=λ(M:List aD) (aV:∀ z∈M0,z∈M)=>QN (K:=hh) (M:=M) i ax wI aV;obtain⟨QP,QQ,QR⟩:=lS (K:=hh) (M:=op.aw 3++(gL.aw 3++(os.aw 46++M0))) i ax (λz a2=>by simp[a2]);generalize dU (a' g.ds) F L[i].aa L[i].root=x at *;refine cr.IC aI rfl rfl rfl (ι:=Nat) (λwJ=>{ a4:=[(1,.val (.slice mP g.n fc)),(3,.ref 3 0),(7,.ref 7 0),(8,.val os.val),(9,.val gL.val),(10,.val (.int .i64 i)),(11,.val (ptr wJ))],cl:=[(3,[.slice g.a g.n g.c]),(7,(d.m6 []).cells)],br:=hh,bO:=⟨wJ,.cells x.1.cells.toArray 159 (0,0)⟩::(op.aw 3++(gL.aw 3++(os.aw 46++M0))) }) (λ_=>True) ?_ ?_
   ·refine aW.mk QP i QQ rfl (by omega) ?_;refine aE.mk _ QR ?_;refine⟨?_,?_⟩
    ·refine aU.whole _ (pQ _ (λz a2=>by simp[a2])) ?_;rintro v k3 N -⟨oy,cH,rfl⟩;subst k3;subst N;refine bL.mk λwJ aal aam=>?_;refine cu.mk [] _ _ _ rfl rfl (b9 rfl) rfl ?_;exact⟨wJ,trivial,.refl,np,.cons rfl (.cons rfl (.nil))⟩
    ·refine bL.mk λwJ aal aam=>?_;refine e7.whole _ (pQ _ (λz a2=>by simp[a2])) (λv I' M' h x ae=>by rw[h.2.1];exact ae) ?_;rintro v k3 N -⟨oy,cH,rfl⟩;subst k3;subst N;refine cu.mk [] _ _ _ rfl rfl (b9 rfl) rfl ?_;exact⟨wJ,trivial,.refl,np,.cons rfl (.cons rfl (.nil))⟩
   rintro wJ -;refine a9.mk (λaL=>?_) (λaL=>?_)
   ·refine aE.mk [.bool x.1.z] (dj (cs:=x.1.cells) (k:=0) (n:=1) (.head _) (b9 rfl)) ?_;refine aB.mk (λa2=>?_) (λa2=>?_)
    ·have xu:decide (d.k=4)=true:=aL;have fW:x.1.z=false:=by have:(!x.1.z)=true:=a2;simpa using this
     rw[xu,fW]at dK;simp only[EG,Bool.and_true,bt,db]at dK;rw[<-xu]at dK;exact⟨_,gL.aw 3++M0,.sub (.cons _ (List.Sublist.trans (Dc (.refl _) (e' _ _)) (e' _ _))) .refl,fin wI eX rfl rfl dK.symm⟩
    ·refine aQ.mk _ (bl (i:=i) (by omega)) ?_;refine⟨(i+1,gL,done++x.2,hh),⟨⟨⟨ax,eX⟩,wI,?_⟩,by simp only;omega⟩,.sub (.cons _ (e' _ _)) .refl,jD,.cons rfl (.cons rfl (.nil))⟩;have fW:x.1.z=true:=by have:(!x.1.z)=false:=a2;simpa using this
     simp only;rw[dK,fW];simp
   ·refine aQ.mk _ (bl (i:=i) (by omega)) ?_;refine⟨(i+1,gL,done++x.2,hh),⟨⟨⟨ax,eX⟩,wI,?_⟩,by simp only;omega⟩,.sub (.cons _ (e' _ _)) .refl,jD,.cons rfl (.cons rfl (.nil))⟩;have xu:decide (d.k=4)=false:=aL;simp only;rw[dK,xu];rfl
end Go.V
