/-
  Part 9 of what the proofs of this seat share: the executor, data in memory, walks.
-/
import Derived.Test.YtellgkgedepkjaaGreatDoorK8
import Derived.Test.YtellgkgedepkjaaGreatDoorK7
set_option linter.all false
namespace Go.V
open Go Go.Proofs
def ZbC:List DfC:=[⟨[97],⟨[⟨2,0,0,0,0,[120],0,0,[]⟩],0⟩⟩,⟨[98],⟨[⟨3,0,0,0,0,[99],0,0,[]⟩],0⟩⟩,⟨[99],⟨[⟨3,0,0,0,0,[98],0,0,[]⟩,⟨2,0,0,0,0,[121],0,0,[]⟩,⟨4,0,0,0,0,[],0,0,[0,1]⟩,⟨0,0,0,0,0,[],0,0,[]⟩,⟨5,0,0,0,0,[],0,0,[2,3]⟩],4⟩⟩]
theorem Znw:ZbJ 100000 52 [97,32,60,45,32,34,120,34,32,98,32,60,45,32,99,32,99,32,60,45,32,98,32,34,121,34,32,47,32,34,34]=some (ZbC,0,.i64,0):=by kernel_rfl
def Z55:List DfC:=[⟨[97],⟨[⟨2,0,0,0,0,[120],0,0,[]⟩],0⟩⟩,⟨[98],⟨[⟨2,0,0,0,0,[121],0,0,[]⟩,⟨3,0,0,0,0,[99],0,0,[]⟩,⟨4,0,0,0,0,[],0,0,[0,1]⟩],2⟩⟩,⟨[99],⟨[⟨2,0,0,0,0,[122],0,0,[]⟩,⟨3,0,0,0,0,[98],0,0,[]⟩,⟨4,0,0,0,0,[],0,0,[0,1]⟩,⟨0,0,0,0,0,[],0,0,[]⟩,⟨5,0,0,0,0,[],0,0,[2,3]⟩],4⟩⟩]
theorem ZkJ:ZbJ 100000 52 [97,32,60,45,32,34,120,34,32,98,32,60,45,32,34,121,34,32,99,32,99,32,60,45,32,34,122,34,32,98,32,47,32,34,34]=some (Z55,0,.i64,0):=by kernel_rfl
def ZkK:List DfC:=[⟨[97],⟨[⟨2,0,0,0,0,[120],0,0,[]⟩],0⟩⟩]
theorem Znx:ZbJ 100000 52 [97,32,60,45,32,34,120,34]=some (ZkK,0,.i64,0):=by kernel_rfl
def ZbD:List DfC:=[⟨[97],⟨[⟨3,0,0,0,0,[98],0,0,[]⟩],0⟩⟩,⟨[98],⟨[⟨0,0,0,0,0,[],0,0,[]⟩],0⟩⟩]
theorem Zny:ZbJ 100000 52 [97,32,60,45,32,98,32,98,32,60,45,32,34,34]=some (ZbD,0,.i64,0):=by kernel_rfl
def Z56:List DfC:=[⟨[97],⟨[⟨3,0,0,0,0,[98],0,0,[]⟩],0⟩⟩,⟨[98],⟨[⟨2,0,0,0,0,[120],0,0,[]⟩],0⟩⟩,⟨[99],⟨[⟨3,0,0,0,0,[97],0,0,[]⟩],0⟩⟩]
theorem Zec:ZbJ 100000 52 [97,32,60,45,32,98,32,98,32,60,45,32,34,120,34,32,99,32,60,45,32,97]=some (Z56,0,.i64,0):=by kernel_rfl
def ZkL:List DfC:=[⟨[97],⟨[⟨3,0,0,0,0,[98],0,0,[]⟩],0⟩⟩,⟨[98],⟨[⟨2,0,0,0,0,[120],0,0,[]⟩],0⟩⟩]
theorem Znz:ZbJ 100000 52 [97,32,60,45,32,98,32,98,32,60,45,32,34,120,34]=some (ZkL,0,.i64,0):=by kernel_rfl
theorem ZnA:(⟨([97,32,60,45,32,98,32,98,32,60,45,32,34,120,34,32,99,32,60,45,32,97]:List UInt8).toArray⟩:ByteArray)≠⟨#[]⟩:=by decide
theorem ZnB:(⟨([97,32,60,45,32,98,32,98,32,60,45,32,34,120,34]:List UInt8).toArray⟩:ByteArray)≠⟨#[]⟩:=by decide
theorem ZnC:Zbj ZbC (flC ZbC 5) 5=true:=by kernel_rfl
theorem ZkM:Zbj Z55 (flC Z55 5) 5=true:=by kernel_rfl
theorem ZnD:Zbj ZbD (flC ZbD 5) 5=true:=by kernel_rfl
theorem ZnE:(Z7P (grC ZbC).ds (flC ZbC 5)).2=42:=by kernel_rfl
theorem ZnF:Zfu Z55 (flC Z55 5)=some 1:=by kernel_rfl
theorem ZnG:Zfu ZbD (flC ZbD 5)=none:=by kernel_rfl
def pd25:List Df:=(doC Z55 (flC Z55 5) ⟨7,1,1,none,0,0,[],0⟩).2
theorem ZnH:doC Z55 (flC Z55 5) ⟨7,1,1,none,0,0,[],0⟩=(0,pd25):=by kernel_rfl
theorem ZnI:Z3G (grL pd25) (grC ZkK)=true:=by kernel_rfl
theorem ZnJ:pd25.length=1:=by kernel_rfl
theorem ZnK:(pd25.all fun d=>decide (d.t.n≤1000000))=true:=by kernel_rfl
theorem Zme:Z0B debL (grC Z56) [0,1]=true:=by kernel_rfl
def pl25_0:List Df:=Z1a ((Z0a [0,1]).take (grC Z56).n) (grC Z56).ds
theorem Zmf:Z3G (grL pl25_0) (grC ZkL)=true:=by kernel_rfl
theorem Zmg:(pl25_0.all fun d=>decide (d.t.n≤1000000))=true:=by kernel_rfl
theorem Zmh:Z0B debL (grC Z56) [0]=false:=by kernel_rfl
theorem Zmi:Z0B debL (grC Z56) [2,0,1]=true:=by kernel_rfl
def pl25_2:List Df:=Z1a ((Z0a [2,0,1]).take (grC Z56).n) (grC Z56).ds
theorem Zmj:Z3G (grL pl25_2) (grC Z56)=true:=by kernel_rfl
theorem Zmk:(pl25_2.all fun d=>decide (d.t.n≤1000000))=true:=by kernel_rfl
theorem Z9V {I:GH} {b:Nat} {l:List Int} (hb:I b=none) (hl:∀ k∈l,Z22 k) (hn:l.length≤1000000):RwW (ins I b (.cells (l.map (.int .i64 ·)).toArray 3 (0,0))) ⟨some ⟨b,0,none⟩,l.length,l.length,l⟩:=
 ⟨⟨by simp,⟨Nat.le_refl _,(by omega:l.length * 0≤_)⟩,.inr ⟨⟨b,0,none⟩,rfl,rfl,_,_,_,Z2b ..,by simp only[List.drop_zero];exact List.take_of_length_le (by simp)⟩⟩,hl⟩
set_option maxRecDepth 100000 in
set_option maxHeartbeats 8000000 in
theorem Z3I {I:GH} (hT:Tabs I debL):Spec Tryz.prog 28 [] I [] fun v J M''=>v=.bool true∧(∀ b o,I b=some o->J b=some o)∧M''=[]:=by
 refine Z01 [] Z00 Tryz.func28 rfl rfl rfl ?_;intro B h0;refine CallOb.whole _ (Z85 hT Znw) ?_;rintro v I1 N - ⟨hI1,hN,g,rfl,hg,hR⟩;subst N
 have hT1:=hT.mono hI1;refine CallOb.whole _ (Zd9 hT1 (Z5w ZnC) hg hR ZnE) ?_;rintro v I2 N - ⟨rfl,hI2,hN⟩;subst N
 have hT2:=hT1.mono hI2;refine GuardOb.mk (fun _=>?_) (fun h=>absurd h (by simp))
 refine AllocOb.mk fun b1 hb1 hM1=>?_
 refine CallOb.whole _ (Z66 hT2 ZkJ ZkM (o:=some 1) ZnF (fun r h=>by cases h;decide) (.inr ⟨1,⟨b1,0,none⟩,rfl,rfl,rfl,fun J M hM=>⟨rfl,_,_,_,.inr ⟨_,hM _ (.head _),rfl,rfl⟩,rfl,rfl⟩⟩)) ?_;rintro v I3 N - ⟨rfl,hI3,hN⟩;subst N
 have hT3:=hT2.mono hI3;refine GuardOb.mk (fun _=>?_) (fun h=>by cases h);refine CallOb.mk [] [_] _ (.refl _) (ZbA hT3 ZkJ Znx ZkM (way:=1) (rule:=1) (at_:=0) (pa:=none) (pn:=0) (pc:=0) ZnH ZnI (by rw[ZnJ];decide) ZnK) ?_
 rintro v I4 N - ⟨rfl,hI4,rfl⟩;have hT4:=hT3.mono hI4
 refine GuardOb.mk (fun _=>?_) (fun h=>by cases h);refine CallOb.whole _ (Z66 hT4 Zny ZnD (o:=none) ZnG (fun r h=>by cases h) (.inl ⟨rfl,rfl⟩)) ?_
 rintro v I5 N - ⟨rfl,hI5,hN⟩;subst N
 have hT5:=hT4.mono hI5;refine GuardOb.mk (fun _=>?_) (fun h=>by cases h)
 refine AllocOb.mk fun c0 hc0' hM0'=>?_
 have hsp0:=Z67 (M0:=[⟨b1,.cells #[.int .i64 1100] 3 (0,0)⟩]) (hT5.mono (Z2p hc0')) Zec Znz ZnB (Z9V (l:=[0,1]) hc0' (by simp[Z22]) (by decide)) (Nat.le_of_ble_eq_true rfl) (ds:=pl25_0) Zme rfl Zmf Zmg;refine CallOb.mkW (ins I5 c0 (.cells (List.map (fun k:Int=>Value.int IntKind.i64 k) [0,1]).toArray 3 (0,0))) [⟨b1,.cells #[.int .i64 1100] 3 (0,0)⟩] [] _ (.prom (b:=c0) (o:=.cells (List.map (fun k:Int=>Value.int IntKind.i64 k) [0,1]).toArray 3 (0,0)) (post:=[⟨b1,.cells #[.int .i64 1100] 3 (0,0)⟩]) rfl (by simp) .refl) hsp0 ?_;rintro v I6 N - - ⟨rfl,hI6,rfl⟩
 have hI6:∀ b o,I5 b=some o->I6 b=some o:=fun b o h=>hI6 _ _ (Z2p hc0' _ _ h)
 have hT6:=hT5.mono hI6;refine GuardOb.mk (fun _=>?_) (fun h=>by cases h)
 refine AllocOb.mk fun c1 hc1' hM1'=>?_
 have hsp1:=ZbB (M0:=[⟨b1,.cells #[.int .i64 1100] 3 (0,0)⟩]) (hT6.mono (Z2p hc1')) Zec (Z9V (l:=[0]) hc1' (by simp[Z22]) (by decide)) (Nat.le_of_ble_eq_true rfl) Zmh;refine CallOb.mkW (ins I6 c1 (.cells (List.map (fun k:Int=>Value.int IntKind.i64 k) [0]).toArray 3 (0,0))) [⟨b1,.cells #[.int .i64 1100] 3 (0,0)⟩] [] _ (.prom (b:=c1) (o:=.cells (List.map (fun k:Int=>Value.int IntKind.i64 k) [0]).toArray 3 (0,0)) (post:=[⟨b1,.cells #[.int .i64 1100] 3 (0,0)⟩]) rfl (by simp) .refl) hsp1 ?_;rintro v I7 N - - ⟨rfl,hI7,rfl⟩
 have hI7:∀ b o,I6 b=some o->I7 b=some o:=fun b o h=>hI7 _ _ (Z2p hc1' _ _ h)
 have hT7:=hT6.mono hI7;refine GuardOb.mk (fun _=>?_) (fun h=>by cases h)
 refine AllocOb.mk fun c2 hc2' hM2'=>?_
 have hsp2:=Z67 (M0:=[⟨b1,.cells #[.int .i64 1100] 3 (0,0)⟩]) (hT7.mono (Z2p hc2')) Zec Zec ZnA (Z9V (l:=[2,0,1]) hc2' (by simp[Z22]) (by decide)) (Nat.le_of_ble_eq_true rfl) (ds:=pl25_2) Zmi rfl Zmj Zmk;refine CallOb.mkW (ins I7 c2 (.cells (List.map (fun k:Int=>Value.int IntKind.i64 k) [2,0,1]).toArray 3 (0,0))) [⟨b1,.cells #[.int .i64 1100] 3 (0,0)⟩] [] _ (.prom (b:=c2) (o:=.cells (List.map (fun k:Int=>Value.int IntKind.i64 k) [2,0,1]).toArray 3 (0,0)) (post:=[⟨b1,.cells #[.int .i64 1100] 3 (0,0)⟩]) rfl (by simp) .refl) hsp2 ?_;rintro v I8 N - - ⟨rfl,hI8,rfl⟩
 have hI8:∀ b o,I7 b=some o->I8 b=some o:=fun b o h=>hI8 _ _ (Z2p hc2' _ _ h)
 have hT8:=hT7.mono hI8;exact⟨_,_,.sub (List.nil_sublist _) .refl,rfl,fun b o h=>hI8 _ _ (hI7 _ _ (hI6 _ _ (hI5 _ _ (hI4 _ _ (hI3 _ _ (hI2 _ _ (hI1 _ _ h))))))),rfl⟩
section
variable {deb:List Int} {g:Gr} (hn:g.ds.length=g.n) (hm:Z13 deb g=0)
include hn hm
end
theorem Rd.up {I J:GH} {M:List Blk} {a:Addr} {n:Nat} {vs:List Value} (h:Rd I M a n vs) (hI:∀ b o,I b=some o->J b=some o):Rd J M a n vs:=by
 obtain⟨h1,cs,T,fr,h2,h3⟩:=h;exact⟨h1,cs,T,fr,h2.imp (hI _ _) id,h3⟩
section
variable {deb:List Int} {g:Gr} (hn:g.ds.length=g.n)
include hn
end
theorem ZbE (deb:List Int) (g:Gr) (l:List Int):(Z2y deb g l).length≤g.ds.length:=by
 unfold Z2y
 split
 ·exact(Z21 _ _).length_le
 ·exact Nat.zero_le _
theorem Zed (deb:List Int) (g:Gr) (l:List Int):(Z2y deb g l).map Df.ct=Z2y deb g.ct l:=by
 unfold Z2y;rw[Z3H]
 split
 ·show _=Z1a ((Z0a l).take g.n) (g.ds.map Df.ct)
  rw[Z2u]
 ·rfl
theorem Zio {deb:List Int} {g:Gr} {l:List Int} {d:Df} (h:d∈Z2y deb g l):d∈g.ds:=by
 unfold Z2y at h
 split at h
 ·exact(Z21 _ _).subset h
 ·cases h
theorem ZjU {I:GH} {M0:List Blk} {g:Gr} (hg:g.ok I) (hf:GFit g) {x:Rw} (hx:RwW I x) (hx2:x.n≤1000000):Spec Tryz.prog 45 [g.val,x.val] I M0 fun v I' M'=>(∀ b o,I b=some o->I' b=some o)∧M'=M0∧∃ (a:Gr) (kb:Bool),v=.tuple #[a.val,.bool kb]∧kb=Z0B debL g x.l∧a.ok I'∧a.ds=Z2y debL g x.l:=by
 refine Spec.weakK (Spec.frame (Spec.frz (Zii hg hf hx hx2))) ?_;rintro v J M ⟨M',rfl,-,hJ,rfl,-,I',M1,⟨h1,os,rfl,hos,rfl⟩,hF⟩;subst I'
 have hgn:=hg.n;have hcap:=hg.rs.cap;have hl:=hos.len;rw[Z0i _ 3 Df.cells_len] at hl;have hkl:=ZbE debL g x.l;exact⟨hJ,rfl,⟨Z2y debL g x.l,os.a.map fun g=>⟨g,0,none⟩,os.n,os.c⟩,_,rfl,rfl,⟨OS.frz hF hos (fun _ h=>h) (by omega),fun d hd=>(hg.ds d (Zio hd)).mono hJ⟩,rfl⟩
theorem Zip {I:GH} (hT:Tabs I debL) {g:Gr} (hg:g.ok I) {x:Rw} (hx:RwW I x) (hx2:x.n≤1000000) {l:List Int} (hl:x.l=l) {kb:Bool} (hk:Z0B debL g l=kb) {ds:List Df} (hd:(Z2y debL g l).map Df.ct=ds):Spec Tryz.prog 34 [g.val,x.val] I [] fun v I' M'=>(∀ b o,I b=some o->I' b=some o)∧∃ h:Gr,v=.tuple #[h.val,.bool kb]∧GrM M' h∧h.ds.map Df.ct=ds:=by
 subst hl hk hd;refine Spec.weakK (Ze9 hT hg hx hx2) ?_;rintro v J M ⟨h1,h,rfl,h2,h3⟩;exact⟨h1,h,rfl,h2,congrArg Gr.ds h3⟩
set_option maxRecDepth 100000 in
set_option maxHeartbeats 16000000 in
theorem ZbF {I:GH} (hT:Tabs I debL) {g:Gr} (hgw:GrW I g) {x:Rw} (hx:RwW I x):Z98 Tryz.prog 8 [g.val,x.val] I [] fun v I' M'=>v=.bool true:=by
 refine Z2Q [] Z00 Tryz.func8 rfl rfl rfl ?_;intro B h0;refine CallOb.mk [] [] _ (.refl _) (Zbv hgw) ?_;rintro v J N - ⟨⟨r,rfl,hr⟩,hJ',hN'⟩;subst J
 subst N
 cases r with
 | true=>
  refine GuardOb.mk (fun h=>absurd h (by simp)) (fun _=>?_);refine CallOb.mk [] [] _ (.refl _) (Z3I hT) ?_
  rintro v J1 N - ⟨rfl,hJ1,rfl⟩;exact⟨_,_,.refl,rfl⟩
 | false=>
 refine GuardOb.mk (fun _=>?_) (fun h=>absurd h (by simp))
 by_cases hxl:(100:Int) < (x.n:Int)
 ·refine CondOb.mk (fun _=>?_) (fun h=>absurd h (by simp[hxl]))
  refine CallOb.mk [] [] _ (.refl _) (Z3I hT) ?_;rintro v J1 N - ⟨rfl,hJ1,rfl⟩;exact⟨_,_,.refl,rfl⟩
 refine CondOb.mk (fun h=>absurd h (by simp[hxl])) (fun _=>?_);have hgs:=hr rfl
 have hg:=hgw.ok11 hgs;have hfit:=hgs.fit hg;have hgn:=hg.n;have hg400:=hgs.n
 have hxn:x.l.length=x.n:=by simpa using hx.rs.len
 clear hgw hr;refine CallOb.whole _ (Zfr hg hgs) ?_;rintro v J1 N - ⟨hJ1,hN,h,rfl,hh,hct⟩;subst N
 have hT:=hT.mono hJ1;have hg:=hg.mono hJ1;have hx:=hx.mono hJ1;clear hgs
 refine AllocOb.mk fun b hb hbM=>?_
 refine OtherOb.appL Z00 rfl (by simp) (e:=3) rfl rfl rfl ⟨some b,0,0,[]⟩ (xs:=[]) ⟨rfl,(fun h=>by cases h),(fun g h=>⟨rfl,Nat.le_refl _,Nat.zero_le _,rfl⟩)⟩ rfl (sa:=x.a) (m:=x.n) (c':=x.c) (news:=x.l.map (.int .i64 ·)) rfl hx.rs.len (hx.rs.one' _) (Z53 _) [] [] rfl (by simp only;omega) (by show (0+x.n) * 8≤_;omega) ?_;intro os hon hI hos;rw[List.nil_append] at hos
 have hon:os.n=x.n:=by rw[hon];exact Nat.zero_add _
 refine CallOb.whole _ (ZjU hg hfit hx (by omega)) ?_;rintro v J2 N - ⟨hJ2,hN,a,kb,rfl,hkb,ha,hads⟩;subst N
 have hT:=hT.mono hJ2;have hg:=hg.mono hJ2;have hh:=hh.mono hJ2;have hx:=hx.mono hJ2
 have hkq:Z0B debL h x.l=kb:=by rw[←Z3H,hct,Z3H,hkb]
 have hkd:(Z2y debL h x.l).map Df.ct=a.ds.map Df.ct:=by rw[Zed,hct,←Zed,hads]
 have hkn:=ZbE debL g x.l;rw[←hads] at hkn;have hhg:h.ds.map Df.ct=g.ds.map Df.ct:=congrArg Gr.ds hct;refine LoopOb.invF (ι:=Nat×GH) (fun y=>{ fl:=[(1,.val x.val),(2,.ref 2 0),(5,.ref 5 0),(6,.val os.val),(7,.ref 7 0),(8,.val (.bool kb)),(9,.val (.int .i64 y.1))],cl:=[(2,[.slice g.a g.n g.c]),(5,[.slice h.a h.n h.c]),(7,[.slice a.a a.n a.c])],gi:=y.2,mi:=[] }) (fun y=>y.1≤2∧(∀ c o,Zmb J2 os 3 c=some o->y.2 c=some o)∧∀ c o,J2 c=some o->y.2 c=some o) (fun y=>2 - y.1) ?_ ?_
 ·intro hfa
  exact⟨(0,Zmb J2 os 3),⟨Nat.zero_le _,fun _ _ h=>h,Zd0 hfa.d⟩,ZcZ (fun g _=>by simp),aF7,.cons rfl (.cons rfl (.cons rfl (.nil)))⟩
 rintro⟨k,J⟩ ⟨hk,hJO,hJ⟩;simp only at hk hJO hJ
 have hTJ:=hT.mono hJ;have hgJ:=hg.mono hJ;have hhJ:=hh.mono hJ;have haJ:=ha.mono hJ;have hxJ:=hx.mono hJ;have hrs:RS J (os.a.map fun g=>⟨g,0,none⟩) os.n os.c 1 0 (x.l.map (.int .i64 ·)):=(Zd1 (b:=0) hos (by omega)).mono hJO;have hyJ:RwW J ⟨os.a.map fun g=>⟨g,0,none⟩,os.n,os.c,x.l⟩:=⟨hrs,hx.val⟩;refine CondOb.mk (fun h2=>?_) (fun h2=>?_)
 ·have hlt:k < 2:=by have:(k:Int) < 2:=of_decide_eq_true h2;omega
  refine CallOb.mk [] [] _ (.refl _) (Zip hTJ hhJ hyJ (by simp only;omega) rfl hkq hkd) ?_;rintro v J3 N - ⟨hJ3,c,rfl,hc,hcd⟩
  have hcl:c.ds.length=a.ds.length:=by simpa using congrArg List.length hcd
  refine GuardOb.mk (fun _=>?_) (fun h=>absurd h (by simp));refine CallOb.whole _ (Zfs (M:=N) (M0:=[]) hc (haJ.mono hJ3) hcd) ?_
  rintro v J4 N2 - ⟨rfl,hJ4,hN2⟩;subst N2
  refine CondOb.mk (fun h=>absurd h (by simp)) (fun _=>?_);refine CallOb.whole _ (Z9U (M:=N) hc (fun x hx=>List.mem_append_left _ hx)) ?_
  rintro v J5 N3 - ⟨hJ5,ob,rfl,hob,hN3⟩;subst J5
  subst N3;have hobl:=hob.len;rw[Z0i _ 2 (fun t:Tr=>rfl),List.length_map] at hobl;refine CallOb.whole _ (Zd4 hob (fun x hx=>List.mem_append_left _ hx) (fun t ht=>?_) (by omega)) ?_
  ·obtain⟨d,hd,rfl⟩:=List.mem_map.1 ht
   exact(hc.ds d hd).t.mono fun x hx=>List.mem_append_right _ (List.mem_append_left _ hx)
  rintro v J6 N4 - ⟨hJ6,-⟩;subst J6
  refine ArithOb.mk _ (Z03 (i:=k) (by omega)) ?_;intro _;exact⟨(k+1,J4),⟨⟨hlt,fun c o h=>hJ4 _ _ (hJ3 _ _ (hJO _ _ h)),fun c o h=>hJ4 _ _ (hJ3 _ _ (hJ _ _ h))⟩,by simp only;omega⟩,.sub (List.nil_sublist _) .refl,aF7,.cons rfl (.cons rfl (.cons rfl (.nil)))⟩
 refine LoopOb.inv (ι:=Nat) (fun i=>{ fl:=[(1,.val x.val),(2,.ref 2 0),(5,.ref 5 0),(6,.val os.val),(12,.val (.int .i64 i))],cl:=[(2,[.slice g.a g.n g.c]),(5,[.slice h.a h.n h.c])],gi:=J,mi:=[] }) (fun i=>i≤x.n) (fun i=>x.n - i) ?_ ?_
 ·exact⟨0,Nat.zero_le _,.refl,aF5,.cons rfl (.cons rfl (.nil))⟩
 intro i hi;refine CondOb.mk (fun h2=>?_) (fun h2=>?_)
 ·have hlt:i < x.n:=by have:(i:Int) < (os.n:Int):=of_decide_eq_true h2;omega
  have hil:i < x.l.length:=by omega
  obtain⟨ad,had,hrd⟩:=hrs.one (show i < os.n by omega) hil;obtain⟨bd,hbd,hrb⟩:=hxJ.rs.one hlt hil;generalize x.l[i]=z at hrd hrb;refine CodeOb.draw Z00 rfl rfl rfl ?_;refine IdxOb.mk ad i had rfl (show i < os.n by omega) ?_;refine LoadOb.mk _ (hrd _) ?_;refine IdxOb.mk bd i hbd rfl hlt ?_;refine LoadOb.mk _ (hrb _) ?_;refine CondOb.mk (fun h=>absurd h (by simp)) (fun _=>?_);refine ArithOb.mk _ (Z03 (i:=i) (by omega)) ?_
  exact⟨i+1,⟨hlt,by omega⟩,.refl,aF5,.cons rfl (.cons rfl (.nil))⟩
 refine CallOb.whole _ (Z80 hhJ hgJ hhg) ?_;rintro v J3 N - ⟨rfl,hJ3,hN⟩;subst J3
 subst N;refine GuardOb.mk (fun _=>?_) (fun h=>by cases h);refine CallOb.mk [] [] _ (.refl _) (Z3I hTJ) ?_
 rintro v J4 N - ⟨rfl,hJ4,rfl⟩;exact⟨_,_,.refl,rfl⟩
end Go.V
