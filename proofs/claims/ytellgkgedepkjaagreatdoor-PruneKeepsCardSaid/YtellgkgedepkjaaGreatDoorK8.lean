/-
  Part 8 of what the proofs of this seat share: the executor, data in memory, walks.
-/
import Derived.Test.YtellgkgedepkjaaGreatDoorK7
import Derived.Test.YtellgkgedepkjaaGreatDoorK3
import Derived.Test.YtellgkgedepkjaaGreatDoorK4
set_option linter.all false
namespace Go.V
open Go Go.Proofs
theorem OS.frz {I J:GH} {M:List Blk} (hF:Frz I M J) {os:OS} {xs:List Value} {e size b:Nat} (h:os.ok size xs) (hM:∀ x∈os.blk e,x∈M) (hb:os.n * b≤140737488355328):RS J (os.a.map fun g=>⟨g,0,none⟩) os.n os.c size b xs:=by
 obtain⟨a,n,c,cur⟩:=os
 cases a with
 | none=>
  obtain⟨h1,h2⟩:=h.nil rfl;exact⟨h.len,⟨by simp only at h1 h2 ⊢;omega,hb⟩,.inl h1⟩
 | some g=>
  obtain⟨h1,h2,h3,h4⟩:=h.cap g rfl;exact⟨h.len,⟨h2,hb⟩,.inr ⟨⟨g,0,none⟩,rfl,rfl,cur.toArray,e,(0,0),hF.kn _ _ (.inr ⟨⟨g,.cells cur.toArray e (0,0)⟩,hM _ (.head _),rfl,rfl⟩),by simpa using h4⟩⟩
theorem RS.one' {I:GH} {a:Option Addr} {n c size b:Nat} {vs:List Value} (h:RS I a n c size b vs) (M:List Blk) (h0:0 < n):∃ ad,a=some ad∧Rd I M ad (n * size) vs:=by
 rcases h.rd with h1 | ⟨ad,h1,h2,cs,T,fr,h3,h4⟩
 ·omega
 ·exact⟨ad,h1,h2,cs,T,fr,.inl h3,h4,h.len⟩
theorem Z53 (l:List Int):Z0z (l.map (.int .i64 ·))=true:=List.all_eq_true.2 fun v hv=>by
 obtain⟨k,_,rfl⟩:=List.mem_map.1 hv;rfl
theorem Z6B {α:Type} {f:α->List Value} (h:∀ x,Z0z (f x)=true) (l:List α):Z0z (l.flatMap f)=true:=List.all_eq_true.2 fun v hv=>by
 obtain⟨x,_,hx⟩:=List.mem_flatMap.1 hv;exact List.all_eq_true.1 (h x) v hx
theorem Nd.one (d:Nd):Z0z d.cells=true:=rfl
theorem Df.one (d:Df):Z0z d.cells=true:=rfl
set_option maxHeartbeats 1000000 in
theorem Zfj {I:GH} {M0:List Blk} {a:Option Addr} {n c:Nat} {vs:List Value} (h:RS I a n c 1 8 vs) (h1:Z0z vs=true):Spec Tryz.prog 112 [.slice a n c] I M0 fun v I' M'=>I'=I∧∃ os:OS,os.n=n∧os.ok 1 vs∧v=os.val∧M'=os.blk 3++M0:=by
 refine Z01 [] Z00 Tryz.func112 rfl rfl rfl ?_;intro B h0;have hcap:=h.cap;refine BinOb.nilS Z00 rfl rfl ?_;refine CondOb.mk (fun hc=>?_) (fun hc=>?_)
 ·have hn:n=0:=by
   rcases h.rd with h2 | ⟨ad,h2,_⟩
   ·exact h2
   ·rw[h2] at hc;cases hc
  subst hn;have h3:vs=[]:=List.eq_nil_of_length_eq_zero (by rw[h.len,Nat.zero_mul]);subst h3
  exact⟨_,_,.refl,rfl,OS0,rfl,Z1C 1,rfl,rfl⟩
 refine AllocOb.mk fun b hb hbM=>?_
 refine OtherOb.appL Z00 rfl (by simp) (e:=3) rfl rfl rfl ⟨some b,0,0,[]⟩ (xs:=[]) ⟨rfl,(fun h=>by cases h),(fun g h=>⟨rfl,Nat.le_refl _,Nat.zero_le _,rfl⟩)⟩ rfl (sa:=a) (m:=n) (c':=c) (news:=vs) rfl h.len (h.one' _) h1 [] M0 rfl (by simp only;omega) (by show (0+n) * 8≤_;omega) ?_;intro os hn hI hok;rw[List.nil_append] at hok;exact⟨_,_,.refl,rfl,os,hn.trans (Nat.zero_add n),hok,rfl,rfl⟩
set_option maxHeartbeats 1000000 in
theorem ZcR {I:GH} {M0:List Blk} {a:Option Addr} {n c:Nat} {vs:List Value} (h:RS I a n c 9 96 vs) (h1:Z0z vs=true):Spec Tryz.prog 111 [.slice a n c] I M0 fun v I' M'=>I'=I∧∃ os:OS,os.n=n∧os.ok 9 vs∧v=os.val∧M'=os.blk 91++M0:=by
 refine Z01 [] Z00 Tryz.func111 rfl rfl rfl ?_;intro B h0;have hcap:=h.cap;refine BinOb.nilS Z00 rfl rfl ?_;refine CondOb.mk (fun hc=>?_) (fun hc=>?_)
 ·have hn:n=0:=by
   rcases h.rd with h2 | ⟨ad,h2,_⟩
   ·exact h2
   ·rw[h2] at hc;cases hc
  subst hn;have h3:vs=[]:=List.eq_nil_of_length_eq_zero (by rw[h.len,Nat.zero_mul]);subst h3
  exact⟨_,_,.refl,rfl,OS0,rfl,Z1C 9,rfl,rfl⟩
 refine AllocOb.mk fun b hb hbM=>?_
 refine OtherOb.appL Z00 rfl (by simp) (e:=91) rfl rfl rfl ⟨some b,0,0,[]⟩ (xs:=[]) ⟨rfl,(fun h=>by cases h),(fun g h=>⟨rfl,Nat.le_refl _,Nat.zero_le _,rfl⟩)⟩ rfl (sa:=a) (m:=n) (c':=c) (news:=vs) rfl h.len (h.one' _) h1 [] M0 rfl (by simp only;omega) (by show (0+n) * 96≤_;omega) ?_;intro os hn hI hok;rw[List.nil_append] at hok;exact⟨_,_,.refl,rfl,os,hn.trans (Nat.zero_add n),hok,rfl,rfl⟩
set_option maxHeartbeats 1000000 in
theorem ZcS {I:GH} {M0:List Blk} {a:Option Addr} {n c:Nat} {vs:List Value} (h:RS I a n c 3 48 vs) (h1:Z0z vs=true):Spec Tryz.prog 110 [.slice a n c] I M0 fun v I' M'=>I'=I∧∃ os:OS,os.n=n∧os.ok 3 vs∧v=os.val∧M'=os.blk 46++M0:=by
 refine Z01 [] Z00 Tryz.func110 rfl rfl rfl ?_;intro B h0;have hcap:=h.cap;refine BinOb.nilS Z00 rfl rfl ?_;refine CondOb.mk (fun hc=>?_) (fun hc=>?_)
 ·have hn:n=0:=by
   rcases h.rd with h2 | ⟨ad,h2,_⟩
   ·exact h2
   ·rw[h2] at hc;cases hc
  subst hn;have h3:vs=[]:=List.eq_nil_of_length_eq_zero (by rw[h.len,Nat.zero_mul]);subst h3
  exact⟨_,_,.refl,rfl,OS0,rfl,Z1C 3,rfl,rfl⟩
 refine AllocOb.mk fun b hb hbM=>?_
 refine OtherOb.appL Z00 rfl (by simp) (e:=46) rfl rfl rfl ⟨some b,0,0,[]⟩ (xs:=[]) ⟨rfl,(fun h=>by cases h),(fun g h=>⟨rfl,Nat.le_refl _,Nat.zero_le _,rfl⟩)⟩ rfl (sa:=a) (m:=n) (c':=c) (news:=vs) rfl h.len (h.one' _) h1 [] M0 rfl (by simp only;omega) (by show (0+n) * 48≤_;omega) ?_;intro os hn hI hok;rw[List.nil_append] at hok;exact⟨_,_,.refl,rfl,os,hn.trans (Nat.zero_add n),hok,rfl,rfl⟩
theorem ZkI {L:List Nd} {i:Nat} (hi:i < L.length) {d:Nd} (h:d.ct=L[i].ct):(L.set i d).map Nd.ct=L.map Nd.ct:=by
 rw[List.map_set,h]
 refine List.ext_getElem? fun j=>?_
 rw[List.getElem?_set]
 split
 ·rename_i e
  subst e;rw[List.length_map,if_pos hi,List.getElem?_map,List.getElem?_eq_getElem hi];rfl
 ·rfl
theorem Znt {os os':OS} (h:os.val=os'.val):os.n=os'.n∧os.c=os'.c:=by
 unfold OS.val at h
 injection h with h1 h2 h3
 exact⟨h2,h3⟩
theorem Zm9 {L:List Df} {i:Nat} (hi:i < L.length) {d:Df} (h:d.ct=L[i].ct):(L.set i d).map Df.ct=L.map Df.ct:=by
 rw[List.map_set,h]
 refine List.ext_getElem? fun j=>?_
 rw[List.getElem?_set]
 split
 ·rename_i e
  subst e;rw[List.length_map,if_pos hi,List.getElem?_map,List.getElem?_eq_getElem hi];rfl
 ·rfl
theorem Zi8 {α:Type} (f:α->List Value) (size:Nat) (hf:∀ x,(f x).length=size) (l:List α) (j:Nat):(l.drop j).flatMap f=(l.flatMap f).drop (j * size):=by
 by_cases h:j≤l.length
 ·have e:l.flatMap f=(l.take j).flatMap f++(l.drop j).flatMap f:=by rw[←List.flatMap_append,List.take_append_drop]
  have h2:((l.take j).flatMap f).length=j * size:=by rw[Z0i f size hf,List.length_take_of_le h]
  rw[e,←h2,List.drop_left]
 ·have h1:l.length≤j:=by omega
  rw[List.drop_of_length_le h1,List.drop_of_length_le (by rw[Z0i f size hf];exact Nat.mul_le_mul_right _ h1)];rfl
theorem Zma {I:GH} {M:List Blk} {w:World} (h:Holds I M w):Holds (frz I M) [] w∧Frz I M (frz I M):=by
 refine⟨⟨fun b o hb=>?_,by simp,by simp,by simp⟩,⟨fun b o hb=>Zky h.nd h.d hb,fun b o hb=>?_⟩⟩
 ·rcases Z4r hb with hb | ⟨x,hx,rfl,rfl⟩
  ·exact h.i _ _ hb
  ·exact h.m _ hx
 ·rcases Z4r hb with hb | ⟨x,h1,h2,h3⟩
  ·exact .inl hb
  ·exact .inr ⟨x,h1,h2,h3⟩
def Zi9 (I:GH) (M:List Blk):GH:=fun b=>if M.any (fun x=>Nat.beq x.num b) then none else I b
theorem Zia {I:GH} {M:List Blk} {x:Blk} (h:x∈M):Zi9 I M x.num=none:=by
 unfold Zi9;rw[if_pos (List.any_eq_true.2 ⟨x,h,Nat.beq_refl _⟩)]
theorem Ze5 {I:GH} {M:List Blk} {b:Nat} (h:∀ x∈M,x.num≠b):Zi9 I M b=I b:=by
 unfold Zi9;rw[if_neg];intro h1
 obtain⟨x,hx,e⟩:=List.any_eq_true.1 h1;exact h x hx (Nat.eq_of_beq_eq_true e)
theorem Z9T {I:GH} {M:List Blk} {b:Nat} {o:Obj} (h:Zi9 I M b=some o):I b=some o∧∀ x∈M,x.num≠b:=by
 have hn:∀ x∈M,x.num≠b:=fun x hx e=>by
  subst e;rw[Zia hx] at h;cases h
 exact⟨by rw[Ze5 hn] at h;exact h,hn⟩
theorem ZjM {I I1:GH} {M M1:List Blk} {w w':World} (h:Holds I M w) (h1:Holds I1 M1 w') (h2:Kept (frz I M) [] w I1 M1 w') :
  Holds (Zi9 I1 M) (M1++M) w'∧Kept I M w (Zi9 I1 M) (M1++M) w'∧(∀ b o,I b=some o->Zi9 I1 M b=some o)∧∀ x∈M1,∀ y∈M,x.num≠y.num:=by
 have hmem:∀ x∈M,I1 x.num=some x.obj:=fun x hx=>h2.le _ _ (Zcs h.nd hx)
 have hne:∀ x∈M1,∀ y∈M,x.num≠y.num:=fun x hx y hy e=>by
  have a:=h1.d x hx;rw[e,hmem y hy] at a;cases a
 have hnum:∀ b o,I b=some o->∀ x∈M,x.num≠b:=fun b o hb x hx e=>by
  have:=h.d x hx;rw[e,hb] at this;cases this
 have hle:∀ b o,I b=some o->Zi9 I1 M b=some o:=fun b o hb=>by
  rw[Ze5 (hnum b o hb)];exact h2.le _ _ (ZdU h.d hb)
 have hlt:∀ x∈M,x.num < w.heap.size:=fun x hx=>(Array.getElem?_eq_some_iff.1 (h.m x hx)).1
 refine⟨⟨fun b o hb=>h1.i _ _ (Z9T hb).1,fun x hx=>?_,fun x hx=>?_,?_⟩,⟨hle,fun b o hb=>?_,fun x hx=>?_,fun b hb hM=>h2.old b hb (by simp),h2.out,h2.sz⟩,hle,hne⟩
 ·rcases List.mem_append.1 hx with hx | hx
  ·exact h1.m x hx
  ·exact h1.i _ _ (hmem x hx)
 ·rcases List.mem_append.1 hx with hx | hx
  ·cases he:Zi9 I1 M x.num with
   | none=>rfl
   | some o=>
    have:=h1.d x hx;rw[(Z9T he).1] at this;cases this
  ·exact Zia hx
 ·rw[List.map_append,List.nodup_append]
  refine⟨h1.nd,h.nd,fun a ha b hb e=>?_⟩;obtain⟨x,hx,rfl⟩:=List.mem_map.1 ha
  obtain⟨y,hy,rfl⟩:=List.mem_map.1 hb;exact hne x hx y hy e
 ·obtain⟨a1,a2⟩:=Z9T hb
  rcases h2.newI _ _ a1 with a3 | a3
  ·rcases Z4r a3 with a3 | ⟨x,hx,rfl,-⟩
   ·exact .inl a3
   ·exact absurd rfl (a2 x hx)
  ·exact .inr a3
 ·rcases List.mem_append.1 hx with hx | hx
  ·rcases h2.newM x hx with ⟨y,hy,_⟩ | a
   ·cases hy
   ·exact .inr a
  ·exact .inl ⟨x,hx,rfl⟩
theorem Spec.thaw {P:Program} {f:Nat} {args:List Value} {I:GH} {M:List Blk} {Q:GH->Value->GH->List Blk->Prop} (h:∀ J,Frz I M J->Spec P f args J [] (Q J)) (hE:Zdb P f) :
  Spec P f args I M fun r I' M''=>∃ J I1 M1,Frz I M J∧Q J r I1 M1∧M''=M1++M∧(∀ b o,I b=some o->I' b=some o)∧(∀ b o,I' b=some o->I1 b=some o):=by
 refine .inl ⟨hE,fun w hw=>?_⟩;obtain⟨g1,g2⟩:=Zma hw
 rcases h _ g2 with ⟨-,h2⟩ | h2
 ·refine(h2 w g1).mono ?_
  rintro e w' ⟨v,I1,M1,e1,e2,e3,e4⟩;obtain⟨q1,q2,q3,-⟩:=ZjM hw e3 e4
  exact⟨v,Zi9 I1 M,M1++M,e1,⟨_,I1,M1,g2,e2,rfl,q3,fun b o hb=>(Z9T hb).1⟩,q1,q2⟩
 ·obtain⟨v,w',I1,M1,e1,-⟩:=h2 w g1
  have:=hE args.toArray w;rw[e1] at this;cases this
structure RM (T:Nat) (M:List Blk) (a:Option Addr) (n c size b:Nat) (vs:List Value):Prop where
 len:vs.length=n * size
 cap:n≤c∧n * b≤140737488355328
 rd:n=0∨∃ g cs,a=some ⟨g,0,none⟩∧(⟨g,.cells cs T (0,0)⟩:Blk)∈M∧cs.toList.take (n * size)=vs∧n * size≤cs.size
theorem RM.mono {T:Nat} {M M':List Blk} {a:Option Addr} {n c size b:Nat} {vs:List Value} (h:RM T M a n c size b vs) (hM:∀ x∈M,x∈M'):RM T M' a n c size b vs:=
 ⟨h.len,h.cap,h.rd.imp id fun ⟨g,cs,h1,h2,h3,h4⟩=>⟨g,cs,h1,hM _ h2,h3,h4⟩⟩
theorem RM.frz {T:Nat} {I J:GH} {M:List Blk} (hF:Frz I M J) {a:Option Addr} {n c size b:Nat} {vs:List Value} (h:RM T M a n c size b vs):RS J a n c size b vs:=
 ⟨h.len,h.cap,h.rd.imp id fun ⟨g,cs,h1,h2,h3,h4⟩=>⟨⟨g,0,none⟩,h1,rfl,cs,T,(0,0),hF.kn _ _ (.inr ⟨_,h2,rfl,rfl⟩),by rw[List.drop_zero];exact h3⟩⟩
theorem RM.of_os {os:OS} {size e b:Nat} {xs:List Value} (h:os.ok size xs) (hb:os.n * b≤140737488355328):RM e (os.blk e) (os.a.map fun g=>⟨g,0,none⟩) os.n os.c size b xs:=by
 obtain⟨a,n,c,cur⟩:=os
 cases a with
 | none=>
  obtain⟨h1,h2⟩:=h.nil rfl;exact⟨h.len,⟨by simp only at h1 h2 ⊢;omega,hb⟩,.inl h1⟩
 | some g=>
  obtain⟨h1,h2,h3,h4⟩:=h.cap g rfl;refine⟨h.len,⟨h2,hb⟩,.inr ⟨g,cur.toArray,rfl,.head _,h4,?_⟩⟩;simp only at h1 h2 ⊢
  have:=Nat.mul_le_mul_right size h2
  show n * size≤cur.length
  omega
structure NdM (M:List Blk) (d:Nd):Prop where
 k:0≤d.k∧d.k < 256
 s0:Z0G d.s0
 s1:Z0G d.s1
 s2:Z0G d.s2
 s3:Z0G d.s3
 t:d.t.size≤9223372036854775807
 lo:Z22 d.lo
 hi:Z22 d.hi
 rs:RM 3 M d.ka d.kn d.kc 1 8 (d.kids.map (.int .i64 ·))
 kids:∀ x∈d.kids,Z22 x
structure TrM (M:List Blk) (t:Tr):Prop where
 rs:RM 91 M t.a t.n t.c 9 96 (t.ns.flatMap Nd.cells)
 ns:∀ d∈t.ns,NdM M d
 root:Z22 t.root
structure DfM (M:List Blk) (d:Df):Prop where
 name:d.name.size≤140737488355328
 t:TrM M d.t
structure GrM (M:List Blk) (g:Gr):Prop where
 rs:RM 46 M g.a g.n g.c 3 48 (g.ds.flatMap Df.cells)
 ds:∀ d∈g.ds,DfM M d
theorem NdM.mono {M M':List Blk} {d:Nd} (h:NdM M d) (hM:∀ x∈M,x∈M'):NdM M' d:={ h with rs:=h.rs.mono hM }
theorem TrM.mono {M M':List Blk} {t:Tr} (h:TrM M t) (hM:∀ x∈M,x∈M'):TrM M' t:=⟨h.rs.mono hM,fun d hd=>(h.ns d hd).mono hM,h.root⟩
theorem DfM.mono {M M':List Blk} {d:Df} (h:DfM M d) (hM:∀ x∈M,x∈M'):DfM M' d:=⟨h.name,h.t.mono hM⟩
theorem NdM.frz {I J:GH} {M:List Blk} (hF:Frz I M J) {d:Nd} (h:NdM M d):d.ok J:={ h with rs:=h.rs.frz hF }
theorem TrM.frz {I J:GH} {M:List Blk} (hF:Frz I M J) {t:Tr} (h:TrM M t):t.ok J:=⟨h.rs.frz hF,fun d hd=>(h.ns d hd).frz hF,h.root⟩
theorem GrM.frz {I J:GH} {M:List Blk} (hF:Frz I M J) {g:Gr} (h:GrM M g):g.ok J:=⟨h.rs.frz hF,fun d hd=>⟨(h.ds d hd).name,(h.ds d hd).t.frz hF⟩⟩
structure CqT (I:GH) (t:Tr) (os0:OS) (x:Nat×OS×List Nd×List Blk):Prop where
 i:x.1≤t.n
 ok:x.2.1.ok 9 (x.2.2.1.flatMap Nd.cells)
 ct:x.2.2.1.map Nd.ct=t.ns.map Nd.ct
 own:∀ j,∀ h:j < x.2.2.1.length,j < x.1->NdM x.2.2.2 x.2.2.1[j]
 old:∀ j,∀ h:j < x.2.2.1.length,x.1≤j->x.2.2.1[j].ok I
 a:x.2.1.a=os0.a
 v:x.2.1.val=os0.val
set_option maxRecDepth 100000 in
set_option maxHeartbeats 4000000 in
theorem ZcT {I:GH} {t:Tr} (ht:t.ok I):Spec Tryz.prog 66 [t.val] I [] fun v I' M'=>I'=I∧∃ t':Tr,v=t'.val∧TrM M' t'∧t'.ct=t.ct:=by
 refine Z01 [] Z00 Tryz.func66 rfl rfl rfl ?_;intro B h0;have htn:=ht.n;have hcap:=ht.rs.cap;refine CallOb.whole _ (ZcR ht.rs (Z6B Nd.one _)) ?_;rintro v J N - ⟨hJ,os0,hosn0,hos0,rfl,hN⟩;subst J
 subst N;refine LoopOb.inv (ι:=Nat×OS×List Nd×List Blk) (fun x=>{ fl:=[(1,.ref 1 0),(2,.ref 2 0),(10,.val os0.val),(11,.val (.int .i64 os0.n)),(12,.val (.int .i64 x.1))],cl:=[(1,[os0.val,.int .i64 t.root]),(2,[.slice none 0 0,.int .i64 0])],gi:=I,mi:=x.2.1.blk 91++x.2.2.2 }) (fun x=>CqT I t os0 x) (fun x=>t.n - x.1) ?_ ?_
 ·exact⟨(0,os0,t.ns,[]),⟨Nat.zero_le _,hos0,rfl,fun j _ h=>absurd h (Nat.not_lt_zero _),fun j h _=>ht.ns _ (List.getElem_mem h),rfl,rfl⟩,.refl,aF5,.cons rfl (.cons rfl (.nil))⟩
 rintro⟨i,os,L,Mk⟩ ⟨hi,hos,hct,hown,hold,hoa,hov⟩;simp only at hi hos hct hown hold hoa hov
 have hLn:L.length=t.ns.length:=by simpa using congrArg List.length hct
 obtain⟨hon,hoc⟩:=Znt hov;refine CondOb.mk (fun h=>?_) (fun h=>?_)
 rotate_left
 ·have hge:i=t.n:=by have:¬ (i:Int) < (os0.n:Int):=of_decide_eq_false h;omega
  refine⟨_,_,.refl,rfl,⟨L,os.a.map fun g=>⟨g,0,none⟩,os.n,os.c,t.root⟩,by rw[←hov];rfl,⟨(RM.of_os (b:=96) hos (by omega)).mono fun x hx=>List.mem_append_left _ hx,fun d hd=>?_,ht.root⟩,?_⟩
  ·obtain⟨j,hj,rfl⟩:=List.getElem_of_mem hd
   have hj':j < L.length:=hj
   exact(hown j hj' (by omega)).mono fun x hx=>List.mem_append_right _ hx
  ·unfold Tr.ct
   simp only;rw[hct,hon,hosn0]
 have hlt:i < t.n:=by have:(i:Int) < (os0.n:Int):=of_decide_eq_true h;omega
 have hiL:i < L.length:=by omega
 obtain⟨ad,had,hrd⟩:=OS.ok.row (I:=I) (M:=os.blk 91++Mk) (e:=91) Nd.cells_len (by decide) hos (fun z hz=>List.mem_append_left _ hz) hiL;have hdok:=hold i hiL (Nat.le_refl _);have hadI:=had
 rw[hoa] at hadI;refine IdxOb.mk ad i hadI rfl (by omega) ?_;refine LoadOb.mk _ hrd ?_;refine CodeOb.draw Z00 rfl rfl rfl ?_;refine PCallOb.whole _ (Zfj hdok.rs (Z53 _)) (fun v I' M' h x hx=>by obtain⟨-,o,-,-,-,e⟩:=h;rw[e];exact List.mem_append_right _ hx) ?_;rintro v K1 N - ⟨hK1,ok,hokn,hok,rfl,hN⟩;subst K1
 subst N;refine IdxOb.mk ad i hadI rfl (by omega) ?_;have hkcap:=hdok.rs.cap
 have hnew:NdM (ok.blk 3++Mk) { L[i] with ka:=ok.a.map fun g=>⟨g,0,none⟩,kn:=ok.n,kc:=ok.c }:=
  { k:=hdok.k,s0:=hdok.s0,s1:=hdok.s1,s2:=hdok.s2,s3:=hdok.s3,t:=hdok.t,lo:=hdok.lo,hi:=hdok.hi,kids:=hdok.kids,rs:=(RM.of_os (b:=8) hok (by omega)).mono fun x hx=>List.mem_append_left _ hx }
 have hnct:({ L[i] with ka:=ok.a.map fun g=>⟨g,0,none⟩,kn:=ok.n,kc:=ok.c }:Nd).ct=L[i].ct:=rfl;have hset:=ZkI hiL hnct;refine OS.putP (e:=91) Nd.cells 9 Nd.cells_len hos hiL 8 (vs:=[ok.val]) (Nat.le_of_ble_eq_true rfl) rfl { L[i] with ka:=ok.a.map fun g=>⟨g,0,none⟩,kn:=ok.n,kc:=ok.c } rfl (ok.blk 3) Mk rfl had ?_;intro os2 hv2 ha2 hn2 hok2;refine ArithOb.mk _ (Z03 (i:=i) (by omega)) ?_;refine⟨(i+1,os2,L.set i { L[i] with ka:=ok.a.map fun g=>⟨g,0,none⟩,kn:=ok.n,kc:=ok.c },ok.blk 3++Mk),⟨⟨hlt,hok2,hset.trans hct,fun j hj hji=>?_,fun j hj hji=>?_,ha2.trans hoa,hv2.trans hov⟩,by simp only;omega⟩,.perm (List.perm_append_comm_assoc _ _ _) .refl,aF5,.cons rfl (.cons rfl (.nil))⟩
 ·simp only at hj hji ⊢
  by_cases e:j=i
  ·subst e
   rw[List.getElem_set_self];exact hnew
  ·rw[List.getElem_set_ne (by omega)]
   rw[List.length_set] at hj
   exact(hown j hj (by omega)).mono fun x hx=>List.mem_append_right _ hx
 ·simp only at hj hji ⊢
  rw[List.getElem_set_ne (by omega)];rw[List.length_set] at hj
  exact hold j hj (by omega)
theorem Zbp {I:GH} {M0:List Blk} {t:Tr} (ht:t.ok I):Spec Tryz.prog 66 [t.val] I M0 fun v I' M'=>I'=I∧∃ (t':Tr) (M1:List Blk),v=t'.val∧TrM M1 t'∧t'.ct=t.ct∧M'=M1++M0:=by
 refine Spec.weakK (Spec.frame (ZcT ht)) ?_;rintro v J M ⟨M',rfl,-,-,rfl,t',rfl,h1,h2⟩;exact⟨rfl,t',M',rfl,h1,h2,rfl⟩
structure CqG (I:GH) (g:Gr) (os0:OS) (x:Nat×OS×List Df×List Blk):Prop where
 i:x.1≤g.n
 ok:x.2.1.ok 3 (x.2.2.1.flatMap Df.cells)
 ct:x.2.2.1.map Df.ct=g.ds.map Df.ct
 own:∀ j,∀ h:j < x.2.2.1.length,j < x.1->DfM x.2.2.2 x.2.2.1[j]
 old:∀ j,∀ h:j < x.2.2.1.length,x.1≤j->x.2.2.1[j].ok I
 a:x.2.1.a=os0.a
 v:x.2.1.val=os0.val
set_option maxRecDepth 100000 in
set_option maxHeartbeats 4000000 in
theorem Zib {I:GH} {g:Gr} (hg:g.ok I):Spec Tryz.prog 65 [g.val] I [] fun v I' M'=>I'=I∧∃ (os:OS) (L:List Df) (M1:List Blk),v=.agg #[os.val]∧os.n=g.n∧os.ok 3 (L.flatMap Df.cells)∧M'=os.blk 46++M1∧L.map Df.ct=g.ds.map Df.ct∧∀ d∈L,DfM M1 d:=by
 refine Z01 [] Z00 Tryz.func65 rfl rfl rfl ?_;intro B h0;have hgn:=hg.n;have hcap:=hg.rs.cap;refine CallOb.whole _ (ZcS hg.rs (Z6B Df.one _)) ?_;rintro v J N - ⟨hJ,os0,hosn0,hos0,rfl,hN⟩;subst J
 subst N;refine LoopOb.inv (ι:=Nat×OS×List Df×List Blk) (fun x=>{ fl:=[(1,.ref 1 0),(2,.ref 2 0),(10,.val os0.val),(11,.val (.int .i64 os0.n)),(12,.val (.int .i64 x.1))],cl:=[(1,[os0.val]),(2,[.slice none 0 0])],gi:=I,mi:=x.2.1.blk 46++x.2.2.2 }) (fun x=>CqG I g os0 x) (fun x=>g.n - x.1) ?_ ?_
 ·exact⟨(0,os0,g.ds,[]),⟨Nat.zero_le _,hos0,rfl,fun j _ h=>absurd h (Nat.not_lt_zero _),fun j h _=>hg.ds _ (List.getElem_mem h),rfl,rfl⟩,.refl,aF5,.cons rfl (.cons rfl (.nil))⟩
 rintro⟨i,os,L,Mk⟩ ⟨hi,hos,hct,hown,hold,hoa,hov⟩;simp only at hi hos hct hown hold hoa hov
 have hLn:L.length=g.ds.length:=by simpa using congrArg List.length hct
 obtain⟨hon,hoc⟩:=Znt hov;refine CondOb.mk (fun h=>?_) (fun h=>?_)
 rotate_left
 ·have hge:i=g.n:=by have:¬ (i:Int) < (os0.n:Int):=of_decide_eq_false h;omega
  refine⟨_,_,.refl,rfl,os,L,Mk,by rw[hov];rfl,by omega,hos,rfl,hct,fun d hd=>?_⟩;obtain⟨j,hj,rfl⟩:=List.getElem_of_mem hd
  exact hown j hj (by omega)
 have hlt:i < g.n:=by have:(i:Int) < (os0.n:Int):=of_decide_eq_true h;omega
 have hiL:i < L.length:=by omega
 obtain⟨ad,had,hrd⟩:=OS.ok.row (I:=I) (M:=os.blk 46++Mk) (e:=46) Df.cells_len (by decide) hos (fun z hz=>List.mem_append_left _ hz) hiL;have hdok:=hold i hiL (Nat.le_refl _);have hadI:=had
 rw[hoa] at hadI;refine IdxOb.mk ad i hadI rfl (by omega) ?_;refine LoadOb.mk _ hrd ?_;refine CodeOb.draw Z00 rfl rfl rfl ?_;refine PCallOb.whole _ (Zbp hdok.t) (fun v I' M' h x hx=>by obtain⟨-,t',M1,-,-,-,e⟩:=h;rw[e];exact List.mem_append_right _ hx) ?_;rintro v K1 N - ⟨hK1,t',M1,rfl,ht',htct,hN⟩;subst K1
 subst N;refine IdxOb.mk ad i hadI rfl (by omega) ?_;have hnew:DfM (M1++Mk) ⟨L[i].name,t'⟩:=⟨hdok.name,ht'.mono fun x hx=>List.mem_append_left _ hx⟩
 have hnct:(⟨L[i].name,t'⟩:Df).ct=L[i].ct:=by
  unfold Df.ct;rw[htct]
 have hset:=Zm9 hiL hnct;refine OS.putP (e:=46) Df.cells 3 Df.cells_len hos hiL 1 (vs:=[.slice t'.a t'.n t'.c,.int .i64 t'.root]) (Nat.le_of_ble_eq_true rfl) rfl ⟨L[i].name,t'⟩ rfl M1 Mk rfl had ?_;intro os2 hv2 ha2 hn2 hok2;refine ArithOb.mk _ (Z03 (i:=i) (by omega)) ?_;refine⟨(i+1,os2,L.set i ⟨L[i].name,t'⟩,M1++Mk),⟨⟨hlt,hok2,hset.trans hct,fun j hj hji=>?_,fun j hj hji=>?_,ha2.trans hoa,hv2.trans hov⟩,by simp only;omega⟩,.perm (List.perm_append_comm_assoc _ _ _) .refl,aF5,.cons rfl (.cons rfl (.nil))⟩
 ·simp only at hj hji ⊢
  by_cases e:j=i
  ·subst e
   rw[List.getElem_set_self];exact hnew
  ·rw[List.getElem_set_ne (by omega)]
   rw[List.length_set] at hj
   exact(hown j hj (by omega)).mono fun x hx=>List.mem_append_right _ hx
 ·simp only at hj hji ⊢
  rw[List.getElem_set_ne (by omega)];rw[List.length_set] at hj
  exact hold j hj (by omega)
structure Told (pl pl':List (ByteArray×Int)) (F F':List Fl) (up:Nat->Nat) (nm:ByteArray):Prop where
 at_:((Z0q nm pl).getD 0).toNat=up ((Z0q nm pl').getD 0).toNat
 fl:F.getD ((Z0q nm pl).getD 0).toNat fl0=F'.getD ((Z0q nm pl').getD 0).toNat fl0
section
variable {pl pl':List (ByteArray×Int)} {F F':List Fl} {up:Nat->Nat} {ns:List Nd} (h:∀ d∈ns,d.k=3->Told pl pl' F F' up d.t)
end
section
variable {a b:List Df} {x:Df} (hno:∀ e∈a++b,∀ n∈e.t.ns,n.k=3->n.t≠x.name∧0≤Z09 n.t (a++x::b) 0)
include hno
end
def grL (ds:List Df):Gr:=⟨ds,none,ds.length,0⟩
section
variable {L:List (List Int)}
theorem Zbq (hL:∀ l∈L,Z2d L.length l) {a:Nat} {k:Int} (h:k∈L.getD a []):a < L.length∧0≤k∧k < L.length:=by
 have ha:a < L.length:=by
  apply Nat.lt_of_not_le
  intro hle;simp[List.getD_eq_getElem?_getD,hle] at h
 have e:L.getD a []=L[a]:=by simp[List.getD_eq_getElem?_getD,ha]
 rw[e] at h;exact⟨ha,hL _ (List.getElem_mem ha) k h⟩
structure SeenInv (L:List (List Int)) (i:Nat) (S:List Int) (k:Nat):Prop where
 nd:S.Nodup
 val:Z2d L.length S
 rch:∀ a:Nat,(a:Int)∈S->Comes L i a
 self:(i:Int)∈S
 cl:∀ j,j < k->∀ x∈L.getD (S.getD j 0).toNat [],x∈S
theorem SeenInv.add {i:Nat} {S:List Int} {k:Nat} (hL:∀ l∈L,Z2d L.length l) (h:SeenInv L i S k) (hk:k < S.length) {x:Int} (hx:x∈L.getD (S.getD k 0).toNat []) (hn:x ∉ S):SeenInv L i (S++[x]) k:=by
 have hv:=Zbq hL hx
 have hS:S.getD k 0∈S:=by
  simp only[List.getD_eq_getElem?_getD,List.getElem?_eq_getElem hk,Option.getD_some];exact List.getElem_mem hk
 have hSk:=h.val _ hS;refine⟨?_,fun y hy=>?_,fun a ha=>?_,by simp[h.self],fun j hj y hy=>?_⟩
 ·rw[List.nodup_append]
  refine⟨h.nd,by simp,fun a ha b hb=>?_⟩;simp only[List.mem_singleton] at hb
  subst hb;intro e;subst e;exact hn ha
 ·rcases List.mem_append.1 hy with hy | hy
  ·exact h.val y hy
  ·simp only[List.mem_singleton] at hy
   subst hy;exact hv.2
 ·rcases List.mem_append.1 ha with ha | ha
  ·exact h.rch a ha
  ·simp only[List.mem_singleton] at ha
   subst ha;refine .next (h.rch (S.getD k 0).toNat ?_) hx
   rwa [show (((S.getD k 0).toNat:Nat):Int)=S.getD k 0 by omega]
 ·have hjl:j < S.length:=by omega
  have e:(S++[x]).getD j 0=S.getD j 0:=by simp[List.getD_eq_getElem?_getD,List.getElem?_append_left hjl]
  rw[e] at hy;exact List.mem_append.2 (.inl (h.cl j hj y hy))
theorem SeenInv.next {i:Nat} {S:List Int} {k:Nat} (h:SeenInv L i S k) (hc:∀ x∈L.getD (S.getD k 0).toNat [],x∈S):SeenInv L i S (k+1):=
 ⟨h.nd,h.val,h.rch,h.self,fun j hj x hx=>by
  by_cases e:j=k
  ·subst e
   exact hc x hx
  ·exact h.cl j (by omega) x hx⟩
theorem Comes.first {i a:Nat} (h:Comes L i a):a=i∨∃ k:Nat,(k:Int)∈L.getD i []∧Comes L k a:=by
 induction h with
 | self=>exact .inl rfl
 | @next b k hb hk ih=>
  rcases ih with rfl | ⟨c,h1,h2⟩
  ·exact .inr ⟨k,hk,.self⟩
  ·exact .inr ⟨c,h1,.next h2 hk⟩
end
def Z1a {α:Type}:List Bool->List α->List α
 | b::s,x::l=>bif b then x::Z1a s l else Z1a s l
 | _,_=>[]
theorem Z21 {α:Type}:∀ (s:List Bool) (l:List α),List.Sublist (Z1a s l) l
 | [],[]=>.slnil
 | [],x::l=>List.nil_sublist _
 | b::s,[]=>.slnil
 | true::s,x::l=>(Z21 s l).cons₂ x
 | false::s,x::l=>(Z21 s l).cons x
theorem Z2u {α β:Type} (f:α->β):∀ (s:List Bool) (l:List α),Z1a s (l.map f)=(Z1a s l).map f
 | [],[]=>rfl
 | [],x::l=>rfl
 | b::s,[]=>rfl
 | true::s,x::l=>congrArg (f x::·) (Z2u f s l)
 | false::s,x::l=>Z2u f s l
theorem Z94 {α:Type} (b:Bool) (x:α):∀ (s:List Bool) (l:List α),s.length=l.length->Z1a (s++[b]) (l++[x])=Z1a s l++bif b then [x] else []
 | [],[],_=>by cases b<;>rfl
 | c::s,y::l,h=>by
  have:=Z94 b x s l (by simpa using h);cases c
  ·exact this
  ·exact congrArg (y::·) this
structure Keeps (ds ds':List Df) (up:Nat->Nat):Prop where
 sub:List.Sublist ds' ds
 at_:∀ i,i < ds'.length->ds[up i]?=ds'[i]?
 lt:∀ i j,i < j->j < ds'.length->up i < up j
 cl:∀ d∈ds',∀ n∈d.t.ns,n.k=3->∃ q,q < ds'.length∧Z09 n.t ds' 0=(q:Int)∧Z09 n.t ds 0=((up q:Nat):Int)
section
variable {ds ds':List Df} {up:Nat->Nat} (hk:Keeps ds ds' up)
include hk
end
section
variable {ds ds':List Df} {up:Nat->Nat} (hk:Keeps ds ds' up)
include hk
end
theorem Z7V (g:Gr):Z0O g.ct=Z0O g:=by
 have hf:∀ (nm:ByteArray) (ds:List Df) (i:Nat),Z09 nm (ds.map Df.ct) i=Z09 nm ds i:=fun nm ds=>by
  induction ds with
  | nil=>intro i;rfl
  | cons d ds ih=>intro i;rw[List.map_cons,Z09,Z09,ih];rfl
 have hnm:∀ d:Df,Z0A d.ct.t.ns=Z0A d.t.ns:=fun d=>by
  show Z0A (d.t.ns.map Nd.ct)=_
  unfold Z0A;rw[List.filter_map,List.map_map];rfl
 unfold Z0O
 show (g.ds.map Df.ct).map _=_
 rw[List.map_map]
 refine List.map_congr_left fun d _=>?_
 show Z1G true 0 (Z1X (g.ds.map Df.ct) g.n (Z0A d.ct.t.ns))=Z1G true 0 (Z1X g.ds g.n (Z0A d.t.ns))
 rw[hnm];unfold Z1X
 congr 1
 congr 1
 funext s nm
 rw[hf]
def Z0a (l:List Int):List Bool:=(List.range 64).map fun (i:Nat)=>decide ((i:Int)∈l)
theorem marks_len (l:List Int):(Z0a l).length=64:=by simp[Z0a]
theorem Z1Q {l:List Int} {i:Nat} (hi:i < 64):(Z0a l).getD i false=decide ((i:Int)∈l):=by
 unfold Z0a;rw[List.getD_eq_getElem?_getD,List.getElem?_map,List.getElem?_range hi];rfl
theorem Zfk (s:List Bool) (n i:Nat):(s.take n).getD i false=if i < n then s.getD i false else false:=by
 rw[List.getD_eq_getElem?_getD,List.getD_eq_getElem?_getD,List.getElem?_take]
 split<;>rfl
theorem Z7W {a b:List Bool} (hl:a.length=b.length) (h:∀ i,i < a.length->a.getD i false=b.getD i false):a=b:=by
 refine List.ext_getElem hl fun i h1 h2=>?_
 have:=h i h1;rw[List.getD_eq_getElem?_getD,List.getD_eq_getElem?_getD,List.getElem?_eq_getElem h1,List.getElem?_eq_getElem h2] at this;exact this
theorem Zfl {s:List Bool} (hs:s.length≤64):(Z0a (Z1G true 0 s)).take s.length=s:=by
 refine Z7W (by rw[List.length_take,marks_len];omega) fun i hi=>?_
 rw[List.length_take,marks_len] at hi
 have hi:i < s.length:=by omega
 rw[Zfk,if_pos hi,Z1Q (by omega)]
 cases h:s.getD i false with
 | true=>exact decide_eq_true (listL_isM.2 h)
 | false=>
  refine decide_eq_false fun h1=>?_
  have:=listL_isM.1 h1;unfold isM at this;rw[h] at this;cases this
section
variable {deb:List Int} {g:Gr} (hn:g.ds.length=g.n) (hm:Z13 deb g=0)
include hn hm
end
section
variable {X:Ctx} {β:Nat->Nat} {F:Fr} {C:Bx} {I:GH} {M:List Blk} {o:Oper} {K:KS}
theorem OtherOb.copyL (hE:EOK X.P X.E) {x y:Operand} {t:Nat} (ho:o.op=.call { callee:=.builtin .copy,args:=#[x,y],argTypes:=#[t,t] }) (hd:∀ d,o.dst=some d->d < X.n)
  {e:Nat} {ti ei:TI} (ht:X.E t=some ti) (hts:ti.sh=.slice e) (he:X.E e=some ei)
  {g n c:Nat} {cur:List Value} (hx:ev F x=.val (.slice (some ⟨g,0,none⟩) n c)) (hc:n * ei.size≤cur.length)
  {sa:Option Addr} {c':Nat} (hy:ev F y=.val (.slice sa n c')) {news:List Value} (hl:news.length=n * ei.size) (hn:0 < n->∃ ad,sa=some ad∧Rd I M ad (n * ei.size) news) (h1:Z0z news=true)
  (pre post:List Blk) (hM:M=pre++⟨g,.cells cur.toArray e (0,0)⟩::post)
  (k:K (put o.dst (.val (.int .i64 n)) F) C I (pre++⟨g,.cells (Z05 cur 0 news).toArray e (0,0)⟩::post)):OtherOb X o F C I M K:=by
 refine⟨fun a w Q ⟨β,hR⟩=>?_⟩;have hu:=Z7U hE ht hts
 obtain⟨inf,z,hi,hi1,hi2,hi3,hi4⟩:=(hE _ _ he).inf;have hg:w.heap[g]?=some (.cells cur.toArray e (0,0)):=hR.holds.m ⟨g,.cells cur.toArray e (0,0)⟩ (by rw[hM];simp);have hst:=run_storeCells_at X.P g 0 e news 0 cur.toArray w hg (by rw[hl];simpa using hc) (Z1w h1)
 simp only[Nat.add_zero] at hst
 have hf:(Builtin.firstCells ei.size n (.slice sa n c')).run X.P w=.ok news.toArray w:=by
  by_cases h0:0 < n
  ·obtain⟨ad,rfl,hsp,cs,T,fr,hkn,hv,hl⟩:=hn h0
   refine run_firstCells_some (P:=X.P) w ei.size n ad n c' news hl fun j v hj=>?_
   rw[Z06 _ hsp,Z0C (hkn.heap hR.holds)];rw[←hv,List.getElem?_take] at hj
   split at hj
   ·rw[List.getElem?_drop] at hj
    simpa using hj
   ·cases hj
  ·have h2:n=0:=by omega
   subst h2;have h3:news=[]:=List.eq_nil_of_length_eq_zero (by rw[hl,Nat.zero_mul]);subst h3
   cases sa with
   | none=>simp[Builtin.firstCells]
   | some ad=>exact run_firstCells_some (P:=X.P) w ei.size 0 ad 0 c' [] (by simp) fun j v hj=>by simp at hj
 have ex:=Z04 hR.fr hx;have ey:=Z04 hR.fr hy;refine Z0r (by rw[ho];simp) (v:=.int .i64 n) (w':=w.setRow g (Z05 cur 0 news).toArray) ?_ ⟨_,_,_,_,⟨β,RelB.put (x:=.val (.int .i64 n)) ?_ hd rfl⟩,k⟩
 ·have hrun:(Builtin.copy_ #[t,t] o.type #[.slice (some ⟨g,0,none⟩) n c,.slice sa n c']).run X.P w=.ok (.int .i64 n) (w.setRow g (Z05 cur 0 news).toArray):=by
   rw[←hi1] at hf;simp[Builtin.copy_,run_underlying hu,Builtin.lenOf,sizeOf,typeInfo,hi,hf,hst,Z05,goInt]
  unfold execOp;simp only[ho,resolve,invoke,builtin,Sem.run_bind,Sem.run_pure,Result.andThen_ok,List.map_toArray,List.map_cons,List.map_nil,ex,ey,hrun]
 ·exact hR.store_blk hM
end
section
variable {X:Ctx} {F:Fr} {C:Bx} {I:GH} {M:List Blk} {o:Oper}
theorem Znu {G F:Fr} {y:Operand} {r:SV} (h:evr G y=evr F y) (h':ev F y=r):ev G y=r:=by
 simp only[ev,evq,h];exact h'
theorem DrawOb.copyAt {K:SV->GH->List Blk->Prop} (hE:EOK X.P X.E) {x y:Operand} {t:Nat} (ho:o.op=.call { callee:=.builtin .copy,args:=#[x,y],argTypes:=#[t,t] })
  {e:Nat} {ti ei:TI} (ht:X.E t=some ti) (hts:ti.sh=.slice e) (he:X.E e=some ei)
  {g off n c m:Nat} {cur:List Value} (hx:ev F x=.val (.slice (some ⟨g,off,none⟩) n c)) (hmn:m≤n) (hc:off+m * ei.size≤cur.length)
  {sa:Option Addr} {c':Nat} (hy:ev F y=.val (.slice sa m c')) {news:List Value} (hl:news.length=m * ei.size) (hn:0 < m->∃ ad,sa=some ad∧Rd I M ad (m * ei.size) news) (h1:Z0z news=true)
  (pre post:List Blk) (hM:M=pre++⟨g,.cells cur.toArray e (0,0)⟩::post)
  (k:K (.val (.int .i64 m)) I (pre++⟨g,.cells (Z05 cur off news).toArray e (0,0)⟩::post)):DrawOb X o F C I M K:=by
 refine⟨fun β a w Q hR=>?_⟩;have hu:=Z7U hE ht hts
 obtain⟨inf,z,hi,hi1,hi2,hi3,hi4⟩:=(hE _ _ he).inf;have hg:w.heap[g]?=some (.cells cur.toArray e (0,0)):=hR.holds.m ⟨g,.cells cur.toArray e (0,0)⟩ (by rw[hM];simp);have hst:=run_storeCells_at X.P g off e news 0 cur.toArray w hg (by rw[hl];simpa using hc) (Z1w h1)
 simp only[Nat.add_zero] at hst
 have hf:(Builtin.firstCells ei.size m (.slice sa m c')).run X.P w=.ok news.toArray w:=by
  by_cases h0:0 < m
  ·obtain⟨ad,rfl,hsp,cs,T,fr,hkn,hv,hl⟩:=hn h0
   refine run_firstCells_some (P:=X.P) w ei.size m ad m c' news hl fun j v hj=>?_
   rw[Z06 _ hsp,Z0C (hkn.heap hR.holds)];rw[←hv,List.getElem?_take] at hj
   split at hj
   ·rw[List.getElem?_drop] at hj
    simpa using hj
   ·cases hj
  ·have h2:m=0:=by omega
   subst h2;have h3:news=[]:=List.eq_nil_of_length_eq_zero (by rw[hl,Nat.zero_mul]);subst h3
   cases sa with
   | none=>simp[Builtin.firstCells]
   | some ad=>exact run_firstCells_some (P:=X.P) w ei.size 0 ad 0 c' [] (by simp) fun j v hj=>by simp at hj
 have ex:=Z04 hR.fr hx;have ey:=Z04 hR.fr hy;have hmin:Nat.min m n=m:=Nat.min_eq_left hmn;have hmin2:Nat.min n m=m:=Nat.min_eq_right hmn;have hmin3:min m n=m:=Nat.min_eq_left hmn;have hmin4:min n m=m:=Nat.min_eq_right hmn;refine Z0r (by rw[ho];simp) (v:=.int .i64 m) (w':=w.setRow g (Z05 cur off news).toArray) ?_ ⟨_,.val (.int .i64 m),I,_,rfl,rfl,?_,k⟩
 ·have hrun:(Builtin.copy_ #[t,t] o.type #[.slice (some ⟨g,off,none⟩) n c,.slice sa m c']).run X.P w=.ok (.int .i64 m) (w.setRow g (Z05 cur off news).toArray):=by
   rw[←hi1] at hf;simp[Builtin.copy_,run_underlying hu,Builtin.lenOf,sizeOf,typeInfo,hi,hf,hst,Z05,goInt,hmin,hmin2,hmin3,hmin4]
  unfold execOp;simp only[ho,resolve,invoke,builtin,Sem.run_bind,Sem.run_pure,Result.andThen_ok,List.map_toArray,List.map_cons,List.map_nil,ex,ey,hrun]
 ·exact hR.store_blk hM
end
def Z2e (b:Nat) (s:List Bool):Blk:=⟨b,.cells (s.map Value.bool).toArray 118 (0,0)⟩
theorem Ze6 {I:GH} {M:List Blk} {b:Nat} {s:List Bool} (hM:Z2e b s∈M) {j:Nat} (hj:j < s.length):Rd I M ((⟨b,0,none⟩:Addr).add (j * 1)) 1 [.bool (s.getD j false)]:=by
 rw[Z06 (⟨b,0,none⟩:Addr) rfl,Nat.zero_add,Nat.mul_one];refine⟨rfl,_,_,_,.inr ⟨_,hM,rfl,rfl⟩,?_,rfl⟩
 simp only;rw[List.drop_eq_getElem_cons (by simpa using hj),List.take_succ_cons,List.take_zero,List.getElem_map,List.getD_eq_getElem?_getD,List.getElem?_eq_getElem hj];rfl
theorem Z3F {I:GH} {M:List Blk} {b:Nat} {s:List Bool} (hM:Z2e b s∈M) {n:Nat} (hn:s.length=n):Rd I M (⟨b,0,none⟩:Addr) n (s.map Value.bool):=by
 refine⟨rfl,_,_,_,.inr ⟨_,hM,rfl,rfl⟩,?_,by simpa using hn⟩;simp only[List.drop_zero]
 exact List.take_of_length_le (by simp[hn])
theorem Z7X {b:Nat} {s:List Bool} {j:Nat} (hj:j < s.length) (v:Bool):(⟨b,.cells (Z05 (s.map Value.bool) j [.bool v]).toArray 118 (0,0)⟩:Blk)=Z2e b (s.set j v):=by
 unfold Z2e;rw[Z2n s j hj v]
theorem ZjN {g n c:Nat} {cur:List Value} {L:List Df} {i:Nat} (q1:cur.length=c * 3) (q2:n≤c) (q3:c≤maxLen) (q4:cur.take (n * 3)=L.flatMap Df.cells) (hlen:L.length=n) (hi:i < n) {zs:List Value} (hzs:zs.length=3) :
  OS.ok ⟨some g,n - 1,c,Z05 (Z05 cur (i * 3) ((L.drop (i+1)).flatMap Df.cells)) ((n - 1) * 3) zs⟩ 3 ((L.eraseIdx i).flatMap Df.cells):=by
 have hnl:((L.drop (i+1)).flatMap Df.cells).length=(n - (i+1)) * 3:=by rw[Z0i _ 3 Df.cells_len,List.length_drop];omega
 have hcl:(Z05 cur (i * 3) ((L.drop (i+1)).flatMap Df.cells)).length=cur.length:=by
  unfold Z05;rw[List.length_append,List.length_append,List.length_take,List.length_drop,hnl];omega
 refine⟨?_,(fun h=>by cases h),fun g' hg'=>?_⟩
 ·rw[Z0i _ 3 Df.cells_len,List.length_eraseIdx,if_pos (by omega)]
  simp only;omega
 ·cases hg'
  refine⟨?_,by simp only;omega,q3,?_⟩
  ·simp only
   rw[←q1,←hcl];unfold Z05
   simp only[List.length_append,List.length_take,List.length_drop];rw[hcl] at *
   omega
  ·simp only
   have h2:∀ (l:List Value) (k:Nat) (v:List Value),k≤l.length->(Z05 l k v).take k=l.take k:=fun l k v h=>by
    unfold Z05;rw[List.append_assoc,List.take_append_of_le_length (by rw[List.length_take];omega),List.take_take,Nat.min_self]
   rw[h2 _ _ _ (by rw[hcl];omega)]
   have h3:((L.take i).flatMap Df.cells).length=i * 3:=by rw[Z0i _ 3 Df.cells_len,List.length_take_of_le (by omega)]
   have h4:cur.take (i * 3)=(L.take i).flatMap Df.cells:=by
    have:cur.take (i * 3)=(cur.take (n * 3)).take (i * 3):=by rw[List.take_take,Nat.min_eq_left (by omega)]
    have e1:L.flatMap Df.cells=(L.take i).flatMap Df.cells++(L.drop i).flatMap Df.cells:=by rw[←List.flatMap_append,List.take_append_drop]
    rw[this,q4,e1,←h3,List.take_left]
   unfold Z05;rw[h4,List.take_append_of_le_length (by rw[List.length_append,h3,hnl];omega),List.take_of_length_le (by rw[List.length_append,h3,hnl];omega),←List.flatMap_append,List.eraseIdx_eq_take_drop_succ]
def Z1T (s:List Bool) (L:List Df) (k:Nat):List Df:=L.take k++Z1a (s.drop k) (L.drop k)
theorem Zfm (s:List Bool) (L:List Df) {n:Nat} (h:L.length=n):Z1T s L n=L:=by
 unfold Z1T;rw[List.take_of_length_le (by omega),List.drop_of_length_le (l:=L) (by omega)]
 cases s.drop n<;>simp[Z1a]
theorem ZcU (s:List Bool) (L:List Df):Z1T s L 0=Z1a s L:=rfl
theorem ZcV (s:List Bool) (L:List Df) {j:Nat} (hs:j < s.length) (hj:j < L.length):Z1T s L j=if s.getD j false then Z1T s L (j+1) else (Z1T s L (j+1)).eraseIdx j:=by
 have e1:s.drop j=s[j]::s.drop (j+1):=List.drop_eq_getElem_cons hs;have e2:L.drop j=L[j]::L.drop (j+1):=List.drop_eq_getElem_cons hj;have e3:L.take (j+1)=L.take j++[L[j]]:=List.take_succ_eq_append_getElem hj
 have e4:s.getD j false=s[j]:=by rw[List.getD_eq_getElem?_getD,List.getElem?_eq_getElem hs];rfl
 have hl:(L.take j).length=j:=by rw[List.length_take];omega
 have e5:∀ (A K:List Df) (x:Df),A.length=j->(A++x::K).eraseIdx j=A++K:=fun A K x h=>by
  rw[List.eraseIdx_append_of_length_le (by omega),h,Nat.sub_self];rfl
 have e6:L.take (j+1)++Z1a (s.drop (j+1)) (L.drop (j+1))=L.take j++L[j]::Z1a (s.drop (j+1)) (L.drop (j+1)):=by rw[e3,List.append_assoc];rfl
 unfold Z1T;rw[e6,e5 _ _ _ hl,e1,e2,Z1a,e4]
 cases s[j] with
 | true=>rfl
 | false=>rfl
theorem Zfn (s:List Bool) (L:List Df) {k:Nat} (hk:k≤L.length):k≤(Z1T s L k).length:=by
 unfold Z1T;rw[List.length_append,List.length_take];omega
theorem Zic (s:List Bool) (L:List Df) (k:Nat):(Z1T s L k).length≤L.length:=by
 unfold Z1T;have:=(Z21 (s.drop k) (L.drop k)).length_le;rw[List.length_append,List.length_take];rw[List.length_drop] at this
 omega
theorem Zfo {I:GH} {M0:List Blk} {g:Gr} (hg:g.ok I):Spec Tryz.prog 65 [g.val] I M0 fun v I' M'=>I'=I∧∃ (os:OS) (L:List Df) (M1:List Blk),v=.agg #[os.val]∧os.n=g.n∧os.ok 3 (L.flatMap Df.cells)∧M'=os.blk 46++(M1++M0)∧L.map Df.ct=g.ds.map Df.ct∧∀ d∈L,DfM M1 d:=by
 refine Spec.weakK (Spec.frame (Zib hg)) ?_;rintro v J M ⟨M',rfl,-,-,rfl,os,L,M1,rfl,h1,h2,rfl,h3,h4⟩;exact⟨rfl,os,L,M1,rfl,h1,h2,by rw[List.append_assoc],h3,h4⟩
structure OnI (s:List Bool) (L:List Df) (n:Nat) (x:Nat×OS):Prop where
 k:x.1≤n
 ok:x.2.ok 3 ((Z1T s L x.1).flatMap Df.cells)
set_option maxRecDepth 100000 in
set_option maxHeartbeats 8000000 in
theorem Zbr {I:GH} {g:Gr} (hg:g.ok I) {s:List Bool} (hs:s.length=64) (hn:g.n≤64):Spec Tryz.prog 75 [g.val,.agg (s.map Value.bool).toArray] I [] fun v I' M'=>I'=I∧∃ h:Gr,v=h.val∧GrM M' h∧h.ct=(grL (Z1a (s.take g.n) g.ds)).ct:=by
 refine Z01 [3] Z00 Tryz.func75 rfl rfl rfl ?_;intro B h0;have hgn:=hg.n;have hcap:=hg.rs.cap
 refine AllocOb.mk fun b hb hbM=>?_
 refine CallOb.whole _ (Zfo (M0:=[Z2e b s]) hg) ?_;rintro v J N - ⟨hJ,os0,L,M1,rfl,hon,hos0,hN,hct,hds⟩;subst J
 subst N
 have hLn:L.length=g.ds.length:=by simpa using congrArg List.length hct
 refine ArithOb.mk ((g.n:Int) - 1) (by rw[hon];exact Z3h rfl (by omega)) ?_;refine LoopOb.inv (ι:=Nat×OS) (fun x=>{ fl:=[(3,.val (.pointer (some ⟨b,0,none⟩))),(4,.ref 4 0),(5,.ref 5 0),(6,.val (.int .i64 ((x.1:Int) - 1)))],cl:=[(4,[.slice none 0 0]),(5,[x.2.val])],gi:=I,mi:=x.2.blk 46++(M1++[Z2e b s]) }) (fun x=>OnI s L g.n x) (fun x=>x.1) ?_ ?_
 ·exact⟨(g.n,os0),⟨Nat.le_refl _,by rw[Zfm s L (by omega)];exact hos0⟩,.refl,aF4,.cons rfl (.cons rfl (.nil))⟩
 rintro⟨k,os⟩ ⟨hk,hos⟩;simp only at hk hos
 refine CondOb.mk (fun h=>?_) (fun h=>?_)
 rotate_left
 ·have hk0:k=0:=by have:¬ (0:Int)≤(k:Int) - 1:=of_decide_eq_false h;omega
  subst hk0;rw[ZcU] at hos;have hkl:=(Z21 s L).length_le;have hlen:=hos.len;rw[Z0i _ 3 Df.cells_len] at hlen;refine⟨_,_,.refl,rfl,⟨Z1a s L,os.a.map fun g=>⟨g,0,none⟩,os.n,os.c⟩,rfl,⟨(RM.of_os hos (by omega)).mono fun x hx=>List.mem_append_left _ hx,fun d hd=>(hds d ((Z21 s L).subset hd)).mono fun x hx=>List.mem_append_right _ (List.mem_append_left _ hx)⟩,?_⟩
  have e1:Z1a s g.ds=Z1a (s.take g.n) g.ds:=by
   have:∀ (s:List Bool) (l:List Df),Z1a s l=Z1a (s.take l.length) l:=by
    intro s
    induction s with
    | nil=>intro l;simp
    | cons c s ih=>intro l;cases l with
     | nil=>rfl
     | cons x l=>simp only[List.length_cons,List.take_succ_cons,Z1a,ih l]
   rw[this s g.ds,hgn]
  have e2:(Z1a s L).map Df.ct=(Z1a (s.take g.n) g.ds).map Df.ct:=by rw[←Z2u,hct,Z2u,e1]
  have e3:=congrArg List.length e2;rw[List.length_map,List.length_map] at e3;unfold Gr.ct grL;simp only;rw[e2,←e3]
  congr 1
  omega
 obtain⟨j,rfl⟩:∃ j,k=j+1:=⟨k - 1,by have:(0:Int)≤(k:Int) - 1:=of_decide_eq_true h;omega⟩;have hj:j < g.n:=hk
 have hjs:j < s.length:=by omega
 have hjj:((j+1:Nat):Int) - 1=(j:Int):=by omega
 have hbs:=ZcV s L hjs (show j < L.length by omega);refine ArrOb.mk j hjj (by omega) ?_
 refine LoadOb.mk _ (Ze6 (b:=b) (s:=s) (by simp) hjs) ?_;refine CondOb.mk (fun hc=>?_) (fun hc=>?_)
 ·have hc:s.getD j false=true:=hc
  rw[if_pos hc] at hbs;refine ArithOb.mk ((j:Int) - 1) (Z3h (by omega) (by omega)) ?_;exact⟨(j,os),⟨⟨by simp only;omega,by simp only;rw[hbs];exact hos⟩,by simp only;omega⟩,.refl,aF4,.cons rfl (.cons rfl (.nil))⟩
 have hc:s.getD j false=false:=hc;rw[if_neg (by rw[hc];simp)] at hbs;have hbl:=Zfn s L (k:=j+1) (by omega);have hbe:=Zic s L (j+1)
 generalize Z1T s L (j+1)=L' at hos hbs hbl hbe;have hlen:=hos.len;rw[Z0i _ 3 Df.cells_len] at hlen;obtain⟨a,n,c,cur⟩:=os
 cases a with
 | none=>
  have:=(hos.nil rfl).1;simp only at this hlen;omega
 | some q=>
 obtain⟨q1,q2,q3,q4⟩:=hos.cap q rfl;simp only at q1 q2 q3 q4 hlen
 have hlen:L'.length=n:=by omega
 have hjn:j < n:=by omega
 have hgM:(⟨q,.cells cur.toArray 46 (0,0)⟩:Blk)∈((⟨some q,n,c,cur⟩:OS).blk 46++(M1++[Z2e b s])):=.head _
 have hnl:((L'.drop (j+1)).flatMap Df.cells).length=(n - (j+1)) * 3:=by rw[Z0i _ 3 Df.cells_len,List.length_drop];omega
 refine CodeOb.draw Z00 rfl rfl rfl ?_;refine SliceOb.mk j n (by exact hjj) rfl (by omega) (Nat.le_refl _) ?_;refine ArithOb.mk ((j+1:Nat):Int) (Z3h (by omega) (by omega)) ?_;refine SliceOb.mk (j+1) n rfl rfl (by omega) (Nat.le_refl _) ?_
 have hcj:¬ c=j:=by omega
 have hsv1:(Value.slice (if c=j then some ⟨q,0,none⟩ else (some (⟨q,0,none⟩:Addr)).map (·.add (j * 3))) (n - j) (c - j))=.slice (some ⟨q,j * 3,none⟩) (n - j) (c - j):=by
  rw[if_neg hcj,Option.map_some,Z06 (⟨q,0,none⟩:Addr) rfl,Nat.zero_add]
 have hsv2:(Value.slice (if c=j+1 then some ⟨q,0,none⟩ else (some (⟨q,0,none⟩:Addr)).map (·.add ((j+1) * 3))) (n - (j+1)) (c - (j+1)))=.slice (some ⟨q,if c=j+1 then 0 else (j+1) * 3,none⟩) (n - (j+1)) (c - (j+1)):=by
  by_cases hc:c=j+1
  ·rw[if_pos hc,if_pos hc]
  ·rw[if_neg hc,if_neg hc,Option.map_some,Z06 (⟨q,0,none⟩:Addr) rfl,Nat.zero_add]
 intro G hG;refine DrawOb.copyAt Z00 rfl (e:=46) rfl rfl rfl (g:=q) (off:=j * 3) (n:=n - j) (c:=c - j) (m:=n - (j+1)) (cur:=cur) (Znu (hG _ (by simp[Op.operands,Call.operands])) (congrArg SV.val hsv1)) (by omega) (by rw[q1];show j * 3+(n - (j+1)) * 3≤c * 3;omega) (Znu (hG _ (by simp[Op.operands,Call.operands])) (congrArg SV.val hsv2)) (news:=(L'.drop (j+1)).flatMap Df.cells) hnl ?_ (Z6B Df.one _) [] (M1++[Z2e b s]) rfl ?_
 ·intro hpos
  refine⟨_,rfl,rfl,cur.toArray,46,(0,0),.inr ⟨_,hgM,rfl,rfl⟩,?_,hnl⟩;rw[if_neg (by omega),Zi8 _ 3 Df.cells_len,←q4,List.drop_take]
  congr 1
  show (n - (j+1)) * 3=n * 3 - (j+1) * 3
  omega
 refine ArithOb.mk ((n - 1:Nat):Int) (Z3h (by omega) (by omega)) ?_;refine IdxOb.mk ⟨q,0,none⟩ (n - 1) rfl rfl (show n - 1 < n by omega) ?_
 have hcl:(Z05 cur (j * 3) ((L'.drop (j+1)).flatMap Df.cells)).length=cur.length:=by
  unfold Z05;rw[List.length_append,List.length_append,List.length_take,List.length_drop,hnl];omega
 refine StoreOb.mk [] (M1++[Z2e b s]) (Z05 cur (j * 3) ((L'.drop (j+1)).flatMap Df.cells)).toArray 46 ?_ ?_ ?_ rfl ?_
 ·rw[Z06 (⟨q,0,none⟩:Addr) rfl]
 ·rw[Z06 (⟨q,0,none⟩:Addr) rfl]
 ·rw[Z06 (⟨q,0,none⟩:Addr) rfl]
  show 0+(n - 1) * 3+3≤(Z05 cur (j * 3) ((L'.drop (j+1)).flatMap Df.cells)).toArray.size
  rw[List.size_toArray,hcl,q1];omega
 rw[Z06 (⟨q,0,none⟩:Addr) rfl];refine SliceOb.mk 0 (n - 1) rfl rfl (Nat.zero_le _) (show n - 1≤c by omega) ?_
 refine ArithOb.mk ((j:Int) - 1) (Z3h (by omega) (by omega)) ?_;refine⟨(j,⟨some q,n - 1,c,_⟩),⟨⟨by simp only;omega,?_⟩,by simp only;omega⟩,.refl,aF4,.cons rfl (.cons rfl (.nil))⟩;simp only
 rw[hbs,Nat.zero_add];exact ZjN (g:=q) q1 q2 q3 q4 hlen hjn (zs:=[.string ⟨#[]⟩,.slice none 0 0,.int .i64 0]) rfl
def stO:Option Int->Stp
 | none=>⟨0,0,0,none,0,0,[],0⟩
 | some r=>⟨7,1,r,none,0,0,[],0⟩
theorem ZcW {I:GH} {M0:List Blk} {deb:List Int} (hT:Tabs I deb) {g:Gr} (hg:g.ok I) (hkb:∀ d∈g.ds,KB d.t):Spec Tryz.prog 21 [g.val] I M0 fun v I' M'=>(∀ b o,I b=some o->I' b=some o)∧M'=M0∧∃ r:Int×Int,v=.int .i64 r.2∧Z5v deb g r:=by
 refine Spec.weakK (Spec.frame (ZhW hT hg hkb)) ?_;rintro v J M ⟨M',rfl,-,h1,-,rfl,r,rfl,h2⟩;exact⟨h1,rfl,r,rfl,h2⟩
theorem Zbs {I:GH} {M0:List Blk} {deb:List Int} (hT:Tabs I deb) {g:Gr} (hg:g.ok I) (hn:g.n≤1099511627776):Spec Tryz.prog 74 [g.val] I M0 fun v I' M'=>(∀ b o,I b=some o->I' b=some o)∧M'=M0∧v=.tuple #[(stO (Z0Z deb g).head?).val,.bool (Z0Z deb g).head?.isSome]:=by
 refine Z01 [] Z00 Tryz.func74 rfl rfl rfl ?_;intro B h0;refine CallOb.mk [] M0 _ (.refl _) (Zav hT hg hn) ?_;rintro v I1 N - ⟨hI1,x,rfl,hx,hxl,rfl⟩;have hxn:=hx.n
 cases hl:Z0Z deb g with
 | nil=>
  rw[hl] at hxl;rw[hxl] at hxn;refine CondOb.mk (fun _=>?_) (fun h=>?_)
  ·exact⟨_,_,.refl,hI1,rfl,rfl⟩
  ·have h:¬ (x.n:Int)=0:=of_decide_eq_false h
   simp only[List.length_nil] at hxn;omega
 | cons u l=>
  rw[hl] at hxl;refine CondOb.mk (fun h=>?_) (fun _=>?_)
  ·have h:(x.n:Int)=0:=of_decide_eq_true h
   rw[hxl] at hxn;simp only[List.length_cons] at hxn;omega
  ·have h0':0 < x.n:=by rw[←hxn,hxl];simp
   have h0l:0 < x.l.length:=by rw[hxl];simp
   obtain⟨ad,had,hrd⟩:=hx.rs.one h0' h0l
   have e:x.l[0]=u:=by simp[hxl]
   rw[e] at hrd;refine IdxOb.mk ad 0 had rfl h0' ?_;refine LoadOb.mk _ (hrd _) ?_;exact⟨_,_,.refl,hI1,rfl,rfl⟩
def Zid (deb:List Int) (g:Gr) (o:Option Int):Prop:=∃ r,Z5v deb g r∧o=if r.2=0 then (Z0Z deb g).head? else none
theorem Zfp {I:GH} {M0:List Blk} {deb:List Int} (hT:Tabs I deb) {g:Gr} (hg:g.ok I) (hn:g.n≤1099511627776) (hkb:∀ d∈g.ds,KB d.t):Spec Tryz.prog 33 [g.val] I M0 fun v I' M'=>(∀ b o,I b=some o->I' b=some o)∧M'=M0∧∃ o,Zid deb g o∧v=.tuple #[(stO o).val,.bool o.isSome]:=by
 refine Z01 [] Z00 Tryz.func33 rfl rfl rfl ?_;intro B h0;refine CallOb.whole _ (ZcW hT hg hkb) ?_;rintro v I1 N - ⟨hI1,hN,r,rfl,hr⟩;subst N
 by_cases h:r.2=0
 ·refine CondOb.mk (fun h'=>absurd h' (by simp[h])) (fun _=>?_)
  refine CallOb.whole _ (Zbs (hT.mono hI1) (hg.mono hI1) hn) ?_;rintro v I2 N - ⟨hI2,hN,rfl⟩;subst N
  exact⟨_,_,.refl,fun b o h=>hI2 _ _ (hI1 _ _ h),rfl,_,⟨r,hr,(if_pos h).symm⟩,rfl⟩
 ·refine CondOb.mk (fun _=>?_) (fun h'=>absurd h' (by simp[h]))
  exact⟨_,_,.refl,hI1,rfl,none,⟨r,hr,(if_neg h).symm⟩,rfl⟩
def Ze7:Option Int->List Stp
 | none=>[]
 | some r=>[stO (some r)]
theorem Zfq {I:GH} {M0:List Blk} {deb:List Int} (hT:Tabs I deb) {g:Gr} (hg:g.ok I) (hn:g.n≤1099511627776) (hkb:∀ d∈g.ds,KB d.t):Spec Tryz.prog 35 [g.val] I M0 fun v I' M'=>(∀ b o,I b=some o->I' b=some o)∧∃ (o:Option Int) (os:OS),Zid deb g o∧os.ok 5 ((Ze7 o).flatMap Stp.cells)∧v=os.val∧M'=os.blk 59++M0:=by
 refine Z01 [] Z00 Tryz.func35 rfl rfl rfl ?_;intro B h0;refine CallOb.whole _ (Zfp hT hg hn hkb) ?_;rintro v I1 N - ⟨hI1,hN,o,ho,rfl⟩;subst N
 cases o with
 | none=>
  refine CondOb.mk (fun _=>?_) (fun h=>by cases h);exact⟨_,_,.refl,hI1,none,OS0,ho,Z1C 5,rfl,rfl⟩
 | some r=>
  refine CondOb.mk (fun h=>by cases h) (fun _=>?_)
  refine AllocOb.mk fun b hb hbM=>?_
  exact⟨_,_,.refl,hI1,some r,⟨some b,1,1,(stO (some r)).cells⟩,ho,⟨rfl,(fun h=>by cases h),fun g h=>⟨rfl,Nat.le_refl _,(show (1:Nat)≤maxLen by decide),rfl⟩⟩,rfl,rfl⟩
def Z5x (s:Stp) (o:Option Int):Bool:=o.isSome && (decide (s.p=7) && (decide (s.w=1) && (decide (s.r=o.getD 0) && (decide (s.pn=0) && decide (s.at_=0)))))
def ZnS (deb:List Int) (g:Gr) (s:Stp) (r:Int×List Df):Prop:=∃ x,Z5v deb g x∧r=if x.2=0 then (if Z5x s (Z0Z deb g).head? then (0,Z1a (Z3r (Z0O g) 0) g.ds) else (47,[])) else (x.2,[])
theorem ZcX (M:List Blk):GrM M ⟨[],none,0,0⟩:=⟨⟨rfl,⟨Nat.le_refl _,by decide⟩,.inl rfl⟩,fun d hd=>by cases hd⟩
theorem Zie {l:List Int} {k:Nat} (hk:k < l.length) {z:Nat} (hz:l[k]=(z:Int)) (h64:z < 64):(Z0a (l.take k)).set z true=Z0a (l.take (k+1)):=by
 refine Z7W (by rw[List.length_set,marks_len,marks_len]) fun i hi=>?_
 rw[List.length_set,marks_len] at hi;rw[Z1Q hi,List.take_succ_eq_append_getElem hk,List.getD_eq_getElem?_getD,List.getElem?_set]
 by_cases e:z=i
 ·subst e
  rw[if_pos rfl,if_pos (by rw[marks_len];exact hi)];simp[hz]
 ·rw[if_neg e,←List.getD_eq_getElem?_getD,Z1Q hi,decide_eq_decide]
  constructor
  ·intro h;exact List.mem_append_left _ h
  ·intro h
   rcases List.mem_append.1 h with h | h
   ·exact h
   ·rw[List.mem_singleton,hz] at h
    omega
theorem ZjO {deb:List Int} {g:Gr} (hn:g.ds.length=g.n) {i:Int}:∀ k∈Zau deb g i,∃ z:Nat,k=(z:Int)∧z < g.n:=fun k hk=>by
 unfold Zau at hk
 cases hc:inR i g.n && decide (Z13 deb g=0) with
 | false=>rw[hc] at hk;cases hk
 | true=>
  rw[hc,cond_true] at hk;simp only[Bool.and_eq_true] at hc;have hin:=hc.1;unfold inR at hin;simp at hin
  have hl:(Z0O g).length=g.n:=by simp[Z0O,hn]
  have:=Z77 (wh:=true) (s:=Z3r (Z0O g) i.toNat) k hk;rw[Z6j (Z1Y hn) (by omega),hl] at this;exact⟨k.toNat,by omega,by omega⟩
set_option maxRecDepth 100000 in
set_option maxHeartbeats 8000000 in
theorem Znv {I:GH} {deb:List Int} (hT:Tabs I deb) {g:Gr} (hg:g.ok I) (hkb:∀ d∈g.ds,KB d.t) (s:Stp):Spec Tryz.prog 32 [g.val,s.val] I [] fun v I' M'=>(∀ b o,I b=some o->I' b=some o)∧∃ (r:Int×List Df) (h:Gr),ZnS deb g s r∧v=.tuple #[h.val,.int .i64 r.1]∧GrM M' h∧h.ct=(grL r.2).ct:=by
 refine Z01 [9] Z00 Tryz.func32 rfl rfl rfl ?_;intro B h0;have hgn:=hg.n;refine CallOb.whole _ (ZcW hT hg hkb) ?_;rintro v I1 N - ⟨hI1,hN,x,rfl,hx⟩;subst N
 by_cases h:x.2=0
 rotate_left
 ·refine CondOb.mk (fun _=>?_) (fun h'=>absurd h' (by simp[h]))
  exact⟨_,_,.refl,hI1,(x.2,[]),⟨[],none,0,0⟩,⟨x,hx,(if_neg h).symm⟩,rfl,ZcX _,rfl⟩
 refine CondOb.mk (fun h'=>absurd h' (by simp[h])) (fun _=>?_)
 have hm:Z13 deb g=0:=by
  rcases hx with ⟨a,e⟩ | ⟨a,-⟩
  ·rw[e] at h
   exact h
  ·exact a
 have h64:=Zfe hm;refine CallOb.whole _ (Zbs (hT.mono hI1) (hg.mono hI1) (by omega)) ?_;rintro v I2 N - ⟨hI2,hN,rfl⟩;subst N
 have hI2':∀ b o,I b=some o->I2 b=some o:=fun b o h=>hI2 _ _ (hI1 _ _ h)
 have hno:Z5x s (Z0Z deb g).head?=false->∃ (r:Int×List Df) (h:Gr),ZnS deb g s r∧Value.tuple #[(⟨[],none,0,0⟩:Gr).val,.int .i64 47]=.tuple #[h.val,.int .i64 r.1]∧GrM [] h∧h.ct=(grL r.2).ct:=fun h4=>
  ⟨(47,[]),⟨[],none,0,0⟩,⟨x,hx,by rw[if_pos h,if_neg (by rw[h4];simp)]⟩,rfl,ZcX _,rfl⟩
 cases ho:(Z0Z deb g).head? with
 | none=>
  rw[ho] at hno;refine GuardOb.mk (fun h=>by cases h) (fun _=>?_);exact⟨_,_,.refl,hI2',hno rfl⟩
 | some u=>
 rw[ho] at hno
 have hno:¬ (s.p=7∧s.w=1∧s.r=u∧s.pn=0∧s.at_=0)->_:=fun h4=>hno (by
  cases hb:Z5x s (some u) with
  | false=>rfl
  | true=>
   refine absurd ?_ h4
   simpa[Z5x] using hb)
 obtain⟨sp,sw,sr,spa,spn,spc,spl,sat⟩:=s;simp only at hno;refine GuardOb.mk (fun _=>?_) (fun h=>by cases h)
 by_cases g1:sp=7
 rotate_left
 ·refine GuardOb.mk (fun h'=>absurd h' (by simp[stO,g1])) (fun _=>?_)
  exact⟨_,_,.refl,hI2',hno fun h=>g1 h.1⟩
 subst g1;refine GuardOb.mk (fun _=>?_) (fun h'=>absurd h' (by simp[stO]))
 by_cases g2:sw=1
 rotate_left
 ·refine GuardOb.mk (fun h'=>absurd h' (by simp[stO,g2])) (fun _=>?_)
  exact⟨_,_,.refl,hI2',hno fun h=>g2 h.2.1⟩
 subst g2;refine GuardOb.mk (fun _=>?_) (fun h'=>absurd h' (by simp[stO]))
 by_cases g3:sr=u
 rotate_left
 ·refine GuardOb.mk (fun h'=>absurd h' (by simp[stO,g3])) (fun _=>?_)
  exact⟨_,_,.refl,hI2',hno fun h=>g3 h.2.2.1⟩
 subst g3;refine GuardOb.mk (fun _=>?_) (fun h'=>absurd h' (by simp[stO]))
 by_cases g4:spn=0
 rotate_left
 ·refine GuardOb.mk (fun h'=>absurd h' (by simp[stO,g4])) (fun _=>?_)
  exact⟨_,_,.refl,hI2',hno fun h=>g4 h.2.2.2.1⟩
 subst g4;refine GuardOb.mk (fun _=>?_) (fun h'=>absurd h' (by simp[stO]))
 by_cases g5:sat=0
 rotate_left
 ·refine CondOb.mk (fun _=>?_) (fun h'=>absurd h' (by simp[stO,g5]))
  exact⟨_,_,.refl,hI2',hno fun h=>g5 h.2.2.2.2⟩
 subst g5;refine CondOb.mk (fun h'=>absurd h' (by simp[stO])) (fun _=>?_);clear hno
 refine AllocOb.mk fun b hb hbM=>?_
 have hT2:=hT.mono hI2';have hg2:=hg.mono hI2';refine CallOb.mk [] [Z2e b (List.replicate 64 false)] _ (.refl _) (Zg3 hT2 hg2 (by omega) 0) ?_;rintro v I3 N - ⟨hI3,y,rfl,hy,hyl,rfl⟩;have hyn:=hy.n
 have hycap:=hy.rs.cap;have hylt:=ZjO (deb:=deb) hgn (i:=0);rw[←hyl] at hylt
 refine LoopOb.inv (ι:=Nat) (fun k=>{ fl:=[(2,.ref 2 0),(4,.ref 4 0),(9,.val (.pointer (some ⟨b,0,none⟩))),(59,.val y.val),(60,.val (.int .i64 y.n)),(61,.val (.int .i64 k))],cl:=[(2,[.slice g.a g.n g.c]),(4,[.slice none 0 0])],gi:=I3,mi:=[Z2e b (Z0a (y.l.take k))] }) (fun k=>k≤y.n) (fun k=>y.n - k) ?_ ?_
 ·exact⟨0,Nat.zero_le _,.refl,aF6,.cons rfl (.cons rfl (.nil))⟩
 intro k hk;refine CondOb.mk (fun h'=>?_) (fun h'=>?_)
 ·have hlt:k < y.n:=by have:(k:Int) < (y.n:Int):=of_decide_eq_true h';omega
  have hkl:k < y.l.length:=by omega
  obtain⟨ad,had,hrd⟩:=hy.rs.one hlt hkl;obtain⟨z,hz,hzn⟩:=hylt _ (List.getElem_mem hkl);have hset:=Zie hkl hz (by omega)
  rw[hz] at hrd;refine IdxOb.mk ad k had rfl hlt ?_;refine LoadOb.mk _ (hrd _) ?_;refine ArrOb.mk z rfl (by omega) ?_;refine StoreOb.add [] [] _ 118 rfl (by show 0+z * 1+1≤((Z0a _).map Value.bool).toArray.size;rw[List.size_toArray,List.length_map,marks_len];omega) rfl ?_;refine ArithOb.mk _ (Z03 (i:=k) (by omega)) ?_;refine⟨k+1,⟨hlt,by omega⟩,.eqM ?_,aF6,.cons rfl (.cons rfl (.nil))⟩;rw[←hset,←Z7X (by rw[marks_len];omega),Nat.zero_add,Nat.mul_one]
  rfl
 ·have hge:k=y.n:=by have:¬ (k:Int) < (y.n:Int):=of_decide_eq_false h';omega
  subst hge;rw[List.take_of_length_le (by omega)];refine LoadOb.mk _ (Z3F (b:=b) (s:=Z0a y.l) (.head _) (marks_len _)) ?_
  refine CallOb.mk [] [Z2e b (Z0a y.l)] _ (.refl _) (Zbr (hg2.mono hI3) (marks_len _) (by omega)) ?_;rintro v I4 N - ⟨hI4,h',rfl,hh,hhct⟩;subst I4
  refine⟨_,_,.sub (List.sublist_append_left _ _) .refl,fun b o h=>hI3 _ _ (hI2' _ _ h),(0,Z1a (Z3r (Z0O g) 0) g.ds),h',⟨x,hx,?_⟩,rfl,hh,?_⟩
  ·rw[if_pos h,ho,if_pos (by simp[Z5x])]
  ·have hG:y.l=Z1G true 0 (Z3r (Z0O g) 0):=by
    rw[hyl];unfold Zau
    have hpos:=ZhU hm
    have:inR 0 g.n=true:=by
     unfold inR;simp;omega
    rw[this,decide_eq_true hm];rfl
   have hfl:(Z3r (Z0O g) 0).length=g.n:=by
    have hpos:=ZhU hm
    have hl:(Z0O g).length=g.n:=by simp[Z0O,hgn]
    rw[Z6j (Z1Y hgn) (by omega),hl]
   rw[hhct,hG];have:=Zfl (s:=Z3r (Z0O g) 0) (by omega)
   rw[hfl] at this;rw[this]
theorem Z95 {F:Nat->EV->EV->Option Bool} {E:Env} {e:Nat} {ei:TI} (he:E e=some ei) (hs:ei.size=1) (ha:ei.sh.agg=false) (hF:∀ a b,F e (.b a) (.b b)=some (a == b)):∀ (l m:List Bool) (P1 P2:List EV),l.length=m.length->P1.length=P2.length ->
  Zj2 F E (P1++l.map EV.b) (P2++m.map EV.b) ((List.range' P1.length l.length).map fun i=>(e,i * ei.size))=some (decide (l=m))
 | [],[],P1,P2,_,_=>rfl
 | [],_::_,_,_,h,_=>by simp at h
 | _::_,[],_,_,h,_=>by simp at h
 | a::l,b::m,P1,P2,h,hp=>by
  have ih:=Z95 he hs ha hF l m (P1++[EV.b a]) (P2++[EV.b b]) (by simpa using h) (by simpa using hp);rw[List.length_append,List.length_singleton,List.append_assoc,List.append_assoc,List.singleton_append,List.singleton_append] at ih
  rw[List.length_cons,List.range'_succ,List.map_cons,List.map_cons,List.map_cons,Zj2,Z6t he hs ha,Z7z,hp,Z6t he hs ha,Z7z,←hp];rw[hF,Z7z,Z11]
  by_cases e1:a=b
  ·subst e1
   simp only[beq_self_eq_true,if_true];rw[ih]
   simp
  ·have:(a == b)=false:=by simpa using e1
   simp[this,e1]
theorem Zif {x y:Operand} {p q:List Bool} (hp:p.length=64) (hq:q.length=64) {V:Value->Prop} {other:Prop} (h:V (.bool (!decide (p=q)))) :
  BinOb Tryz.prog .neq 118 x y (.val (.agg (p.map Value.bool).toArray)) (.val (.agg (q.map Value.bool).toArray)) V other:=by
 have hv:∀ l:List Bool,VRs (fun _=>none) (l.map EV.b) (l.map Value.bool):=fun l=>by
  induction l with
  | nil=>exact .nil
  | cons a l ih=>exact .cons (by simp only[VR]) ih
 refine Z9C (X:=⟨Tryz.prog,Z2L,[],0,0,default,fun _=>none,[],none⟩) (D:=fun _=>none) (v:=.b (!decide (p=q))) Z00 ?_ (hv p) (hv q) (fun u hu=>by simp only[VR] at hu;rw[hu];exact h)
 show Zcf Tryz.prog Z2L .neq 118 _ _=_
 obtain⟨i1,h1,hs1⟩:∃ i,Z2L 118=some i∧i.sh=.array 64 4:=⟨_,rfl,rfl⟩;obtain⟨i2,h2,hs2,hz2⟩:∃ i,Z2L 4=some i∧i.sh=.bool∧i.size=1:=⟨_,rfl,rfl,rfl⟩
 have hF:∀ a b,eqT Tryz.prog Z2L 7 4 (.b a) (.b b)=some (a == b):=fun a b=>by
  simp only[eqT,h2,Z7z,hs2]
 have hk:=Z95 (F:=eqT Tryz.prog Z2L 7) h2 hz2 (by rw[hs2];rfl) hF p q [] [] (by omega) rfl;unfold Zcf;rw[eqT];simp only[h1,Z7z,hs1,h2]
 rw[List.nil_append,List.nil_append,List.length_nil,hp] at hk;rw[List.range_eq_range',hk,show Tryz.prog.eqGuardType Tryz.prog.depth 118=false by kernel_rfl];rfl
def inN (n:Nat) (k:Int):Bool:=decide (0≤k) && decide (k < (n:Int))
def Z0B (deb:List Int) (g:Gr) (l:List Int):Bool:=decide (Z13 deb g=0) && (decide (l≠[]) && (l.all (inN g.n) && (decide l.Nodup && l.all fun i=>(Z0E deb g i).all fun j=>decide (j∈l))))
def Z2y (deb:List Int) (g:Gr) (l:List Int):List Df:=if Z0B deb g l then Z1a ((Z0a l).take g.n) g.ds else []
theorem Zbt {l:List Int} {z:Nat} (h64:z < 64):(Z0a l).set z true=Z0a (l++[(z:Int)]):=by
 refine Z7W (by rw[List.length_set,marks_len,marks_len]) fun i hi=>?_
 rw[List.length_set,marks_len] at hi;rw[Z1Q hi,List.getD_eq_getElem?_getD,List.getElem?_set]
 by_cases e:z=i
 ·subst e
  rw[if_pos rfl,if_pos (by rw[marks_len];exact hi)];simp
 ·rw[if_neg e,←List.getD_eq_getElem?_getD,Z1Q hi,decide_eq_decide]
  constructor
  ·intro h;exact List.mem_append_left _ h
  ·intro h
   rcases List.mem_append.1 h with h | h
   ·exact h
   ·rw[List.mem_singleton] at h
    omega
theorem ZjP {l m:List Int} (hl:∀ k∈l,inN 64 k=true) (hm:∀ k∈m,inN 64 k=true):Z0a l=Z0a m ↔ ∀ k,k∈l ↔ k∈m:=by
 constructor
 ·intro h k
  have:∀ l m:List Int,(∀ k∈l,inN 64 k=true)->Z0a l=Z0a m->k∈l->k∈m:=fun l m hl h hk=>by
   have h1:=hl k hk;unfold inN at h1;simp only[Bool.and_eq_true,decide_eq_true_eq] at h1;have h2:=Z1Q (l:=l) (i:=k.toNat) (by omega);rw[h,Z1Q (by omega),decide_eq_decide,show ((k.toNat:Nat):Int)=k by omega] at h2
   exact h2.2 hk
  exact⟨this l m hl h,this m l hm h.symm⟩
 ·intro h
  unfold Z0a
  refine List.map_congr_left fun i _=>?_
  rw[decide_eq_decide];exact h _
theorem Zbu {deb:List Int} {g:Gr} (hn:g.ds.length=g.n) {i:Int}:∀ k∈Z0E deb g i,inN g.n k=true:=fun k hk=>by
 unfold Z0E at hk
 cases hc:inR i g.n && decide (Z13 deb g=0) with
 | false=>rw[hc] at hk;cases hk
 | true=>
  rw[hc,cond_true] at hk
  have hl:(Z0O g).length=g.n:=by simp[Z0O,hn]
  have:=Zbq (Z1Y hn) hk;unfold inN;simp;omega
theorem Ze8 {n m:Nat} (h:n≤m) {k:Int} (hk:inN n k=true):inN m k=true:=by
 unfold inN at hk ⊢;simp at hk ⊢
 omega
set_option maxRecDepth 100000 in
set_option maxHeartbeats 16000000 in
theorem Ze9 {I:GH} {deb:List Int} (hT:Tabs I deb) {g:Gr} (hg:g.ok I) {x:Rw} (hx:RwW I x) (hx2:x.n≤1000000):Spec Tryz.prog 34 [g.val,x.val] I [] fun v I' M'=>(∀ b o,I b=some o->I' b=some o)∧∃ h:Gr,v=.tuple #[h.val,.bool (Z0B deb g x.l)]∧GrM M' h∧h.ct=(grL (Z2y deb g x.l)).ct:=by
 refine Z01 [6,9] Z00 Tryz.func34 rfl rfl rfl ?_;intro B h0;have hgn:=hg.n
 have hxn:x.l.length=x.n:=by simpa using hx.rs.len
 refine CallOb.mk [] [] _ (.refl _) (Z6i hT hg) ?_;rintro v I1 N - ⟨rfl,hI1,rfl⟩
 have hno:∀ {M:List Blk},Z0B deb g x.l=false->∃ h:Gr,Value.tuple #[(⟨[],none,0,0⟩:Gr).val,.bool false]=.tuple #[h.val,.bool (Z0B deb g x.l)]∧GrM M h∧h.ct=(grL (Z2y deb g x.l)).ct:=fun h=>
  ⟨⟨[],none,0,0⟩,by rw[h],ZcX _,by rw[Z2y,h];rfl⟩
 by_cases hm:Z13 deb g=0
 rotate_left
 ·refine GuardOb.mk (fun h'=>absurd h' (by simp[hm])) (fun _=>?_)
  exact⟨_,_,.refl,hI1,hno (by rw[Z0B,decide_eq_false hm];rfl)⟩
 refine GuardOb.mk (fun _=>?_) (fun h'=>absurd h' (by simp[hm]))
 by_cases hx0:x.n=0
 ·refine CondOb.mk (fun _=>?_) (fun h'=>absurd h' (by simp[hx0]))
  have:x.l=[]:=List.eq_nil_of_length_eq_zero (by omega);exact⟨_,_,.refl,hI1,hno (by rw[Z0B,this];simp)⟩
 refine CondOb.mk (fun h'=>absurd h' (by simp[hx0])) (fun _=>?_);have h64:=Zfe hm
 have hT1:=hT.mono hI1;have hg1:=hg.mono hI1;have hx1:=hx.mono hI1
 refine AllocOb.mk fun b hb hbM=>?_
 refine LoopOb.inv (ι:=Nat) (fun k=>{ fl:=[(1,.val x.val),(2,.ref 2 0),(4,.ref 4 0),(6,.val (.pointer (some ⟨b,0,none⟩))),(23,.val x.val),(24,.val (.int .i64 x.n)),(25,.val (.int .i64 k))],cl:=[(2,[.slice g.a g.n g.c]),(4,[.slice none 0 0])],gi:=I1,mi:=[Z2e b (Z0a (x.l.take k))] }) (fun k=>k≤x.n∧(x.l.take k).all (inN g.n)=true∧(x.l.take k).Nodup) (fun k=>x.n - k) ?_ ?_
 ·exact⟨0,⟨Nat.zero_le _,rfl,.nil⟩,.refl,aF7,.cons rfl (.cons rfl (.nil))⟩
 rintro k ⟨hk,hin,hnd⟩;refine CondOb.mk (fun h'=>?_) (fun h'=>?_)
 ·have hlt:k < x.n:=by have:(k:Int) < (x.n:Int):=of_decide_eq_true h';omega
  have hkl:k < x.l.length:=by omega
  obtain⟨ad,had,hrd⟩:=hx1.rs.one hlt hkl;have htk:=List.take_succ_eq_append_getElem hkl;have hmem:=List.getElem_mem hkl
  have hsub:∀ y,y∈x.l.take (k+1)->y∈x.l:=fun y hy=>List.mem_of_mem_take hy
  have hnod:x.l.Nodup->(x.l.take (k+1)).Nodup:=fun h=>h.sublist (List.take_sublist _ _)
  generalize x.l[k]=z at hrd htk hmem;refine IdxOb.mk ad k had rfl hlt ?_;refine LoadOb.mk _ (hrd _) ?_
  have hbad:inN g.n z=false->Z0B deb g x.l=false:=fun h=>by
   cases hc:Z0B deb g x.l with
   | false=>rfl
   | true=>
    simp only[Z0B,Bool.and_eq_true] at hc;have:=List.all_eq_true.1 hc.2.2.1 z hmem;rw[h] at this;cases this
  by_cases hz0:z < 0
  ·refine GuardOb.mk (fun h'=>absurd h' (by simp[hz0])) (fun _=>?_)
   exact⟨_,_,.sub (List.nil_sublist _) .refl,hI1,hno (hbad (by unfold inN;simp;omega))⟩
  refine GuardOb.mk (fun _=>?_) (fun h'=>absurd h' (by simp[hz0]))
  by_cases hzn:(g.n:Int)≤z
  ·refine GuardOb.mk (fun h'=>absurd h' (by simp[hzn])) (fun _=>?_)
   exact⟨_,_,.sub (List.nil_sublist _) .refl,hI1,hno (hbad (by unfold inN;simp;omega))⟩
  refine GuardOb.mk (fun _=>?_) (fun h'=>absurd h' (by simp[hzn]));obtain⟨y,rfl⟩:=Int.eq_ofNat_of_zero_le (show 0≤z by omega)
  refine ArrOb.mk y rfl (by omega) ?_;refine LoadOb.mk _ (Ze6 (b:=b) (s:=Z0a (x.l.take k)) (.head _) (by rw[marks_len];omega)) ?_;have hget:=Z1Q (l:=x.l.take k) (i:=y) (by omega);refine CondOb.mk (fun h'=>?_) (fun h'=>?_)
  ·have h':(Z0a (x.l.take k)).getD y false=true:=h'
   rw[hget] at h';have h':=of_decide_eq_true h';refine⟨_,_,.sub (List.nil_sublist _) .refl,hI1,hno ?_⟩
   cases hc:Z0B deb g x.l with
   | false=>rfl
   | true=>
    simp only[Z0B,Bool.and_eq_true,decide_eq_true_eq] at hc;have:=hnod hc.2.2.2.1;rw[htk,List.nodup_append] at this;exact absurd rfl (this.2.2 _ h' _ (.head _))
  ·have h':(Z0a (x.l.take k)).getD y false=false:=h'
   rw[hget] at h';have h':=of_decide_eq_false h';refine ArrOb.mk y rfl (by omega) ?_;refine StoreOb.add [] [] _ 118 rfl (by show 0+y * 1+1≤((Z0a _).map Value.bool).toArray.size;rw[List.size_toArray,List.length_map,marks_len];omega) rfl ?_;refine ArithOb.mk _ (Z03 (i:=k) (by omega)) ?_;refine⟨k+1,⟨⟨hlt,?_,?_⟩,by omega⟩,.eqM ?_,aF7,.cons rfl (.cons rfl (.nil))⟩
   ·rw[htk,List.all_append,hin]
    simp[inN];omega
   ·rw[htk,List.nodup_append]
    refine⟨hnd,by simp,fun a ha c hc=>?_⟩;rw[List.mem_singleton.1 hc]
    rintro rfl;exact h' ha
   ·rw[htk,←Zbt (by omega),←Z7X (by rw[marks_len];omega),Nat.zero_add,Nat.mul_one]
    rfl
 have hge:k=x.n:=by have:¬ (k:Int) < (x.n:Int):=of_decide_eq_false h';omega
 subst hge;rw[List.take_of_length_le (by omega)] at hin hnd ⊢;have hin:=List.all_eq_true.1 hin
 refine LoadOb.mk _ (Z3F (b:=b) (s:=Z0a x.l) (.head _) (marks_len _)) ?_
 refine AllocOb.mk fun b2 hb2 hb2M=>?_
 have hone:Z0z ((Z0a x.l).map Value.bool).toArray.toList=true:=List.all_eq_true.2 fun v hv=>by
  rw[List.toList_toArray] at hv;obtain⟨c,-,rfl⟩:=List.mem_map.1 hv;rfl
 refine StoreOb.mk [] [Z2e b (Z0a x.l)] _ 118 rfl rfl (by show 0+((Z0a x.l).map Value.bool).toArray.toList.length≤64;rw[List.toList_toArray,List.length_map,marks_len];decide) hone ?_;refine LoopOb.inv (ι:=Nat×GH) (fun y=>{ fl:=[(2,.ref 2 0),(4,.ref 4 0),(6,.val (.pointer (some ⟨b,0,none⟩))),(9,.val (.pointer (some ⟨b2,0,none⟩))),(48,.val x.val),(49,.val (.int .i64 x.n)),(50,.val (.int .i64 y.1))],cl:=[(2,[.slice g.a g.n g.c]),(4,[.slice none 0 0])],gi:=y.2,mi:=[Z2e b2 (Z0a (x.l++(x.l.take y.1).flatMap (Z0E deb g))),Z2e b (Z0a x.l)] }) (fun y=>y.1≤x.n∧∀ b o,I1 b=some o->y.2 b=some o) (fun y=>x.n - y.1) ?_ ?_
 ·refine⟨(0,I1),⟨Nat.zero_le _,fun _ _ h=>h⟩,.eqM ?_,aF7,.cons rfl (.cons rfl (.nil))⟩
  have hsp:Z05 (List.replicate 64 (Value.bool false)) 0 ((Z0a x.l).map Value.bool)=(Z0a x.l).map Value.bool:=by
   unfold Z05;rw[List.take_zero,List.nil_append,List.drop_of_length_le (by simp[marks_len]),List.append_nil]
  simp only[List.take_zero,List.flatMap_nil,List.append_nil]
  show [(⟨b2,.cells (Z05 (List.replicate 64 (Value.bool false)) 0 ((Z0a x.l).map Value.bool)).toArray 118 (0,0)⟩:Blk),Z2e b (Z0a x.l)]=_
  rw[hsp];rfl
 rintro⟨k,J⟩ ⟨hk,hJ⟩;simp only at hk hJ
 have hTJ:=hT1.mono hJ;have hgJ:=hg1.mono hJ;refine CondOb.mk (fun h'=>?_) (fun h'=>?_)
 ·have hlt:k < x.n:=by have:(k:Int) < (x.n:Int):=of_decide_eq_true h';omega
  have hkl:k < x.l.length:=by omega
  obtain⟨ad,had,hrd⟩:=(hx1.mono hJ).rs.one hlt hkl;have htk:=List.take_succ_eq_append_getElem hkl;generalize x.l[k]=z at hrd htk;refine IdxOb.mk ad k had rfl hlt ?_;refine LoadOb.mk _ (hrd _) ?_;refine CallOb.mk [] [Z2e b2 (Z0a (x.l++(x.l.take k).flatMap (Z0E deb g))),Z2e b (Z0a x.l)] _ (.refl _) (Zex hTJ hgJ (by omega) z) ?_;rintro v J2 N - ⟨hJ2,y,rfl,hy,hyl,rfl⟩;have hyn:=hy.n
  have hycap:=hy.rs.cap;have hylt:=Zbu (deb:=deb) hgn (i:=z);rw[←hyl] at hylt
  refine LoopOb.inv (ι:=Nat) (fun m=>{ fl:=[(2,.ref 2 0),(4,.ref 4 0),(6,.val (.pointer (some ⟨b,0,none⟩))),(9,.val (.pointer (some ⟨b2,0,none⟩))),(48,.val x.val),(49,.val (.int .i64 x.n)),(50,.val (.int .i64 k)),(56,.val y.val),(57,.val (.int .i64 y.n)),(58,.val (.int .i64 m))],cl:=[(2,[.slice g.a g.n g.c]),(4,[.slice none 0 0])],gi:=J2,mi:=[Z2e b2 (Z0a (x.l++((x.l.take k).flatMap (Z0E deb g)++y.l.take m))),Z2e b (Z0a x.l)] }) (fun m=>m≤y.n) (fun m=>y.n - m) ?_ ?_
  ·refine⟨0,Nat.zero_le _,.eqM ?_,Zoy,.cons rfl (.cons rfl (.nil))⟩
   simp only[List.take_zero,List.append_nil];rfl
  intro m hm2;refine CondOb.mk (fun h'=>?_) (fun h'=>?_)
  ·have hlt2:m < y.n:=by have:(m:Int) < (y.n:Int):=of_decide_eq_true h';omega
   have hml:m < y.l.length:=by omega
   obtain⟨bd,hbd,hrb⟩:=hy.rs.one hlt2 hml;have htm:=List.take_succ_eq_append_getElem hml;have hlw:=hylt _ (List.getElem_mem hml);generalize y.l[m]=w at hrb htm hlw
   unfold inN at hlw;simp only[Bool.and_eq_true,decide_eq_true_eq] at hlw;obtain⟨u,rfl⟩:=Int.eq_ofNat_of_zero_le hlw.1;refine IdxOb.mk bd m hbd rfl hlt2 ?_;refine LoadOb.mk _ (hrb _) ?_;refine ArrOb.mk u rfl (by omega) ?_;refine StoreOb.add [] [Z2e b (Z0a x.l)] _ 118 rfl (by show 0+u * 1+1≤((Z0a _).map Value.bool).toArray.size;rw[List.size_toArray,List.length_map,marks_len];omega) rfl ?_;refine ArithOb.mk _ (Z03 (i:=m) (by omega)) ?_;refine⟨m+1,⟨hlt2,by omega⟩,.eqM ?_,Zoy,.cons rfl (.cons rfl (.nil))⟩
   have e:Z0a (x.l++((x.l.take k).flatMap (Z0E deb g)++(y.l.take m++[(u:Int)])))=(Z0a (x.l++((x.l.take k).flatMap (Z0E deb g)++y.l.take m))).set u true:=by
    rw[Zbt (by omega)]
    congr 1
    simp
   rw[htm];rw[e,←Z7X (by rw[marks_len];omega),Nat.zero_add,Nat.mul_one]
   rfl
  ·have hge:m=y.n:=by have:¬ (m:Int) < (y.n:Int):=of_decide_eq_false h';omega
   subst hge;refine ArithOb.mk _ (Z03 (i:=k) (by omega)) ?_;refine⟨(k+1,J2),⟨⟨hlt,fun c o h=>hJ2 _ _ (hJ _ _ h)⟩,by simp only;omega⟩,.eqM ?_,aF7,.cons rfl (.cons rfl (.nil))⟩;simp only
   rw[htk,List.flatMap_append,List.take_of_length_le (l:=y.l) (by omega),hyl];simp
 have hge:k=x.n:=by have:¬ (k:Int) < (x.n:Int):=of_decide_eq_false h';omega
 subst hge;rw[List.take_of_length_le (by omega)];refine LoadOb.mk _ (Z3F (b:=b2) (s:=Z0a (x.l++x.l.flatMap (Z0E deb g))) (.head _) (marks_len _)) ?_
 refine LoadOb.mk _ (Z3F (b:=b) (s:=Z0a x.l) (.tail _ (.head _)) (marks_len _)) ?_;refine Zif (marks_len _) (marks_len _) ?_
 have hin64:∀ y∈x.l,inN 64 y=true:=fun y hy=>Ze8 h64 (hin y hy)
 have hall64:∀ y∈x.l++x.l.flatMap (Z0E deb g),inN 64 y=true:=fun y hy=>by
  rcases List.mem_append.1 hy with hy | hy
  ·exact hin64 y hy
  ·obtain⟨z,-,hz⟩:=List.mem_flatMap.1 hy
   exact Ze8 h64 (Zbu hgn y hz)
 have hiff:Z0a (x.l++x.l.flatMap (Z0E deb g))=Z0a x.l ↔ (x.l.all fun i=>(Z0E deb g i).all fun j=>decide (j∈x.l))=true:=by
  rw[ZjP hall64 hin64];simp only[List.all_eq_true,decide_eq_true_eq]
  constructor
  ·intro h i hi j hj
   exact(h j).1 (List.mem_append_right _ (List.mem_flatMap.2 ⟨i,hi,hj⟩))
  ·intro h y
   constructor
   ·intro hy
    rcases List.mem_append.1 hy with hy | hy
    ·exact hy
    ·obtain⟨z,hz,hz2⟩:=List.mem_flatMap.1 hy
     exact h z hz y hz2
   ·intro hy;exact List.mem_append_left _ hy
 have hx0':x.l≠[]:=fun e=>hx0 (by rw[←hxn,e];rfl)
 have hkeep:Z0B deb g x.l=decide (Z0a (x.l++x.l.flatMap (Z0E deb g))=Z0a x.l):=by
  rw[Z0B,decide_eq_true hm,decide_eq_true hx0',List.all_eq_true.2 hin,decide_eq_true hnd];simp only[Bool.true_and]
  rw[Bool.eq_iff_iff,←hiff,decide_eq_true_iff]
 by_cases he:Z0a (x.l++x.l.flatMap (Z0E deb g))=Z0a x.l
 rotate_left
 ·refine CondOb.mk (fun _=>?_) (fun h'=>absurd h' (by simp[he]))
  exact⟨_,_,.sub (List.nil_sublist _) .refl,fun c o h=>hJ _ _ (hI1 _ _ h),hno (by rw[hkeep,decide_eq_false he])⟩
 refine CondOb.mk (fun h'=>absurd h' (by simp[he])) (fun _=>?_);refine LoadOb.mk _ (Z3F (b:=b) (s:=Z0a x.l) (.tail _ (.head _)) (marks_len _)) ?_
 refine CallOb.mk [] [Z2e b2 (Z0a (x.l++x.l.flatMap (Z0E deb g))),Z2e b (Z0a x.l)] _ (.refl _) (Zbr hgJ (marks_len _) (by omega)) ?_;rintro v J2 N - ⟨hJ2,h',rfl,hh,hhct⟩;subst J2
 refine⟨_,_,.sub (List.sublist_append_left _ _) .refl,fun c o h=>hJ _ _ (hI1 _ _ h),h',?_,hh,?_⟩
 ·rw[hkeep,decide_eq_true he]
  rfl
 ·rw[hhct,Z2y,hkeep,decide_eq_true he,if_pos rfl]
structure N4 (u:Tr) (x:Nat×Nat):Prop where
 q:x.2≤u.n
 p:x.1≤600
 small:x.1 < 200->u.n < 200∧x.2≤u.n∧u.n≤x.1∧∀ i (h:i < u.ns.length),i < x.2->Ns11 u.ns[i]
set_option maxRecDepth 100000 in
set_option maxHeartbeats 4000000 in
theorem ZcY {I:GH} {M0:List Blk} {u:Tr} (hW:TrW I u) :
  Spec Tryz.prog 77 [u.val] I M0 fun v I' M'=>(∃ w:Nat,v=.int .i64 w∧w≤600∧(w < 200->Ts11 u))∧I'=I∧M'=M0:=by
 refine Z01 [] Z00 Tryz.func77 rfl rfl rfl ?_;intro B h0;have hWn:=hW.n;have hcap:=hW.rs.cap;refine LoopOb.inv (ι:=Nat×Nat) (fun x=>{ fl:=[(1,.ref 1 0),(3,.val (.int .i64 x.1)),(4,.val (.int .i64 x.2))],cl:=[(1,u.cells)],gi:=I,mi:=M0 }) (fun x=>N4 u x) (fun x=>u.n - x.2) ?_ ?_
 ·refine⟨(min 200 u.n,0),⟨Nat.zero_le _,by simp only;omega,fun h=>⟨by simp only at h;omega,Nat.zero_le _,by simp only at h ⊢;omega,fun i _ h=>by simp at h⟩⟩,.refl,.cons .refl (.cons ?_ (.cons .refl .nil)),.cons rfl (.nil)⟩
  simp only;rw[show ((min 200 u.n:Nat):Int)=min 200 (u.n:Int) by omega];exact .refl
 rintro⟨p,q⟩ ⟨hq,hp,hsm⟩;simp only at hq hp hsm
 have fin:(p < 200->u.n≤q)->∃ w:Nat,Value.int .i64 (p:Int)=.int .i64 w∧w≤600∧(w < 200->Ts11 u):=fun h=>by
  refine⟨p,rfl,hp,fun h2=>?_⟩;obtain⟨u1,u2,u3,u4⟩:=hsm h2
  have:=h h2
  exact⟨by omega,fun nd hnd=>by
   obtain⟨y,hy,rfl⟩:=List.getElem_of_mem hnd
   exact u4 y hy (by omega)⟩
 refine GuardOb.mk (fun h5=>CondOb.mk (fun h6=>?_) (fun h6=>?_)) (fun h5=>?_)
 ·have hql:q < u.n:=by simpa using h5
  have hp2:p < 200:=by have:=of_decide_eq_true h6;omega
  obtain⟨u1,u2,u3,u4⟩:=hsm hp2
  have hql':q < u.ns.length:=by omega
  obtain⟨bd,hbd,hrb⟩:=hW.rs.row Nd.cells_len hql hql';have hnd:=hW.ns _ (List.getElem_mem hql');have hts:=hnd.ts
  have r3:∀ M,Rd I M ((bd.add (q * 9)).add 8) 1 [.slice u.ns[q].ka u.ns[q].kn u.ns[q].kc]:=fun M=>(hrb M).part (k:=8) (m:=1) (by decide)
  have r4:∀ M,Rd I M ((bd.add (q * 9)).add 5) 1 [.string u.ns[q].t]:=fun M=>(hrb M).part (k:=5) (m:=1) (by decide)
  generalize hxx:u.ns[q]=nd at hnd hts r3 r4;refine CodeOb.draw Z00 rfl rfl rfl ?_;refine IdxOb.mk bd q hbd rfl hql ?_;refine LoadOb.mk _ (r3 _) ?_;refine ArithOb.mk ((p+min 200 nd.kn:Nat):Int) (Z3h (by omega) (by omega)) ?_;refine IdxOb.mk bd q hbd rfl hql ?_;refine LoadOb.mk _ (r4 _) ?_;refine DivOb.mk (by decide) ?_;refine ArithOb.mk ((nd.t.size / 20:Nat):Int) (Z3h (by rw[Int.tdiv_eq_ediv_of_nonneg (by omega)];omega) (by omega)) ?_;refine ArithOb.mk ((p+min 200 nd.kn+min 200 (nd.t.size / 20):Nat):Int) (Z3h (by omega) (by omega)) ?_;refine ArithOb.mk _ (Z03 (i:=q) (by omega)) ?_;refine⟨(_,q+1),⟨⟨by simp only;omega,by simp only;omega,fun h7=>?_⟩,by simp only;omega⟩,.refl,aF3,.cons rfl (.nil)⟩;simp only at h7 ⊢
  refine⟨u1,by omega,by omega,fun i hi hi2=>?_⟩
  by_cases e:i=q
  ·subst e
   rw[hxx];exact⟨by omega,by omega⟩
  ·exact u4 i hi (by omega)
 ·have hp2:200≤p:=by have:=of_decide_eq_false h6;omega
  exact⟨_,_,.refl,fin (fun h=>by omega),rfl,rfl⟩
 ·have hql:u.n≤q:=by simpa using h5
  exact⟨_,_,.refl,fin (fun h=>hql),rfl,rfl⟩
structure N5 (g:Gr) (x:Nat×Nat):Prop where
 k:x.2≤g.n
 p:x.1≤1200
 small:x.1 < 200->x.2≤x.1∧∀ i (h:i < g.ds.length),i < x.2->Ds11 g.ds[i]
set_option maxRecDepth 100000 in
set_option maxHeartbeats 4000000 in
theorem Zbv {I:GH} {g:Gr} (hg:GrW I g) :
  Spec Tryz.prog 37 [g.val,.slice none 0 0] I [] fun v I' M'=>(∃ r,v=.bool r∧(r=false->Gs11 g))∧I'=I∧M'=[]:=by
 refine Z01 [] Z00 Tryz.func37 rfl rfl rfl ?_;intro B h0;have hgn:=hg.n;have hcap:=hg.rs.cap;refine LoopOb.inv (ι:=Nat×Nat) (fun x=>{ fl:=[(1,.val (.slice none 0 0)),(2,.ref 2 0),(5,.val (.int .i64 x.1)),(6,.val (.int .i64 x.2))],cl:=[(2,[.slice g.a g.n g.c])],gi:=I }) (fun x=>N5 g x) (fun x=>g.n - x.2) ?_ ?_
 ·exact⟨(0,0),⟨Nat.zero_le _,Nat.zero_le _,fun h=>⟨Nat.le_refl _,fun i _ h=>by simp at h⟩⟩,.refl,aF4,.cons rfl (.nil)⟩
 rintro⟨p,k⟩ ⟨hk,hp,hsm⟩;simp only at hk hp hsm
 have fin:(p < 200->g.n≤k)->∀ c:Bool,c=decide ((200:Int)≤(p:Int))->(c=false->Gs11 g):=fun h c hc hf=>by
  rw[hf] at hc
  have hp2:p < 200:=by
   have:=of_decide_eq_false hc.symm;omega
  obtain⟨u1,u2⟩:=hsm hp2;have:=h hp2
  exact⟨by omega,fun d hd=>by
   obtain⟨y,hy,rfl⟩:=List.getElem_of_mem hd
   exact u2 y hy (by omega)⟩
 refine GuardOb.mk (fun h5=>CondOb.mk (fun h6=>?_) (fun h6=>?_)) (fun h5=>?_)
 ·have hkl:k < g.n:=by simpa using h5
  have hp2:p < 200:=by have:=of_decide_eq_true h6;omega
  obtain⟨u1,u2⟩:=hsm hp2
  have hkl':k < g.ds.length:=by omega
  obtain⟨ad,had,hrd⟩:=hg.rs.row Df.cells_len hkl hkl';have hd:=hg.ds _ (List.getElem_mem hkl');have hnm:=hd.name
  have hW:=hd.t
  have r1:∀ M,Rd I M ((ad.add (k * 3)).add 0) 1 [.string g.ds[k].name]:=fun M=>(hrd M).part (k:=0) (m:=1) (by decide)
  have r2:∀ M,Rd I M ((ad.add (k * 3)).add 1) 2 g.ds[k].t.cells:=fun M=>(hrd M).part (k:=1) (m:=2) (by decide)
  have hds:g.ds[k]=⟨g.ds[k].name,g.ds[k].t⟩:=rfl;generalize g.ds[k].name=nm at hnm r1 hds;generalize g.ds[k].t=u at hW r2 hds;refine CodeOb.draw Z00 rfl rfl rfl ?_;refine ArithOb.mk ((p+1:Nat):Int) (Z3h (by omega) (by omega)) ?_;refine IdxOb.mk ad k had rfl hkl ?_;refine LoadOb.mk _ (r1 _) ?_;refine DivOb.mk (by decide) ?_;refine ArithOb.mk ((nm.size / 20:Nat):Int) (Z3h (by rw[Int.tdiv_eq_ediv_of_nonneg (by omega)];omega) (by omega)) ?_;refine ArithOb.mk ((p+1+min 200 (nm.size / 20):Nat):Int) (Z3h (by omega) (by omega)) ?_;refine IdxOb.mk ad k had rfl hkl ?_;refine LoadOb.mk _ (r2 _) ?_;refine PCallOb.whole _ (ZcY hW) (fun v I' M' h x hx=>by rw[h.2.2];exact hx) ?_;rintro v K1 N - ⟨⟨w,rfl,hw,hws⟩,hK1,hN⟩;subst K1
  subst N;refine ArithOb.mk ((p+1+min 200 (nm.size / 20)+w:Nat):Int) (Z3h (by omega) (by omega)) ?_;refine ArithOb.mk _ (Z03 (i:=k) (by omega)) ?_;refine⟨(_,k+1),⟨⟨by simp only;omega,by simp only;omega,fun h7=>?_⟩,by simp only;omega⟩,.refl,aF4,.cons rfl (.nil)⟩;simp only at h7 ⊢
  refine⟨by omega,fun i hi hi2=>?_⟩
  by_cases e:i=k
  ·subst e
   rw[hds];exact⟨by simp only;omega,hws (by omega)⟩
  ·exact u2 i hi (by omega)
 ·have hp2:200≤p:=by have:=of_decide_eq_false h6;omega
  refine LoopOb.unroll 1 ?_;refine GuardOb.mk (fun h=>absurd h (by simp)) (fun _=>?_);exact⟨_,_,.refl,⟨_,rfl,fin (fun h=>by omega) _ rfl⟩,rfl,rfl⟩
 ·have hkl:g.n≤k:=by simpa using h5
  refine LoopOb.unroll 1 ?_;refine GuardOb.mk (fun h=>absurd h (by simp)) (fun _=>?_);exact⟨_,_,.refl,⟨_,rfl,fin (fun h=>hkl) _ rfl⟩,rfl,rfl⟩
def Zmb (J:GH) (os:OS) (e:Nat):GH:=match os.a with
 | some g=>ins J g (.cells os.cur.toArray e (0,0))
 | none=>J
theorem ZcZ {foot:List Nat} {J:GH} {os:OS} {e:Nat} {post:List Blk} (hf:∀ g,os.a=some g->g ∉ foot):Wk foot J (os.blk e++post) (Zmb J os e) post:=by
 obtain⟨a,n,c,cur⟩:=os
 cases a with
 | none=>exact .refl
 | some g=>exact .prom rfl (hf g rfl) .refl
theorem Zd0 {J:GH} {os:OS} {e:Nat} {M:List Blk} (h:∀ x∈os.blk e++M,J x.num=none):∀ b o,J b=some o->Zmb J os e b=some o:=by
 obtain⟨a,n,c,cur⟩:=os
 cases a with
 | none=>exact fun _ _ h=>h
 | some g=>exact Z2p (h ⟨g,_⟩ (.head _))
theorem Zd1 {J:GH} {os:OS} {size e b:Nat} {xs:List Value} (h:os.ok size xs) (hb:os.n * b≤140737488355328):RS (Zmb J os e) (os.a.map fun g=>⟨g,0,none⟩) os.n os.c size b xs:=by
 obtain⟨a,n,c,cur⟩:=os
 cases a with
 | none=>
  obtain⟨h1,h2⟩:=h.nil rfl;exact⟨h.len,⟨by simp only at h1 h2 ⊢;omega,hb⟩,.inl h1⟩
 | some g=>
  obtain⟨h1,h2,h3,h4⟩:=h.cap g rfl;exact⟨h.len,⟨h2,hb⟩,.inr ⟨⟨g,0,none⟩,rfl,rfl,cur.toArray,e,(0,0),Z2b ..,by simpa using h4⟩⟩
structure OwT (J0:GH) (t:Tr) (os0:OS) (x:Nat×OS×List Nd×GH):Prop where
 i:x.1≤t.n
 ok:x.2.1.ok 9 (x.2.2.1.flatMap Nd.cells)
 ct:x.2.2.1.map Nd.ct=t.ns.map Nd.ct
 ns:∀ d∈x.2.2.1,d.ok x.2.2.2
 le:∀ b o,J0 b=some o->x.2.2.2 b=some o
 a:x.2.1.a=os0.a
 v:x.2.1.val=os0.val
structure OwG (I:GH) (g:Gr) (x:Nat×OS×List Df×GH):Prop where
 i:x.1≤g.n
 ok:x.2.1.ok 3 (x.2.2.1.flatMap Df.cells)
 ct:x.2.2.1.map Df.ct=(g.ds.take x.1).map Df.ct
 ds:∀ d∈x.2.2.1,d.ok x.2.2.2
 le:∀ b o,I b=some o->x.2.2.2 b=some o
set_option maxRecDepth 100000 in
set_option maxHeartbeats 8000000 in
theorem Zig {I:GH} {g:Gr} (hg:g.ok I) (hgs:Gs11 g):Spec Tryz.prog 39 [g.val] I [] fun v I' M'=>(∀ b o,I b=some o->I' b=some o)∧∃ (os:OS) (L:List Df),v=.agg #[os.val]∧os.n=g.n∧os.ok 3 (L.flatMap Df.cells)∧M'=os.blk 46∧L.map Df.ct=g.ds.map Df.ct∧∀ d∈L,d.ok I':=by
 refine Z01 [] Z00 Tryz.func39 rfl rfl rfl ?_;intro B h0;have hgn:=hg.n;have hg4:=hgs.n;refine LoopOb.invF (ι:=Nat×OS×List Df×GH) (fun x=>{ fl:=[(1,.ref 1 0),(2,.ref 2 0),(3,.ref 3 0),(4,.val (.int .i64 x.1))],cl:=[(1,[.slice g.a g.n g.c]),(2,[.slice none 0 0]),(3,[x.2.1.val])],gi:=x.2.2.2,mi:=x.2.1.blk 46++[] }) (fun x=>OwG I g x) (fun x=>g.n - x.1) ?_ ?_
 ·intro _
  exact⟨(0,OS0,[],I),⟨Nat.zero_le _,Z1C 3,rfl,(fun d hd=>by cases hd),fun _ _ h=>h⟩,.refl,aF4,.cons rfl (.cons rfl (.cons rfl (.nil)))⟩
 rintro⟨i,osG,L,J⟩ ⟨hi,hosG,hct,hds,hle⟩;simp only at hi hosG hct hds hle
 have hgl:L.length=osG.n:=by
  have:=hosG.len;rw[Z0i _ 3 Df.cells_len] at this;omega
 refine CondOb.mk (fun h=>?_) (fun h=>?_)
 rotate_left
 ·have hge:i=g.n:=by have:¬ (i:Int) < (g.n:Int):=of_decide_eq_false h;omega
  subst hge;rw[List.take_of_length_le (by omega)] at hct
  have hl:L.length=g.ds.length:=by simpa using congrArg List.length hct
  exact⟨_,_,.refl,hle,osG,L,rfl,by omega,hosG,by rw[List.append_nil],hct,hds⟩
 have hlt:i < g.n:=by have:(i:Int) < (g.n:Int):=of_decide_eq_true h;omega
 have hil:i < g.ds.length:=by omega
 have hLl:L.length=i:=by
  have:=congrArg List.length hct;rw[List.length_map,List.length_map,List.length_take] at this;omega
 have hgJ:=hg.mono hle;obtain⟨ad,had,hrd⟩:=hgJ.rs.row Df.cells_len hlt hil;have htk:=List.take_succ_eq_append_getElem hil;have hdd:=hgJ.ds _ (List.getElem_mem hil);have hss:=hgs.ds _ (List.getElem_mem hil)
 have r1:∀ M,Rd J M ((ad.add (i * 3)).add 0) 1 [.string g.ds[i].name]:=fun M=>(hrd M).part (k:=0) (m:=1) (by decide)
 have r2:∀ M,Rd J M ((ad.add (i * 3)).add 1) 2 g.ds[i].t.cells:=fun M=>(hrd M).part (k:=1) (m:=2) (by decide)
 generalize g.ds[i]=df at htk hdd hss r1 r2;obtain⟨nm,t⟩:=df;have ht:=hdd.t;have hnm:=hdd.name;have hts:=hss.t;have htn4:=hts.n;simp only at r1 r2 ht hnm htn4;have htn:=ht.n;refine IdxOb.mk ad i had rfl hlt ?_;refine LoadOb.mk _ (r2 _) ?_
 refine AllocOb.mk fun b hb hbM=>?_
 refine OtherOb.appL Z00 rfl (by simp) (e:=91) rfl rfl rfl ⟨some b,0,0,[]⟩ (xs:=[]) ⟨rfl,(fun h=>by cases h),(fun g h=>⟨rfl,Nat.le_refl _,Nat.zero_le _,rfl⟩)⟩ rfl (sa:=t.a) (m:=t.n) (c':=t.c) (news:=t.ns.flatMap Nd.cells) rfl ht.rs.len (ht.rs.one' _) (Z6B Nd.one _) [] (osG.blk 46++[]) rfl (by simp only;omega) (by show (0+t.n) * 96≤_;omega) ?_;intro os0 hn0 hI0 hos0;rw[List.nil_append] at hos0
 have hn0:os0.n=t.n:=by rw[hn0];exact Nat.zero_add _
 refine LoopOb.invF (ι:=Nat×OS×List Nd×GH) (fun x=>{ fl:=[(1,.ref 1 0),(2,.ref 2 0),(3,.ref 3 0),(4,.val (.int .i64 i)),(5,.ref 5 0),(6,.val os0.val),(7,.val (.int .i64 x.1))],cl:=[(1,[.slice g.a g.n g.c]),(2,[.slice none 0 0]),(3,[osG.val]),(5,t.cells)],gi:=x.2.2.2,mi:=x.2.1.blk 91++(osG.blk 46++[]) }) (fun x=>OwT J t os0 x) (fun x=>t.n - x.1) ?_ ?_
 ·intro _
  exact⟨(0,os0,t.ns,J),⟨Nat.zero_le _,hos0,rfl,ht.ns,fun _ _ h=>h,rfl,rfl⟩,.refl,aF7,.cons rfl (.cons rfl (.cons rfl (.cons rfl (.nil))))⟩
 rintro⟨k,os,N,K⟩ ⟨hk,hos,hnct,hns,hleK,hoa,hov⟩;simp only at hk hos hnct hns hleK hoa hov
 have hNl:N.length=t.ns.length:=by simpa using congrArg List.length hnct
 obtain⟨hon,hoc⟩:=Znt hov;refine CondOb.mk (fun h2=>?_) (fun h2=>?_)
 ·have hlk:k < t.n:=by have:(k:Int) < (os0.n:Int):=of_decide_eq_true h2;omega
  have hkN:k < N.length:=by omega
  obtain⟨nd,hnd,hrn⟩:=OS.ok.row (I:=K) (e:=91) Nd.cells_len (by decide) hos (M:=os.blk 91++(osG.blk 46++[])) (fun z hz=>List.mem_append_left _ hz) hkN;have hndK:=hns _ (List.getElem_mem hkN);have hndI:=hnd
  rw[hoa] at hndI;have hkids:N[k].kids.length=N[k].kn:=hndK.kn
  have hkb:N[k].kn < 400:=by
   obtain⟨z,hz,e⟩:∃ z∈t.ns,z.ct=N[k].ct:=by
    have h5:N[k].ct∈t.ns.map Nd.ct:=by rw[←hnct];exact List.mem_map.2 ⟨_,List.getElem_mem hkN,rfl⟩
    obtain⟨z,hz,e⟩:=List.mem_map.1 h5;exact⟨z,hz,e⟩
   have h6:=(hts.ns z hz).kn;have h7:=(ht.ns z hz).kn;have h80:=congrArg Nd.kids e;have h8:z.kids=N[k].kids:=h80;rw[h8] at h7;omega
  refine AllocOb.mk fun b2 hb2 hb2M=>?_
  refine IdxOb.mk nd k hndI rfl (show k < os0.n by omega) ?_;refine LoadOb.mk [.slice N[k].ka N[k].kn N[k].kc] ?_ ?_
  ·have h3:=hrn.part (k:=8) (m:=1) (by decide)
   obtain⟨q1,cs,T,fr,q2,q3⟩:=h3;exact⟨q1,cs,T,fr,q2.mono (fun _ _ h=>h) (fun x hx=>.tail _ hx),q3⟩
  refine OtherOb.appL Z00 rfl (by simp) (e:=3) rfl rfl rfl ⟨some b2,0,0,[]⟩ (xs:=[]) ⟨rfl,(fun h=>by cases h),(fun g h=>⟨rfl,Nat.le_refl _,Nat.zero_le _,rfl⟩)⟩ rfl (sa:=N[k].ka) (m:=N[k].kn) (c':=N[k].kc) (news:=N[k].kids.map (.int .i64 ·)) rfl (by simpa using hndK.rs.len) (hndK.rs.one' _) (Z53 _) [] (os.blk 91++(osG.blk 46++[])) rfl (by simp only;omega) (by show (0+N[k].kn) * 8≤_;omega) ?_;intro osk hnk hIk hosk;rw[List.nil_append] at hosk
  have hnk:osk.n=N[k].kn:=by rw[hnk];exact Nat.zero_add _
  refine IdxOb.mk nd k hndI rfl (show k < os0.n by omega) ?_;have hnew:({ N[k] with ka:=osk.a.map fun g=>⟨g,0,none⟩,kn:=osk.n,kc:=osk.c }:Nd).ct=N[k].ct:=rfl;have hset:=ZkI hkN hnew;refine OS.putP (e:=91) Nd.cells 9 Nd.cells_len hos hkN 8 (vs:=[osk.val]) (Nat.le_of_ble_eq_true rfl) rfl { N[k] with ka:=osk.a.map fun g=>⟨g,0,none⟩,kn:=osk.n,kc:=osk.c } rfl (osk.blk 3) (osG.blk 46++[]) rfl hnd ?_;intro os2 hv2 ha2 hn2 hok2;refine ArithOb.mk _ (Z03 (i:=k) (by omega)) ?_;intro hfa;have hleI:=Zd0 (J:=K) (os:=osk) (e:=3) hfa.d;refine⟨(k+1,os2,N.set k { N[k] with ka:=osk.a.map fun g=>⟨g,0,none⟩,kn:=osk.n,kc:=osk.c },Zmb K osk 3),⟨⟨hlk,hok2,hset.trans hnct,fun d hd=>?_,fun b o h=>hleI _ _ (hleK _ _ h),ha2.trans hoa,hv2.trans hov⟩,by simp only;omega⟩,ZcZ (fun g _=>by simp),aF7,.cons rfl (.cons rfl (.cons rfl (.cons rfl (.nil))))⟩
  rcases List.mem_or_eq_of_mem_set hd with hd | rfl
  ·exact(hns _ hd).mono hleI
  ·exact { (hndK.mono hleI) with rs:=Zd1 (b:=8) hosk (by omega) }
 have hge:k=t.n:=by have:¬ (k:Int) < (os0.n:Int):=of_decide_eq_false h2;omega
 have hgK:=hgJ.mono hleK
 have r1K:∀ M,Rd K M ((ad.add (i * 3)).add 0) 1 [.string nm]:=fun M=>by
  obtain⟨q1,cs,T,fr,q2,q3⟩:=r1 [];exact⟨q1,cs,T,fr,q2.mono hleK (fun x hx=>by cases hx),q3⟩
 refine CodeOb.draw Z00 rfl rfl rfl ?_;refine IdxOb.mk ad i had rfl hlt ?_;refine LoadOb.mk _ (r1K _) ?_
 refine AllocOb.mk fun b9 hb9 hb9M=>?_
 refine OtherOb.app1 Z00 rfl (by simp) (e:=46) rfl rfl rfl osG hosG rfl (cs:=[.string nm,os0.val,.int .i64 t.root]) rfl rfl rfl (os.blk 91) [] rfl (by omega) (by show (osG.n+1) * 48≤_;omega) ?_;intro osG2 hnG hIG hokG;refine ArithOb.mk _ (Z03 (i:=i) (by omega)) ?_;intro hfa;have hleI:=Zd0 (J:=K) (os:=os) (e:=91) hfa.d;refine⟨(i+1,osG2,L++[⟨nm,⟨N,os.a.map fun g=>⟨g,0,none⟩,os.n,os.c,t.root⟩⟩],Zmb K os 91),⟨⟨hlt,?_,?_,fun d hd=>?_,fun b o h=>hleI _ _ (hleK _ _ (hle _ _ h))⟩,by simp only;omega⟩,ZcZ (fun g _=>by simp),aF4,.cons rfl (.cons rfl (.cons rfl (.nil)))⟩
 ·simp only
  rw[List.flatMap_append,List.flatMap_cons,List.flatMap_nil,List.append_nil];rw[←hov] at hokG
  exact hokG
 ·simp only
  rw[htk,List.map_append,List.map_append,hct]
  congr 1
  show [Df.ct ⟨nm,_⟩]=[Df.ct ⟨nm,t⟩]
  unfold Df.ct Tr.ct;simp only;rw[hnct,hon,hn0]
 ·rcases List.mem_append.1 hd with hd | hd
  ·exact(hds d hd).mono fun b o h=>hleI _ _ (hleK _ _ h)
  ·rw[List.mem_singleton.1 hd]
   exact⟨hnm,⟨Zd1 (b:=96) hos (by omega),fun z hz=>(hns z hz).mono hleI,ht.root⟩⟩
theorem Zfr {I:GH} {M0:List Blk} {g:Gr} (hg:g.ok I) (hgs:Gs11 g):Spec Tryz.prog 39 [g.val] I M0 fun v I' M'=>(∀ b o,I b=some o->I' b=some o)∧M'=M0∧∃ h:Gr,v=h.val∧h.ok I'∧h.ct=g.ct:=by
 refine Spec.weakK (Spec.frame (Spec.frz (Zig hg hgs))) ?_;rintro v J M ⟨M',rfl,-,hJ,rfl,-,I',M1,⟨h1,os,L,rfl,hon,hos,rfl,hct,hds⟩,hF⟩;have hgn:=hgs.n
 refine⟨hJ,rfl,⟨L,os.a.map fun g=>⟨g,0,none⟩,os.n,os.c⟩,rfl,⟨OS.frz hF hos (fun _ h=>h) (by omega),fun d hd=>(hds d hd).mono hF.le⟩,?_⟩;unfold Gr.ct
 rw[hct,hon]
def Z5y (n:Int):List Int->Nat
 | []=>0
 | k::l=>if k=n then Z5y n l+1 else Z5y n l
theorem Zbw (n k:Int):∀ l:List Int,Z5y n (l++[k])=Z5y n l+if k=n then 1 else 0
 | []=>by
  show (if k=n then 0+1 else 0)=0+_
  split<;>rfl
 | y::l=>by
  rw[List.cons_append,Z5y,Z5y,Zbw n k l]
  split<;>split<;>omega
theorem Zih (n:Int):∀ l:List Int,Z5y n l≤l.length
 | []=>Nat.le_refl _
 | y::l=>by
  have:=Zih n l;rw[Z5y,List.length_cons]
  split<;>omega
theorem Z54 (n:Int):∀ l:List Int,0 < Z5y n l ↔ n∈l
 | []=>by simp[Z5y]
 | y::l=>by
  have ih:=Z54 n l;rw[Z5y,List.mem_cons]
  by_cases h:y=n
  ·simp[h]
  ·rw[if_neg h,ih]
   exact⟨.inr,fun h'=>h'.resolve_left fun e=>h e.symm⟩
theorem Z5z:∀ l:List Int,(∀ n∈l,Z5y n l≤1) ↔ l.Nodup
 | []=>by simp
 | y::l=>by
  have ih:=Z5z l;rw[List.nodup_cons]
  constructor
  ·intro h
   have hy:y ∉ l:=fun hm=>by
    have h1:=h y (.head _);rw[Z5y,if_pos rfl] at h1
    have:=(Z54 y l).2 hm;omega
   refine⟨hy,ih.1 fun n hn=>?_⟩;have h1:=h n (.tail _ hn)
   rw[Z5y] at h1
   split at h1<;>omega
  ·rintro⟨h1,h2⟩ n hn
   have h3:=ih.2 h2;rw[Z5y]
   rcases List.mem_cons.1 hn with rfl | hn
   ·rw[if_pos rfl]
    have:¬ 0 < Z5y n l:=fun h=>h1 ((Z54 n l).1 h)
    omega
   ·rw[if_neg (fun e=>by subst e;exact h1 hn)]
    exact h3 n hn
set_option maxHeartbeats 2000000 in
theorem Z7Y {I:GH} {M0:List Blk} {x:Rw} (hx:RwW I x) (hx2:x.n≤1000000) (n:Int):Spec Tryz.prog 80 [.int .i64 n,x.val] I M0 fun v I' M'=>v=.int .i64 (Z5y n x.l:Nat)∧I'=I∧M'=M0:=by
 refine Z01 [] Z00 Tryz.func80 rfl rfl rfl ?_;intro B h0
 have hxn:x.l.length=x.n:=by simpa using hx.rs.len
 refine LoopOb.inv (ι:=Nat) (fun k=>{ fl:=[(0,.val (.int .i64 n)),(1,.val x.val),(5,.val (.int .i64 (Z5y n (x.l.take k):Nat))),(6,.val (.int .i64 k))],gi:=I,mi:=M0 }) (fun k=>k≤x.n) (fun k=>x.n - k) ?_ ?_
 ·exact⟨0,Nat.zero_le _,.refl,aF4,.nil⟩
 intro k hk;refine CondOb.mk (fun h=>?_) (fun h=>?_)
 ·have hlt:k < x.n:=by have:(k:Int) < (x.n:Int):=of_decide_eq_true h;omega
  have hkl:k < x.l.length:=by omega
  obtain⟨ad,had,hrd⟩:=hx.rs.one hlt hkl;have hs:=Zbw n x.l[k] (x.l.take k);rw[←List.take_succ_eq_append_getElem hkl] at hs
  have hle:=Zih n (x.l.take k);rw[List.length_take] at hle
  generalize x.l[k]=z at hrd hs;refine IdxOb.mk ad k had rfl hlt ?_;refine LoadOb.mk _ (hrd _) ?_;refine CondOb.mk (fun h2=>?_) (fun h2=>?_)
  ·have h2:z=n:=of_decide_eq_true h2
   rw[if_pos h2] at hs;refine ArithOb.mk ((Z5y n (x.l.take (k+1)):Nat):Int) (Z3h (by omega) (by omega)) ?_;refine ArithOb.mk _ (Z03 (i:=k) (by omega)) ?_;exact⟨k+1,⟨hlt,by omega⟩,.refl,aF4,.nil⟩
  ·have h2:¬ z=n:=of_decide_eq_false h2
   rw[if_neg h2,Nat.add_zero] at hs;refine ArithOb.mk _ (Z03 (i:=k) (by omega)) ?_;refine⟨k+1,⟨hlt,by omega⟩,.refl,.cons .refl (.cons .refl (.cons ?_ (.cons .refl .nil))),.nil⟩;simp only
   rw[hs];exact .refl
 ·have hge:k=x.n:=by have:¬ (k:Int) < (x.n:Int):=of_decide_eq_false h;omega
  subst hge;refine⟨_,_,.refl,?_,rfl,rfl⟩;rw[List.take_of_length_le (by omega)]
theorem Z7Z {α:Type} {s:List Bool} {l:List α} {i:Nat} (hs:i < s.length) (hl:i < l.length):Z1a (s.take (i+1)) (l.take (i+1))=Z1a (s.take i) (l.take i)++if s.getD i false then [l[i]] else []:=by
 rw[List.take_succ_eq_append_getElem hs,List.take_succ_eq_append_getElem hl,Z94 _ _ _ _ (by rw[List.length_take,List.length_take];omega)]
 have e:s.getD i false=s[i]:=by rw[List.getD_eq_getElem?_getD,List.getElem?_eq_getElem hs];rfl
 rw[e]
 cases s[i]<;>rfl
theorem Zbx:∀ l:List Int,(l.flatMap fun k:Int=>[Value.int .i64 k])=l.map (.int .i64 ·)
 | []=>rfl
 | k::l=>by rw[List.flatMap_cons,Zbx l,List.map_cons];rfl
structure RK1 (g:Gr) (x:Rw) (k:Nat):Prop where
 le:k≤x.n
 all:∀ y∈x.l.take k,inN g.n y=true∧Z5y y x.l≤1
structure RK2 (deb:List Int) (g:Gr) (x:Rw) (y:Nat×OS):Prop where
 i:y.1≤g.n
 ok:y.2.ok 3 ((Z1a ((Z0a x.l).take y.1) (g.ds.take y.1)).flatMap Df.cells)
 all:∀ j:Nat,j < y.1->(j:Int)∈x.l->∀ c∈Z0E deb g j,c∈x.l
set_option maxRecDepth 100000 in
set_option maxHeartbeats 8000000 in
theorem Zii {I:GH} {g:Gr} (hg:g.ok I) (hf:GFit g) {x:Rw} (hx:RwW I x) (hx2:x.n≤1000000):Spec Tryz.prog 45 [g.val,x.val] I [] fun v I' M'=>I'=I∧∃ os:OS,v=.tuple #[.agg #[os.val],.bool (Z0B debL g x.l)]∧os.ok 3 ((Z2y debL g x.l).flatMap Df.cells)∧M'=os.blk 46:=by
 refine Z01 [] Z00 Tryz.func45 rfl rfl rfl ?_;intro B h0;have hgn:=hg.n
 have hxn:x.l.length=x.n:=by simpa using hx.rs.len
 refine CallOb.mk [] [] _ (.refl _) (ZlY Zns hg hf) ?_;rintro v I1 N - ⟨rfl,hI1,hN⟩;subst I1
 subst N
 have hno:Z0B debL g x.l=false->∃ os:OS,Value.tuple #[.agg #[.slice none 0 0],.bool false]=.tuple #[.agg #[os.val],.bool (Z0B debL g x.l)]∧os.ok 3 ((Z2y debL g x.l).flatMap Df.cells)∧[]=os.blk 46:=fun h=>
  ⟨OS0,by rw[h];rfl,by rw[Z2y,h];exact Z1C 3,rfl⟩
 by_cases hm:Z13 debL g=0
 rotate_left
 ·refine GuardOb.mk (fun h'=>absurd h' (by simp[hm])) (fun _=>?_)
  exact⟨_,_,.refl,rfl,hno (by rw[Z0B,decide_eq_false hm];rfl)⟩
 refine GuardOb.mk (fun _=>?_) (fun h'=>absurd h' (by simp[hm]))
 by_cases hx0:x.n=0
 ·refine CondOb.mk (fun _=>?_) (fun h'=>absurd h' (by simp[hx0]))
  have:x.l=[]:=List.eq_nil_of_length_eq_zero (by omega);exact⟨_,_,.refl,rfl,hno (by rw[Z0B,this];simp)⟩
 refine CondOb.mk (fun h'=>absurd h' (by simp[hx0])) (fun _=>?_);have h64:=Zfe hm
 refine LoopOb.inv (ι:=Nat) (fun k=>{ fl:=[(1,.val x.val),(2,.ref 2 0),(4,.ref 4 0),(6,.val (.int .i64 k))],cl:=[(2,[.slice g.a g.n g.c]),(4,[.slice none 0 0])],gi:=I,mi:=[] }) (fun k=>RK1 g x k) (fun k=>x.n - k) ?_ ?_
 ·exact⟨0,⟨Nat.zero_le _,fun y hy=>by cases hy⟩,.refl,aF4,.cons rfl (.cons rfl (.nil))⟩
 rintro k ⟨hk,hall⟩;refine CondOb.mk (fun h'=>?_) (fun h'=>?_)
 ·have hlt:k < x.n:=by have:(k:Int) < (x.n:Int):=of_decide_eq_true h';omega
  have hkl:k < x.l.length:=by omega
  obtain⟨ad,had,hrd⟩:=hx.rs.one hlt hkl;have htk:=List.take_succ_eq_append_getElem hkl;have hmem:=List.getElem_mem hkl;generalize x.l[k]=z at hrd htk hmem
  have hbad:¬ (inN g.n z=true∧Z5y z x.l≤1)->Z0B debL g x.l=false:=fun h=>by
   cases hc:Z0B debL g x.l with
   | false=>rfl
   | true=>
    simp only[Z0B,Bool.and_eq_true,decide_eq_true_eq] at hc;exact absurd ⟨List.all_eq_true.1 hc.2.2.1 z hmem,(Z5z x.l).2 hc.2.2.2.1 z hmem⟩ h
  by_cases hz0:z < 0
  ·refine CodeOb.draw Z00 rfl rfl rfl ?_
   refine IdxOb.mk ad k had rfl hlt ?_;refine LoadOb.mk _ (hrd _) ?_;refine GuardOb.mk (fun h'=>absurd h' (by simp[hz0])) (fun _=>?_);exact⟨_,_,.refl,rfl,hno (hbad fun h=>by have:=h.1;unfold inN at this;simp at this;omega)⟩
  by_cases hzn:(g.n:Int)≤z
  ·refine CodeOb.draw Z00 rfl rfl rfl ?_
   refine IdxOb.mk ad k had rfl hlt ?_;refine LoadOb.mk _ (hrd _) ?_;refine GuardOb.mk (fun _=>?_) (fun h'=>absurd h' (by simp[hz0]));refine IdxOb.mk ad k had rfl hlt ?_
   refine LoadOb.mk _ (hrd _) ?_;refine GuardOb.mk (fun h'=>absurd h' (by simp[hzn])) (fun _=>?_);exact⟨_,_,.refl,rfl,hno (hbad fun h=>by have:=h.1;unfold inN at this;simp at this;omega)⟩
  have hin:inN g.n z=true:=by unfold inN;simp;omega
  refine CodeOb.draw Z00 rfl rfl rfl ?_;refine IdxOb.mk ad k had rfl hlt ?_;refine LoadOb.mk _ (hrd _) ?_;refine GuardOb.mk (fun _=>?_) (fun h'=>absurd h' (by simp[hz0]));refine IdxOb.mk ad k had rfl hlt ?_
  refine LoadOb.mk _ (hrd _) ?_;refine GuardOb.mk (fun _=>?_) (fun h'=>absurd h' (by simp[hzn]));refine IdxOb.mk ad k had rfl hlt ?_
  refine LoadOb.mk _ (hrd _) ?_;refine CallOb.whole _ (Z7Y hx hx2 z) ?_;rintro v I1 N - ⟨rfl,hI1,hN⟩;subst I1
  subst N;refine CondOb.mk (fun h'=>?_) (fun h'=>?_)
  ·have h':(1:Int) < (Z5y z x.l:Nat):=of_decide_eq_true h'
   exact⟨_,_,.refl,rfl,hno (hbad fun h=>by have:=h.2;omega)⟩
  ·have h':¬ (1:Int) < (Z5y z x.l:Nat):=of_decide_eq_false h'
   refine ArithOb.mk _ (Z03 (i:=k) (by omega)) ?_;refine⟨k+1,⟨⟨hlt,?_⟩,by omega⟩,.refl,aF4,.cons rfl (.cons rfl (.nil))⟩;rw[htk]
   intro y hy
   rcases List.mem_append.1 hy with hy | hy
   ·exact hall y hy
   ·rw[List.mem_singleton.1 hy]
    exact⟨hin,by omega⟩
 have hge:k=x.n:=by have:¬ (k:Int) < (x.n:Int):=of_decide_eq_false h';omega
 subst hge;rw[List.take_of_length_le (by omega)] at hall
 have hin:x.l.all (inN g.n)=true:=List.all_eq_true.2 fun y hy=>(hall y hy).1
 have hnd:x.l.Nodup:=(Z5z x.l).1 fun y hy=>(hall y hy).2
 have hx0':x.l≠[]:=fun e=>hx0 (by rw[←hxn,e];rfl)
 have hkeep:Z0B debL g x.l=x.l.all fun i=>(Z0E debL g i).all fun j=>decide (j∈x.l):=by
  rw[Z0B,decide_eq_true hm,decide_eq_true hx0',hin,decide_eq_true hnd];simp only[Bool.true_and]
 refine LoopOb.inv (ι:=Nat×OS) (fun y=>{ fl:=[(1,.val x.val),(2,.ref 2 0),(4,.ref 4 0),(7,.ref 7 0),(8,.val (.int .i64 y.1))],cl:=[(2,[.slice g.a g.n g.c]),(4,[.slice none 0 0]),(7,[y.2.val])],gi:=I,mi:=y.2.blk 46++[] }) (fun y=>RK2 debL g x y) (fun y=>g.n - y.1) ?_ ?_
 ·exact⟨(0,OS0),⟨Nat.zero_le _,Z1C 3,fun j hj=>absurd hj (Nat.not_lt_zero _)⟩,.refl,aF5,.cons rfl (.cons rfl (.cons rfl (.nil)))⟩
 rintro⟨i,os⟩ ⟨hi,hos,hcl⟩;simp only at hi hos hcl
 have hlen:=hos.len;rw[Z0i _ 3 Df.cells_len] at hlen;have hkl:=(Z21 ((Z0a x.l).take i) (g.ds.take i)).length_le;rw[List.length_take] at hkl;refine CondOb.mk (fun h'=>?_) (fun h'=>?_)
 rotate_left
 ·have hge:i=g.n:=by have:¬ (i:Int) < (g.n:Int):=of_decide_eq_false h';omega
  subst hge;rw[List.take_of_length_le (l:=g.ds) (by omega)] at hos
  have hk1:Z0B debL g x.l=true:=by
   rw[hkeep,List.all_eq_true];intro j hj
   rw[List.all_eq_true];intro c hc
   have h1:=List.all_eq_true.1 hin j hj;unfold inN at h1;simp only[Bool.and_eq_true,decide_eq_true_eq] at h1;obtain⟨u,rfl⟩:=Int.eq_ofNat_of_zero_le h1.1;exact decide_eq_true (hcl u (by omega) hj c hc)
  exact⟨_,_,.refl,rfl,os,by rw[hk1];rfl,by rw[Z2y,hk1,if_pos rfl];exact hos,by rw[List.append_nil]⟩
 have hlt:i < g.n:=by have:(i:Int) < (g.n:Int):=of_decide_eq_true h';omega
 have hil:i < g.ds.length:=by omega
 have hmk:=Z1Q (l:=x.l) (i:=i) (by omega);have hst:=Z7Z (s:=Z0a x.l) (l:=g.ds) (i:=i) (by rw[marks_len];omega) hil
 obtain⟨ad,had,hrd⟩:=hg.rs.row Df.cells_len hlt hil;rw[hmk] at hst;generalize g.ds[i]=df at hst hrd;have hpos:=Z54 i x.l;refine CallOb.whole _ (Z7Y hx hx2 i) ?_;rintro v I1 N - ⟨rfl,hI1,hN⟩;subst I1
 subst N;refine CondOb.mk (fun h'=>?_) (fun h'=>?_)
 ·have h':((Z5y i x.l:Nat):Int)=0:=of_decide_eq_true h'
  have hni:¬ (i:Int)∈x.l:=fun h=>by have:=hpos.2 h;omega
  rw[decide_eq_false hni,if_neg (by simp),List.append_nil] at hst;refine ArithOb.mk _ (Z03 (i:=i) (by omega)) ?_;refine⟨(i+1,os),⟨⟨hlt,by simp only;rw[hst];exact hos,fun j hj hjm=>?_⟩,by simp only;omega⟩,.refl,aF5,.cons rfl (.cons rfl (.cons rfl (.nil)))⟩;simp only at hj
  by_cases e:j=i
  ·subst e
   exact absurd hjm hni
  ·exact hcl j (by omega) hjm
 have h':¬ ((Z5y i x.l:Nat):Int)=0:=of_decide_eq_false h';have hmi:(i:Int)∈x.l:=hpos.1 (by omega);rw[decide_eq_true hmi,if_pos rfl] at hst
 refine CallOb.mk [] (os.blk 46++[]) _ (.refl _) (ZcO Zns hg hf i) ?_;rintro v I1 N - ⟨hI1,oc,rfl,hoc,hN⟩;subst I1
 subst N;rw[Zbo debL hgn i] at hoc
 have hocl:(Z0E debL g i).length=oc.n:=by
  have:=hoc.len;rw[List.length_map] at this;omega
 have hob:oc.n≤140737488355328:=by
  have h1:=hocl;rw[←Zbo debL hgn i] at h1;have h2:=Zbm (Z7R g (i:Int).toNat) g.n;unfold Z7S at h1
  cases ht:Z2I debL g i<;>rw[ht] at h1<;>simp at h1 h2<;>omega
 refine LoopOb.inv (ι:=Nat) (fun k=>{ fl:=[(1,.val x.val),(2,.ref 2 0),(4,.ref 4 0),(7,.ref 7 0),(8,.val (.int .i64 i)),(9,.val oc.val),(10,.val (.int .i64 k))],cl:=[(2,[.slice g.a g.n g.c]),(4,[.slice none 0 0]),(7,[os.val])],gi:=I,mi:=oc.blk 3++(os.blk 46++[]) }) (fun k=>k≤oc.n∧∀ c∈(Z0E debL g i).take k,c∈x.l) (fun k=>oc.n - k) ?_ ?_
 ·exact⟨0,⟨Nat.zero_le _,fun c hc=>by cases hc⟩,.refl,aF7,.cons rfl (.cons rfl (.cons rfl (.nil)))⟩
 rintro k ⟨hk,hck⟩;refine CondOb.mk (fun h2=>?_) (fun h2=>?_)
 ·have hlt2:k < oc.n:=by have:(k:Int) < (oc.n:Int):=of_decide_eq_true h2;omega
  have hkl:k < (Z0E debL g i).length:=by omega
  obtain⟨bd,hbd,hrb⟩:=OS.ok.row (f:=fun k:Int=>[.int .i64 k]) (size:=1) (fun _=>rfl) (by decide) (l:=Z0E debL g i) (by rw[Zbx];exact hoc) (e:=3) (I:=I) (M:=oc.blk 3++(os.blk 46++[])) (fun z hz=>List.mem_append_left _ hz) hkl;have htm:=List.take_succ_eq_append_getElem hkl;have hmc:=List.getElem_mem hkl;generalize (Z0E debL g i)[k]=w at hrb htm hmc;have hpw:=Z54 w x.l;refine IdxOb.mk bd k hbd rfl hlt2 ?_;refine LoadOb.mk _ hrb ?_;refine CallOb.whole _ (Z7Y hx hx2 w) ?_;rintro v I1 N - ⟨rfl,hI1,hN⟩;subst I1
  subst N;refine CondOb.mk (fun h3=>?_) (fun h3=>?_)
  ·have h3:((Z5y w x.l:Nat):Int)=0:=of_decide_eq_true h3
   refine⟨_,_,.sub (List.nil_sublist _) .refl,rfl,hno ?_⟩;rw[hkeep]
   cases hc:(x.l.all fun i=>(Z0E debL g i).all fun j=>decide (j∈x.l)) with
   | false=>rfl
   | true=>
    have h4:=List.all_eq_true.1 (List.all_eq_true.1 hc _ hmi) _ hmc;have h4:=of_decide_eq_true h4;have:=hpw.2 h4;omega
  ·have h3:¬ ((Z5y w x.l:Nat):Int)=0:=of_decide_eq_false h3
   refine ArithOb.mk _ (Z03 (i:=k) (by omega)) ?_;refine⟨k+1,⟨⟨hlt2,?_⟩,by omega⟩,.refl,aF7,.cons rfl (.cons rfl (.cons rfl (.nil)))⟩;rw[htm]
   intro c hc
   rcases List.mem_append.1 hc with hc | hc
   ·exact hck c hc
   ·rw[List.mem_singleton.1 hc]
    exact hpw.1 (by omega)
 have hge2:k=oc.n:=by have:¬ (k:Int) < (oc.n:Int):=of_decide_eq_false h2;omega
 subst hge2;rw[List.take_of_length_le (by omega)] at hck;refine CodeOb.draw Z00 rfl rfl rfl ?_;refine IdxOb.mk ad i had rfl hlt ?_;refine LoadOb.mk _ (hrd _) ?_
 refine AllocOb.mk fun b9 hb9 hb9M=>?_
 refine OtherOb.app1 Z00 rfl (by simp) (e:=46) rfl rfl rfl os hos rfl (cs:=df.cells) rfl rfl rfl (oc.blk 3) [] rfl (by omega) (by show (os.n+1) * 48≤_;omega) ?_;intro os2 hn2 hI2 hok2;refine ArithOb.mk _ (Z03 (i:=i) (by omega)) ?_;refine⟨(i+1,os2),⟨⟨hlt,?_,fun j hj hjm=>?_⟩,by simp only;omega⟩,.sub (List.sublist_append_right _ _) .refl,aF5,.cons rfl (.cons rfl (.cons rfl (.nil)))⟩
 ·simp only
  rw[hst,List.flatMap_append,List.flatMap_cons,List.flatMap_nil,List.append_nil];exact hok2
 ·simp only at hj
  by_cases e:j=i
  ·subst e
   exact hck
  ·exact hcl j (by omega) hjm
theorem GrM.mono {M M':List Blk} {g:Gr} (h:GrM M g) (hM:∀ x∈M,x∈M'):GrM M' g:=⟨h.rs.mono hM,fun d hd=>(h.ds d hd).mono hM⟩
theorem ZjQ {x y:Nd} (h:x.ct=y.ct):x.k=y.k∧x.s0=y.s0∧x.s1=y.s1∧x.s2=y.s2∧x.s3=y.s3∧x.t=y.t∧x.lo=y.lo∧x.hi=y.hi∧x.kids=y.kids:=by
 unfold Nd.ct at h
 injection h with e1 e2 e3 e4 e5 e6 e7 e8 _ _ _ e12
 exact⟨e1,e2,e3,e4,e5,e6,e7,e8,e12⟩
set_option maxRecDepth 100000 in
set_option maxHeartbeats 8000000 in
theorem Zd2 {I:GH} {M0:List Blk} {a b:Tr} (ha:a.ok I) (hb:b.ok I) (h:a.ct=b.ct):Spec Tryz.prog 81 [a.val,b.val] I M0 fun v I' M'=>v=.bool true∧I'=I∧M'=M0:=by
 refine Z01 [] Z00 Tryz.func81 rfl rfl rfl ?_;intro B h0;have han:=ha.n;have hbn:=hb.n;have hcap:=ha.rs.cap;have hns:a.ns.map Nd.ct=b.ns.map Nd.ct:=congrArg Tr.ns h;have hn0:=congrArg Tr.n h;have hr0:=congrArg Tr.root h;have hn:a.n=b.n:=hn0;have hr:a.root=b.root:=hr0;refine GuardOb.mk (fun _=>?_) (fun h=>absurd h (by simp[hn]));refine CondOb.mk (fun h=>absurd h (by simp[hr])) (fun _=>?_)
 refine LoopOb.inv (ι:=Nat) (fun i=>{ fl:=[(2,.ref 2 0),(3,.ref 3 0),(5,.val (.int .i64 i))],cl:=[(2,a.cells),(3,b.cells)],gi:=I,mi:=M0 }) (fun i=>i≤a.n) (fun i=>a.n - i) ?_ ?_
 ·exact⟨0,Nat.zero_le _,.refl,aF3,.cons rfl (.cons rfl (.nil))⟩
 intro i hi;refine CondOb.mk (fun h2=>?_) (fun h2=>?_)
 rotate_left
 ·exact⟨_,_,.refl,rfl,rfl,rfl⟩
 have hlt:i < a.n:=by have:(i:Int) < (a.n:Int):=of_decide_eq_true h2;omega
 have hia:i < a.ns.length:=by omega
 have hib:i < b.ns.length:=by omega
 obtain⟨ad,had,hrd⟩:=ha.rs.row Nd.cells_len hlt hia;obtain⟨bd,hbd,hrb⟩:=hb.rs.row Nd.cells_len (show i < b.n by omega) hib;have hx:=ha.ns _ (List.getElem_mem hia);have hy:=hb.ns _ (List.getElem_mem hib)
 have hct:a.ns[i].ct=b.ns[i].ct:=by
  have:=congrArg (fun l=>l[i]?) hns;simp only[List.getElem?_map] at this;rw[List.getElem?_eq_getElem hia,List.getElem?_eq_getElem hib] at this;exact Option.some.inj this
 generalize a.ns[i]=x at hrd hx hct;generalize b.ns[i]=y at hrb hy hct;obtain⟨c1,c2,c3,c4,c5,c6,c7,c8,c9⟩:=ZjQ hct;have hxr:=hx.rs;have hyr:=hy.rs;have hxk:=hx.kn;have hyk:=hy.kn;have hxc:=hxr.cap;obtain⟨k,s0,s1,s2,s3,t,lo,hi',ka,kn,kc,kids⟩:=x;obtain⟨k',s0',s1',s2',s3',t',lo',hi'',ka',kn',kc',kids'⟩:=y;simp only at c1 c2 c3 c4 c5 c6 c7 c8 c9 hxr hyr hxk hyk hxc;subst c1 c2 c3 c4 c5 c6 c7 c8 c9
 have hkn:kn=kn':=by rw[←hxk,←hyk]
 subst hkn;clear hx hy hct;refine CodeOb.drawCI Z00 rfl rfl rfl (ι:=Nat×Nat) (fun p=>{ fl:=[(2,.ref 2 0),(3,.ref 3 0),(5,.val (.int .i64 i)),(6,.val (ptr p.1)),(7,.val (ptr p.2))],cl:=[(2,a.cells),(3,b.cells)],gi:=I,mi:=⟨p.1,.cells (⟨k,s0,s1,s2,s3,t,lo,hi',ka,kn,kc,kids⟩:Nd).cells.toArray 91 (0,0)⟩::⟨p.2,.cells (⟨k,s0,s1,s2,s3,t,lo,hi',ka',kn,kc',kids⟩:Nd).cells.toArray 91 (0,0)⟩::M0 }) (fun _=>True) ?_ ?_
 ·refine IdxOb.mk ad i had rfl hlt ?_
  refine LoadOb.mk _ (hrd _) ?_;refine IdxOb.mk bd i hbd rfl (show i < b.n by omega) ?_;refine LoadOb.mk _ (hrb _) ?_;refine⟨?_,?_⟩
  ·refine AllocOb.mk fun b6 hb6 hM6=>?_
   refine AllocOb.mk fun b7 hb7 hM7=>?_
   refine StoreOb.to [⟨b7,_⟩] _ _ _ rfl rfl rfl rfl (⟨k,s0,s1,s2,s3,t,lo,hi',ka,kn,kc,kids⟩:Nd).cells rfl ?_;refine StoreOb.to [] _ _ _ rfl rfl rfl rfl (⟨k,s0,s1,s2,s3,t,lo,hi',ka',kn,kc',kids⟩:Nd).cells rfl ?_;exact⟨(b6,b7),trivial,.perm (.swap _ _ _) .refl,aF5,.cons rfl (.cons rfl (.nil))⟩
  ·refine AllocOb.mk fun b7 hb7 hM7=>?_
   refine AllocOb.mk fun b6 hb6 hM6=>?_
   refine StoreOb.to [] _ _ _ rfl rfl rfl rfl (⟨k,s0,s1,s2,s3,t,lo,hi',ka,kn,kc,kids⟩:Nd).cells rfl ?_;refine StoreOb.to [⟨b6,_⟩] _ _ _ rfl rfl rfl rfl (⟨k,s0,s1,s2,s3,t,lo,hi',ka',kn,kc',kids⟩:Nd).cells rfl ?_;exact⟨(b6,b7),trivial,.refl,aF5,.cons rfl (.cons rfl (.nil))⟩
 rintro⟨b6,b7⟩ -
 have m6:∀ u n:Nat,u+n≤9->Rd I (⟨b6,.cells (⟨k,s0,s1,s2,s3,t,lo,hi',ka,kn,kc,kids⟩:Nd).cells.toArray 91 (0,0)⟩::⟨b7,.cells (⟨k,s0,s1,s2,s3,t,lo,hi',ka',kn,kc',kids⟩:Nd).cells.toArray 91 (0,0)⟩::M0) ((⟨b6,0,none⟩:Addr).add u) n (((⟨k,s0,s1,s2,s3,t,lo,hi',ka,kn,kc,kids⟩:Nd).cells.drop u).take n):=fun q n h=>by
  rw[Z06 (⟨b6,0,none⟩:Addr) rfl,Nat.zero_add];exact⟨rfl,_,_,_,.inr ⟨_,.head _,rfl,rfl⟩,rfl,by rw[List.length_take,List.length_drop,Nd.cells_len];omega⟩
 have m7:∀ u n:Nat,u+n≤9->Rd I (⟨b6,.cells (⟨k,s0,s1,s2,s3,t,lo,hi',ka,kn,kc,kids⟩:Nd).cells.toArray 91 (0,0)⟩::⟨b7,.cells (⟨k,s0,s1,s2,s3,t,lo,hi',ka',kn,kc',kids⟩:Nd).cells.toArray 91 (0,0)⟩::M0) ((⟨b7,0,none⟩:Addr).add u) n (((⟨k,s0,s1,s2,s3,t,lo,hi',ka',kn,kc',kids⟩:Nd).cells.drop u).take n):=fun q n h=>by
  rw[Z06 (⟨b7,0,none⟩:Addr) rfl,Nat.zero_add];exact⟨rfl,_,_,_,.inr ⟨_,.tail _ (.head _),rfl,rfl⟩,rfl,by rw[List.length_take,List.length_drop,Nd.cells_len];omega⟩
 refine LoadOb.mk [.int .u8 k] (m6 0 1 (by decide)) ?_;refine LoadOb.mk [.int .u8 k] (m7 0 1 (by decide)) ?_;refine GuardOb.mk (fun _=>?_) (fun h=>absurd h (by simp));refine LoadOb.mk [.int .u64 s0,.int .u64 s1,.int .u64 s2,.int .u64 s3] (m6 1 4 (by decide)) ?_
 refine LoadOb.mk [.int .u64 s0,.int .u64 s1,.int .u64 s2,.int .u64 s3] (m7 1 4 (by decide)) ?_;refine BinOb.ne4 Z00 (e:=87) rfl rfl rfl rfl (by kernel_rfl) ?_;refine GuardOb.mk (fun _=>?_) (fun h=>absurd h (by simp));refine LoadOb.mk [.string t] (m6 5 1 (by decide)) ?_
 refine LoadOb.mk [.string t] (m7 5 1 (by decide)) ?_;refine GuardOb.mk (fun _=>?_) (fun h=>absurd h (by simp));refine LoadOb.mk [.int .i64 lo] (m6 6 1 (by decide)) ?_
 refine LoadOb.mk [.int .i64 lo] (m7 6 1 (by decide)) ?_;refine GuardOb.mk (fun _=>?_) (fun h=>absurd h (by simp));refine LoadOb.mk [.int .i64 hi'] (m6 7 1 (by decide)) ?_
 refine LoadOb.mk [.int .i64 hi'] (m7 7 1 (by decide)) ?_;refine GuardOb.mk (fun _=>?_) (fun h=>absurd h (by simp));refine LoadOb.mk [.slice ka kn kc] (m6 8 1 (by decide)) ?_
 refine LoadOb.mk [.slice ka' kn kc'] (m7 8 1 (by decide)) ?_;refine CondOb.mk (fun h=>absurd h (by simp)) (fun _=>?_);refine LoopOb.inv (ι:=Nat) (fun j=>{ fl:=[(2,.ref 2 0),(3,.ref 3 0),(5,.val (.int .i64 i)),(6,.val (ptr b6)),(7,.val (ptr b7)),(8,.val (.int .i64 j))],cl:=[(2,a.cells),(3,b.cells)],gi:=I,mi:=⟨b6,.cells (⟨k,s0,s1,s2,s3,t,lo,hi',ka,kn,kc,kids⟩:Nd).cells.toArray 91 (0,0)⟩::⟨b7,.cells (⟨k,s0,s1,s2,s3,t,lo,hi',ka',kn,kc',kids⟩:Nd).cells.toArray 91 (0,0)⟩::M0 }) (fun j=>j≤kn) (fun j=>kn - j) ?_ ?_
 ·exact⟨0,Nat.zero_le _,.refl,aF6,.cons rfl (.cons rfl (.nil))⟩
 intro j hj;refine LoadOb.mk [.slice ka kn kc] (m6 8 1 (by decide)) ?_;refine CondOb.mk (fun h3=>?_) (fun h3=>?_)
 rotate_left
 ·refine ArithOb.mk _ (Z03 (i:=i) (by omega)) ?_
  exact⟨i+1,⟨hlt,by omega⟩,.sub (.cons _ (.cons _ (.refl _))) .refl,aF3,.cons rfl (.cons rfl (.nil))⟩
 have hltj:j < kn:=by have:(j:Int) < (kn:Int):=of_decide_eq_true h3;omega
 have hjk:j < kids.length:=by omega
 obtain⟨xd,hxd,hrx⟩:=hxr.one hltj hjk;obtain⟨yd,hyd,hry⟩:=hyr.one hltj hjk;generalize kids[j]=z at hrx hry;refine CodeOb.draw Z00 rfl rfl rfl ?_;refine LoadOb.mk [.slice ka kn kc] (m6 8 1 (by decide)) ?_;refine IdxOb.mk xd j hxd rfl hltj ?_;refine LoadOb.mk _ (hrx _) ?_;refine LoadOb.mk [.slice ka' kn kc'] (m7 8 1 (by decide)) ?_;refine IdxOb.mk yd j hyd rfl hltj ?_;refine LoadOb.mk _ (hry _) ?_;refine CondOb.mk (fun h=>absurd h (by simp)) (fun _=>?_);refine ArithOb.mk _ (Z03 (i:=j) (by omega)) ?_
 exact⟨j+1,⟨hltj,by omega⟩,.refl,aF6,.cons rfl (.cons rfl (.nil))⟩
set_option maxRecDepth 100000 in
set_option maxHeartbeats 8000000 in
theorem Z80 {I:GH} {M0:List Blk} {g h:Gr} (hg:g.ok I) (hh:h.ok I) (hct:g.ds.map Df.ct=h.ds.map Df.ct):Spec Tryz.prog 42 [g.val,h.val] I M0 fun v I' M'=>v=.bool true∧I'=I∧M'=M0:=by
 refine Z01 [] Z00 Tryz.func42 rfl rfl rfl ?_;intro B h0;have hgn:=hg.n;have hhn:=hh.n;have hcap:=hg.rs.cap
 have hl:g.ds.length=h.ds.length:=by simpa using congrArg List.length hct
 have hn:g.n=h.n:=by omega
 refine CondOb.mk (fun h=>absurd h (by simp[hn])) (fun _=>?_);refine LoopOb.inv (ι:=Nat) (fun i=>{ fl:=[(2,.ref 2 0),(3,.ref 3 0),(5,.val (.int .i64 i))],cl:=[(2,[.slice g.a g.n g.c]),(3,[.slice h.a h.n h.c])],gi:=I,mi:=M0 }) (fun i=>i≤g.n) (fun i=>g.n - i) ?_ ?_
 ·exact⟨0,Nat.zero_le _,.refl,aF3,.cons rfl (.cons rfl (.nil))⟩
 intro i hi;refine CondOb.mk (fun h2=>?_) (fun h2=>?_)
 rotate_left
 ·exact⟨_,_,.refl,rfl,rfl,rfl⟩
 have hlt:i < g.n:=by have:(i:Int) < (g.n:Int):=of_decide_eq_true h2;omega
 have hia:i < g.ds.length:=by omega
 have hib:i < h.ds.length:=by omega
 obtain⟨ad,had,hrd⟩:=hg.rs.row Df.cells_len hlt hia;obtain⟨bd,hbd,hrb⟩:=hh.rs.row Df.cells_len (show i < h.n by omega) hib;have hx:=(hg.ds _ (List.getElem_mem hia)).t;have hy:=(hh.ds _ (List.getElem_mem hib)).t
 have he:g.ds[i].ct=h.ds[i].ct:=by
  have:=congrArg (fun l=>l[i]?) hct;simp only[List.getElem?_map] at this;rw[List.getElem?_eq_getElem hia,List.getElem?_eq_getElem hib] at this;exact Option.some.inj this
 have en0:=congrArg Df.name he;have et0:=congrArg Df.t he;have en:g.ds[i].name=h.ds[i].name:=en0;have et:g.ds[i].t.ct=h.ds[i].t.ct:=et0
 have r1:∀ M,Rd I M ((ad.add (i * 3)).add 0) 1 [.string g.ds[i].name]:=fun M=>(hrd M).part (k:=0) (m:=1) (by decide)
 have r2:∀ M,Rd I M ((bd.add (i * 3)).add 0) 1 [.string h.ds[i].name]:=fun M=>(hrb M).part (k:=0) (m:=1) (by decide)
 have r3:∀ M,Rd I M ((ad.add (i * 3)).add 1) 2 g.ds[i].t.cells:=fun M=>(hrd M).part (k:=1) (m:=2) (by decide)
 have r4:∀ M,Rd I M ((bd.add (i * 3)).add 1) 2 h.ds[i].t.cells:=fun M=>(hrb M).part (k:=1) (m:=2) (by decide)
 rw[en] at r1;generalize h.ds[i].name=nm at r1 r2;generalize g.ds[i].t=tg at r3 hx et;generalize h.ds[i].t=th at r4 hy et;refine CodeOb.draw Z00 rfl rfl rfl ?_;refine IdxOb.mk ad i had rfl hlt ?_;refine LoadOb.mk _ (r1 _) ?_;refine IdxOb.mk bd i hbd rfl (show i < h.n by omega) ?_;refine LoadOb.mk _ (r2 _) ?_;refine GuardOb.mk (fun _=>?_) (fun h=>absurd h (by simp));refine IdxOb.mk ad i had rfl hlt ?_
 refine LoadOb.mk _ (r3 _) ?_;refine IdxOb.mk bd i hbd rfl (show i < h.n by omega) ?_;refine LoadOb.mk _ (r4 _) ?_;refine CallOb.whole _ (Zd2 hx hy et) ?_;rintro v J N - ⟨rfl,hJ,hN⟩;subst J
 subst N;refine CondOb.mk (fun h=>by cases h) (fun _=>?_);refine ArithOb.mk _ (Z03 (i:=i) (by omega)) ?_
 exact⟨i+1,⟨hlt,by omega⟩,.refl,aF3,.cons rfl (.cons rfl (.nil))⟩
theorem Zfs {I:GH} {M M0:List Blk} {g h:Gr} (hg:GrM M g) (hh:h.ok I) (hct:g.ds.map Df.ct=h.ds.map Df.ct):Spec Tryz.prog 42 [g.val,h.val] I (M++M0) fun v I' M'=>v=.bool true∧(∀ b o,I b=some o->I' b=some o)∧M'=M++M0:=by
 refine Spec.weakK (Spec.thaw (Q:=fun J v I' M'=>v=.bool true∧I'=J∧M'=[]) (fun J hF=>?_) (Z8o Tryz.func42 rfl rfl)) ?_
 ·exact Z80 ((hg.mono (fun x hx=>List.mem_append_left M0 hx)).frz hF) (hh.mono hF.le) hct
 ·rintro v I' M' ⟨J,I1,M1,hF,⟨rfl,rfl,rfl⟩,rfl,hle,-⟩
  exact⟨rfl,hle,rfl⟩
theorem RM.row {T:Nat} {I:GH} {M:List Blk} {a:Option Addr} {n c size b:Nat} {α:Type} {f:α->List Value} (hf:∀ x,(f x).length=size) {l:List α} (h:RM T M a n c size b (l.flatMap f)) {j:Nat} (hj:j < n) (hj':j < l.length) {M':List Blk} (hM:∀ x∈M,x∈M') :
  ∃ ad,a=some ad∧Rd I M' (ad.add (j * size)) size (f l[j]):=by
 rcases h.rd with h0 | ⟨g,cs,h1,h2,h3,h4⟩
 ·omega
 ·refine⟨⟨g,0,none⟩,h1,?_⟩
  rw[Z06 (⟨g,0,none⟩:Addr) rfl,Nat.zero_add];refine⟨rfl,_,_,_,.inr ⟨_,hM _ h2,rfl,rfl⟩,?_,hf _⟩
  rw[←Z3j f size hf l j hj',←h3,List.drop_take,List.take_take]
  congr 1
  have:=Nat.mul_le_mul_right size (show j+1≤n from hj);rw[Nat.add_mul,Nat.one_mul] at this
  omega
set_option maxRecDepth 100000 in
set_option maxHeartbeats 4000000 in
theorem Z9U {I:GH} {M0 M:List Blk} {g:Gr} (hg:GrM M g) (hM:∀ x∈M,x∈M0):Spec Tryz.prog 44 [g.val] I M0 fun v I' M'=>I'=I∧∃ os:OS,v=os.val∧os.ok 2 ((g.ds.map Df.t).flatMap Tr.cells)∧M'=os.blk 42++M0:=by
 refine Z01 [] Z00 Tryz.func44 rfl rfl rfl ?_;intro B h0
 have hgn:g.ds.length=g.n:=by
  have:=hg.rs.len;rw[Z0i _ 3 Df.cells_len] at this;omega
 have hcap:=hg.rs.cap
 have hcl:∀ t:Tr,t.cells.length=2:=fun t=>rfl
 refine LoopOb.inv (ι:=Nat×OS) (fun x=>{ fl:=[(1,.ref 1 0),(3,.val x.2.val),(4,.val (.int .i64 x.1))],cl:=[(1,[.slice g.a g.n g.c])],gi:=I,mi:=x.2.blk 42++M0 }) (fun x=>x.1≤g.n∧x.2.ok 2 (((g.ds.map Df.t).take x.1).flatMap Tr.cells)) (fun x=>g.n - x.1) ?_ ?_
 ·exact⟨(0,OS0),⟨Nat.zero_le _,Z1C 2⟩,.refl,aF3,.cons rfl (.nil)⟩
 rintro⟨i,os⟩ ⟨hi,hos⟩;simp only at hi hos
 have hlen:os.n=i:=by
  have:=hos.len;rw[Z0i _ 2 hcl,List.length_take,List.length_map] at this;omega
 refine CondOb.mk (fun h=>?_) (fun h=>?_)
 ·have hlt:i < g.n:=by have:(i:Int) < (g.n:Int):=of_decide_eq_true h;omega
  have hil:i < g.ds.length:=by omega
  obtain⟨ad,had,hrd⟩:=hg.rs.row (I:=I) Df.cells_len hlt hil (M':=os.blk 42++M0) (fun x hx=>List.mem_append_right _ (hM x hx))
  have hil':i < (g.ds.map Df.t).length:=by rw[List.length_map];exact hil
  have htk:(g.ds.map Df.t).take (i+1)=(g.ds.map Df.t).take i++[g.ds[i].t]:=by
   rw[List.take_succ_eq_append_getElem hil',List.getElem_map]
  have r2:Rd I (os.blk 42++M0) ((ad.add (i * 3)).add 1) 2 g.ds[i].t.cells:=hrd.part (k:=1) (m:=2) (by decide);generalize g.ds[i].t=t at htk r2
  refine IdxOb.mk ad i had rfl hlt ?_;refine LoadOb.mk _ r2 ?_
  refine AllocOb.mk fun b hb hbM=>?_
  refine OtherOb.app1 Z00 rfl (by simp) (e:=42) rfl rfl rfl os hos rfl (cs:=t.cells) rfl rfl rfl [] M0 rfl (by omega) (by show (os.n+1) * 32≤_;omega) ?_;intro os2 hn2 hI2 hok2;refine ArithOb.mk _ (Z03 (i:=i) (by omega)) ?_;refine⟨(i+1,os2),⟨⟨hlt,?_⟩,by simp only;omega⟩,.refl,aF3,.cons rfl (.nil)⟩;simp only
  rw[htk,List.flatMap_append,List.flatMap_cons,List.flatMap_nil,List.append_nil];exact hok2
 ·have hge:i=g.n:=by have:¬ (i:Int) < (g.n:Int):=of_decide_eq_false h;omega
  subst hge;rw[List.take_of_length_le (by rw[List.length_map];omega)] at hos;exact⟨_,_,.refl,rfl,os,rfl,hos,rfl⟩
theorem Z81 {l:List Value} {k:Nat} {v:Value} (h:k < l.length):(Z05 l k [v]).length=l.length:=by
 unfold Z05;simp only[List.length_append,List.length_take,List.length_drop,List.length_cons,List.length_nil];omega
inductive SpB:Blk->Blk->Prop
 | same (x:Blk):SpB x x
 | ints (n:Nat) (cs cs':Array Value) (h:cs'.size=cs.size):SpB ⟨n,.cells cs 3 (0,0)⟩ ⟨n,.cells cs' 3 (0,0)⟩
 | nodes (n:Nat) (cs cs':Array Value) (h:cs'.size=cs.size) (h8:∀ k,cs'.toList[k * 9+8]?=cs.toList[k * 9+8]?):SpB ⟨n,.cells cs 91 (0,0)⟩ ⟨n,.cells cs' 91 (0,0)⟩
inductive Spoilt:List Blk->List Blk->Prop
 | nil:Spoilt [] []
 | cons {x y:Blk} {l m:List Blk} (h:SpB x y) (t:Spoilt l m):Spoilt (x::l) (y::m)
theorem Spoilt.refl:∀ M:List Blk,Spoilt M M
 | []=>.nil
 | x::M=>.cons (.same x) (.refl M)
theorem Spoilt.mem {M M':List Blk} (h:Spoilt M M') {x:Blk} (hx:x∈M):∃ y∈M',SpB x y:=by
 induction h with
 | nil=>cases hx
 | cons h t ih=>
  rcases List.mem_cons.1 hx with rfl | hx
  ·exact⟨_,.head _,h⟩
  ·obtain⟨y,h1,h2⟩:=ih hx
   exact⟨y,.tail _ h1,h2⟩
theorem Spoilt.put {x x':Blk} (hs:∀ y,SpB y x->SpB y x'):∀ {M0 pre post:List Blk},Spoilt M0 (pre++x::post)->Spoilt M0 (pre++x'::post)
 | _,[],post,.cons h t=>.cons (hs _ h) t
 | _,y::pre,post,.cons h t=>.cons h (Spoilt.put hs t)
theorem SpB.int_eq {y:Blk} {n:Nat} {cs:Array Value} (h:SpB ⟨n,.cells cs 3 (0,0)⟩ y):∃ cs',y=⟨n,.cells cs' 3 (0,0)⟩∧cs'.size=cs.size:=by
 cases h with
 | same=>exact⟨cs,rfl,rfl⟩
 | ints _ _ cs' h=>exact⟨cs',rfl,h⟩
theorem SpB.node_eq {y:Blk} {n:Nat} {cs:Array Value} (h:SpB ⟨n,.cells cs 91 (0,0)⟩ y):∃ cs',y=⟨n,.cells cs' 91 (0,0)⟩∧cs'.size=cs.size∧∀ k,cs'.toList[k * 9+8]?=cs.toList[k * 9+8]?:=by
 cases h with
 | same=>exact⟨cs,rfl,rfl,fun _=>rfl⟩
 | nodes _ _ cs' h h8=>exact⟨cs',rfl,h,h8⟩
theorem SpB.tree_eq {y:Blk} {n:Nat} {cs:Array Value} (h:SpB ⟨n,.cells cs 42 (0,0)⟩ y):y=⟨n,.cells cs 42 (0,0)⟩:=by
 cases h with
 | same=>rfl
theorem SpB.int_set {n:Nat} {cs cs':Array Value} (h:cs'.size=cs.size):∀ y,SpB y ⟨n,.cells cs 3 (0,0)⟩->SpB y ⟨n,.cells cs' 3 (0,0)⟩:=fun y hy=>by
 cases hy with
 | same=>exact .ints _ _ _ h
 | ints _ c1 _ h1=>exact .ints _ _ _ (h.trans h1)
theorem SpB.node_set {n:Nat} {cs cs':Array Value} (h:cs'.size=cs.size) (h8:∀ k,cs'.toList[k * 9+8]?=cs.toList[k * 9+8]?):∀ y,SpB y ⟨n,.cells cs 91 (0,0)⟩->SpB y ⟨n,.cells cs' 91 (0,0)⟩:=fun y hy=>by
 cases hy with
 | same=>exact .nodes _ _ _ h h8
 | nodes _ c1 _ h1 h2=>exact .nodes _ _ _ (h.trans h1) fun k=>(h8 k).trans (h2 k)
theorem Zd3 {M0 M:List Blk} (hS:Spoilt M0 M) {t:Tr} (ht:TrM M0 t) {k:Nat} (hk:k < t.n):∃ (gN:Nat) (cs:Array Value) (hl:k < t.ns.length),t.a=some ⟨gN,0,none⟩∧(⟨gN,.cells cs 91 (0,0)⟩:Blk)∈M∧t.n * 9≤cs.size∧cs.toList[k * 9+8]?=some (.slice t.ns[k].ka t.ns[k].kn t.ns[k].kc) ∧
  ∀ j,j < t.ns[k].kn->∃ (gK:Nat) (cs':Array Value),t.ns[k].ka=some ⟨gK,0,none⟩∧(⟨gK,.cells cs' 3 (0,0)⟩:Blk)∈M∧t.ns[k].kn≤cs'.size:=by
 have htn:t.ns.length=t.n:=by
  have:=ht.rs.len;rw[Z0i _ 9 Nd.cells_len] at this;omega
 rcases ht.rs.rd with h0 | ⟨g,cs,h1,h2,h3,h4⟩
 ·omega
 obtain⟨y,hy,hsp⟩:=hS.mem h2;obtain⟨cs',rfl,e1,e2⟩:=hsp.node_eq
 have hkl:k < t.ns.length:=by omega
 refine⟨g,cs',hkl,h1,hy,by omega,?_,fun j hj=>?_⟩
 ·rw[e2]
  have e3:=Z3j Nd.cells 9 Nd.cells_len t.ns k hkl;rw[←h3] at e3;have e4:((cs.toList.take (t.n * 9)).drop (k * 9)).take 9=t.ns[k].cells:=e3;have e5:=congrArg (fun l=>l[8]?) e4;simp only[List.getElem?_take,List.getElem?_drop] at e5;rw[if_pos (by decide),if_pos (by omega)] at e5;rw[e5];rfl
 ·have hnd:=ht.ns _ (List.getElem_mem hkl)
  rcases hnd.rs.rd with h0 | ⟨g',cs2,q1,q2,q3,q4⟩
  ·omega
  obtain⟨y2,hy2,hsp2⟩:=hS.mem q2;obtain⟨cs3,rfl,e6⟩:=hsp2.int_eq;exact⟨g',cs3,q1,hy2,by omega⟩
structure SpI (M0:List Blk) (n:Nat) (x:Nat×List Blk):Prop where
 i:x.1≤n
 s:Spoilt M0 x.2
set_option maxRecDepth 100000 in
set_option maxHeartbeats 16000000 in
theorem Zd4 {I:GH} {M0:List Blk} {os:OS} {ts:List Tr} (hos:os.ok 2 (ts.flatMap Tr.cells)) (hoM:∀ x∈os.blk 42,x∈M0) (ht:∀ t∈ts,TrM M0 t) (hb:os.n≤1000000):Spec Tryz.prog 43 [.slice none 0 0,os.val] I M0 fun v I' M'=>I'=I∧Spoilt M0 M':=by
 have hcl:∀ t:Tr,t.cells.length=2:=fun t=>rfl
 have hlen:ts.length=os.n:=by
  have:=hos.len;rw[Z0i _ 2 hcl] at this;omega
 have hrow:∀ (M:List Blk),Spoilt M0 M->∀ i (h:i < ts.length),∃ ad,os.a.map (fun g=>(⟨g,0,none⟩:Addr))=some ad∧Rd I M ((ad.add (i * 2)).add 0) 1 [.slice ts[i].a ts[i].n ts[i].c]:=fun M hS i h=>by
  obtain⟨ad,h1,h2⟩:=OS.ok.row (I:=I) (M:=M) (e:=42) hcl (by decide) hos (fun x hx=>by
   obtain⟨y,hy,hsp⟩:=hS.mem (hoM x hx);obtain⟨a,n,c,cur⟩:=os
   cases a with
   | none=>cases hx
   | some g=>
    obtain rfl:=List.mem_singleton.1 hx;rw[hsp.tree_eq] at hy
    exact hy) h
  exact⟨ad,h1,h2.part (k:=0) (m:=1) (by decide)⟩
 refine Z01 [] Z00 Tryz.func43 rfl rfl rfl ?_;intro B h0;refine LoopOb.unroll 1 ?_;refine CondOb.mk (fun h=>absurd h (by simp)) (fun _=>?_);refine LoopOb.inv (ι:=Nat×List Blk) (fun x=>{ fl:=[(1,.val os.val),(6,.val (.int .i64 x.1))],gi:=I,mi:=x.2 }) (SpI M0 os.n) (fun x=>os.n - x.1) ?_ ?_
 ·exact⟨(0,M0),⟨Nat.zero_le _,.refl _⟩,.refl,aF2,.nil⟩
 rintro⟨i,M⟩ ⟨hi,hS⟩;simp only at hi hS
 refine CondOb.mk (fun h=>?_) (fun h=>?_)
 rotate_left
 ·exact⟨_,_,.refl,rfl,hS⟩
 have hlt:i < os.n:=by have:(i:Int) < (os.n:Int):=of_decide_eq_true h;omega
 have hil:i < ts.length:=by omega
 have hti:=ht _ (List.getElem_mem hil)
 have hrowi:∀ M,Spoilt M0 M->_:=fun M hS=>hrow M hS i hil
 have hcapt:=hti.rs.cap;generalize ts[i]=t at hti hrowi hcapt;refine LoopOb.inv (ι:=Nat×List Blk) (fun x=>{ fl:=[(1,.val os.val),(6,.val (.int .i64 i)),(7,.val (.int .i64 x.1))],gi:=I,mi:=x.2 }) (SpI M0 t.n) (fun x=>t.n - x.1) ?_ ?_
 ·exact⟨(0,M),⟨Nat.zero_le _,hS⟩,.refl,aF3,.nil⟩
 rintro⟨k,M1⟩ ⟨hk,hS1⟩;simp only at hk hS1
 obtain⟨ad1,had1,hrd1⟩:=hrowi M1 hS1;refine IdxOb.mk ad1 i had1 rfl hlt ?_;refine LoadOb.mk _ hrd1 ?_;refine CondOb.mk (fun h2=>?_) (fun h2=>?_)
 rotate_left
 ·refine ArithOb.mk _ (Z03 (i:=i) (by omega)) ?_
  exact⟨(i+1,M1),⟨⟨hlt,hS1⟩,by simp only;omega⟩,.refl,aF2,.nil⟩
 have hlk:k < t.n:=by have:(k:Int) < (t.n:Int):=of_decide_eq_true h2;omega
 have hkl:k < t.ns.length:=by
  have:=hti.rs.len;rw[Z0i _ 9 Nd.cells_len] at this;omega
 have hkids:∀ M,Spoilt M0 M->∃ (gN:Nat) (cs:Array Value),t.a=some ⟨gN,0,none⟩∧(⟨gN,.cells cs 91 (0,0)⟩:Blk)∈M∧t.n * 9≤cs.size∧cs.toList[k * 9+8]?=some (.slice t.ns[k].ka t.ns[k].kn t.ns[k].kc) ∧
   ∀ j,j < t.ns[k].kn->∃ (gK:Nat) (cs':Array Value),t.ns[k].ka=some ⟨gK,0,none⟩∧(⟨gK,.cells cs' 3 (0,0)⟩:Blk)∈M∧t.ns[k].kn≤cs'.size:=fun M hS=>by
  obtain⟨a,b,c,d⟩:=Zd3 hS hti hlk;exact⟨a,b,d⟩
 have hknb:=(hti.ns _ (List.getElem_mem hkl)).rs.cap;generalize t.ns[k]=nd at hkids hknb
 have hrdN:∀ {M:List Blk} {gN:Nat} {cs:Array Value},(⟨gN,.cells cs 91 (0,0)⟩:Blk)∈M->cs.toList[k * 9+8]?=some (.slice nd.ka nd.kn nd.kc)->Rd I M (((⟨gN,0,none⟩:Addr).add (k * 9)).add 8) 1 [.slice nd.ka nd.kn nd.kc]:=fun {M gN cs} hm h8=>by
  rw[Z06 (⟨gN,0,none⟩:Addr) rfl,Z06 _ rfl];refine⟨rfl,_,_,_,.inr ⟨_,hm,rfl,rfl⟩,?_,rfl⟩
  show (cs.toList.drop (0+k * 9+8)).take 1=_
  rw[Nat.zero_add];obtain⟨hx,e⟩:=List.getElem?_eq_some_iff.1 h8
  rw[List.drop_eq_getElem_cons hx,e];rfl
 refine LoopOb.inv (ι:=Nat×List Blk) (fun x=>{ fl:=[(1,.val os.val),(6,.val (.int .i64 i)),(7,.val (.int .i64 k)),(8,.val (.int .i64 x.1))],gi:=I,mi:=x.2 }) (SpI M0 nd.kn) (fun x=>nd.kn - x.1) ?_ ?_
 ·exact⟨(0,M1),⟨Nat.zero_le _,hS1⟩,.refl,aF4,.nil⟩
 rintro⟨j,M2⟩ ⟨hj,hS2⟩;simp only at hj hS2
 obtain⟨ad2,had2,hrd2⟩:=hrowi M2 hS2;obtain⟨gN,cs,hgN,hmN,hszN,h8,hK⟩:=hkids M2 hS2;refine IdxOb.mk ad2 i had2 rfl hlt ?_;refine LoadOb.mk _ hrd2 ?_;refine IdxOb.mk ⟨gN,0,none⟩ k hgN rfl hlk ?_;refine LoadOb.mk _ (hrdN hmN h8) ?_;refine CondOb.mk (fun h3=>?_) (fun h3=>?_)
 ·have hlj:j < nd.kn:=by have:(j:Int) < (nd.kn:Int):=of_decide_eq_true h3;omega
  obtain⟨gK,cs',hgK,hmK,hszK⟩:=hK j hlj;refine IdxOb.mk ad2 i had2 rfl hlt ?_;refine LoadOb.mk _ hrd2 ?_;refine IdxOb.mk ⟨gN,0,none⟩ k hgN rfl hlk ?_;refine LoadOb.mk _ (hrdN hmN h8) ?_;refine IdxOb.mk ⟨gK,0,none⟩ j hgK rfl hlj ?_;obtain⟨pre,post,hpp⟩:=List.append_of_mem hmK;refine StoreOb.add pre post cs' 3 hpp (by show 0+j * 1+1≤_;omega) rfl ?_;refine ArithOb.mk _ (Z03 (i:=j) (by omega)) ?_;refine⟨(j+1,_),⟨⟨hlj,Spoilt.put (SpB.int_set ?_) (hpp ▸ hS2)⟩,by simp only;omega⟩,.refl,aF4,.nil⟩;rw[List.size_toArray]
  exact Z81 (by rw[Array.length_toList];show 0+j * 1 < cs'.size;omega)
 ·refine IdxOb.mk ad2 i had2 rfl hlt ?_
  refine LoadOb.mk _ hrd2 ?_;refine IdxOb.mk ⟨gN,0,none⟩ k hgN rfl hlk ?_;obtain⟨pre,post,hpp⟩:=List.append_of_mem hmN;refine StoreOb.mk pre post cs 91 ?_ ?_ ?_ rfl ?_
  ·rw[Z06 (⟨gN,0,none⟩:Addr) rfl,Z06 _ rfl]
   exact hpp
  ·rw[Z06 (⟨gN,0,none⟩:Addr) rfl,Z06 _ rfl]
  ·rw[Z06 (⟨gN,0,none⟩:Addr) rfl,Z06 _ rfl]
   show 0+k * 9+0+1≤_
   omega
  refine ArithOb.mk _ (Z03 (i:=k) (by omega)) ?_;refine⟨(k+1,_),⟨⟨hlk,?_⟩,by simp only;omega⟩,.refl,aF3,.nil⟩;rw[Z06 (⟨gN,0,none⟩:Addr) rfl,Z06 _ rfl]
  refine Spoilt.put (SpB.node_set ?_ fun q=>?_) (hpp ▸ hS2)
  ·rw[List.size_toArray]
   exact Z81 (by rw[Array.length_toList];show 0+k * 9+0 < cs.size;omega)
  ·show (Z05 cs.toList (0+k * 9+0) [.int .u8 77]).toArray.toList[q * 9+8]?=_
   rw[List.toList_toArray,Nat.zero_add,Nat.add_zero]
   have hk9:k * 9 < cs.toList.length:=by
    rw[Array.length_toList];omega
   have e:Z05 cs.toList (k * 9) [.int .u8 77]=cs.toList.set (k * 9) (.int .u8 77):=by
    unfold Z05;rw[List.set_eq_take_append_cons_drop,if_pos hk9,List.append_assoc];rfl
   rw[e,List.getElem?_set_ne (by omega)]
def fI (z:Int):List Value:=[.int .i64 z]
theorem Z4w:∀ l:List Int,l.flatMap fI=l.map (.int .i64 ·)
 | []=>rfl
 | z::l=>by rw[List.flatMap_cons,Z4w l];rfl
structure RevI (l0:List Int) (I:GH) (os0:OS) (x:Nat×OS×List Int):Prop where
 i:2 * x.1≤l0.length+1
 ok:x.2.1.ok 1 (x.2.2.flatMap fI)
 len:x.2.2.length=l0.length
 at_:∀ k,k < l0.length->x.2.2[k]?=if k < x.1∨l0.length≤k+x.1 then l0[l0.length - 1 - k]? else l0[k]?
 a:x.2.1.a=os0.a
 v:x.2.1.val=os0.val
set_option maxRecDepth 100000 in
set_option maxHeartbeats 4000000 in
theorem Zby {I:GH} {M0:List Blk} {os0:OS} {l0:List Int} (hos0:os0.ok 1 (l0.map (.int .i64 ·))) (hb:os0.n≤1099511627776):Spec Tryz.prog 109 [os0.val] I (os0.blk 3++M0) fun v I' M'=>I'=I∧∃ os':OS,os'.val=os0.val∧os'.ok 1 (l0.reverse.map (.int .i64 ·))∧M'=os'.blk 3++M0:=by
 refine Z01 [] Z00 Tryz.func109 rfl rfl rfl ?_;intro B h0;have hln:=hos0.len1;refine ArithOb.mk ((l0.length:Int) - 1) (by show IntKind.i64.wrap ((os0.n:Int) - 1)=_;rw[Z08 ⟨by omega,by omega⟩,hln]) ?_;refine LoopOb.inv (ι:=Nat×OS×List Int) (fun x=>{ fl:=[(0,.val os0.val),(2,.val (.int .i64 x.1)),(3,.val (.int .i64 ((l0.length:Int) - 1 - x.1)))],cl:=[],gi:=I,mi:=x.2.1.blk 3++M0 }) (fun x=>RevI l0 I os0 x) (fun x=>l0.length - x.1) ?_ ?_
 ·refine⟨(0,os0,l0),⟨by simp,by rw[Z4w];exact hos0,rfl,fun k hk=>?_,rfl,rfl⟩,.refl,.cons .refl (.cons .refl (.cons ?_ .nil)),.nil⟩
  ·simp only
   rw[if_neg (by omega)]
  ·simp only[Int.ofNat_zero,Int.sub_zero]
   exact .refl
 rintro⟨i,os,l⟩ ⟨hi,hos,hlen,hat,hoa,hov⟩;simp only at hi hos hlen hat hoa hov
 obtain⟨hon,hoc⟩:=Znt hov;refine CondOb.mk (fun h=>?_) (fun h=>?_)
 rotate_left
 ·have hge:¬ (i:Int) < (l0.length:Int) - 1 - i:=of_decide_eq_false h
  refine⟨_,_,.refl,rfl,os,hov,?_,rfl⟩
  have e:l=l0.reverse:=by
   refine List.ext_getElem? fun k=>?_
   by_cases hk:k < l0.length
   ·rw[hat k hk,List.getElem?_reverse hk]
    split
    ·rfl
    ·congr 1
     omega
   ·rw[List.getElem?_eq_none (by omega),List.getElem?_eq_none (by rw[List.length_reverse];omega)]
  rw[←e,←Z4w];exact hos
 have hlt:(i:Int) < (l0.length:Int) - 1 - i:=of_decide_eq_true h;obtain⟨j,hj⟩:∃ j:Nat,(l0.length:Int) - 1 - i=(j:Int):=⟨l0.length - 1 - i,by omega⟩
 have hil:i < l.length:=by omega
 have hjl:j < l.length:=by omega
 obtain⟨ad,had,hrj⟩:=OS.ok.row (I:=I) (M:=os.blk 3++M0) (e:=3) (f:=fI) (size:=1) (fun _=>rfl) (by decide) hos (fun z hz=>List.mem_append_left _ hz) hjl;obtain⟨ad',had',hri⟩:=OS.ok.row (I:=I) (M:=os.blk 3++M0) (e:=3) (f:=fI) (size:=1) (fun _=>rfl) (by decide) hos (fun z hz=>List.mem_append_left _ hz) hil;obtain rfl:ad=ad':=Option.some.inj (had.symm.trans had');have hadI:=had
 rw[hoa] at hadI
 have hln2:l.length=os0.n:=by omega
 refine CodeOb.draw Z00 rfl rfl rfl ?_;refine IdxOb.mk ad j hadI hj (by omega) ?_;refine LoadOb.mk _ hrj ?_;refine IdxOb.mk ad i hadI rfl (by omega) ?_;refine LoadOb.mk _ hri ?_;refine IdxOb.mk ad i hadI rfl (by omega) ?_;refine OS.putI fI 1 (fun _=>rfl) (e:=3) hos hil l[j] rfl [] M0 rfl had ?_;intro os2 hv2 ha2 hn2 hok2;refine IdxOb.mk ad j hadI hj (by omega) ?_;refine OS.putI fI 1 (fun _=>rfl) (e:=3) hok2 (show j < (l.set i l[j]).length by rw[List.length_set];exact hjl) l[i] rfl [] M0 rfl (by rw[ha2];exact had) ?_;intro os3 hv3 ha3 hn3 hok3;refine ArithOb.mk _ (Z03 (i:=i) (by omega)) ?_;refine ArithOb.mk ((l0.length:Int) - 1 - ((i+1:Nat):Int)) (by rw[Z08 ⟨by omega,by omega⟩];omega) ?_;refine⟨(i+1,os3,(l.set i l[j]).set j l[i]),⟨⟨by simp only;omega,hok3,by simp only[List.length_set];exact hlen,fun k hk=>?_,(ha3.trans ha2).trans hoa,(hv3.trans hv2).trans hov⟩,by simp only;omega⟩,.refl,aF3,.nil⟩;have hki:=hat i (by omega)
 have hkj:=hat j (by omega);rw[if_neg (by omega),List.getElem?_eq_getElem hil] at hki
 rw[if_neg (by omega),List.getElem?_eq_getElem hjl] at hkj;simp only;rw[List.getElem?_set,List.getElem?_set,List.length_set]
 by_cases e1:j=k
 ·subst e1
  rw[if_pos rfl,if_pos hjl,if_pos (by omega),hki]
  congr 1
  omega
 ·rw[if_neg e1]
  by_cases e2:i=k
  ·subst e2
   rw[if_pos rfl,if_pos hil,if_pos (by omega),hkj]
   congr 1
   omega
  ·rw[if_neg e2,hat k hk]
   by_cases e3:k < i∨l0.length≤k+i
   ·rw[if_pos e3,if_pos (by omega)]
   ·rw[if_neg e3,if_neg (by omega)]
set_option maxRecDepth 100000 in
set_option maxHeartbeats 8000000 in
theorem Zbz {I:GH} {M0:List Blk} {t:Tr} (ht:t.ok I) (hr:right t=true) (hn:t.n≤1099511627776) {node:Nat} (hnode:node < t.n) :
  Spec Tryz.prog 131 [t.val,.int .i64 node] I M0 fun v I' M'=>I'=I∧∃ os:OS,os.ok 1 ((Z8C t.ns node).reverse.map (.int .i64 ·))∧v=os.val∧os.n≤t.n∧Z2d t.ns.length (Z8C t.ns node).reverse∧M'=os.blk 3++M0:=by
 refine Z01 [] Z00 Tryz.func131 rfl rfl rfl ?_;intro B h0;have htn:=ht.n;have hszn:Z9Y t.ns node≤t.ns.length:=ZmG hr t.ns.length node (by omega) (by omega)
 refine AllocOb.mk fun b1 hb1 hbM1=>?_
 refine LoopOb.inv (ι:=OS×List Int×OS×List Int×Nat) (fun x=>{ fl:=[(2,.ref 2 0),(5,.val x.2.2.1.val),(6,.val x.1.val)],cl:=[(2,t.cells)],gi:=I,mi:=x.2.2.1.blk 3++(x.1.blk 3++M0) })
  (BackInv t node) (fun x=>Z16 (Z9Y t.ns) x.2.1) ?_ ?_
 ·refine⟨(⟨some b1,1,1,[.int .i64 node]⟩,[(node:Int)],OS0,[],t.ns.length+1),⟨⟨rfl,(fun h=>by cases h),fun g' hg'=>⟨rfl,Nat.le_refl _,by simp[maxLen],rfl⟩⟩,Z1C 1,fun k hk=>?_,(fun k hk=>by cases hk),?_,?_,rfl⟩,.refl,aF3,.cons rfl (.nil)⟩
  ·simp only[List.mem_singleton] at hk
   omega
  ·simp[Z16]
  ·simp only[Z16,List.map_cons,List.map_nil,List.sum_cons,List.sum_nil]
   omega
 rintro⟨todo,tl,back,bl,f⟩ ⟨htodo,hback,hvt,hvb,hsum,hfuel,heq⟩;simp only at htodo hback hvt hvb hsum hfuel heq
 have hbl:=hback.len1;have htl:=htodo.len1;refine CondOb.mk (fun h=>?_) (fun h=>?_)
 ·have h0t:0 < todo.n:=by
   have:(0:Int) < (todo.n:Int):=of_decide_eq_true h;omega
  obtain⟨tl',m,rfl⟩:∃ tl' m,tl=tl'++[m]:=by
   rcases List.eq_nil_or_concat tl with h1 | ⟨r,p,h1⟩
   ·subst h1
    simp at htl;omega
   ·exact⟨r,p,by simpa using h1⟩
  have hm:=hvt m (by simp);obtain⟨m,rfl⟩:=Int.eq_ofNat_of_zero_le hm.1
  have hml:m < t.n:=by omega
  have hml':m < t.ns.length:=by omega
  have htl':todo.n=tl'.length+1:=by simpa using htl
  have hszm:=Z9p hr hml';rw[Z1Z] at hsum hfuel
  have hs1:Z16 (Z9Y t.ns) [(m:Int)]=Z9Y t.ns m:=by simp[Z16]
  rw[hs1,hszm] at hsum hfuel
  have htlen:tl'.length≤Z16 (Z9Y t.ns) tl':=Z5m hr fun k hk=>hvt k (by simp[hk])
  have hklen:t.ns[m].kids.length≤Z16 (Z9Y t.ns) t.ns[m].kids:=Z5m hr fun k hk=>by
   have:=Z0j hr m hml' k hk;omega
  have htot:tl'.length+t.ns[m].kids.length≤t.ns.length:=by omega
  obtain⟨ad,had,hrd⟩:=OS.rdI (I:=I) (e:=3) (M:=back.blk 3++(todo.blk 3++M0)) htodo (fun x hx=>by simp[hx]) (j:=tl'.length) (by simp);rw[List.getElem_concat_length rfl] at hrd
  have hpop:=htodo;rw[List.map_append] at hpop;have hpop:=OS.pop hpop
  have he:todo.n - 1=tl'.length:=by omega
  rw[he] at hpop
  have hcapt:tl'.length≤todo.c:=by
   cases hta:todo.a with
   | none=>have:=(htodo.nil hta).1;omega
   | some gg=>
    have:=(htodo.cap gg hta).2.1;omega
  obtain⟨an,han,hrn⟩:=ht.rs.row Nd.cells_len hml hml';have hd:=ht.ns _ (List.getElem_mem hml');have hkn:=hd.kn
  have hkc:=hd.rs.cap;have hkv:=Z0j hr m hml';refine ArithOb.mk ((tl'.length:Nat):Int) (by show IntKind.i64.wrap ((todo.n:Int) - 1)=_;rw[Z08 ⟨by omega,by omega⟩];omega) ?_;refine IdxOb.mk ad tl'.length had rfl (show tl'.length < todo.n by omega) ?_;refine LoadOb.mk _ hrd ?_;refine CodeOb.draw Z00 rfl rfl rfl ?_;refine ArithOb.mk ((tl'.length:Nat):Int) (by show IntKind.i64.wrap ((todo.n:Int) - 1)=_;rw[Z08 ⟨by omega,by omega⟩];omega) ?_;refine SliceOb.mk 0 tl'.length rfl rfl (Nat.zero_le _) hcapt ?_;refine IdxOb.mk an m han rfl hml ?_;refine LoadOb.mk _ ((hrn _).part (k:=8) (m:=1) (by decide)) ?_
  have hkrd:∀ M,0 < t.ns[m].kn->∃ ad,t.ns[m].ka=some ad∧Rd I M ad (t.ns[m].kn * 1) (t.ns[m].kids.map (.int .i64 ·)):=fun M h0=>hd.rs.one' M h0
  refine OtherOb.appL Z00 rfl (by simp) (e:=3) rfl rfl rfl ⟨todo.a,tl'.length,todo.c,todo.cur⟩ hpop rfl (sa:=t.ns[m].ka) (m:=t.ns[m].kn) (c':=t.ns[m].kc) (news:=t.ns[m].kids.map (.int .i64 ·)) rfl (by rw[List.length_map,hkn];show _=t.ns[m].kn * 1;omega) (hkrd _) (Z53 _) (back.blk 3) M0 rfl (by simp only;omega) (by show (tl'.length+t.ns[m].kn) * 8≤_;omega) ?_;intro td htdn htdI htd;rw[←List.map_append] at htd
  refine AllocOb.mk fun b2 hb2 hbM2=>?_
  refine OtherOb.app1 Z00 rfl (by simp) (e:=3) rfl rfl rfl back hback rfl (cs:=[.int .i64 m]) rfl rfl rfl [] (td.blk 3++M0) rfl (by omega) (by show (back.n+1) * 8≤_;omega) ?_;intro bk hbkn hbkI hbk
  have hbk:bk.ok 1 ((bl++[(m:Int)]).map (.int .i64 ·)):=by rw[List.map_append];exact hbk
  refine⟨(td,tl'++t.ns[m].kids,bk,bl++[(m:Int)],f - 1),⟨⟨htd,hbk,fun k hk=>?_,fun k hk=>?_,?_,?_,?_⟩,?_⟩,.refl,aF3,.cons rfl (.nil)⟩
  ·rcases List.mem_append.1 hk with hk | hk
   ·exact hvt k (by simp[hk])
   ·have:=hkv k hk
    omega
  ·rcases List.mem_append.1 hk with hk | hk
   ·exact hvb k hk
   ·simp only[List.mem_singleton] at hk
    omega
  ·simp only[Z1Z,List.length_append,List.length_cons,List.length_nil]
   omega
  ·simp only[Z1Z]
   omega
  ·obtain⟨f',rfl⟩:∃ f',f=f'+1:=⟨f - 1,by omega⟩
   rw[heq,Zc8,Int.toNat_natCast,Z18 hml'];rfl
  ·simp only
   rw[Z1Z,Z1Z,hs1,hszm];omega
 have htl0:tl=[]:=by
  have:¬ (0:Int) < (todo.n:Int):=of_decide_eq_false h;exact List.eq_nil_of_length_eq_zero (by omega)
 subst htl0;rw[ZeC] at heq;simp only[Z16,List.map_nil,List.sum_nil,Nat.zero_add] at hsum;refine CallOb.whole _ (Zby (os0:=back) hback (by omega)) ?_;rintro v J N - ⟨rfl,os,hov,hos,hN⟩;subst N
 refine⟨_,os.blk 3++M0,.sub (.append (.refl _) (List.sublist_append_right _ _)) .refl,rfl,os,by rw[heq];exact hos,hov.symm,?_,fun k hk=>hvb k (by rw[heq] at hk;exact List.mem_reverse.1 hk),rfl⟩;have:=(Znt hov).1
 omega
structure TkK (d:Nd) (P':List Int) (y:Nat×OS×List Int):Prop where
 k:y.1≤d.kn
 ok:y.2.1.ok 1 (y.2.2.flatMap fI)
 n:y.2.1.n=d.kn
 eq:y.2.2=(d.kids.take y.1).map (fun k=>P'.getD k.toNat 0)++d.kids.drop y.1
set_option maxRecDepth 100000 in
set_option maxHeartbeats 8000000 in
theorem Zij {I:GH} {t:Tr} (ht:t.ok I) (hr:right t=true) (hn:t.n≤1099511627776) {node:Nat} (hnode:node < t.n) :
  Spec Tryz.prog 88 [t.val,.int .i64 node] I [] fun v I' M'=>(∀ b o,I b=some o->I' b=some o)∧M'=[]∧∃ t':Tr,v=t'.val∧t'.ok I'∧SubAt t node t':=by
 refine Z8p [] Z00 Tryz.func88 rfl rfl rfl ?_;intro B h0;have htn:=ht.n;have hcap:=ht.rs.cap;refine CallOb.mk [] [] _ (.refl _) (Zbz (M0:=[]) ht hr hn hnode) ?_;rintro v J0 N - ⟨hJ0,back,hback,rfl,hbn,hvb,rfl⟩;subst J0
 obtain⟨rb,hrb⟩:∃ rb,(Z8C t.ns node).reverse=rb:=⟨_,rfl⟩;rw[hrb] at hback hvb
 have hbl:=hback.len1;refine MakeOb.mk t.n t.n rfl rfl (Nat.le_refl _) (by show 8 * t.n≤_;omega) (by omega) ?_
 refine AllocOb.mk fun b9 hb9 hbM9=>?_
 refine MakeOb.mk 0 back.n rfl rfl (Nat.zero_le _) (by show 96 * back.n≤_;omega) (by omega) ?_
 refine AllocOb.mk fun b7 hb7 hbM7=>?_
 have e9:(Z15 [Value.int .i64 0] (t.n * 1))=(List.replicate t.n (0:Int)).map (Value.int .i64):=by rw[Z1W,List.map_replicate,Nat.mul_one]
 refine LoopOb.invF (ι:=Nat×List Int×OS×List Nd×GH) (fun x=>{ fl:=[(2,.ref 2 0),(4,.ref 4 0),(5,.val back.val),(6,.val (.slice (some ⟨b9,0,none⟩) t.n t.n)),(7,.val x.2.2.1.val),(24,.val back.val),(25,.val (.int .i64 back.n)),(26,.val (.int .i64 x.1))],cl:=[(2,t.cells),(4,[.slice none 0 0,.int .i64 0])],gi:=x.2.2.2.2,mi:=Z0v b9 x.2.1::(x.2.2.1.blk 91++(back.blk 3++[])) })
  (SubInv I t rb) (fun x=>rb.length - x.1) ?_ ?_
 ·intro _
  refine⟨(0,List.replicate t.n 0,⟨some b7,0,back.n,Z15 [.int .u8 0,.int .u64 0,.int .u64 0,.int .u64 0,.int .u64 0,.string ⟨#[]⟩,.int .i64 0,.int .i64 0,.slice none 0 0] (back.n * 9)⟩,[],I),⟨Nat.zero_le _,by simp[htn],⟨rfl,(fun h=>by cases h),fun g' hg'=>⟨by simp[Z28,madeCells],Nat.zero_le _,by unfold maxLen;simp only;omega,by simp⟩⟩,rfl,(by rw[htn];rfl),(fun d hd=>by cases hd),fun _ _ h=>h,(fun c hc=>by have:=List.eq_of_mem_replicate hc;omega),(fun d hd=>by cases hd)⟩,.perm (List.Perm.swap _ _ _) (.eqM (by rw[e9];simp only[List.append_nil];rfl)),aF8,.cons rfl (.cons rfl (.nil))⟩
 rintro⟨j,P,out,outN,J⟩ ⟨hj,hPl,hout,hon,hfold,hJok,hJ,hPb,hkb⟩;simp only at hj hPl hout hon hfold hJok hJ hPb hkb
 have hol:out.n=j:=by
  have:=hout.len;rw[Z0i _ 9 Nd.cells_len,hon] at this;omega
 subst hol;refine CondOb.mk (fun h=>?_) (fun h=>?_)
 ·have hjr:out.n < rb.length:=by
   have:(out.n:Int) < (back.n:Int):=of_decide_eq_true h;omega
  have hm:=hvb _ (List.getElem_mem hjr);obtain⟨m,hmm⟩:=Int.eq_ofNat_of_zero_le hm.1
  rw[hmm] at hm
  have hml:m < t.n:=by omega
  have hml':m < t.ns.length:=by omega
  obtain⟨ad,had,hrdb⟩:=OS.rdI (I:=J) (e:=3) (M:=Z0v b9 P::(out.blk 91++(back.blk 3++[]))) hback (fun x hx=>by simp[hx]) hjr;rw[hmm] at hrdb;obtain⟨an,han,hrn⟩:=(ht.rs.mono hJ).row Nd.cells_len hml hml';have hd:=(ht.ns _ (List.getElem_mem hml')).mono hJ;have hkn:=hd.kn;have hkc:=hd.rs.cap;have hkv:=Z0j hr m hml';have hna:Z1h t.ns m=t.ns[m]:=Z18 hml';generalize hdd:t.ns[m]=d at hd hkn hkc hkv hrn hna;have hset:=Z2h P m (by omega) (out.n:Int);generalize hP':P.set m (out.n:Int)=P' at hset
  have hPl':P'.length=t.ns.length:=by rw[←hP'];simpa using hPl
  have hPb':∀ c∈P',0≤c∧c≤rb.length:=fun c hc=>by
   rw[←hP'] at hc
   rcases List.mem_or_eq_of_mem_set hc with hc | rfl
   ·exact hPb c hc
   ·omega
  refine IdxOb.mk ad out.n had rfl (show _ < back.n by omega) ?_;refine LoadOb.mk _ hrdb ?_;refine IdxOb.mk ⟨b9,0,none⟩ m rfl rfl hml ?_;refine StoreOb.addTo [] (out.blk 91++(back.blk 3++[])) (P.map (Value.int .i64)) 3 rfl (by rw[Nat.ble_eq,List.length_map];show 0+m * 1+1≤_;omega) rfl (P'.map (Value.int .i64)) (by rw[Nat.zero_add,Nat.mul_one];exact hset) ?_;refine IdxOb.mk an m han rfl hml ?_;refine LoadOb.mk _ (hrn _) ?_
  have hbM:(out.n+1) * 96≤140737488355328:=by omega
  refine CondOb.mk (fun h1=>?_) (fun h1=>?_)
  ·have hk0:0 < d.kn:=by have:(0:Int) < (d.kn:Int):=of_decide_eq_true h1;omega
   refine MakeOb.mk d.kn d.kn rfl rfl (Nat.le_refl _) (by show 8 * d.kn≤_;omega) (by omega) ?_
   refine AllocOb.mk fun b11 hb11 hbM11=>?_
   have hz:(Z15 [Value.int .i64 0] (d.kn * 1)).length=d.kn:=by simp[Z28,madeCells]
   have hsp:Z05 (Z15 [Value.int .i64 0] (d.kn * 1)) 0 (d.kids.map (.int .i64 ·))=d.kids.map (.int .i64 ·):=by
    unfold Z05;rw[List.take_zero,List.nil_append,Nat.zero_add,List.drop_of_length_le (by rw[hz,List.length_map];omega),List.append_nil]
   refine OtherOb.copyL Z00 rfl (by simp) (e:=3) rfl rfl rfl (g:=b11) (n:=d.kn) (c:=d.kn) (cur:=Z15 [Value.int .i64 0] (d.kn * 1)) rfl (by rw[hz];show d.kn * 1≤_;omega) (sa:=d.ka) (c':=d.kc) rfl (news:=d.kids.map (.int .i64 ·)) (by rw[List.length_map];show _=d.kn * 1;omega) (fun h0=>hd.rs.one' _ h0) (Z53 _) [] (Z0v b9 P'::(out.blk 91++(back.blk 3++[]))) rfl ?_;rw[hsp];refine LoopOb.inv (ι:=Nat×OS×List Int) (fun y=>{ fl:=[(2,.ref 2 0),(4,.ref 4 0),(5,.val back.val),(6,.val (.slice (some ⟨b9,0,none⟩) t.n t.n)),(7,.val out.val),(8,.val (.int .i64 out.n)),(9,.val (.int .i64 m)),(10,.ref 10 0),(11,.val y.2.1.val),(24,.val back.val),(25,.val (.int .i64 back.n)),(26,.val (.int .i64 out.n)),(52,.val y.2.1.val),(53,.val (.int .i64 d.kn)),(54,.val (.int .i64 y.1))],cl:=[(2,t.cells),(4,[.slice none 0 0,.int .i64 0]),(10,d.cells)],gi:=J,mi:=y.2.1.blk 3++(Z0v b9 P'::(out.blk 91++(back.blk 3++[]))) }) (fun y=>TkK d P' y) (fun y=>d.kn - y.1) ?_ ?_
   ·exact⟨(0,⟨some b11,d.kn,d.kn,d.kids.map (.int .i64 ·)⟩,d.kids),⟨Nat.zero_le _,⟨by rw[Z4w,List.length_map];simp only;omega,(fun h=>by cases h),fun g' hg'=>⟨by simp only[List.length_map];omega,Nat.le_refl _,by unfold maxLen;simp only;omega,by rw[Z4w];exact List.take_of_length_le (by rw[List.length_map];simp only;omega)⟩⟩,rfl,by simp⟩,.refl,ZoW,.cons rfl (.cons rfl (.cons rfl (.nil)))⟩
   rintro⟨k,ko,kl⟩ ⟨hk,hko,hkn2,hkl⟩;simp only at hk hko hkn2 hkl
   have hkoM:∀ x∈ko.blk 3,x∈ko.blk 3++(Z0v b9 P'::(out.blk 91++(back.blk 3++[]))):=fun x hx=>List.mem_append_left _ hx
   have hmemP:Z0v b9 P'∈ko.blk 3++(Z0v b9 P'::(out.blk 91++(back.blk 3++[]))):=by simp
   have hkll:kl.length=d.kids.length:=by
    rw[hkl,List.length_append,List.length_map,List.length_take,List.length_drop];omega
   refine CondOb.mk (fun h2=>?_) (fun h2=>?_)
   ·have hkk:k < d.kn:=by have:(k:Int) < (d.kn:Int):=of_decide_eq_true h2;omega
    have hkk':k < d.kids.length:=by omega
    have hkkl:k < kl.length:=by omega
    have hv:=hkv _ (List.getElem_mem hkk')
    have hkP:d.kids[k].toNat < P'.length:=by omega
    have hPg:P'.getD d.kids[k].toNat 0=P'[d.kids[k].toNat]:=by simp[List.getD_eq_getElem?_getD,hkP]
    have hklk:kl[k]=d.kids[k]:=by
     have h3:kl[k]?=d.kids[k]?:=by
      rw[hkl,List.getElem?_append_right (by rw[List.length_map,List.length_take];omega),List.length_map,List.length_take,Nat.min_eq_left (by omega),Nat.sub_self,List.getElem?_drop,Nat.add_zero]
     rw[List.getElem?_eq_getElem hkkl,List.getElem?_eq_getElem hkk'] at h3;exact Option.some.inj h3
    obtain⟨ak,hak,hrk⟩:=OS.ok.row (I:=J) (M:=ko.blk 3++(Z0v b9 P'::(out.blk 91++(back.blk 3++[])))) (e:=3) (f:=fI) (size:=1) (fun _=>rfl) (by decide) hko hkoM hkkl;rw[hklk] at hrk;refine IdxOb.mk ak k hak rfl (show k < ko.n by omega) ?_;refine LoadOb.mk _ hrk ?_;refine IdxOb.mk ⟨b9,0,none⟩ d.kids[k].toNat rfl (by omega) (by omega) ?_;refine LoadOb.mk _ (Z3k hmemP hkP) ?_;refine IdxOb.mk ak k hak rfl (show k < ko.n by omega) ?_;refine OS.putI fI 1 (fun _=>rfl) (e:=3) hko hkkl P'[d.kids[k].toNat] rfl [] (Z0v b9 P'::(out.blk 91++(back.blk 3++[]))) rfl hak ?_;intro ko2 hv2 ha2 hn2 hok2;refine ArithOb.mk _ (Z03 (i:=k) (by omega)) ?_;refine⟨(k+1,ko2,kl.set k P'[d.kids[k].toNat]),⟨⟨hkk,hok2,hn2.trans hkn2,?_⟩,by simp only;omega⟩,.refl,.cons .refl (.cons .refl (.cons .refl (.cons .refl (.cons .refl (.cons .refl (.cons .refl (.cons .refl (.cons ?_ (.cons .refl (.cons .refl (.cons .refl (.cons ?_ (aF2))))))))))))),.cons rfl (.cons rfl (.cons rfl (.nil)))⟩
    ·simp only
     rw[hkl,List.take_succ_eq_append_getElem hkk',List.map_append,List.map_cons,List.map_nil,hPg,List.set_append_right _ _ (by rw[List.length_map,List.length_take];omega),List.length_map,List.length_take,Nat.min_eq_left (by omega),Nat.sub_self,List.drop_eq_getElem_cons hkk',List.set_cons_zero,List.append_assoc];rfl
    ·simp only
     rw[hv2];exact .refl
    ·simp only
     rw[hv2];exact .refl
   have hge:k=d.kn:=by have:¬ (k:Int) < (d.kn:Int):=of_decide_eq_false h2;omega
   subst hge;rw[List.take_of_length_le (by omega),List.drop_of_length_le (by omega),List.append_nil] at hkl;rw[Z4w] at hko
   refine AllocOb.mk fun b15 hb15 hbM15=>?_
   have hnd:∃ nd:Nd,nd=⟨d.k,d.s0,d.s1,d.s2,d.s3,d.t,d.lo,d.hi,ko.a.map fun g=>⟨g,0,none⟩,ko.n,ko.c,kl⟩:=⟨_,rfl⟩;obtain⟨nd,hnd⟩:=hnd
   have hndc:nd.cells=[.int .u8 d.k,.int .u64 d.s0,.int .u64 d.s1,.int .u64 d.s2,.int .u64 d.s3,.string d.t,.int .i64 d.lo,.int .i64 d.hi,.slice (ko.a.map fun g=>⟨g,0,none⟩) ko.n ko.c]:=by rw[hnd];rfl
   refine OtherOb.app1 Z00 rfl (by simp) (e:=91) rfl rfl rfl out hout rfl (cs:=[.int .u8 d.k,.int .u64 d.s0,.int .u64 d.s1,.int .u64 d.s2,.int .u64 d.s3,.string d.t,.int .i64 d.lo,.int .i64 d.hi,.slice (ko.a.map fun g=>⟨g,0,none⟩) ko.n ko.c]) rfl rfl rfl (ko.blk 3++[Z0v b9 P']) (back.blk 3++[]) (by simp;rfl) (by omega) (by show (out.n+1) * 96≤_;omega) ?_;intro out2 hon2 hoI2 hout2;refine ArithOb.mk _ (Z03 (i:=out.n) (by omega)) ?_
   have hklb:∀ c∈kl,0≤c∧c≤rb.length:=fun c hc=>by
    rw[hkl] at hc;obtain⟨q,hq,rfl⟩:=List.mem_map.1 hc;have hq':=hkv q hq
    have hqP:q.toNat < P'.length:=by omega
    exact hPb' (P'.getD q.toNat 0) (by simp only[List.getD_eq_getElem?_getD,List.getElem?_eq_getElem hqP,Option.getD_some];exact List.getElem_mem _)
   intro hfa;obtain⟨J',hw,hle,hrs⟩:=OS.give (I:=J) (b:=8) (e:=3) hko (by omega) (fun g hg=>hfa.d ⟨g,.cells ko.cur.toArray 3 (0,0)⟩ (by simp[OS.blk,hg])) (Z0v b9 P'::(out2.blk 91++(back.blk 3++[])));refine⟨(out.n+1,P',out2,outN++[nd],J'),⟨⟨by simp only;omega,hPl',?_,by simp[hon],?_,?_,fun b o h=>hle _ _ (hJ _ _ h),hPb',?_⟩,by simp only;omega⟩,?_,aF8,.cons rfl (.cons rfl (.nil))⟩
   ·simp only
    rw[List.flatMap_append]
    have:([nd].flatMap Nd.cells)=nd.cells:=by simp
    rw[this,hndc];exact hout2
   ·simp only
    rw[List.take_succ_eq_append_getElem hjr,List.foldl_append,hfold,List.foldl_cons,List.foldl_nil,hmm]
    show (P.set m ((outN.map Nd.ct).length:Int),outN.map Nd.ct++[(Z1h t.ns m).withKids ((Z1h t.ns m).kids.map fun k=>(P.set m ((outN.map Nd.ct).length:Int)).getD k.toNat 0)])=_
    rw[List.length_map,hon,hP',hna,←hkl,List.map_append,hnd];rfl
   ·simp only
    intro x hx
    rcases List.mem_append.1 hx with hx | hx
    ·exact(hJok x hx).mono hle
    ·simp only[List.mem_singleton] at hx
     rw[hx,hnd];refine⟨hd.k,hd.s0,hd.s1,hd.s2,hd.s3,hd.t,hd.lo,hd.hi,hrs,fun c hc=>?_⟩
     have:=hklb c hc;exact⟨by omega,by omega⟩
   ·simp only
    intro x hx
    rcases List.mem_append.1 hx with hx | hx
    ·exact hkb x hx
    ·simp only[List.mem_singleton] at hx
     rw[hx,hnd];exact hklb
   ·simp only
    refine .perm (M1:=ko.blk 3++(Z0v b9 P'::(out2.blk 91++(back.blk 3++[])))) ?_ hw;simp
  ·have hk0:d.kn=0:=by have:¬ (0:Int) < (d.kn:Int):=of_decide_eq_false h1;omega
   have hknil:d.kids=[]:=List.eq_nil_of_length_eq_zero (by omega);refine LoopOb.inv (ι:=Nat×OS×List Int) (fun y=>{ fl:=[(2,.ref 2 0),(4,.ref 4 0),(5,.val back.val),(6,.val (.slice (some ⟨b9,0,none⟩) t.n t.n)),(7,.val out.val),(8,.val (.int .i64 out.n)),(9,.val (.int .i64 m)),(10,.ref 10 0),(11,.val y.2.1.val),(24,.val back.val),(25,.val (.int .i64 back.n)),(26,.val (.int .i64 out.n)),(52,.val y.2.1.val),(53,.val (.int .i64 d.kn)),(54,.val (.int .i64 y.1))],cl:=[(2,t.cells),(4,[.slice none 0 0,.int .i64 0]),(10,d.cells)],gi:=J,mi:=y.2.1.blk 3++(Z0v b9 P'::(out.blk 91++(back.blk 3++[]))) }) (fun y=>TkK d P' y) (fun y=>d.kn - y.1) ?_ ?_
   ·refine⟨(0,OS0,d.kids),⟨Nat.zero_le _,by rw[hknil];exact Z1C 1,hk0.symm,by simp⟩,.refl,.cons .refl (.cons .refl (.cons .refl (.cons .refl (.cons .refl (.cons .refl (.cons .refl (.cons .refl (.cons .refl (.cons .refl (.cons .refl (.cons .refl (.cons .refl (.cons ?_ (.cons .refl .nil)))))))))))))),.cons rfl (.cons rfl (.cons rfl (.nil)))⟩
    simp only;rw[hk0];exact .refl
   rintro⟨k,ko,kl⟩ ⟨hk,hko,hkn2,hkl⟩;simp only at hk hko hkn2 hkl
   have hkoM:∀ x∈ko.blk 3,x∈ko.blk 3++(Z0v b9 P'::(out.blk 91++(back.blk 3++[]))):=fun x hx=>List.mem_append_left _ hx
   have hmemP:Z0v b9 P'∈ko.blk 3++(Z0v b9 P'::(out.blk 91++(back.blk 3++[]))):=by simp
   have hkll:kl.length=d.kids.length:=by
    rw[hkl,List.length_append,List.length_map,List.length_take,List.length_drop];omega
   refine CondOb.mk (fun h2=>?_) (fun h2=>?_)
   ·have hkk:k < d.kn:=by have:(k:Int) < (d.kn:Int):=of_decide_eq_true h2;omega
    have hkk':k < d.kids.length:=by omega
    have hkkl:k < kl.length:=by omega
    have hv:=hkv _ (List.getElem_mem hkk')
    have hkP:d.kids[k].toNat < P'.length:=by omega
    have hPg:P'.getD d.kids[k].toNat 0=P'[d.kids[k].toNat]:=by simp[List.getD_eq_getElem?_getD,hkP]
    have hklk:kl[k]=d.kids[k]:=by
     have h3:kl[k]?=d.kids[k]?:=by
      rw[hkl,List.getElem?_append_right (by rw[List.length_map,List.length_take];omega),List.length_map,List.length_take,Nat.min_eq_left (by omega),Nat.sub_self,List.getElem?_drop,Nat.add_zero]
     rw[List.getElem?_eq_getElem hkkl,List.getElem?_eq_getElem hkk'] at h3;exact Option.some.inj h3
    obtain⟨ak,hak,hrk⟩:=OS.ok.row (I:=J) (M:=ko.blk 3++(Z0v b9 P'::(out.blk 91++(back.blk 3++[])))) (e:=3) (f:=fI) (size:=1) (fun _=>rfl) (by decide) hko hkoM hkkl;rw[hklk] at hrk;refine IdxOb.mk ak k hak rfl (show k < ko.n by omega) ?_;refine LoadOb.mk _ hrk ?_;refine IdxOb.mk ⟨b9,0,none⟩ d.kids[k].toNat rfl (by omega) (by omega) ?_;refine LoadOb.mk _ (Z3k hmemP hkP) ?_;refine IdxOb.mk ak k hak rfl (show k < ko.n by omega) ?_;refine OS.putI fI 1 (fun _=>rfl) (e:=3) hko hkkl P'[d.kids[k].toNat] rfl [] (Z0v b9 P'::(out.blk 91++(back.blk 3++[]))) rfl hak ?_;intro ko2 hv2 ha2 hn2 hok2;refine ArithOb.mk _ (Z03 (i:=k) (by omega)) ?_;refine⟨(k+1,ko2,kl.set k P'[d.kids[k].toNat]),⟨⟨hkk,hok2,hn2.trans hkn2,?_⟩,by simp only;omega⟩,.refl,.cons .refl (.cons .refl (.cons .refl (.cons .refl (.cons .refl (.cons .refl (.cons .refl (.cons .refl (.cons ?_ (.cons .refl (.cons .refl (.cons .refl (.cons ?_ (aF2))))))))))))),.cons rfl (.cons rfl (.cons rfl (.nil)))⟩
    ·simp only
     rw[hkl,List.take_succ_eq_append_getElem hkk',List.map_append,List.map_cons,List.map_nil,hPg,List.set_append_right _ _ (by rw[List.length_map,List.length_take];omega),List.length_map,List.length_take,Nat.min_eq_left (by omega),Nat.sub_self,List.drop_eq_getElem_cons hkk',List.set_cons_zero,List.append_assoc];rfl
    ·simp only
     rw[hv2];exact .refl
    ·simp only
     rw[hv2];exact .refl
   have hge:k=d.kn:=by have:¬ (k:Int) < (d.kn:Int):=of_decide_eq_false h2;omega
   subst hge;rw[List.take_of_length_le (by omega),List.drop_of_length_le (by omega),List.append_nil] at hkl;rw[Z4w] at hko
   refine AllocOb.mk fun b15 hb15 hbM15=>?_
   have hnd:∃ nd:Nd,nd=⟨d.k,d.s0,d.s1,d.s2,d.s3,d.t,d.lo,d.hi,ko.a.map fun g=>⟨g,0,none⟩,ko.n,ko.c,kl⟩:=⟨_,rfl⟩;obtain⟨nd,hnd⟩:=hnd
   have hndc:nd.cells=[.int .u8 d.k,.int .u64 d.s0,.int .u64 d.s1,.int .u64 d.s2,.int .u64 d.s3,.string d.t,.int .i64 d.lo,.int .i64 d.hi,.slice (ko.a.map fun g=>⟨g,0,none⟩) ko.n ko.c]:=by rw[hnd];rfl
   refine OtherOb.app1 Z00 rfl (by simp) (e:=91) rfl rfl rfl out hout rfl (cs:=[.int .u8 d.k,.int .u64 d.s0,.int .u64 d.s1,.int .u64 d.s2,.int .u64 d.s3,.string d.t,.int .i64 d.lo,.int .i64 d.hi,.slice (ko.a.map fun g=>⟨g,0,none⟩) ko.n ko.c]) rfl rfl rfl (ko.blk 3++[Z0v b9 P']) (back.blk 3++[]) (by simp;rfl) (by omega) (by show (out.n+1) * 96≤_;omega) ?_;intro out2 hon2 hoI2 hout2;refine ArithOb.mk _ (Z03 (i:=out.n) (by omega)) ?_
   have hklb:∀ c∈kl,0≤c∧c≤rb.length:=fun c hc=>by
    rw[hkl] at hc;obtain⟨q,hq,rfl⟩:=List.mem_map.1 hc;have hq':=hkv q hq
    have hqP:q.toNat < P'.length:=by omega
    exact hPb' (P'.getD q.toNat 0) (by simp only[List.getD_eq_getElem?_getD,List.getElem?_eq_getElem hqP,Option.getD_some];exact List.getElem_mem _)
   intro hfa;obtain⟨J',hw,hle,hrs⟩:=OS.give (I:=J) (b:=8) (e:=3) hko (by omega) (fun g hg=>hfa.d ⟨g,.cells ko.cur.toArray 3 (0,0)⟩ (by simp[OS.blk,hg])) (Z0v b9 P'::(out2.blk 91++(back.blk 3++[])));refine⟨(out.n+1,P',out2,outN++[nd],J'),⟨⟨by simp only;omega,hPl',?_,by simp[hon],?_,?_,fun b o h=>hle _ _ (hJ _ _ h),hPb',?_⟩,by simp only;omega⟩,?_,aF8,.cons rfl (.cons rfl (.nil))⟩
   ·simp only
    rw[List.flatMap_append]
    have:([nd].flatMap Nd.cells)=nd.cells:=by simp
    rw[this,hndc];exact hout2
   ·simp only
    rw[List.take_succ_eq_append_getElem hjr,List.foldl_append,hfold,List.foldl_cons,List.foldl_nil,hmm]
    show (P.set m ((outN.map Nd.ct).length:Int),outN.map Nd.ct++[(Z1h t.ns m).withKids ((Z1h t.ns m).kids.map fun k=>(P.set m ((outN.map Nd.ct).length:Int)).getD k.toNat 0)])=_
    rw[List.length_map,hon,hP',hna,←hkl,List.map_append,hnd];rfl
   ·simp only
    intro x hx
    rcases List.mem_append.1 hx with hx | hx
    ·exact(hJok x hx).mono hle
    ·simp only[List.mem_singleton] at hx
     rw[hx,hnd];refine⟨hd.k,hd.s0,hd.s1,hd.s2,hd.s3,hd.t,hd.lo,hd.hi,hrs,fun c hc=>?_⟩
     have:=hklb c hc;exact⟨by omega,by omega⟩
   ·simp only
    intro x hx
    rcases List.mem_append.1 hx with hx | hx
    ·exact hkb x hx
    ·simp only[List.mem_singleton] at hx
     rw[hx,hnd];exact hklb
   ·simp only
    refine .perm (M1:=ko.blk 3++(Z0v b9 P'::(out2.blk 91++(back.blk 3++[])))) ?_ hw;simp
 have hge:out.n=rb.length:=by
  have:¬ (out.n:Int) < (back.n:Int):=of_decide_eq_false h;omega
 refine ArithOb.mk ((outN.length:Int) - 1) (by show IntKind.i64.wrap ((out.n:Int) - 1)=_;rw[Z08 ⟨by omega,by omega⟩,hon]) ?_;intro hfa;obtain⟨J',hw,hle,hrs⟩:=OS.give (I:=J) (b:=96) (e:=91) hout (by omega) (fun g hg=>hfa.d ⟨g,.cells out.cur.toArray 91 (0,0)⟩ (by simp[OS.blk,hg])) [];refine⟨J',[],.sub (M1:=out.blk 91++[]) (by rw[List.append_nil];exact .cons _ (List.sublist_append_left _ _)) hw,fun b o h=>hle _ _ (hJ _ _ h),rfl,⟨outN,out.a.map fun g=>⟨g,0,none⟩,out.n,out.c,(outN.length:Int) - 1⟩,rfl,⟨hrs,fun d hd=>(hJok d hd).mono hle,⟨by simp only;omega,by simp only;omega⟩⟩,⟨?_,rfl⟩⟩
 rw[List.take_of_length_le (by omega)] at hfold;rw[Zfw,hrb,←htn] at *;rw[hfold]
theorem Z96 {I:GH} {M0:List Blk} {t:Tr} (ht:t.ok I) (hr:right t=true) (hn:t.n≤1099511627776) {node:Nat} (hnode:node < t.n) :
  Spec Tryz.prog 88 [t.val,.int .i64 node] I M0 fun v I' M'=>(∀ b o,I b=some o->I' b=some o)∧M'=M0∧∃ t':Tr,v=t'.val∧t'.ok I'∧SubAt t node t':=by
 refine Spec.weakK (Spec.frame (Zij ht hr hn hnode)) ?_;rintro v J M ⟨M',rfl,-,-,h1,rfl,t',rfl,h2,h3⟩;exact⟨h1,rfl,t',rfl,h2,h3⟩
theorem ZjR {α:Type} {l m:List α} {k:Nat} (hl:k < l.length) (hm:k < m.length) (h:l.take k=m.take k) (e:l[k]=m[k]):l.take (k+1)=m.take (k+1):=by
 rw[List.take_succ_eq_append_getElem hl,List.take_succ_eq_append_getElem hm,h,e]
theorem Zmc {α:Type} {l m:List α} {k:Nat} (hl:k < l.length) (hm:k < m.length) (e:¬ l[k]=m[k]):¬ l=m:=fun h=>by
 subst h;exact e rfl
set_option maxHeartbeats 2000000 in
theorem Zd5 {I:GH} {M0:List Blk} {a a':Option Addr} {n n' c c' b b':Nat} {l l':List Int} (h:RS I a n c 1 b (l.map (.int .i64 ·))) (h':RS I a' n' c' 1 b' (l'.map (.int .i64 ·))) (hb:n≤140737488355327):Spec Tryz.prog 132 [.slice a n c,.slice a' n' c'] I M0 fun v I' M'=>v=.bool (decide (l=l'))∧I'=I∧M'=M0:=by
 refine Z01 [] Z00 Tryz.func132 rfl rfl rfl ?_;intro B h0
 have hl:l.length=n:=by simpa using h.len
 have hl':l'.length=n':=by simpa using h'.len
 by_cases hn:n=n'
 rotate_left
 ·refine CondOb.mk (fun _=>?_) (fun h=>absurd h (by simp;omega))
  exact⟨_,_,.refl,by rw[decide_eq_false fun e=>hn (by rw[←hl,←hl',e])],rfl,rfl⟩
 subst hn;refine CondOb.mk (fun h=>absurd h (by simp)) (fun _=>?_);refine LoopOb.inv (ι:=Nat) (fun k=>{ fl:=[(0,.val (.slice a n c)),(1,.val (.slice a' n c')),(12,.val (.int .i64 n)),(13,.val (.int .i64 k))],gi:=I,mi:=M0 }) (fun k=>k≤n∧l.take k=l'.take k) (fun k=>n - k) ?_ ?_
 ·exact⟨0,⟨Nat.zero_le _,rfl⟩,.refl,aF4,.nil⟩
 rintro k ⟨hk,ht⟩;refine CondOb.mk (fun h2=>?_) (fun h2=>?_)
 ·have hlt:k < n:=by have:(k:Int) < (n:Int):=of_decide_eq_true h2;omega
  have hkl:k < l.length:=by omega
  have hkl':k < l'.length:=by omega
  obtain⟨ad,had,hrd⟩:=h.one hlt hkl;obtain⟨ad',had',hrd'⟩:=h'.one hlt hkl';have hex:=ZjR hkl hkl' ht;have hne:=Zmc hkl hkl';generalize l[k]=x at hrd hex hne;generalize l'[k]=y at hrd' hex hne;refine CodeOb.draw Z00 rfl rfl rfl ?_;refine IdxOb.mk ad k had rfl hlt ?_;refine LoadOb.mk _ (hrd _) ?_;refine IdxOb.mk ad' k had' rfl hlt ?_;refine LoadOb.mk _ (hrd' _) ?_
  by_cases e:x=y
  ·refine CondOb.mk (fun h=>absurd h (by simp[e])) (fun _=>?_)
   refine ArithOb.mk _ (Z03 (i:=k) (by omega)) ?_;exact⟨k+1,⟨⟨hlt,hex e⟩,by omega⟩,.refl,aF4,.nil⟩
  ·refine CondOb.mk (fun _=>?_) (fun h=>absurd h (by simp[e]))
   exact⟨_,_,.refl,by rw[decide_eq_false (hne e)],rfl,rfl⟩
 ·have hge:k=n:=by have:¬ (k:Int) < (n:Int):=of_decide_eq_false h2;omega
  subst hge;rw[List.take_of_length_le (by omega),List.take_of_length_le (by omega)] at ht;exact⟨_,_,.refl,by rw[decide_eq_true ht],rfl,rfl⟩
def ndB (x y:Nd):Bool:=decide (x.k=y.k) && ((decide (x.s0=y.s0) && (decide (x.s1=y.s1) && (decide (x.s2=y.s2) && decide (x.s3=y.s3)))) && (decide (x.t=y.t) && (decide (x.lo=y.lo) && (decide (x.hi=y.hi) && decide (x.kids=y.kids)))))
theorem Zik (x y:Nd):ndB x y=true ↔ x.k=y.k∧(x.s0=y.s0∧x.s1=y.s1∧x.s2=y.s2∧x.s3=y.s3)∧x.t=y.t∧x.lo=y.lo∧x.hi=y.hi∧x.kids=y.kids:=by
 simp only[ndB,Bool.and_eq_true,decide_eq_true_eq]
set_option maxRecDepth 100000 in
set_option maxHeartbeats 4000000 in
theorem Zil {I:GH} {M0:List Blk} {x y:Nd} (hx:x.ok I) (hy:y.ok I):Spec Tryz.prog 89 [x.val,y.val] I M0 fun v I' M'=>v=.bool (ndB x y)∧I'=I∧M'=M0:=by
 refine Z01 [] Z00 Tryz.func89 rfl rfl rfl ?_;intro B h0;have hcx:x.kn≤x.kc∧x.kn * 8≤140737488355328:=hx.rs.cap;have hrx:=hx.rs;have hry:=hy.rs;obtain⟨k,s0,s1,s2,s3,t,lo,hi,ka,kn,kc,kids⟩:=x;obtain⟨k',s0',s1',s2',s3',t',lo',hi',ka',kn',kc',kids'⟩:=y;simp only at hrx hry hcx
 have no:∀ {P:Prop},(P->¬ (k=k'∧((s0=s0'∧s1=s1'∧s2=s2'∧s3=s3')∧t=t'∧lo=lo'∧hi=hi'∧kids=kids')))->P->Value.bool false=.bool (ndB ⟨k,s0,s1,s2,s3,t,lo,hi,ka,kn,kc,kids⟩ ⟨k',s0',s1',s2',s3',t',lo',hi',ka',kn',kc',kids'⟩):=fun h p=>by
  cases hb:ndB ⟨k,s0,s1,s2,s3,t,lo,hi,ka,kn,kc,kids⟩ ⟨k',s0',s1',s2',s3',t',lo',hi',ka',kn',kc',kids'⟩ with
  | false=>rfl
  | true=>exact absurd ((Zik _ _).1 hb) (h p)
 by_cases g1:k=k'
 rotate_left
 ·refine GuardOb.mk (fun h'=>absurd h' (by simp[g1])) (fun _=>?_)
  exact⟨_,_,.refl,no (fun h h2=>h h2.1) g1,rfl,rfl⟩
 refine GuardOb.mk (fun _=>?_) (fun h'=>absurd h' (by simp[g1]));refine BinOb.eq4 Z00 (e:=87) rfl rfl rfl rfl (by kernel_rfl) ?_
 by_cases g2:s0=s0'∧s1=s1'∧s2=s2'∧s3=s3'
 rotate_left
 ·refine GuardOb.mk (fun h'=>absurd h' (by simpa using g2)) (fun _=>?_)
  exact⟨_,_,.refl,no (fun h h2=>h h2.2.1) g2,rfl,rfl⟩
 refine GuardOb.mk (fun _=>?_) (fun h'=>absurd h' (by simp[g2]))
 by_cases g3:t=t'
 rotate_left
 ·refine GuardOb.mk (fun h'=>absurd h' (by simp[g3])) (fun _=>?_)
  exact⟨_,_,.refl,no (fun h h2=>h h2.2.2.1) g3,rfl,rfl⟩
 refine GuardOb.mk (fun _=>?_) (fun h'=>absurd h' (by simp[g3]))
 by_cases g4:lo=lo'
 rotate_left
 ·refine GuardOb.mk (fun h'=>absurd h' (by simp[g4])) (fun _=>?_)
  exact⟨_,_,.refl,no (fun h h2=>h h2.2.2.2.1) g4,rfl,rfl⟩
 refine GuardOb.mk (fun _=>?_) (fun h'=>absurd h' (by simp[g4]))
 by_cases g5:hi=hi'
 rotate_left
 ·refine GuardOb.mk (fun h'=>absurd h' (by simp[g5])) (fun _=>?_)
  exact⟨_,_,.refl,no (fun h h2=>h h2.2.2.2.2.1) g5,rfl,rfl⟩
 refine GuardOb.mk (fun _=>?_) (fun h'=>absurd h' (by simp[g5]));refine CallOb.whole _ (Zd5 hrx hry (show kn≤_ by omega)) ?_
 rintro v J N - ⟨rfl,hJ,hN⟩;subst J
 subst N;refine⟨_,_,.refl,?_,rfl,rfl⟩;obtain⟨q1,q2,q3,q4⟩:=g2
 congr 1
 rw[Bool.eq_iff_iff,Zik,decide_eq_true_iff];exact⟨fun h=>⟨g1,⟨q1,q2,q3,q4⟩,g3,g4,g5,h⟩,fun h=>h.2.2.2.2.2⟩
def Z2v {α:Type} (q:α->α->Bool):List α->List α->Bool
 | [],[]=>true
 | a::l,b::m=>q a b && Z2v q l m
 | _,_=>false
theorem Zea:∀ l m:List Nd,Z2v ndB (l.map Nd.ct) (m.map Nd.ct)=Z2v ndB l m
 | [],[]=>rfl
 | [],_::_=>rfl
 | _::_,[]=>rfl
 | a::l,b::m=>by
  rw[List.map_cons,List.map_cons,Z2v,Z2v,Zea l m];rfl
theorem Z82 {α:Type} (q:α->α->Bool):∀ l m:List α,l.length≠m.length->Z2v q l m=false
 | [],[],h=>absurd rfl h
 | [],_::_,_=>rfl
 | _::_,[],_=>rfl
 | a::l,b::m,h=>by
  rw[Z2v,Z82 q l m (by simpa using h),Bool.and_false]
set_option maxRecDepth 100000 in
set_option maxHeartbeats 2000000 in
theorem Zd6 {I:GH} {M0:List Blk} {s t:Tr} (hs:s.ok I) (ht:t.ok I):Spec Tryz.prog 87 [.slice s.a s.n s.c,.slice t.a t.n t.c,.func (.func 89) #[] #[]] I M0 fun v I' M'=>v=.bool (Z2v ndB s.ns t.ns)∧I'=I∧M'=M0:=by
 refine Z01 [] Z00 Tryz.func87 rfl rfl rfl ?_;intro B h0;have hsn:=hs.n;have htn:=ht.n;have hcap:=hs.rs.cap
 by_cases hn:s.n=t.n
 rotate_left
 ·refine CondOb.mk (fun _=>?_) (fun h=>absurd h (by simp;omega))
  exact⟨_,_,.refl,by rw[Z82 _ _ _ (by omega)],rfl,rfl⟩
 refine CondOb.mk (fun h=>absurd h (by simp[hn])) (fun _=>?_);refine LoopOb.inv (ι:=Nat) (fun k=>{ fl:=[(1,.val (.slice t.a t.n t.c)),(2,.val (.func (.func 89) #[] #[])),(15,.val (.slice s.a s.n s.c)),(16,.val (.int .i64 s.n)),(17,.val (.int .i64 k))],gi:=I,mi:=M0 }) (fun k=>k≤s.n∧Z2v ndB s.ns t.ns=Z2v ndB (s.ns.drop k) (t.ns.drop k)) (fun k=>s.n - k) ?_ ?_
 ·exact⟨0,⟨Nat.zero_le _,rfl⟩,.refl,aF5,.nil⟩
 rintro k ⟨hk,he⟩;refine CondOb.mk (fun h2=>?_) (fun h2=>?_)
 ·have hlt:k < s.n:=by have:(k:Int) < (s.n:Int):=of_decide_eq_true h2;omega
  have hkl:k < s.ns.length:=by omega
  have hkl':k < t.ns.length:=by omega
  obtain⟨ad,had,hrd⟩:=hs.rs.row Nd.cells_len hlt hkl;obtain⟨ad',had',hrd'⟩:=ht.rs.row Nd.cells_len (show k < t.n by omega) hkl';have hx:=hs.ns _ (List.getElem_mem hkl);have hy:=ht.ns _ (List.getElem_mem hkl')
  rw[List.drop_eq_getElem_cons hkl,List.drop_eq_getElem_cons hkl',Z2v] at he;generalize s.ns[k]=x at hrd hx he;generalize t.ns[k]=y at hrd' hy he;refine IdxOb.mk ad k had rfl hlt ?_;refine LoadOb.mk _ (hrd _) ?_;refine IdxOb.mk ad' k had' rfl (by omega) ?_;refine LoadOb.mk _ (hrd' _) ?_;refine CallOb.whole _ (Zil hx hy) ?_;rintro v J N - ⟨rfl,hJ,hN⟩;subst J
  subst N
  cases e:ndB x y with
  | true=>
   refine CondOb.mk (fun h=>absurd h (by simp)) (fun _=>?_);refine ArithOb.mk _ (Z03 (i:=k) (by omega)) ?_
   exact⟨k+1,⟨⟨hlt,by rw[he,e,Bool.true_and]⟩,by omega⟩,.refl,aF5,.nil⟩
  | false=>
   refine CondOb.mk (fun _=>?_) (fun h=>absurd h (by simp));exact⟨_,_,.refl,by rw[he,e,Bool.false_and],rfl,rfl⟩
 ·have hge:k=s.n:=by have:¬ (k:Int) < (s.n:Int):=of_decide_eq_false h2;omega
  subst hge;rw[List.drop_of_length_le (by omega),List.drop_of_length_le (by omega)] at he;exact⟨_,_,.refl,by rw[he];rfl,rfl,rfl⟩
def Z83 (a b:Tr):Bool:=decide (a.n=b.n) && (right a && (right b && Z2v ndB (Zfw a.ns a.root) (Zfw b.ns b.root)))
set_option maxRecDepth 100000 in
set_option maxHeartbeats 4000000 in
theorem Zft {I:GH} {M0:List Blk} {deb:List Int} (hT:Tabs I deb) {a b:Tr} (ha:a.ok I) (hb:b.ok I) (hn:a.n≤1099511627776):Spec Tryz.prog 48 [a.val,b.val] I M0 fun v I' M'=>v=.bool (Z83 a b)∧(∀ c o,I c=some o->I' c=some o)∧M'=M0:=by
 refine Z01 [] Z00 Tryz.func48 rfl rfl rfl ?_;intro B h0;have han:=ha.n;have hbn:=hb.n
 by_cases h1:a.n=b.n
 rotate_left
 ·refine GuardOb.mk (fun h'=>absurd h' (by simp;omega)) (fun _=>?_)
  exact⟨_,_,.refl,by rw[Z83,decide_eq_false h1,Bool.false_and],fun _ _ h=>h,rfl⟩
 refine GuardOb.mk (fun _=>?_) (fun h'=>absurd h' (by simp[h1]));refine CallOb.mk [] M0 _ (.refl _) (Z1l hT.c ha) ?_
 rintro v J N - ⟨rfl,hJ,rfl⟩;subst J
 cases h2:right a with
 | false=>
  refine GuardOb.mk (fun h'=>absurd h' (by simp)) (fun _=>?_);exact⟨_,_,.refl,by rw[Z83,h2,Bool.false_and,Bool.and_false],fun _ _ h=>h,rfl⟩
 | true=>
 refine GuardOb.mk (fun _=>?_) (fun h'=>absurd h' (by simp));refine CallOb.mk [] M0 _ (.refl _) (Z1l hT.c hb) ?_
 rintro v J N - ⟨rfl,hJ,rfl⟩;subst J
 cases h3:right b with
 | false=>
  refine CondOb.mk (fun _=>?_) (fun h'=>absurd h' (by simp));exact⟨_,_,.refl,by rw[Z83,h3,Bool.false_and,Bool.and_false,Bool.and_false],fun _ _ h=>h,rfl⟩
 | true=>
 refine CondOb.mk (fun h'=>absurd h' (by simp)) (fun _=>?_);obtain⟨ra0,ra1⟩:=Z0Q h2
 obtain⟨rb0,rb1⟩:=Z0Q h3;obtain⟨ra,hra⟩:=Int.eq_ofNat_of_zero_le ra0;obtain⟨rb,hrb⟩:=Int.eq_ofNat_of_zero_le rb0;have hsa:=Z96 (M0:=M0) ha h2 hn (node:=ra) (by omega);rw[←hra] at hsa
 refine CodeOb.draw Z00 rfl rfl rfl ?_;refine PCallOb.whole _ hsa (fun v I' M' h x hx=>by rw[h.2.1];exact hx) ?_;rintro v J N - ⟨hJ,hN,ta,rfl,hta,hsa2⟩;subst N
 have hsb:=Z96 (M0:=M0) (hb.mono hJ) h3 (by omega) (node:=rb) (by omega);rw[←hrb] at hsb
 refine PCallOb.whole _ hsb (fun v I' M' h x hx=>by rw[h.2.1];exact hx) ?_;rintro v J2 N - ⟨hJ2,hN,tb,rfl,htb,hsb2⟩;subst N
 refine CallOb.whole _ (Zd6 (hta.mono hJ2) htb) ?_;rintro v J3 N - ⟨rfl,hJ3,hN⟩;subst J3
 subst N;refine⟨_,_,.refl,?_,fun c o h=>hJ2 _ _ (hJ _ _ h),rfl⟩;rw[Z83,decide_eq_true h1,h2,h3,←hsa2.ct,←hsb2.ct,Zea]
 rfl
def Z5A (d e:Df):Bool:=decide (d.name=e.name) && Z83 d.t e.t
def Z3G (g h:Gr):Bool:=Z2v Z5A g.ds h.ds
theorem ZjS (a b:Tr):Z83 a.ct b.ct=Z83 a b:=by
 unfold Z83;rw[Z39,Z39];have e1:Zfw a.ct.ns a.ct.root=Zfw a.ns a.root:=Zgx a.ns a.root
 have e2:Zfw b.ct.ns b.ct.root=Zfw b.ns b.root:=Zgx b.ns b.root;rw[e1,e2];rfl
theorem Zeb (g h:Gr):Z3G g.ct h.ct=Z3G g h:=by
 unfold Z3G
 show Z2v Z5A (g.ds.map Df.ct) (h.ds.map Df.ct)=_
 have:∀ l m:List Df,Z2v Z5A (l.map Df.ct) (m.map Df.ct)=Z2v Z5A l m:=by
  intro l
  induction l with
  | nil=>intro m;cases m<;>rfl
  | cons a l ih=>
   intro m
   cases m with
   | nil=>rfl
   | cons b m=>
    rw[List.map_cons,List.map_cons,Z2v,Z2v,ih]
    congr 1
    unfold Z5A;have e1:Z83 a.ct.t b.ct.t=Z83 a.t b.t:=ZjS a.t b.t;rw[e1];rfl
 exact this _ _
set_option maxRecDepth 100000 in
set_option maxHeartbeats 2000000 in
theorem Zd7 {I:GH} {M0:List Blk} {deb:List Int} (hT:Tabs I deb) {d e:Df} (hd:d.ok I) (he:e.ok I) (hn:d.t.n≤1099511627776):Spec Tryz.prog 119 [.agg d.cells.toArray,.agg e.cells.toArray] I M0 fun v I' M'=>v=.bool (Z5A d e)∧(∀ c o,I c=some o->I' c=some o)∧M'=M0:=by
 refine Z01 [] Z00 Tryz.func119 rfl rfl rfl ?_;intro B h0;obtain⟨nm,t⟩:=d;obtain⟨nm',t'⟩:=e
 by_cases h:nm=nm'
 ·refine GuardOb.mk (fun _=>?_) (fun h'=>absurd h' (by simp[h]))
  refine CallOb.whole _ (Zft hT hd.t he.t hn) ?_;rintro v J N - ⟨rfl,hJ,hN⟩;subst N
  exact⟨_,_,.refl,by rw[Z5A,decide_eq_true h,Bool.true_and],hJ,rfl⟩
 ·refine GuardOb.mk (fun h'=>absurd h' (by simp[h])) (fun _=>?_)
  exact⟨_,_,.refl,by rw[Z5A,decide_eq_false h,Bool.false_and],fun _ _ h=>h,rfl⟩
set_option maxRecDepth 100000 in
set_option maxHeartbeats 4000000 in
theorem Zd8 {I:GH} {M0:List Blk} {deb:List Int} (hT:Tabs I deb) {s t:Gr} (hs:s.ok I) (ht:t.ok I) (hb:∀ d∈s.ds,d.t.n≤1099511627776):Spec Tryz.prog 118 [.slice s.a s.n s.c,.slice t.a t.n t.c,.func (.func 119) #[] #[]] I M0 fun v I' M'=>v=.bool (Z3G s t)∧(∀ c o,I c=some o->I' c=some o)∧M'=M0:=by
 refine Z01 [] Z00 Tryz.func118 rfl rfl rfl ?_;intro B h0;have hsn:=hs.n;have htn:=ht.n;have hcap:=hs.rs.cap;unfold Z3G
 by_cases hn:s.n=t.n
 rotate_left
 ·refine CondOb.mk (fun _=>?_) (fun h=>absurd h (by simp;omega))
  exact⟨_,_,.refl,by rw[Z82 _ _ _ (by omega)],fun _ _ h=>h,rfl⟩
 refine CondOb.mk (fun h=>absurd h (by simp[hn])) (fun _=>?_);refine LoopOb.inv (ι:=Nat×GH) (fun x=>{ fl:=[(1,.val (.slice t.a t.n t.c)),(2,.val (.func (.func 119) #[] #[])),(15,.val (.slice s.a s.n s.c)),(16,.val (.int .i64 s.n)),(17,.val (.int .i64 x.1))],gi:=x.2,mi:=M0 }) (fun x=>x.1≤s.n∧Z2v Z5A s.ds t.ds=Z2v Z5A (s.ds.drop x.1) (t.ds.drop x.1)∧∀ c o,I c=some o->x.2 c=some o) (fun x=>s.n - x.1) ?_ ?_
 ·exact⟨(0,I),⟨Nat.zero_le _,rfl,fun _ _ h=>h⟩,.refl,aF5,.nil⟩
 rintro⟨k,J⟩ ⟨hk,he,hJ⟩;simp only at hk he hJ
 refine CondOb.mk (fun h2=>?_) (fun h2=>?_)
 ·have hlt:k < s.n:=by have:(k:Int) < (s.n:Int):=of_decide_eq_true h2;omega
  have hkl:k < s.ds.length:=by omega
  have hkl':k < t.ds.length:=by omega
  obtain⟨ad,had,hrd⟩:=(hs.mono hJ).rs.row Df.cells_len hlt hkl;obtain⟨ad',had',hrd'⟩:=(ht.mono hJ).rs.row Df.cells_len (show k < t.n by omega) hkl';have hx:=(hs.mono hJ).ds _ (List.getElem_mem hkl);have hy:=(ht.mono hJ).ds _ (List.getElem_mem hkl')
  have hbx:=hb _ (List.getElem_mem hkl);rw[List.drop_eq_getElem_cons hkl,List.drop_eq_getElem_cons hkl',Z2v] at he
  generalize s.ds[k]=x at hrd hx he hbx;generalize t.ds[k]=y at hrd' hy he;refine IdxOb.mk ad k had rfl hlt ?_;refine LoadOb.mk _ (hrd _) ?_;refine IdxOb.mk ad' k had' rfl (by omega) ?_;refine LoadOb.mk _ (hrd' _) ?_;refine CallOb.whole _ (Zd7 (hT.mono hJ) hx hy hbx) ?_;rintro v J2 N - ⟨rfl,hJ2,hN⟩;subst N
  cases e:Z5A x y with
  | true=>
   refine CondOb.mk (fun h=>absurd h (by simp)) (fun _=>?_);refine ArithOb.mk _ (Z03 (i:=k) (by omega)) ?_
   exact⟨(k+1,J2),⟨⟨hlt,by simp only;rw[he,e,Bool.true_and],fun c o h=>hJ2 _ _ (hJ _ _ h)⟩,by simp only;omega⟩,.refl,aF5,.nil⟩
  | false=>
   refine CondOb.mk (fun _=>?_) (fun h=>absurd h (by simp));exact⟨_,_,.refl,by rw[he,e,Bool.false_and],fun c o h=>hJ2 _ _ (hJ _ _ h),rfl⟩
 ·have hge:k=s.n:=by have:¬ (k:Int) < (s.n:Int):=of_decide_eq_false h2;omega
  subst hge;rw[List.drop_of_length_le (by omega),List.drop_of_length_le (by omega)] at he;exact⟨_,_,.refl,by rw[he];rfl,hJ,rfl⟩
theorem Z97 {I:GH} {M0:List Blk} {deb:List Int} (hT:Tabs I deb) {s t:Gr} (hs:s.ok I) (ht:t.ok I) (hb:∀ d∈s.ds,d.t.n≤1099511627776):Spec Tryz.prog 73 [s.val,t.val] I M0 fun v I' M'=>v=.bool (Z3G s t)∧(∀ c o,I c=some o->I' c=some o)∧M'=M0:=by
 refine Z01 [] Z00 Tryz.func73 rfl rfl rfl ?_;intro B h0;refine CallOb.whole _ (Zd8 hT hs ht hb) ?_;rintro v J N - ⟨rfl,hJ,hN⟩;subst N
 exact⟨_,_,.refl,rfl,hJ,rfl⟩
theorem Zov {I:GH} {M0:List Blk} {deb:List Int} (hT:Tabs I deb) {g:Gr} (hg:g.ok I) (hkb:∀ d∈g.ds,KB d.t) (s:Stp):Spec Tryz.prog 32 [g.val,s.val] I M0 fun v I' M'=>(∀ b o,I b=some o->I' b=some o)∧M'=M0∧∃ (r:Int×List Df) (h:Gr),ZnS deb g s r∧v=.tuple #[h.val,.int .i64 r.1]∧h.ok I'∧h.ct=(grL r.2).ct:=by
 refine Spec.weakK (Spec.frame (Spec.frz (Znv hT hg hkb s))) ?_;rintro v J M ⟨M',rfl,-,hJ,rfl,-,I',M1,⟨h1,r,h,hr,rfl,hh,hct⟩,hF⟩;exact⟨hJ,rfl,r,h,hr,rfl,hh.frz hF,hct⟩
theorem Zim {I:GH} {M0:List Blk} {deb:List Int} (hT:Tabs I deb) {g:Gr} (hg:g.ok I) {x:Rw} (hx:RwW I x) (hx2:x.n≤1000000):Spec Tryz.prog 34 [g.val,x.val] I M0 fun v I' M'=>(∀ b o,I b=some o->I' b=some o)∧M'=M0∧∃ h:Gr,v=.tuple #[h.val,.bool (Z0B deb g x.l)]∧h.ok I'∧h.ct=(grL (Z2y deb g x.l)).ct:=by
 refine Spec.weakK (Spec.frame (Spec.frz (Ze9 hT hg hx hx2))) ?_;rintro v J M ⟨M',rfl,-,hJ,rfl,-,I',M1,⟨h1,h,rfl,hh,hct⟩,hF⟩;exact⟨hJ,rfl,h,rfl,hh.frz hF,hct⟩
theorem Z84 (deb:List Int) (g:Gr):Z0Z deb g.ct=Z0Z deb g:=by
 unfold Z0Z;rw[Z9u,Z7V];rfl
theorem Zin (deb:List Int) (g:Gr) (i:Int):Z0E deb g.ct i=Z0E deb g i:=by
 unfold Z0E;rw[Z9u,Z7V];rfl
theorem Z3H (deb:List Int) (g:Gr) (l:List Int):Z0B deb g.ct l=Z0B deb g l:=by
 have e:∀ i,Z0E deb g.ct i=Z0E deb g i:=Zin deb g;unfold Z0B;simp only[Z9u,e];rfl
def Zfu (cs:List DfC) (F:List Fl):Option Int:=if (Z7P (grC cs).ds F).2=0 then (Z0Z debL (grC cs)).head? else none
def doC (cs:List DfC) (F:List Fl) (s:Stp):Int×List Df:=if (Z7P (grC cs).ds F).2=0 then (if Z5x s (Z0Z debL (grC cs)).head? then (0,Z1a (Z3r (Z0O (grC cs)) 0) (grC cs).ds) else (47,[])) else ((Z7P (grC cs).ds F).2,[])
section
variable {I:GH} {cs:List DfC} {F:List Fl} (hK:Known13 cs F) {g:Gr} (hg:g.ok I) (hR:DfsR cs g.ds)
include hK hg hR
theorem Zfv {o:Option Int} (h:Zid debL g o):o=Zfu cs F:=by
 obtain⟨r,h1,rfl⟩:=h;rw[Z4v hK hg hR h1,Zfu,←Zbh hR hg,Z84]
theorem ZjT {s:Stp} {r:Int×List Df} (h:ZnS debL g s r):r.1=(doC cs F s).1∧r.2.map Df.ct=(doC cs F s).2:=by
 obtain⟨x,h1,rfl⟩:=h;have hct:=Zbh hR hg;rw[Z4v hK hg hR h1,doC,←hct,Z84,Z7V]
 split
 ·split
  ·refine⟨rfl,?_⟩
   show (Z1a _ g.ds).map Df.ct=Z1a _ (g.ds.map Df.ct)
   rw[Z2u]
  ·exact⟨rfl,rfl⟩
 ·exact⟨rfl,rfl⟩
end
theorem Z85 {I:GH} {M0:List Blk} (hT:Tabs I debL) {fu:Nat} {s:List UInt8} {cs:List DfC} {a1 e:Int} {k:IntKind} (hgr:ZbJ fu 52 s=some (cs,a1,k,e)):Spec Tryz.prog 31 [.string ⟨s.toArray⟩] I M0 fun v I' M'=>(∀ b o,I b=some o->I' b=some o)∧M'=M0∧∃ g:Gr,v=g.val∧g.ok I'∧DfsR cs g.ds:=by
 refine Z01 [] Z00 Tryz.func31 rfl rfl rfl ?_;intro B h0;refine CallOb.mk [] M0 _ (.refl _) (Zi3 hT hgr) ?_;rintro v J1 N - ⟨rfl,hJ1,g,rfl,hg,hR⟩;exact⟨_,_,.refl,hJ1,rfl,g,rfl,hg,hR⟩
theorem Zd9 {I:GH} {M0:List Blk} (hT:Tabs I debL) {cs:List DfC} {F:List Fl} (hK:Known13 cs F) {g:Gr} (hg:g.ok I) (hR:DfsR cs g.ds) {e:Int} (he:(Z7P (grC cs).ds F).2=e):Spec Tryz.prog 21 [g.val] I M0 fun v I' M'=>v=.int .i64 e∧(∀ b o,I b=some o->I' b=some o)∧M'=M0:=by
 refine Spec.weakK (ZcW hT hg (hK.of hg hR).2.2) ?_;rintro v J M ⟨h1,h2,r,rfl,hr⟩;exact⟨by rw[Z4v hK hg hR hr,he],h1,h2⟩
def Zmd:Option Int->List Int
 | none=>[]
 | some r=>[1000+r * 100]
set_option maxRecDepth 100000 in
set_option maxHeartbeats 8000000 in
theorem Zda {I:GH} {M0:List Blk} (hT:Tabs I debL) {fu:Nat} {s:List UInt8} {cs:List DfC} {a1 e:Int} {k:IntKind} (hgr:ZbJ fu 52 s=some (cs,a1,k,e)) {F:List Fl} {f:Nat} (hc:Zbj cs F f=true) {o:Option Int} (ho:Zfu cs F=o) (hb:∀ r,o=some r->0≤r∧r < 1000) :
  Spec Tryz.prog 72 [.string ⟨s.toArray⟩] I M0 fun v I' M'=>(∀ b o,I b=some o->I' b=some o)∧∃ os:OS,v=os.val∧os.ok 1 ((Zmd o).map (.int .i64 ·))∧M'=os.blk 3++M0:=by
 have hK:=Z5w hc;refine Z01 [] Z00 Tryz.func72 rfl rfl rfl ?_;intro B h0;refine CallOb.whole _ (Z85 hT hgr) ?_;rintro v J1 N - ⟨hJ1,hN,g,rfl,hg,hR⟩;subst N
 have hT1:=hT.mono hJ1;obtain⟨hm,hF,hkb⟩:=hK.of hg hR;have h64:=Zfe hm;refine CallOb.whole _ (Zfq hT1 hg (by omega) hkb) ?_;rintro v J2 N - ⟨hJ2,o',os,ho',hos,rfl,hN⟩;subst N
 obtain rfl:o'=o:=(Zfv hK hg hR ho').trans ho;have hlen:=hos.len;rw[Z0i _ 5 Stp.cells_len] at hlen
 have hJ:∀ b o,I b=some o->J2 b=some o:=fun b o h=>hJ2 _ _ (hJ1 _ _ h)
 cases o' with
 | none=>
  have hn:os.n=0:=by
   simp[Ze7] at hlen;omega
  refine LoopOb.unroll 1 ?_;refine CondOb.mk (fun h=>absurd h (by simp[hn])) (fun _=>?_);exact⟨_,_,.sub (List.sublist_append_right _ _) .refl,hJ,OS0,rfl,Z1C 1,rfl⟩
 | some r=>
  have hn:os.n=1:=by
   simp[Ze7] at hlen;omega
  obtain⟨hr0,hr1⟩:=hb r rfl;obtain⟨ad,had,hrd⟩:=OS.ok.row (I:=J2) (M:=os.blk 59++M0) (e:=59) Stp.cells_len (by decide) hos (fun z hz=>List.mem_append_left _ hz) (j:=0) (by simp[Ze7]);have hrd:Rd J2 (os.blk 59++M0) (ad.add (0 * 5)) 5 [.int .u8 7,.int .u8 1,.int .i64 r,.slice none 0 0,.int .i64 0]:=hrd
  have r1:Rd J2 (os.blk 59++M0) ((ad.add (0 * 5)).add 1) 1 [.int .u8 1]:=hrd.part (k:=1) (m:=1) (by decide);have r2:Rd J2 (os.blk 59++M0) ((ad.add (0 * 5)).add 2) 1 [.int .i64 r]:=hrd.part (k:=2) (m:=1) (by decide)
  have r3:Rd J2 (os.blk 59++M0) ((ad.add (0 * 5)).add 3) 1 [.slice none 0 0]:=hrd.part (k:=3) (m:=1) (by decide);have r4:Rd J2 (os.blk 59++M0) ((ad.add (0 * 5)).add 4) 1 [.int .i64 0]:=hrd.part (k:=4) (m:=1) (by decide)
  refine LoopOb.unroll 2 ?_;refine CondOb.mk (fun _=>?_) (fun h=>absurd h (by simp[hn]));refine CodeOb.draw Z00 rfl rfl rfl ?_
  refine IdxOb.mk ad 0 had rfl (by omega) ?_;refine LoadOb.mk _ r1 ?_;refine ArithOb.mk 1 (by decide) ?_;refine ArithOb.mk 1000 (by decide) ?_;refine IdxOb.mk ad 0 had rfl (by omega) ?_;refine LoadOb.mk _ r2 ?_;refine ArithOb.mk (r * 100) (Z3h rfl (by omega)) ?_;refine ArithOb.mk (1000+r * 100) (Z3h rfl (by omega)) ?_;refine IdxOb.mk ad 0 had rfl (by omega) ?_;refine LoadOb.mk _ r3 ?_;refine ArithOb.mk 0 (by decide) ?_;refine ArithOb.mk (1000+r * 100) (Z3h (by omega) (by omega)) ?_;refine IdxOb.mk ad 0 had rfl (by omega) ?_;refine LoadOb.mk _ r4 ?_;refine ArithOb.mk (1000+r * 100) (Z3h (by omega) (by omega)) ?_
  refine AllocOb.mk fun b hb hbM=>?_
  refine OtherOb.app1 Z00 rfl (by simp) (e:=3) rfl rfl rfl OS0 (Z1C 1) rfl (cs:=[.int .i64 (1000+r * 100)]) rfl rfl rfl [] (os.blk 59++M0) rfl (by decide) (by decide) ?_;intro os2 hn2 hI2 hok2;refine ArithOb.mk 1 (by decide) ?_;refine CondOb.mk (fun h=>absurd h (by simp[hn])) (fun _=>?_);exact⟨_,_,.sub (List.Sublist.append_left (List.sublist_append_right _ _) (os2.blk 3)) .refl,hJ,os2,rfl,hok2,rfl⟩
theorem Z66 {I:GH} {M0:List Blk} (hT:Tabs I debL) {fu:Nat} {s:List UInt8} {cs:List DfC} {a1 e:Int} {k:IntKind} (hgr:ZbJ fu 52 s=some (cs,a1,k,e)) {F:List Fl} {f:Nat} (hc:Zbj cs F f=true) {o:Option Int} (ho:Zfu cs F=o) (hb:∀ r,o=some r->0≤r∧r < 1000)
  {a:Option Addr} {n c:Nat} (hw:(o=none∧n=0)∨∃ r ad,o=some r∧n=1∧a=some ad∧∀ (J:GH) (M:List Blk),(∀ z∈M0,z∈M)->Rd J M (ad.add (0 * 1)) 1 [.int .i64 (1000+r * 100)]) :
  Spec Tryz.prog 29 [.string ⟨s.toArray⟩,.slice a n c] I M0 fun v I' M'=>v=.bool true∧(∀ b o,I b=some o->I' b=some o)∧M'=M0:=by
 refine Z01 [] Z00 Tryz.func29 rfl rfl rfl ?_;intro B h0;refine CallOb.whole _ (Zda hT hgr hc ho hb) ?_;rintro v J N - ⟨hJ,os,rfl,hos,hN⟩;subst N
 have hlen:(Zmd o).length=os.n:=by simpa using hos.len
 rcases hw with ⟨rfl,rfl⟩ | ⟨r,ad,rfl,rfl,rfl,hrd⟩
 ·have hn:os.n=0:=hlen.symm
  refine CondOb.mk (fun h=>absurd h (by simp[hn])) (fun _=>?_);refine LoopOb.unroll 1 ?_
  refine CondOb.mk (fun h=>absurd h (by simp[hn])) (fun _=>?_);exact⟨_,_,.sub (List.sublist_append_right _ _) .refl,rfl,hJ,rfl⟩
 ·have hn:os.n=1:=hlen.symm
  obtain⟨ad2,had2,hrd2⟩:=OS.rdI (I:=J) (M:=os.blk 3++M0) (e:=3) hos (fun z hz=>List.mem_append_left _ hz) (j:=0) (by simp[Zmd]);have hrd2:Rd J (os.blk 3++M0) (ad2.add (0 * 1)) 1 [.int .i64 (1000+r * 100)]:=hrd2
  refine CondOb.mk (fun h=>absurd h (by simp[hn])) (fun _=>?_);refine LoopOb.unroll 2 ?_
  refine CondOb.mk (fun _=>?_) (fun h=>absurd h (by simp[hn]));refine CodeOb.draw Z00 rfl rfl rfl ?_
  refine IdxOb.mk ad2 0 had2 rfl (by omega) ?_;refine LoadOb.mk _ hrd2 ?_;refine IdxOb.mk ad 0 rfl rfl (by omega) ?_;refine LoadOb.mk _ (hrd J _ fun z hz=>List.mem_append_right _ hz) ?_;refine CondOb.mk (fun h=>absurd h (by simp)) (fun _=>?_);refine ArithOb.mk 1 (by decide) ?_
  refine CondOb.mk (fun h=>absurd h (by simp[hn])) (fun _=>?_);exact⟨_,_,.sub (List.sublist_append_right _ _) .refl,rfl,hJ,rfl⟩
set_option maxRecDepth 100000 in
set_option maxHeartbeats 4000000 in
theorem ZbA {I:GH} (hT:Tabs I debL) {fu fu':Nat} {s want:List UInt8} {cs cw:List DfC} {a1 e a1' e':Int} {k k':IntKind} (hgr:ZbJ fu 52 s=some (cs,a1,k,e)) (hgw:ZbJ fu' 52 want=some (cw,a1',k',e')) {F:List Fl} {f:Nat} (hc:Zbj cs F f=true)
  {way rule at_:Int} {pa:Option Addr} {pn pc:Nat} {ds:List Df} (hd:doC cs F ⟨7,way,rule,pa,pn,pc,[],at_⟩=(0,ds)) (hsame:Z3G (grL ds) (grC cw)=true) (hpos:0 < ds.length) (hsm:(ds.all fun d=>decide (d.t.n≤1000000))=true) :
  Spec Tryz.prog 30 [.string ⟨s.toArray⟩,.int .u8 way,.int .i64 rule,.slice pa pn pc,.int .i64 at_,.string ⟨want.toArray⟩] I [] fun v I' M'=>v=.bool true∧(∀ b o,I b=some o->I' b=some o)∧M'=[]:=by
 have hK:=Z5w hc;refine Z01 [] Z00 Tryz.func30 rfl rfl rfl ?_;intro B h0;refine CallOb.whole _ (Z85 hT hgr) ?_;rintro v J1 N - ⟨hJ1,hN,g,rfl,hg,hR⟩;subst N
 have hT1:=hT.mono hJ1;obtain⟨hm,hF,hkb⟩:=hK.of hg hR;refine CallOb.whole _ (Zov hT1 hg hkb ⟨7,way,rule,pa,pn,pc,[],at_⟩) ?_;rintro v J2 N - ⟨hJ2,hN,r,h,hr,rfl,hh,hct⟩;subst N
 obtain⟨q1,q2⟩:=ZjT hK hg hR hr;rw[hd] at q1 q2;obtain⟨r1,r2⟩:=r;simp only at q1 q2 hct;subst q1;have hT2:=hT1.mono hJ2;have hhn:=hh.n;have hds:h.ds.map Df.ct=ds:=(congrArg Gr.ds hct).trans q2
 have hl:h.ds.length=ds.length:=by rw[←hds,List.length_map]
 have hsmall:∀ d∈h.ds,d.t.n≤1099511627776:=fun d hd=>by
  have h1:d.ct∈ds:=by rw[←hds];exact List.mem_map.2 ⟨d,hd,rfl⟩
  have h2:=of_decide_eq_true (List.all_eq_true.1 hsm _ h1);have h3:d.ct.t.n=d.t.n:=rfl
  omega
 refine CodeOb.draw Z00 rfl rfl rfl ?_;refine GuardOb.mk (fun _=>?_) (fun h=>absurd h (by simp));refine GuardOb.mk (fun _=>?_) (fun h=>absurd h (by simp;omega))
 refine PCallOb.whole _ (Z85 hT2 hgw) (fun v I' M' h x hx=>by rw[h.2.1];exact hx) ?_;rintro v J3 N - ⟨hJ3,hN,w,rfl,hw,hRw⟩;subst N
 refine CallOb.whole _ (Z97 (hT2.mono hJ3) (hh.mono hJ3) hw hsmall) ?_;rintro v J4 N - ⟨rfl,hJ4,hN⟩;subst N
 refine⟨_,_,.refl,?_,fun b o h=>hJ4 _ _ (hJ3 _ _ (hJ2 _ _ (hJ1 _ _ h))),rfl⟩
 have e1:Z3G h w=Z3G (grL ds) (grC cw):=by
  rw[←Zeb h w,Zbh hRw hw];unfold Z3G
  show Z2v Z5A (h.ds.map Df.ct) _=_
  rw[hds];rfl
 rw[e1,hsame]
set_option maxRecDepth 100000 in
set_option maxHeartbeats 4000000 in
theorem Z67 {I:GH} {M0:List Blk} (hT:Tabs I debL) {fu fu':Nat} {s want:List UInt8} {cs cw:List DfC} {a1 e a1' e':Int} {k k':IntKind} (hgr:ZbJ fu 52 s=some (cs,a1,k,e)) (hgw:ZbJ fu' 52 want=some (cw,a1',k',e')) (hwn:(⟨want.toArray⟩:ByteArray)≠⟨#[]⟩)
  {x:Rw} (hx:RwW I x) (hxn:x.n≤1000000) {ds:List Df} (hk1:Z0B debL (grC cs) x.l=true) (hd:Z1a ((Z0a x.l).take (grC cs).n) (grC cs).ds=ds) (hsame:Z3G (grL ds) (grC cw)=true) (hsm:(ds.all fun d=>decide (d.t.n≤1000000))=true) :
  Spec Tryz.prog 36 [.string ⟨s.toArray⟩,.string ⟨want.toArray⟩,x.val] I M0 fun v I' M'=>v=.bool true∧(∀ b o,I b=some o->I' b=some o)∧M'=M0:=by
 refine Z01 [] Z00 Tryz.func36 rfl rfl rfl ?_;intro B h0;refine CallOb.whole _ (Z85 hT hgr) ?_;rintro v J1 N - ⟨hJ1,hN,g,rfl,hg,hR⟩;subst N
 have hT1:=hT.mono hJ1;have hgct:=Zbh hR hg;rw[←hgct,Z3H] at hk1
 have hd2:(Z1a ((Z0a x.l).take g.n) g.ds).map Df.ct=ds:=by
  rw[←hgct] at hd;rw[←hd,←Z2u];rfl
 refine CallOb.whole _ (Zim hT1 hg (hx.mono hJ1) hxn) ?_;rintro v J2 N - ⟨hJ2,hN,h,rfl,hh,hct⟩;subst N
 rw[hk1]
 have hct2:h.ct=(grL (Z1a ((Z0a x.l).take g.n) g.ds)).ct:=by rw[hct,Z2y,hk1,if_pos rfl]
 have hT2:=hT1.mono hJ2;have hds:h.ds.map Df.ct=ds:=(congrArg Gr.ds hct2).trans hd2
 have hsmall:∀ d∈h.ds,d.t.n≤1099511627776:=fun d hd=>by
  have h1:d.ct∈ds:=by rw[←hds];exact List.mem_map.2 ⟨d,hd,rfl⟩
  have h2:=of_decide_eq_true (List.all_eq_true.1 hsm _ h1);have h3:d.ct.t.n=d.t.n:=rfl
  omega
 refine CondOb.mk (fun h=>absurd (of_decide_eq_true h) hwn) (fun _=>?_);refine CodeOb.draw Z00 rfl rfl rfl ?_
 refine GuardOb.mk (fun _=>?_) (fun h=>absurd h (by simp));refine PCallOb.whole _ (Z85 hT2 hgw) (fun v I' M' h x hx=>by rw[h.2.1];exact hx) ?_
 rintro v J3 N - ⟨hJ3,hN,w,rfl,hw,hRw⟩;subst N
 refine CallOb.whole _ (Z97 (hT2.mono hJ3) (hh.mono hJ3) hw hsmall) ?_;rintro v J4 N - ⟨rfl,hJ4,hN⟩;subst N
 refine⟨_,_,.refl,?_,fun b o h=>hJ4 _ _ (hJ3 _ _ (hJ2 _ _ (hJ1 _ _ h))),rfl⟩
 have e1:Z3G h w=Z3G (grL ds) (grC cw):=by
  rw[←Zeb h w,Zbh hRw hw];unfold Z3G
  show Z2v Z5A (h.ds.map Df.ct) _=_
  rw[hds];rfl
 rw[e1,hsame]
theorem ZbB {I:GH} {M0:List Blk} (hT:Tabs I debL) {fu:Nat} {s:List UInt8} {cs:List DfC} {a1 e:Int} {k:IntKind} (hgr:ZbJ fu 52 s=some (cs,a1,k,e))
  {x:Rw} (hx:RwW I x) (hxn:x.n≤1000000) (hk1:Z0B debL (grC cs) x.l=false) :
  Spec Tryz.prog 36 [.string ⟨s.toArray⟩,.string ⟨#[]⟩,x.val] I M0 fun v I' M'=>v=.bool true∧(∀ b o,I b=some o->I' b=some o)∧M'=M0:=by
 refine Z01 [] Z00 Tryz.func36 rfl rfl rfl ?_;intro B h0;refine CallOb.whole _ (Z85 hT hgr) ?_;rintro v J1 N - ⟨hJ1,hN,g,rfl,hg,hR⟩;subst N
 have hT1:=hT.mono hJ1;rw[←Zbh hR hg,Z3H] at hk1;refine CallOb.whole _ (Zim hT1 hg (hx.mono hJ1) hxn) ?_;rintro v J2 N - ⟨hJ2,hN,h,rfl,hh,hct⟩;subst N
 rw[hk1]
 have hn:h.n=0:=by
  have:=congrArg Gr.n hct;rw[Z2y,hk1] at this;exact this
 refine CondOb.mk (fun _=>?_) (fun h=>absurd h (by simp));refine GuardOb.mk (fun _=>?_) (fun h=>absurd h (by simp))
 refine⟨_,_,.refl,?_,fun b o h=>hJ2 _ _ (hJ1 _ _ h),rfl⟩;rw[hn]
 rfl
end Go.V
