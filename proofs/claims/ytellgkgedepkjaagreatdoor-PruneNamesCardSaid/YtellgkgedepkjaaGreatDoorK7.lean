/-
  Part 7 of what the proofs of this seat share: the executor, data in memory, walks.
-/
import Derived.Test.YtellgkgedepkjaaGreatDoorK6
import Derived.Test.YtellgkgedepkjaaGreatDoorK3
import Derived.Test.YtellgkgedepkjaaGreatDoorK4
set_option linter.all false
namespace Go.V
open Go Go.Proofs
theorem RS.one' {I:GH} {a:Option Addr} {n c size b:Nat} {vs:List Value} (h:RS I a n c size b vs) (M:List Blk) (h0:0 < n):∃ ad,a=some ad∧Rd I M ad (n * size) vs:=by
 rcases h.rd with h1 | ⟨ad,h1,h2,cs,T,fr,h3,h4⟩
 ·omega
 ·exact⟨ad,h1,h2,cs,T,fr,.inl h3,h4,h.len⟩
theorem ints_one (l:List Int):allOne (l.map (.int .i64 ·))=true:=List.all_eq_true.2 fun v hv=>by
 obtain⟨k,_,rfl⟩:=List.mem_map.1 hv
 rfl
theorem flat_one {α:Type} {f:α→List Value} (h:∀ x,allOne (f x)=true) (l:List α):allOne (l.flatMap f)=true:=List.all_eq_true.2 fun v hv=>by
 obtain⟨x,_,hx⟩:=List.mem_flatMap.1 hv
 exact List.all_eq_true.1 (h x) v hx
theorem Nd.one (d:Nd):allOne d.cells=true:=rfl
theorem Df.one (d:Df):allOne d.cells=true:=rfl
set_option maxHeartbeats 1000000 in
theorem CloneI_own {I:GH} {M0:List Blk} {a:Option Addr} {n c:Nat} {vs:List Value} (h:RS I a n c 1 8 vs) (h1:allOne vs=true):Spec Tryz.prog 112 [.slice a n c] I M0 fun v I' M'=>I'=I∧∃ os:OS,os.n=n∧os.ok 1 vs∧v=os.val∧M'=os.blk 3++M0:=by
 refine spec_of_V [] TryzEOK Tryz.func112 rfl rfl rfl ?_
 intro B h0
 have hcap:=h.cap
 refine BinOb.nilS TryzEOK rfl rfl ?_
 refine CondOb.mk (fun hc=>?_) (fun hc=>?_)
 ·have hn:n=0:=by
   rcases h.rd with h2 | ⟨ad,h2,_⟩
   ·exact h2
   ·rw[h2] at hc;cases hc
  subst hn
  have h3:vs=[]:=List.eq_nil_of_length_eq_zero (by rw[h.len,Nat.zero_mul])
  subst h3
  exact⟨_,_,.refl,rfl,OS0,rfl,OS0_ok 1,rfl,rfl⟩
 refine AllocOb.mk fun b hb hbM=>?_
 refine OtherOb.appL TryzEOK rfl (by simp) (e:=3) rfl rfl rfl ⟨some b,0,0,[]⟩ (xs:=[]) ⟨rfl,(fun h=>by cases h),(fun g h=>⟨rfl,Nat.le_refl _,Nat.zero_le _,rfl⟩)⟩ rfl (sa:=a) (m:=n) (c':=c) (news:=vs) rfl h.len (h.one' _) h1 [] M0 rfl (by simp only;omega) (by show (0+n) * 8≤_;omega) ?_
 intro os hn hI hok
 rw[List.nil_append] at hok
 exact⟨_,_,.refl,rfl,os,hn.trans (Nat.zero_add n),hok,rfl,rfl⟩
set_option maxHeartbeats 1000000 in
theorem CloneN_spec {I:GH} {M0:List Blk} {a:Option Addr} {n c:Nat} {vs:List Value} (h:RS I a n c 9 96 vs) (h1:allOne vs=true):Spec Tryz.prog 111 [.slice a n c] I M0 fun v I' M'=>I'=I∧∃ os:OS,os.n=n∧os.ok 9 vs∧v=os.val∧M'=os.blk 91++M0:=by
 refine spec_of_V [] TryzEOK Tryz.func111 rfl rfl rfl ?_
 intro B h0
 have hcap:=h.cap
 refine BinOb.nilS TryzEOK rfl rfl ?_
 refine CondOb.mk (fun hc=>?_) (fun hc=>?_)
 ·have hn:n=0:=by
   rcases h.rd with h2 | ⟨ad,h2,_⟩
   ·exact h2
   ·rw[h2] at hc;cases hc
  subst hn
  have h3:vs=[]:=List.eq_nil_of_length_eq_zero (by rw[h.len,Nat.zero_mul])
  subst h3
  exact⟨_,_,.refl,rfl,OS0,rfl,OS0_ok 9,rfl,rfl⟩
 refine AllocOb.mk fun b hb hbM=>?_
 refine OtherOb.appL TryzEOK rfl (by simp) (e:=91) rfl rfl rfl ⟨some b,0,0,[]⟩ (xs:=[]) ⟨rfl,(fun h=>by cases h),(fun g h=>⟨rfl,Nat.le_refl _,Nat.zero_le _,rfl⟩)⟩ rfl (sa:=a) (m:=n) (c':=c) (news:=vs) rfl h.len (h.one' _) h1 [] M0 rfl (by simp only;omega) (by show (0+n) * 96≤_;omega) ?_
 intro os hn hI hok
 rw[List.nil_append] at hok
 exact⟨_,_,.refl,rfl,os,hn.trans (Nat.zero_add n),hok,rfl,rfl⟩
set_option maxHeartbeats 1000000 in
theorem CloneD_spec {I:GH} {M0:List Blk} {a:Option Addr} {n c:Nat} {vs:List Value} (h:RS I a n c 3 48 vs) (h1:allOne vs=true):Spec Tryz.prog 110 [.slice a n c] I M0 fun v I' M'=>I'=I∧∃ os:OS,os.n=n∧os.ok 3 vs∧v=os.val∧M'=os.blk 46++M0:=by
 refine spec_of_V [] TryzEOK Tryz.func110 rfl rfl rfl ?_
 intro B h0
 have hcap:=h.cap
 refine BinOb.nilS TryzEOK rfl rfl ?_
 refine CondOb.mk (fun hc=>?_) (fun hc=>?_)
 ·have hn:n=0:=by
   rcases h.rd with h2 | ⟨ad,h2,_⟩
   ·exact h2
   ·rw[h2] at hc;cases hc
  subst hn
  have h3:vs=[]:=List.eq_nil_of_length_eq_zero (by rw[h.len,Nat.zero_mul])
  subst h3
  exact⟨_,_,.refl,rfl,OS0,rfl,OS0_ok 3,rfl,rfl⟩
 refine AllocOb.mk fun b hb hbM=>?_
 refine OtherOb.appL TryzEOK rfl (by simp) (e:=46) rfl rfl rfl ⟨some b,0,0,[]⟩ (xs:=[]) ⟨rfl,(fun h=>by cases h),(fun g h=>⟨rfl,Nat.le_refl _,Nat.zero_le _,rfl⟩)⟩ rfl (sa:=a) (m:=n) (c':=c) (news:=vs) rfl h.len (h.one' _) h1 [] M0 rfl (by simp only;omega) (by show (0+n) * 48≤_;omega) ?_
 intro os hn hI hok
 rw[List.nil_append] at hok
 exact⟨_,_,.refl,rfl,os,hn.trans (Nat.zero_add n),hok,rfl,rfl⟩
theorem set_ct {L:List Nd} {i:Nat} (hi:i < L.length) {d:Nd} (h:d.ct=L[i].ct):(L.set i d).map Nd.ct=L.map Nd.ct:=by
 rw[List.map_set,h]
 refine List.ext_getElem? fun j=>?_
 rw[List.getElem?_set]
 split
 ·rename_i e
  subst e
  rw[List.length_map,if_pos hi,List.getElem?_map,List.getElem?_eq_getElem hi]
  rfl
 ·rfl
theorem os_n {os os':OS} (h:os.val=os'.val):os.n=os'.n∧os.c=os'.c:=by
 unfold OS.val at h
 injection h with h1 h2 h3
 exact⟨h2,h3⟩
theorem set_ctD {L:List Df} {i:Nat} (hi:i < L.length) {d:Df} (h:d.ct=L[i].ct):(L.set i d).map Df.ct=L.map Df.ct:=by
 rw[List.map_set,h]
 refine List.ext_getElem? fun j=>?_
 rw[List.getElem?_set]
 split
 ·rename_i e
  subst e
  rw[List.length_map,if_pos hi,List.getElem?_map,List.getElem?_eq_getElem hi]
  rfl
 ·rfl
theorem drop_flat {α:Type} (f:α→List Value) (size:Nat) (hf:∀ x,(f x).length=size) (l:List α) (j:Nat):(l.drop j).flatMap f=(l.flatMap f).drop (j * size):=by
 by_cases h:j≤l.length
 ·have e:l.flatMap f=(l.take j).flatMap f++(l.drop j).flatMap f:=by rw[←List.flatMap_append,List.take_append_drop]
  have h2:((l.take j).flatMap f).length=j * size:=by rw[flat_len f size hf,List.length_take_of_le h]
  rw[e,←h2,List.drop_left]
 ·have h1:l.length≤j:=by omega
  rw[List.drop_of_length_le h1,List.drop_of_length_le (by rw[flat_len f size hf];exact Nat.mul_le_mul_right _ h1)]
  rfl
structure RM (T:Nat) (M:List Blk) (a:Option Addr) (n c size b:Nat) (vs:List Value):Prop where
 len:vs.length=n * size
 cap:n≤c∧n * b≤140737488355328
 rd:n=0∨∃ g cs,a=some ⟨g,0,none⟩∧(⟨g,.cells cs T (0,0)⟩:Blk)∈M∧cs.toList.take (n * size)=vs∧n * size≤cs.size
theorem RM.mono {T:Nat} {M M':List Blk} {a:Option Addr} {n c size b:Nat} {vs:List Value} (h:RM T M a n c size b vs) (hM:∀ x∈M,x∈M'):RM T M' a n c size b vs:=
 ⟨h.len,h.cap,h.rd.imp id fun ⟨g,cs,h1,h2,h3,h4⟩=>⟨g,cs,h1,hM _ h2,h3,h4⟩⟩
theorem RM.frz {T:Nat} {I J:GH} {M:List Blk} (hF:Frz I M J) {a:Option Addr} {n c size b:Nat} {vs:List Value} (h:RM T M a n c size b vs):RS J a n c size b vs:=
 ⟨h.len,h.cap,h.rd.imp id fun ⟨g,cs,h1,h2,h3,h4⟩=>⟨⟨g,0,none⟩,h1,rfl,cs,T,(0,0),hF.kn _ _ (.inr ⟨_,h2,rfl,rfl⟩),by rw[List.drop_zero];exact h3⟩⟩
theorem RM.of_os {os:OS} {size e b:Nat} {xs:List Value} (h:os.ok size xs) (hb:os.n * b≤140737488355328):RM e (os.blk e) (os.a.map fun g=>⟨g,0,none⟩) os.n os.c size b xs:=by
 obtain⟨a,n,c,cur⟩:=os
 cases a with
 | none=>
  obtain⟨h1,h2⟩:=h.nil rfl
  exact⟨h.len,⟨by simp only at h1 h2 ⊢;omega,hb⟩,.inl h1⟩
 | some g=>
  obtain⟨h1,h2,h3,h4⟩:=h.cap g rfl
  refine⟨h.len,⟨h2,hb⟩,.inr ⟨g,cur.toArray,rfl,.head _,h4,?_⟩⟩
  simp only at h1 h2 ⊢
  have:=Nat.mul_le_mul_right size h2
  show n * size≤cur.length
  omega
structure NdM (M:List Blk) (d:Nd):Prop where
 k:0≤d.k∧d.k < 256
 s0:u64ok d.s0
 s1:u64ok d.s1
 s2:u64ok d.s2
 s3:u64ok d.s3
 t:d.t.size≤9223372036854775807
 lo:i64ok d.lo
 hi:i64ok d.hi
 rs:RM 3 M d.ka d.kn d.kc 1 8 (d.kids.map (.int .i64 ·))
 kids:∀ x∈d.kids,i64ok x
structure TrM (M:List Blk) (t:Tr):Prop where
 rs:RM 91 M t.a t.n t.c 9 96 (t.ns.flatMap Nd.cells)
 ns:∀ d∈t.ns,NdM M d
 root:i64ok t.root
structure DfM (M:List Blk) (d:Df):Prop where
 name:d.name.size≤140737488355328
 t:TrM M d.t
structure GrM (M:List Blk) (g:Gr):Prop where
 rs:RM 46 M g.a g.n g.c 3 48 (g.ds.flatMap Df.cells)
 ds:∀ d∈g.ds,DfM M d
theorem NdM.mono {M M':List Blk} {d:Nd} (h:NdM M d) (hM:∀ x∈M,x∈M'):NdM M' d:={ h with rs:=h.rs.mono hM }
theorem TrM.mono {M M':List Blk} {t:Tr} (h:TrM M t) (hM:∀ x∈M,x∈M'):TrM M' t:=⟨h.rs.mono hM,fun d hd=>(h.ns d hd).mono hM,h.root⟩
theorem DfM.mono {M M':List Blk} {d:Df} (h:DfM M d) (hM:∀ x∈M,x∈M'):DfM M' d:=⟨h.name,h.t.mono hM⟩
theorem NdM.frz {I J:GH} {M:List Blk} (hF:Frz I M J) {d:Nd} (h:NdM M d):d.ok J:={ h with rs:=h.rs.frz hF }
theorem TrM.frz {I J:GH} {M:List Blk} (hF:Frz I M J) {t:Tr} (h:TrM M t):t.ok J:=⟨h.rs.frz hF,fun d hd=>(h.ns d hd).frz hF,h.root⟩
theorem GrM.frz {I J:GH} {M:List Blk} (hF:Frz I M J) {g:Gr} (h:GrM M g):g.ok J:=⟨h.rs.frz hF,fun d hd=>⟨(h.ds d hd).name,(h.ds d hd).t.frz hF⟩⟩
structure CqT (I:GH) (t:Tr) (os0:OS) (x:Nat×OS×List Nd×List Blk):Prop where
 i:x.1≤t.n
 ok:x.2.1.ok 9 (x.2.2.1.flatMap Nd.cells)
 ct:x.2.2.1.map Nd.ct=t.ns.map Nd.ct
 own:∀ j,∀ h:j < x.2.2.1.length,j < x.1→NdM x.2.2.2 x.2.2.1[j]
 old:∀ j,∀ h:j < x.2.2.1.length,x.1≤j→x.2.2.1[j].ok I
 a:x.2.1.a=os0.a
 v:x.2.1.val=os0.val
set_option maxRecDepth 100000 in
set_option maxHeartbeats 4000000 in
theorem copied_full {I:GH} {t:Tr} (ht:t.ok I):Spec Tryz.prog 66 [t.val] I [] fun v I' M'=>I'=I∧∃ t':Tr,v=t'.val∧TrM M' t'∧t'.ct=t.ct:=by
 refine spec_of_V [] TryzEOK Tryz.func66 rfl rfl rfl ?_
 intro B h0
 have htn:=ht.n
 have hcap:=ht.rs.cap
 refine CallOb.whole _ (CloneN_spec ht.rs (flat_one Nd.one _)) ?_
 rintro v J N - ⟨hJ,os0,hosn0,hos0,rfl,hN⟩
 subst J
 subst N
 refine LoopOb.inv (ι:=Nat×OS×List Nd×List Blk) (fun x=>{ fl:=[(1,.ref 1 0),(2,.ref 2 0),(10,.val os0.val),(11,.val (.int .i64 os0.n)),(12,.val (.int .i64 x.1))],cl:=[(1,[os0.val,.int .i64 t.root]),(2,[.slice none 0 0,.int .i64 0])],gi:=I,mi:=x.2.1.blk 91++x.2.2.2 }) (fun x=>CqT I t os0 x) (fun x=>t.n - x.1) ?_ ?_
 ·exact⟨(0,os0,t.ns,[]),⟨Nat.zero_le _,hos0,rfl,fun j _ h=>absurd h (Nat.not_lt_zero _),fun j h _=>ht.ns _ (List.getElem_mem h),rfl,rfl⟩,.refl,aF5,.cons rfl (.cons rfl (.nil))⟩
 rintro⟨i,os,L,Mk⟩ ⟨hi,hos,hct,hown,hold,hoa,hov⟩
 simp only at hi hos hct hown hold hoa hov
 have hLn:L.length=t.ns.length:=by simpa using congrArg List.length hct
 obtain⟨hon,hoc⟩:=os_n hov
 refine CondOb.mk (fun h=>?_) (fun h=>?_)
 rotate_left
 ·have hge:i=t.n:=by have:¬ (i:Int) < (os0.n:Int):=of_decide_eq_false h;omega
  refine⟨_,_,.refl,rfl,⟨L,os.a.map fun g=>⟨g,0,none⟩,os.n,os.c,t.root⟩,by rw[←hov];rfl,⟨(RM.of_os (b:=96) hos (by omega)).mono fun x hx=>List.mem_append_left _ hx,fun d hd=>?_,ht.root⟩,?_⟩
  ·obtain⟨j,hj,rfl⟩:=List.getElem_of_mem hd
   have hj':j < L.length:=hj
   exact(hown j hj' (by omega)).mono fun x hx=>List.mem_append_right _ hx
  ·unfold Tr.ct
   simp only
   rw[hct,hon,hosn0]
 have hlt:i < t.n:=by have:(i:Int) < (os0.n:Int):=of_decide_eq_true h;omega
 have hiL:i < L.length:=by omega
 obtain⟨ad,had,hrd⟩:=OS.ok.row (I:=I) (M:=os.blk 91++Mk) (e:=91) Nd.cells_len (by decide) hos (fun z hz=>List.mem_append_left _ hz) hiL
 have hdok:=hold i hiL (Nat.le_refl _)
 have hadI:=had
 rw[hoa] at hadI
 refine IdxOb.mk ad i hadI rfl (by omega) ?_
 refine LoadOb.mk _ hrd ?_
 refine CodeOb.draw TryzEOK rfl rfl rfl ?_
 refine PCallOb.whole _ (CloneI_own hdok.rs (ints_one _)) (fun v I' M' h x hx=>by obtain⟨-,o,-,-,-,e⟩:=h;rw[e];exact List.mem_append_right _ hx) ?_
 rintro v K1 N - ⟨hK1,ok,hokn,hok,rfl,hN⟩
 subst K1
 subst N
 refine IdxOb.mk ad i hadI rfl (by omega) ?_
 have hkcap:=hdok.rs.cap
 have hnew:NdM (ok.blk 3++Mk) { L[i] with ka:=ok.a.map fun g=>⟨g,0,none⟩,kn:=ok.n,kc:=ok.c }:=
  { k:=hdok.k,s0:=hdok.s0,s1:=hdok.s1,s2:=hdok.s2,s3:=hdok.s3,t:=hdok.t,lo:=hdok.lo,hi:=hdok.hi,kids:=hdok.kids,rs:=(RM.of_os (b:=8) hok (by omega)).mono fun x hx=>List.mem_append_left _ hx }
 have hnct:({ L[i] with ka:=ok.a.map fun g=>⟨g,0,none⟩,kn:=ok.n,kc:=ok.c }:Nd).ct=L[i].ct:=rfl
 have hset:=set_ct hiL hnct
 refine OS.putP (e:=91) Nd.cells 9 Nd.cells_len hos hiL 8 (vs:=[ok.val]) (Nat.le_of_ble_eq_true rfl) rfl { L[i] with ka:=ok.a.map fun g=>⟨g,0,none⟩,kn:=ok.n,kc:=ok.c } rfl (ok.blk 3) Mk rfl had ?_
 intro os2 hv2 ha2 hn2 hok2
 refine ArithOb.mk _ (next_wr (i:=i) (by omega)) ?_
 refine⟨(i+1,os2,L.set i { L[i] with ka:=ok.a.map fun g=>⟨g,0,none⟩,kn:=ok.n,kc:=ok.c },ok.blk 3++Mk),⟨⟨hlt,hok2,hset.trans hct,fun j hj hji=>?_,fun j hj hji=>?_,ha2.trans hoa,hv2.trans hov⟩,by simp only;omega⟩,.perm (List.perm_append_comm_assoc _ _ _) .refl,aF5,.cons rfl (.cons rfl (.nil))⟩
 ·simp only at hj hji ⊢
  by_cases e:j=i
  ·subst e
   rw[List.getElem_set_self]
   exact hnew
  ·rw[List.getElem_set_ne (by omega)]
   rw[List.length_set] at hj
   exact(hown j hj (by omega)).mono fun x hx=>List.mem_append_right _ hx
 ·simp only at hj hji ⊢
  rw[List.getElem_set_ne (by omega)]
  rw[List.length_set] at hj
  exact hold j hj (by omega)
theorem copied_fullM {I:GH} {M0:List Blk} {t:Tr} (ht:t.ok I):Spec Tryz.prog 66 [t.val] I M0 fun v I' M'=>I'=I∧∃ (t':Tr) (M1:List Blk),v=t'.val∧TrM M1 t'∧t'.ct=t.ct∧M'=M1++M0:=by
 refine Spec.weakK (Spec.frame (copied_full ht)) ?_
 rintro v J M ⟨M',rfl,-,-,rfl,t',rfl,h1,h2⟩
 exact⟨rfl,t',M',rfl,h1,h2,rfl⟩
structure CqG (I:GH) (g:Gr) (os0:OS) (x:Nat×OS×List Df×List Blk):Prop where
 i:x.1≤g.n
 ok:x.2.1.ok 3 (x.2.2.1.flatMap Df.cells)
 ct:x.2.2.1.map Df.ct=g.ds.map Df.ct
 own:∀ j,∀ h:j < x.2.2.1.length,j < x.1→DfM x.2.2.2 x.2.2.1[j]
 old:∀ j,∀ h:j < x.2.2.1.length,x.1≤j→x.2.2.1[j].ok I
 a:x.2.1.a=os0.a
 v:x.2.1.val=os0.val
set_option maxRecDepth 100000 in
set_option maxHeartbeats 4000000 in
theorem Copy_full {I:GH} {g:Gr} (hg:g.ok I):Spec Tryz.prog 65 [g.val] I [] fun v I' M'=>I'=I∧∃ (os:OS) (L:List Df) (M1:List Blk),v=.agg #[os.val]∧os.n=g.n∧os.ok 3 (L.flatMap Df.cells)∧M'=os.blk 46++M1∧L.map Df.ct=g.ds.map Df.ct∧∀ d∈L,DfM M1 d:=by
 refine spec_of_V [] TryzEOK Tryz.func65 rfl rfl rfl ?_
 intro B h0
 have hgn:=hg.n
 have hcap:=hg.rs.cap
 refine CallOb.whole _ (CloneD_spec hg.rs (flat_one Df.one _)) ?_
 rintro v J N - ⟨hJ,os0,hosn0,hos0,rfl,hN⟩
 subst J
 subst N
 refine LoopOb.inv (ι:=Nat×OS×List Df×List Blk) (fun x=>{ fl:=[(1,.ref 1 0),(2,.ref 2 0),(10,.val os0.val),(11,.val (.int .i64 os0.n)),(12,.val (.int .i64 x.1))],cl:=[(1,[os0.val]),(2,[.slice none 0 0])],gi:=I,mi:=x.2.1.blk 46++x.2.2.2 }) (fun x=>CqG I g os0 x) (fun x=>g.n - x.1) ?_ ?_
 ·exact⟨(0,os0,g.ds,[]),⟨Nat.zero_le _,hos0,rfl,fun j _ h=>absurd h (Nat.not_lt_zero _),fun j h _=>hg.ds _ (List.getElem_mem h),rfl,rfl⟩,.refl,aF5,.cons rfl (.cons rfl (.nil))⟩
 rintro⟨i,os,L,Mk⟩ ⟨hi,hos,hct,hown,hold,hoa,hov⟩
 simp only at hi hos hct hown hold hoa hov
 have hLn:L.length=g.ds.length:=by simpa using congrArg List.length hct
 obtain⟨hon,hoc⟩:=os_n hov
 refine CondOb.mk (fun h=>?_) (fun h=>?_)
 rotate_left
 ·have hge:i=g.n:=by have:¬ (i:Int) < (os0.n:Int):=of_decide_eq_false h;omega
  refine⟨_,_,.refl,rfl,os,L,Mk,by rw[hov];rfl,by omega,hos,rfl,hct,fun d hd=>?_⟩
  obtain⟨j,hj,rfl⟩:=List.getElem_of_mem hd
  exact hown j hj (by omega)
 have hlt:i < g.n:=by have:(i:Int) < (os0.n:Int):=of_decide_eq_true h;omega
 have hiL:i < L.length:=by omega
 obtain⟨ad,had,hrd⟩:=OS.ok.row (I:=I) (M:=os.blk 46++Mk) (e:=46) Df.cells_len (by decide) hos (fun z hz=>List.mem_append_left _ hz) hiL
 have hdok:=hold i hiL (Nat.le_refl _)
 have hadI:=had
 rw[hoa] at hadI
 refine IdxOb.mk ad i hadI rfl (by omega) ?_
 refine LoadOb.mk _ hrd ?_
 refine CodeOb.draw TryzEOK rfl rfl rfl ?_
 refine PCallOb.whole _ (copied_fullM hdok.t) (fun v I' M' h x hx=>by obtain⟨-,t',M1,-,-,-,e⟩:=h;rw[e];exact List.mem_append_right _ hx) ?_
 rintro v K1 N - ⟨hK1,t',M1,rfl,ht',htct,hN⟩
 subst K1
 subst N
 refine IdxOb.mk ad i hadI rfl (by omega) ?_
 have hnew:DfM (M1++Mk) ⟨L[i].name,t'⟩:=⟨hdok.name,ht'.mono fun x hx=>List.mem_append_left _ hx⟩
 have hnct:(⟨L[i].name,t'⟩:Df).ct=L[i].ct:=by
  unfold Df.ct
  rw[htct]
 have hset:=set_ctD hiL hnct
 refine OS.putP (e:=46) Df.cells 3 Df.cells_len hos hiL 1 (vs:=[.slice t'.a t'.n t'.c,.int .i64 t'.root]) (Nat.le_of_ble_eq_true rfl) rfl ⟨L[i].name,t'⟩ rfl M1 Mk rfl had ?_
 intro os2 hv2 ha2 hn2 hok2
 refine ArithOb.mk _ (next_wr (i:=i) (by omega)) ?_
 refine⟨(i+1,os2,L.set i ⟨L[i].name,t'⟩,M1++Mk),⟨⟨hlt,hok2,hset.trans hct,fun j hj hji=>?_,fun j hj hji=>?_,ha2.trans hoa,hv2.trans hov⟩,by simp only;omega⟩,.perm (List.perm_append_comm_assoc _ _ _) .refl,aF5,.cons rfl (.cons rfl (.nil))⟩
 ·simp only at hj hji ⊢
  by_cases e:j=i
  ·subst e
   rw[List.getElem_set_self]
   exact hnew
  ·rw[List.getElem_set_ne (by omega)]
   rw[List.length_set] at hj
   exact(hown j hj (by omega)).mono fun x hx=>List.mem_append_right _ hx
 ·simp only at hj hji ⊢
  rw[List.getElem_set_ne (by omega)]
  rw[List.length_set] at hj
  exact hold j hj (by omega)
theorem findAt_lt (nm:ByteArray):∀ (ds:List Df) (i:Nat),0≤findAt nm ds i→(i:Int)≤findAt nm ds i∧findAt nm ds i < i+ds.length
 | [],i,h=>by simp[findAt] at h
 | d::ds,i,h=>by
  unfold findAt at h ⊢
  cases hc:decide (d.name=nm) with
  | true=>
   simp only[cond_true,List.length_cons]
   omega
  | false=>
   rw[hc,cond_false] at h
   rw[cond_false]
   have:=findAt_lt nm ds (i+1) h
   simp only[List.length_cons]
   omega
theorem look_of {nm:ByteArray} {ds:List Df} {q:Nat} (h:findAt nm ds 0=(q:Int)):lookM nm (placesL ds)=some (q:Int):=by
 rw[look_find,h,decide_eq_false (by omega),cond_false]
theorem tab_hom {α β:Type} {z:α} {z':β} (φ:β→α) (hz:φ z'=z) {f:Nd→(Int→α)→α} {f':Nd→(Int→β)→β}:∀ (ns:List Nd) (acc:List β),(∀ d∈ns,∀ g:Int→β,f d (fun k=>φ (g k))=φ (f' d g))→tab z f ns (acc.map φ)=(tab z' f' ns acc).map φ
 | [],acc,_=>rfl
 | d::ns,acc,h=>by
  have e:(fun k:Int=>(acc.map φ).getD k.toNat z)=fun k=>φ (acc.getD k.toNat z'):=by
   funext k
   simp only[List.getD_eq_getElem?_getD,List.getElem?_map]
   cases acc[k.toNat]? with
   | none=>exact hz.symm
   | some v=>rfl
  rw[tab,tab,e,h d (.head _)]
  have:=tab_hom φ hz (f:=f) (f':=f') ns (acc++[f' d fun k=>acc.getD k.toNat z']) fun d hd=>h d (.tail _ hd)
  rw[List.map_append,List.map_cons,List.map_nil] at this
  exact this
theorem tabOf_hom {α β:Type} {z:α} {z':β} (φ:β→α) (hz:φ z'=z) {f:Nd→(Int→α)→α} {f':Nd→(Int→β)→β} {ns:List Nd} (h:∀ d∈ns,∀ g:Int→β,f d (fun k=>φ (g k))=φ (f' d g)) (j:Int):tabOf z f ns j=φ (tabOf z' f' ns j):=by
 have:=tab_hom φ hz ns [] h
 rw[List.map_nil] at this
 unfold tabOf
 rw[this]
 simp only[List.getD_eq_getElem?_getD,List.getElem?_map]
 cases (tab z' f' ns [])[j.toNat]? with
 | none=>exact hz.symm
 | some v=>rfl
theorem nodesF_tab (pl:List (ByteArray×Int)) (F:List Fl) (ns:List Nd) (j:Int):(nodesF pl F ns []).getD j.toNat fl0=(leftAt pl F ns j).1:=(left_flow pl F ns j).symm
structure Told (pl pl':List (ByteArray×Int)) (F F':List Fl) (up:Nat→Nat) (nm:ByteArray):Prop where
 at_:((lookM nm pl).getD 0).toNat=up ((lookM nm pl').getD 0).toNat
 fl:F.getD ((lookM nm pl).getD 0).toNat fl0=F'.getD ((lookM nm pl').getD 0).toNat fl0
section
variable {pl pl':List (ByteArray×Int)} {F F':List Fl} {up:Nat→Nat} {ns:List Nd} (h:∀ d∈ns,d.k=3→Told pl pl' F F' up d.t)
theorem takeZ_map:∀ xs:List (Fl×List Nat),takeZ (xs.map fun x=>(x.1,x.2.map up))=(takeZ xs).map up
 | []=>rfl
 | x::xs=>by
  rw[List.map_cons,takeZ,takeZ,List.map_append,takeZ_map xs]
  cases x.1.z<;>rfl
include h
theorem leftF_told {d:Nd} (hd:d∈ns) (xs:List (Fl×List Nat)):leftF pl F d (xs.map fun x=>(x.1,x.2.map up))=((leftF pl' F' d xs).1,(leftF pl' F' d xs).2.map up):=by
 have e0:(xs.map fun x=>(x.1,x.2.map up)).map (·.1)=xs.map (·.1):=by rw[List.map_map];rfl
 have e1:comeFl d ((xs.map fun x=>(x.1,x.2.map up)).map (·.1)++bif decide (d.k=3) then [F.getD ((lookM d.t pl).getD 0).toNat fl0] else [])=comeFl d (xs.map (·.1)++bif decide (d.k=3) then [F'.getD ((lookM d.t pl').getD 0).toNat fl0] else []):=by
  rw[e0]
  by_cases h3:d.k=3
  ·rw[(h d hd h3).fl]
  ·rw[decide_eq_false h3]
   rfl
 have e2:leftsD pl d (xs.map fun x=>(x.1,x.2.map up))=(leftsD pl' d xs).map up:=by
  unfold leftsD
  by_cases h3:d.k=3
  ·rw[decide_eq_true h3,cond_true,cond_true,(h d hd h3).at_]
   rfl
  ·rw[decide_eq_false h3,cond_false,cond_false]
   cases decide (d.k=4) with
   | true=>exact takeZ_map xs
   | false=>
    rw[cond_false,cond_false]
    cases decide (d.k=6) && decide (d.hi=0) with
    | true=>rfl
    | false=>
     rw[cond_false,cond_false,List.flatMap_map,List.map_flatMap]
 unfold leftF
 rw[e1,e2]
theorem leftAt_told (j:Int):leftAt pl F ns j=((leftAt pl' F' ns j).1,(leftAt pl' F' ns j).2.map up):=by
 refine tabOf_hom (z:=(fl0,([]:List Nat))) (z':=(fl0,([]:List Nat))) (f:=fun d g=>leftF pl F d (d.kids.map g)) (f':=fun d g=>leftF pl' F' d (d.kids.map g)) (ns:=ns) (fun x:Fl×List Nat=>(x.1,x.2.map up)) rfl (fun d hd g=>?_) j
 have:=leftF_told h hd (d.kids.map g)
 rw[List.map_map] at this
 exact this
theorem endAt_told (j:Int):(endAt pl F ns j).2=(endAt pl' F' ns j).2:=by
 have:=tabOf_hom (z:=((fl0,([]:List Nat)),false)) (z':=((fl0,([]:List Nat)),false)) (f:=fun d g=>endG pl F d (d.kids.map g)) (f':=fun d g=>endG pl' F' d (d.kids.map g)) (ns:=ns) (fun x:(Fl×List Nat)×Bool=>((x.1.1,x.1.2.map up),x.2)) rfl (fun d hd g=>?_) j
 ·unfold endAt
  rw[this]
 ·have e1:=leftF_told h hd ((d.kids.map g).map (·.1))
  unfold endG
  rw[List.map_map,List.map_map] at e1
  have e2:endF pl F d (d.kids.map fun k=>((fun x:(Fl×List Nat)×Bool=>((x.1.1,x.1.2.map up),x.2)) (g k)))=endF pl' F' d (d.kids.map g):=by
   unfold endF
   rw[List.any_map,List.any_map]
   rfl
  simp only[List.map_map] at e1 ⊢
  refine Prod.ext ?_ e2
  exact e1
theorem body_told (d:Df) (hns:d.t.ns=ns):bodyF pl F d=bodyF pl' F' d:=by
 unfold bodyF
 rw[nodesF_tab,nodesF_tab,hns,leftAt_told h]
end
section
variable {a b:List Df} {x:Df} (hno:∀ e∈a++b,∀ n∈e.t.ns,n.k=3→n.t≠x.name∧0≤findAt n.t (a++x::b) 0)
include hno
end
open Classical in
theorem refLeft_iff {ds:List Df} {F:List Fl} {i:Nat}:i∈refLeft ds F ↔ i < ds.length∧ComesL (rawL ds F) i i:=by
 unfold refLeft
 rw[List.mem_filter,List.mem_range,decide_eq_true_iff]
theorem gramB_app (deb:List Int):∀ (ds:List Df) (acc:List UInt8),(∀ d∈ds,defB deb d≠[])→gramB deb ds acc=acc++ds.flatMap (defB deb)
 | [],acc,_=>by simp[gramB]
 | d::ds,acc,h=>by
  have h1:¬ strOf (defB deb d)=⟨#[]⟩:=fun e=>by
   refine h d (.head _) ?_
   have:(strOf (defB deb d)).data.toList=[]:=by rw[e]
   exact this
  rw[gramB,decide_eq_false h1,cond_false,gramB_app deb ds _ fun d hd=>h d (.tail _ hd),List.flatMap_cons,List.append_assoc]
theorem defB_ne {I:GH} (deb:List Int) {d:Df} (hd:d.ok I) (hn:mayName d.name=true) (hr:right d.t=true):defB deb d≠[]:=by
 have h1:¬ strOf (treeB deb d.t)=⟨#[]⟩:=fun e=>by
  refine treeB_ne deb hd.t hr ?_
  have:(strOf (treeB deb d.t)).data.toList=[]:=by rw[e]
  exact this
 unfold defB
 rw[decide_eq_false h1,hn]
 simp
theorem may_split {deb:List Int} {g:Gr}:mayG deb g=0 ↔ g.n≠0∧okDefs g.ds=true∧largeG deb g=false∧(∀ i,i < g.ds.length→firstOf g.ds i=true)∧∀ d∈g.ds,∀ n∈d.t.ns,n.k=3→0≤findAt n.t g.ds 0:=by
 rw[←mayR_eq]
 have hall:(g.ds.all fun d=>d.t.ns.all (nodeOk2 g.ds))=true ↔ ∀ d∈g.ds,∀ n∈d.t.ns,n.k=3→0≤findAt n.t g.ds 0:=by
  simp only[List.all_eq_true,nodeOk2,Bool.or_eq_true,Bool.not_eq_true',decide_eq_false_iff_not,decide_eq_true_eq]
  constructor
  ·intro h d hd n hn h3
   rcases h d hd n hn with h | h
   ·exact absurd h3 h
   ·exact h
  ·intro h d hd n hn
   by_cases h3:n.k=3
   ·exact .inr (h d hd n hn h3)
   ·exact .inl h3
 have hf:(List.range g.ds.length).all (firstOf g.ds)=true ↔ ∀ i,i < g.ds.length→firstOf g.ds i=true:=by
  simp[List.all_eq_true]
 rw[←hall,←hf]
 unfold mayR
 by_cases h1:g.n=0
 ·rw[decide_eq_true (by omega),cond_true]
  exact⟨(fun h=>by cases h),(fun h=>absurd h1 h.1)⟩
 ·rw[decide_eq_false (by omega),cond_false]
  cases okDefs g.ds with
  | false=>exact⟨(fun h=>by cases h),(fun h=>by cases h.2.1)⟩
  | true=>
  cases largeG deb g with
  | true=>exact⟨(fun h=>by cases h),(fun h=>by cases h.2.2.1)⟩
  | false=>
  cases (List.range g.ds.length).all (firstOf g.ds) with
  | false=>exact⟨(fun h=>by cases h),(fun h=>by cases h.2.2.2.1)⟩
  | true=>
  cases (g.ds.all fun d=>d.t.ns.all (nodeOk2 g.ds)) with
  | false=>exact⟨(fun h=>by cases h),(fun h=>by cases h.2.2.2.2)⟩
  | true=>exact⟨fun _=>⟨h1,rfl,rfl,rfl,rfl⟩,fun _=>rfl⟩
def grL (ds:List Df):Gr:=⟨ds,none,ds.length,0⟩
theorem kb_ct {I J:GH} {t t':Tr} (ht:t.ok I) (ht':t'.ok J) (h:t'.ct=t.ct) (hk:KB t):KB t':=fun n hn=>by
 have h1:n.ct∈t.ns.map Nd.ct:=by
  have h2:t'.ns.map Nd.ct=t.ns.map Nd.ct:=congrArg Tr.ns h
  rw[←h2]
  exact List.mem_map.2 ⟨n,hn,rfl⟩
 obtain⟨m,hm,e⟩:=List.mem_map.1 h1
 have h3:m.ct.kids=n.ct.kids:=congrArg Nd.kids e
 have h3:m.kids=n.kids:=h3
 have h4:=(ht.ns m hm).kn
 have h5:=(ht'.ns n hn).kn
 have h6:=hk m hm
 rw[h3] at h4
 omega
theorem kbs_ct {I J:GH} {ds ds':List Df} (h1:∀ d∈ds,d.ok I) (h2:∀ d∈ds',d.ok J) (h:∀ d∈ds',∃ e∈ds,d.ct=e.ct) (hk:∀ d∈ds,KB d.t):∀ d∈ds',KB d.t:=fun d hd=>by
 obtain⟨e,he,hc⟩:=h d hd
 exact kb_ct (h1 e he).t (h2 d hd).t (congrArg Df.t hc) (hk e he)
theorem listL_nodup (wh:Bool):∀ (s:List Bool) (i:Nat),(listL wh i s).Nodup
 | [],i=>by simp[listL]
 | b::s,i=>by
  have ih:=listL_nodup wh s (i+1)
  unfold listL
  cases b == wh with
  | false=>exact ih
  | true=>
   simp only[cond_true,List.nodup_cons]
   refine⟨fun h=>?_,ih⟩
   obtain⟨j,h1,_⟩:=(listL_mem wh s (i+1) _).1 h
   omega
theorem nodup_len {l l':List Int} (h:l.Nodup) (h':l'.Nodup) (hm:∀ k,k∈l ↔ k∈l'):l.length=l'.length:=by
 have:l.Perm l':=(List.perm_ext_iff_of_nodup h h').2 fun {a}=>hm a
 exact this.length_eq
section
variable {L:List (List Int)}
theorem callsL_in (hL:∀ l∈L,valid L.length l) {a:Nat} {k:Int} (h:k∈L.getD a []):a < L.length∧0≤k∧k < L.length:=by
 have ha:a < L.length:=by
  apply Nat.lt_of_not_le
  intro hle
  simp[List.getD_eq_getElem?_getD,hle] at h
 have e:L.getD a []=L[a]:=by simp[List.getD_eq_getElem?_getD,ha]
 rw[e] at h
 exact⟨ha,hL _ (List.getElem_mem ha) k h⟩
def fromI (L:List (List Int)) (i:Nat):List Int:=listL true 0 (fromL L i)
theorem fromI_mem (hL:∀ l∈L,valid L.length l) {i a:Nat} (hi:i < L.length):(a:Int)∈fromI L i ↔ Comes L i a:=by
 rw[fromI,listL_isM]
 exact(fromL_ok hL hi).iff a
theorem fromI_valid (hL:∀ l∈L,valid L.length l) {i:Nat} (hi:i < L.length):valid L.length (fromI L i):=by
 have:=listL_valid (wh:=true) (s:=fromL L i)
 rwa [(fromL_ok hL hi).len] at this
theorem fromI_nat (hL:∀ l∈L,valid L.length l) {i:Nat} (hi:i < L.length) {k:Int} (h:k∈fromI L i):∃ a:Nat,k=a∧a < L.length∧Comes L i a:=by
 have hv:=fromI_valid hL hi k h
 refine⟨k.toNat,by omega,by omega,?_⟩
 rw[←fromI_mem hL hi]
 rwa [show ((k.toNat:Nat):Int)=k by omega]
structure SeenInv (L:List (List Int)) (i:Nat) (S:List Int) (k:Nat):Prop where
 nd:S.Nodup
 val:valid L.length S
 rch:∀ a:Nat,(a:Int)∈S→Comes L i a
 self:(i:Int)∈S
 cl:∀ j,j < k→∀ x∈L.getD (S.getD j 0).toNat [],x∈S
theorem SeenInv.add {i:Nat} {S:List Int} {k:Nat} (hL:∀ l∈L,valid L.length l) (h:SeenInv L i S k) (hk:k < S.length) {x:Int} (hx:x∈L.getD (S.getD k 0).toNat []) (hn:x ∉ S):SeenInv L i (S++[x]) k:=by
 have hv:=callsL_in hL hx
 have hS:S.getD k 0∈S:=by
  simp only[List.getD_eq_getElem?_getD,List.getElem?_eq_getElem hk,Option.getD_some]
  exact List.getElem_mem hk
 have hSk:=h.val _ hS
 refine⟨?_,fun y hy=>?_,fun a ha=>?_,by simp[h.self],fun j hj y hy=>?_⟩
 ·rw[List.nodup_append]
  refine⟨h.nd,by simp,fun a ha b hb=>?_⟩
  simp only[List.mem_singleton] at hb
  subst hb
  intro e
  subst e
  exact hn ha
 ·rcases List.mem_append.1 hy with hy | hy
  ·exact h.val y hy
  ·simp only[List.mem_singleton] at hy
   subst hy
   exact hv.2
 ·rcases List.mem_append.1 ha with ha | ha
  ·exact h.rch a ha
  ·simp only[List.mem_singleton] at ha
   subst ha
   refine .next (h.rch (S.getD k 0).toNat ?_) hx
   rwa [show (((S.getD k 0).toNat:Nat):Int)=S.getD k 0 by omega]
 ·have hjl:j < S.length:=by omega
  have e:(S++[x]).getD j 0=S.getD j 0:=by simp[List.getD_eq_getElem?_getD,List.getElem?_append_left hjl]
  rw[e] at hy
  exact List.mem_append.2 (.inl (h.cl j hj y hy))
theorem SeenInv.next {i:Nat} {S:List Int} {k:Nat} (h:SeenInv L i S k) (hc:∀ x∈L.getD (S.getD k 0).toNat [],x∈S):SeenInv L i S (k+1):=
 ⟨h.nd,h.val,h.rch,h.self,fun j hj x hx=>by
  by_cases e:j=k
  ·subst e
   exact hc x hx
  ·exact h.cl j (by omega) x hx⟩
theorem Comes.first {i a:Nat} (h:Comes L i a):a=i∨∃ k:Nat,(k:Int)∈L.getD i []∧Comes L k a:=by
 induction h with
 | self=>exact .inl rfl
 | @next b k hb hk ih=>
  rcases ih with rfl | ⟨c,h1,h2⟩
  ·exact .inr ⟨k,hk,.self⟩
  ·exact .inr ⟨c,h1,.next h2 hk⟩
end
def keepL {α:Type}:List Bool→List α→List α
 | b::s,x::l=>bif b then x::keepL s l else keepL s l
 | _,_=>[]
def ups:List Bool→List Nat
 | []=>[]
 | b::s=>bif b then 0::(ups s).map (·+1) else (ups s).map (·+1)
theorem keepL_sub {α:Type}:∀ (s:List Bool) (l:List α),List.Sublist (keepL s l) l
 | [],[]=>.slnil
 | [],x::l=>List.nil_sublist _
 | b::s,[]=>.slnil
 | true::s,x::l=>(keepL_sub s l).cons₂ x
 | false::s,x::l=>(keepL_sub s l).cons x
theorem keepL_map {α β:Type} (f:α→β):∀ (s:List Bool) (l:List α),keepL s (l.map f)=(keepL s l).map f
 | [],[]=>rfl
 | [],x::l=>rfl
 | b::s,[]=>rfl
 | true::s,x::l=>congrArg (f x::·) (keepL_map f s l)
 | false::s,x::l=>keepL_map f s l
theorem keepL_snoc {α:Type} (b:Bool) (x:α):∀ (s:List Bool) (l:List α),s.length=l.length→keepL (s++[b]) (l++[x])=keepL s l++bif b then [x] else []
 | [],[],_=>by cases b<;>rfl
 | c::s,y::l,h=>by
  have:=keepL_snoc b x s l (by simpa using h)
  cases c
  ·exact this
  ·exact congrArg (y::·) this
theorem ups_list (wh:Bool):∀ (s:List Bool) (i:Nat),listL true i s=(ups s).map fun k=>((i+k:Nat):Int)
 | [],i=>rfl
 | b::s,i=>by
  have ih:=ups_list wh s (i+1)
  cases b with
  | true=>
   show ((i:Nat):Int)::listL true (i+1) s=_
   rw[ih,ups,cond_true,List.map_cons,List.map_map]
   refine congr (congrArg _ (by simp)) (List.map_congr_left fun k _=>?_)
   show ((i+1+k:Nat):Int)=((i+(k+1):Nat):Int)
   rw[show i+1+k=i+(k+1) by omega]
  | false=>
   show listL true (i+1) s=_
   rw[ih,ups,cond_false,List.map_map]
   refine List.map_congr_left fun k _=>?_
   show ((i+1+k:Nat):Int)=((i+(k+1):Nat):Int)
   rw[show i+1+k=i+(k+1) by omega]
theorem ups_mem:∀ (s:List Bool) (k:Nat),k∈ups s ↔ s.getD k false=true
 | [],k=>by simp[ups]
 | b::s,k=>by
  have ih:=ups_mem s
  have h:k∈(ups s).map (·+1) ↔ ∃ j,k=j+1∧s.getD j false=true:=by
   rw[List.mem_map]
   constructor
   ·rintro⟨j,h1,rfl⟩;exact⟨j,rfl,(ih j).1 h1⟩
   ·rintro⟨j,rfl,h1⟩;exact⟨j,(ih j).2 h1,rfl⟩
  cases k with
  | zero=>
   have h0:¬ 0∈(ups s).map (·+1):=fun e=>by obtain⟨j,e,-⟩:=h.1 e;omega
   cases b<;>simp[ups]
  | succ k=>
   have h1:k+1∈(ups s).map (·+1) ↔ s.getD k false=true:=by
    rw[h]
    exact⟨fun ⟨j,e,h2⟩=>by rw[show k=j by omega];exact h2,fun h2=>⟨k,rfl,h2⟩⟩
   have e:(b::s).getD (k+1) false=s.getD k false:=rfl
   rw[e,←h1]
   cases b<;>simp[ups]
theorem ups_sorted:∀ s:List Bool,(ups s).Pairwise (· < ·)
 | []=>.nil
 | b::s=>by
  have h:((ups s).map (·+1)).Pairwise (· < ·):=by
   rw[List.pairwise_map]
   exact(ups_sorted s).imp fun h=>by omega
  cases b with
  | false=>exact h
  | true=>
   refine List.pairwise_cons.2 ⟨fun x hx=>?_,h⟩
   obtain⟨j,-,rfl⟩:=List.mem_map.1 hx
   omega
theorem keepL_at {α:Type}:∀ (s:List Bool) (l:List α),s.length=l.length→(keepL s l).length=(ups s).length∧∀ (i k:Nat),(ups s)[i]?=some k→(keepL s l)[i]?=l[k]?
 | [],[],_=>⟨rfl,fun i k h=>by simp[ups] at h⟩
 | b::s,x::l,h=>by
  obtain⟨h1,h2⟩:=keepL_at s l (by simpa using h)
  have hm:∀ (i k:Nat),((ups s).map (·+1))[i]?=some k→(keepL s l)[i]?=(x::l)[k]?:=fun i k hk=>by
   rw[List.getElem?_map] at hk
   cases hu:(ups s)[i]? with
   | none=>rw[hu] at hk;cases hk
   | some j=>
    rw[hu] at hk
    obtain rfl:j+1=k:=Option.some.inj hk
    rw[List.getElem?_cons_succ]
    exact h2 i j hu
  cases b with
  | false=>exact⟨by simp[keepL,ups,h1],hm⟩
  | true=>
   refine⟨by simp[keepL,ups,h1],fun i k hk=>?_⟩
   cases i with
   | zero=>
    obtain rfl:0=k:=Option.some.inj hk
    rfl
   | succ i=>
    show (keepL s l)[i]?=_
    exact hm i k hk
def upK (s:List Bool) (i:Nat):Nat:=(ups s).getD i 0
theorem upK_at {α:Type} {s:List Bool} {l:List α} (h:s.length=l.length) {i:Nat} (hi:i < (keepL s l).length):l[upK s i]?=(keepL s l)[i]?∧s.getD (upK s i) false=true:=by
 obtain⟨h1,h2⟩:=keepL_at s l h
 have e:(ups s)[i]?=some (upK s i):=by
  rw[List.getElem?_eq_getElem (by omega)]
  unfold upK
  rw[List.getD_eq_getElem?_getD,List.getElem?_eq_getElem (by omega)]
  rfl
 exact⟨(h2 i _ e).symm,(ups_mem s _).1 (List.mem_of_getElem? e)⟩
theorem upK_lt {s:List Bool} {i j:Nat} (h:i < j) (hj:j < (ups s).length):upK s i < upK s j:=by
 have:=List.pairwise_iff_getElem.1 (ups_sorted s) i j (by omega) hj h
 unfold upK
 rw[List.getD_eq_getElem?_getD,List.getD_eq_getElem?_getD,List.getElem?_eq_getElem (by omega),List.getElem?_eq_getElem hj]
 exact this
theorem upK_of {α:Type} {s:List Bool} {l:List α} (h:s.length=l.length) {k:Nat} (hk:s.getD k false=true):∃ i,i < (keepL s l).length∧upK s i=k:=by
 obtain⟨h1,-⟩:=keepL_at s l h
 obtain⟨i,hi,e⟩:=List.getElem_of_mem ((ups_mem s k).2 hk)
 refine⟨i,by omega,?_⟩
 unfold upK
 rw[List.getD_eq_getElem?_getD,List.getElem?_eq_getElem hi]
 exact e
theorem findAt_iff (nm:ByteArray):∀ (ds:List Df) (i q:Nat),findAt nm ds i=((i+q:Nat):Int) ↔ ∃ h:q < ds.length,ds[q].name=nm∧∀ j (hj:j < q),ds[j].name≠nm
 | [],i,q=>by
  unfold findAt
  constructor
  ·intro h;omega
  ·rintro⟨h,-⟩;simp at h
 | d::ds,i,q=>by
  have ih:=findAt_iff nm ds (i+1)
  unfold findAt
  by_cases hd:d.name=nm
  ·rw[decide_eq_true hd,cond_true]
   constructor
   ·intro h
    obtain rfl:q=0:=by omega
    exact⟨by simp,hd,fun j hj=>absurd hj (Nat.not_lt_zero _)⟩
   ·rintro⟨h1,h2,h3⟩
    cases q with
    | zero=>rfl
    | succ q=>exact absurd hd (h3 0 (by omega))
  ·rw[decide_eq_false hd,cond_false]
   cases q with
   | zero=>
    constructor
    ·intro h
     have:=findAt_lt nm ds (i+1) (by omega)
     omega
    ·rintro⟨h1,h2,h3⟩
     exact absurd h2 hd
   | succ q=>
    rw[show i+(q+1)=i+1+q by omega,ih q]
    constructor
    ·rintro⟨h1,h2,h3⟩
     refine⟨by simp;omega,h2,fun j hj=>?_⟩
     cases j with
     | zero=>exact hd
     | succ j=>exact h3 j (by omega)
    ·rintro⟨h1,h2,h3⟩
     exact⟨by simpa using h1,h2,fun j hj=>h3 (j+1) (by omega)⟩
theorem findAt_iff0 {nm:ByteArray} {ds:List Df} {q:Nat}:findAt nm ds 0=(q:Int) ↔ ∃ h:q < ds.length,ds[q].name=nm∧∀ j (hj:j < q),ds[j].name≠nm:=by
 have:=findAt_iff nm ds 0 q
 rwa [Nat.zero_add] at this
structure Keeps (ds ds':List Df) (up:Nat→Nat):Prop where
 sub:List.Sublist ds' ds
 at_:∀ i,i < ds'.length→ds[up i]?=ds'[i]?
 lt:∀ i j,i < j→j < ds'.length→up i < up j
 cl:∀ d∈ds',∀ n∈d.t.ns,n.k=3→∃ q,q < ds'.length∧findAt n.t ds' 0=(q:Int)∧findAt n.t ds 0=((up q:Nat):Int)
theorem Keeps.get {ds ds':List Df} {up:Nat→Nat} (h:Keeps ds ds' up) {i:Nat} (hi:i < ds'.length):∃ h1:up i < ds.length,ds[up i]=ds'[i]:=by
 have h1:=h.at_ i hi
 rw[List.getElem?_eq_getElem hi] at h1
 obtain⟨h2,h3⟩:=List.getElem?_eq_some_iff.1 h1
 exact⟨h2,h3⟩
theorem Keeps.inj {ds ds':List Df} {up:Nat→Nat} (h:Keeps ds ds' up) {i j:Nat} (hi:i < ds'.length) (hj:j < ds'.length) (e:up i=up j):i=j:=by
 rcases Nat.lt_trichotomy i j with h1 | h1 | h1
 ·have:=h.lt i j h1 hj;omega
 ·exact h1
 ·have:=h.lt j i h1 hi;omega
theorem keep_find {ds ds':List Df} {up:Nat→Nat} (at_:∀ i,i < ds'.length→ds[up i]?=ds'[i]?) (lt:∀ i j,i < j→j < ds'.length→up i < up j) {nm:ByteArray} {q:Nat} (hq:q < ds'.length) (hf:findAt nm ds 0=((up q:Nat):Int)):findAt nm ds' 0=(q:Int):=by
 obtain⟨h1,h2,h3⟩:=findAt_iff0.1 hf
 have hg:∀ i (hi:i < ds'.length),∃ h1:up i < ds.length,ds[up i]=ds'[i]:=fun i hi=>by
  have h1:=at_ i hi
  rw[List.getElem?_eq_getElem hi] at h1
  obtain⟨h2,h3⟩:=List.getElem?_eq_some_iff.1 h1
  exact⟨h2,h3⟩
 refine findAt_iff0.2 ⟨hq,?_,fun j hj=>?_⟩
 ·obtain⟨h4,h5⟩:=hg q hq
  rw[←h5]
  exact h2
 ·obtain⟨h4,h5⟩:=hg j (by omega)
  rw[←h5]
  exact h3 (up j) (lt j q hj hq)
theorem keeps_of {ds:List Df} {s:List Bool} (h:s.length=ds.length) (hc:∀ i (hi:i < ds.length),s.getD i false=true→∀ n∈ds[i].t.ns,n.k=3→∃ q:Nat,findAt n.t ds 0=(q:Int)∧s.getD q false=true):Keeps ds (keepL s ds) (upK s):=by
 have hl:=(keepL_at s ds h).1
 have hat:∀ i,i < (keepL s ds).length→ds[upK s i]?=(keepL s ds)[i]?:=fun i hi=>(upK_at h hi).1
 have hlt:∀ i j,i < j→j < (keepL s ds).length→upK s i < upK s j:=fun i j hij hj=>upK_lt hij (by omega)
 refine⟨keepL_sub s ds,hat,hlt,fun d hd n hn h3=>?_⟩
 obtain⟨i,hi,rfl⟩:=List.getElem_of_mem hd
 have h1:=hat i hi
 rw[List.getElem?_eq_getElem hi] at h1
 obtain⟨h2,h4⟩:=List.getElem?_eq_some_iff.1 h1
 obtain⟨q,hq,hqs⟩:=hc (upK s i) h2 (upK_at h hi).2 n (by rw[h4];exact hn) h3
 obtain⟨j,hj,rfl⟩:=upK_of h hqs
 exact⟨j,hj,keep_find hat hlt hj hq,hq⟩
section
variable {ds ds':List Df} {up:Nat→Nat} (hk:Keeps ds ds' up)
include hk
theorem told_keep {F F':List Fl} (hF:∀ i,i < ds'.length→F.getD (up i) fl0=F'.getD i fl0) {e:Df} (he:e∈ds'):∀ n∈e.t.ns,n.k=3→Told (placesL ds) (placesL ds') F F' up n.t:=fun n hn h3=>by
 obtain⟨q,hq,h1,h2⟩:=hk.cl e he n hn h3
 have e1:=look_of h1
 have e2:=look_of h2
 have e3:((some ((up q:Nat):Int)).getD 0).toNat=up q:=by simp
 have e4:((some (q:Int)).getD 0).toNat=q:=by simp
 refine⟨by rw[e1,e2,e3,e4],?_⟩
 rw[e1,e2,e3,e4]
 exact hF q hq
open Classical in
theorem flow_keep {F:List Fl} (h:IsFlow ds F):IsFlow ds' ((List.range ds'.length).map fun i=>F.getD (up i) fl0)∧∀ i,i < ds'.length→F.getD (up i) fl0=((List.range ds'.length).map fun i=>F.getD (up i) fl0).getD i fl0:=by
 have hl:=h.len
 have hF:∀ i,i < ds'.length→F.getD (up i) fl0=((List.range ds'.length).map fun i=>F.getD (up i) fl0).getD i fl0:=fun i hi=>by
  rw[List.getD_eq_getElem?_getD (l:=(List.range ds'.length).map _),List.getElem?_map,List.getElem?_range hi]
  rfl
 refine⟨⟨by simp,fun i hi=>?_,fun m hm hc=>?_⟩,hF⟩
 ·obtain⟨h1,h2⟩:=hk.get hi
  rw[←hF i hi,h.fix _ h1,h2]
  exact body_told (told_keep hk hF (List.getElem_mem hi)) _ rfl
 ·obtain⟨M,hM⟩:∃ M:List Fl,M=(List.range ds.length).map fun k=>if h:∃ i,i < ds'.length∧up i=k then m.getD h.choose fl0 else ⟨true,true,true⟩:=⟨_,rfl⟩
  have hMg:∀ k,k < ds.length→M.getD k fl0=if h:∃ i,i < ds'.length∧up i=k then m.getD h.choose fl0 else ⟨true,true,true⟩:=fun k hk=>by
   rw[hM,List.getD_eq_getElem?_getD,List.getElem?_map,List.getElem?_range hk]
   rfl
  have hMu:∀ i,i < ds'.length→M.getD (up i) fl0=m.getD i fl0:=fun i hi=>by
   obtain⟨h1,-⟩:=hk.get hi
   have hx:∃ j,j < ds'.length∧up j=up i:=⟨i,hi,rfl⟩
   rw[hMg _ h1,dif_pos hx]
   rw[hk.inj hx.choose_spec.1 hi hx.choose_spec.2]
  have hle:=h.least M (by rw[hM];simp) fun k hkl=>by
   by_cases hx:∃ i,i < ds'.length∧up i=k
   ·obtain⟨i,hi,rfl⟩:=hx
    obtain⟨h1,h2⟩:=hk.get hi
    rw[hMu i hi,h2]
    have:=hc i hi
    rwa [←body_told (told_keep hk hMu (List.getElem_mem hi)) _ rfl] at this
   ·rw[hMg k hkl,dif_neg hx]
    exact⟨fun _=>rfl,fun _=>rfl,fun _=>rfl⟩
  refine LeL.of (by simp[hm]) fun i hi=>?_
  have hi:i < ds'.length:=by simpa using hi
  rw[←hF i hi,←hMu i hi]
  exact hle.getD _
theorem rawL_keep {F F':List Fl} (hF:∀ i,i < ds'.length→F.getD (up i) fl0=F'.getD i fl0) {i:Nat} (hi:i < ds'.length):rawL ds F (up i)=(rawL ds' F' i).map up:=by
 unfold rawL
 rw[hk.at_ i hi,List.getElem?_eq_getElem hi]
 show (leftAt _ F ds'[i].t.ns _).2=_
 rw[leftAt_told (told_keep hk hF (List.getElem_mem hi))]
theorem endL_keep {F F':List Fl} (hF:∀ i,i < ds'.length→F.getD (up i) fl0=F'.getD i fl0) {i:Nat} (hi:i < ds'.length):endL ds F (up i)=endL ds' F' i:=by
 unfold endL
 rw[hk.at_ i hi,List.getElem?_eq_getElem hi]
 exact endAt_told (told_keep hk hF (List.getElem_mem hi)) _
theorem comes_keep {F F':List Fl} (hF:∀ i,i < ds'.length→F.getD (up i) fl0=F'.getD i fl0) {i k:Nat} (h:ComesL (rawL ds' F') i k):ComesL (rawL ds F) (up i) (up k):=by
 have hlt:∀ {i k:Nat},k∈rawL ds' F' i→i < ds'.length:=fun {i k} h=>by
  apply Nat.lt_of_not_le
  intro hle
  unfold rawL at h
  rw[List.getElem?_eq_none hle] at h
  cases h
 induction h with
 | one h=>exact .one (by rw[rawL_keep hk hF (hlt h)];exact List.mem_map.2 ⟨_,h,rfl⟩)
 | step h t ih=>exact .step (by rw[rawL_keep hk hF (hlt h)];exact List.mem_map.2 ⟨_,h,rfl⟩) ih
end
theorem sum_sub {α:Type} (f:α→Nat) {a b:List α} (h:List.Sublist a b):(a.map f).sum≤(b.map f).sum:=by
 induction h with
 | slnil=>exact Nat.le_refl _
 | cons x h ih=>simp only[List.map_cons,List.sum_cons];omega
 | cons_cons x h ih=>simp only[List.map_cons,List.sum_cons];omega
theorem flat_sub {α β:Type} (f:α→List β) {a b:List α} (h:List.Sublist a b):(a.flatMap f).length≤(b.flatMap f).length:=by
 induction h with
 | slnil=>exact Nat.le_refl _
 | cons x h ih=>simp only[List.flatMap_cons,List.length_append];omega
 | cons_cons x h ih=>simp only[List.flatMap_cons,List.length_append];omega
theorem may_keep {I:GH} {deb:List Int} {g:Gr} (hg:g.ok I) {ds':List Df} {up:Nat→Nat} (hk:Keeps g.ds ds' up) (h0:0 < ds'.length) (hm:mayG deb g=0):mayG deb (grL ds')=0:=by
 obtain⟨h1,h2,h3,h4,h5⟩:=may_split.1 hm
 have hgn:=hg.n
 have hsub:∀ d,d∈ds'→d∈g.ds:=fun d hd=>hk.sub.subset hd
 have hok:=List.all_eq_true.1 h2
 have hdef:∀ d∈g.ds,defB deb d≠[]:=fun d hd=>by
  have:=hok d hd
  simp only[normal,Bool.and_eq_true] at this
  exact defB_ne deb (hg.ds d hd) this.1 this.2.1
 refine may_split.2 ⟨?_,?_,?_,?_,?_⟩
 ·show ds'.length≠0
  omega
 ·exact List.all_eq_true.2 fun d hd=>hok d (hsub d hd)
 ·unfold largeG at h3 ⊢
  simp only[Bool.or_eq_false_iff,decide_eq_false_iff_not,Bool.not_eq_false'] at h3 ⊢
  obtain⟨q1,q2,q3,q4⟩:=h3
  have q2:=List.all_eq_true.1 q2
  refine⟨?_,List.all_eq_true.2 fun d hd=>q2 d (hsub d hd),?_,?_⟩
  ·show ¬ 64 < ds'.length
   have:=hk.sub.length_le
   omega
  ·unfold nodesG at q3 ⊢
   have:=sum_sub (fun d=>sizeT d.t) hk.sub
   show ¬ 1024 < (ds'.map fun d=>sizeT d.t).sum
   omega
  ·show ¬ 8192 < (gramB deb ds' []).length
   rw[gramB_app deb _ _ hdef] at q4
   rw[gramB_app deb _ _ fun d hd=>hdef d (hsub d hd)]
   have:=flat_sub (defB deb) hk.sub
   simp only[List.nil_append] at q4 ⊢
   omega
 ·show ∀ i,i < ds'.length→firstOf ds' i=true
  intro i hi
  obtain⟨h6,h7⟩:=hk.get hi
  have h8:=h4 (up i) h6
  rw[firstOf_lt h6] at h8
  rw[firstOf_lt hi]
  have h8:findAt g.ds[up i].name g.ds 0=((up i:Nat):Int):=of_decide_eq_true h8
  rw[h7] at h8
  exact decide_eq_true (keep_find hk.at_ hk.lt hi h8)
 ·show ∀ d∈ds',∀ n∈d.t.ns,n.k=3→0≤findAt n.t ds' 0
  intro d hd n hn hk3
  obtain⟨q,-,h6,-⟩:=hk.cl d hd n hn hk3
  omega
theorem keep_well {I:GH} {deb:List Int} {g h:Gr} (hg:g.ok I) {ds':List Df} {up:Nat→Nat} (hk:Keeps g.ds ds' up) (e':h.ct=(grL ds').ct) (h0:0 < ds'.length) (hm:mayG deb g=0) {F:List Fl} (hF:IsFlow g.ds F) (hl:(refLeft g.ds F).length=0) (hlo:(refLoops g.ds F).length=0) :
  mayG deb h=0∧∃ F',IsFlow h.ds F'∧(refLeft h.ds F').length=0∧(refLoops h.ds F').length=0:=by
 have hm':=may_keep hg hk h0 hm
 have hds:h.ds.map Df.ct=ds'.map Df.ct:=congrArg Gr.ds e'
 obtain⟨f1,f2⟩:=flow_keep hk hF
 generalize (List.range ds'.length).map (fun i=>F.getD (up i) fl0)=F' at f1 f2
 refine⟨by rw[←mayG_ct,e',mayG_ct];exact hm',F',isFlow_of_ct (by rw[hds];exact isFlow_ct f1),?_,?_⟩
 ·have e1:refLeft h.ds F'=refLeft ds' F':=by
   have hr:rawL h.ds F'=rawL ds' F':=by
    funext i
    rw[←rawL_ct,hds,rawL_ct]
   have hlen:h.ds.length=ds'.length:=by
    have:=congrArg List.length hds
    simpa using this
   unfold refLeft
   rw[hr,hlen]
  rw[e1,List.length_eq_zero_iff,List.eq_nil_iff_forall_not_mem]
  intro i hi
  rw[refLeft_iff] at hi
  rw[List.length_eq_zero_iff,List.eq_nil_iff_forall_not_mem] at hl
  refine hl (up i) ?_
  rw[refLeft_iff]
  obtain⟨h6,-⟩:=hk.get hi.1
  exact⟨h6,comes_keep hk f2 hi.2⟩
 ·have e1:refLoops h.ds F'=refLoops ds' F':=by
   rw[←refLoops_ct,hds,refLoops_ct]
  rw[e1,List.length_eq_zero_iff,List.eq_nil_iff_forall_not_mem]
  intro i hi
  unfold refLoops at hi
  rw[List.mem_filter,List.mem_range] at hi
  rw[List.length_eq_zero_iff,List.eq_nil_iff_forall_not_mem] at hlo
  refine hlo (up i) ?_
  unfold refLoops
  rw[List.mem_filter,List.mem_range]
  obtain⟨h6,-⟩:=hk.get hi.1
  exact⟨h6,by rw[endL_keep hk f2 hi.1];exact hi.2⟩
theorem calls_iff {g:Gr} (hn:g.ds.length=g.n) {i k:Nat} (hi:i < g.ds.length) (hk:k < g.ds.length):(k:Int)∈(callsL g).getD i [] ↔ ∃ nd∈g.ds[i].t.ns,nd.k=3∧findAt nd.t g.ds 0=(k:Int):=by
 rw[callsL,List.getD_eq_getElem?_getD,List.getElem?_map,List.getElem?_eq_getElem hi]
 show (k:Int)∈listL true 0 (thereL g.ds g.n (namedL g.ds[i].t.ns)) ↔ _
 rw[listL_isM]
 unfold isM
 rw[thereL,thereL_at hn _ _ (by simp) k (by omega)]
 have hz:(List.replicate g.n false).getD k false=true ↔ False:=by
  by_cases hk2:k < g.n<;>simp[List.getD_eq_getElem?_getD,List.getElem?_replicate,hk2]
 rw[hz,false_or]
 constructor
 ·rintro⟨nm,hnm,hf⟩
  obtain⟨nd,hnd,rfl⟩:=List.mem_map.1 hnm
  obtain⟨h1,h2⟩:=List.mem_filter.1 hnd
  exact⟨nd,h1,of_decide_eq_true h2,hf⟩
 ·rintro⟨nd,h1,h2,h3⟩
  exact⟨nd.t,List.mem_map.2 ⟨nd,List.mem_filter.2 ⟨h1,decide_eq_true h2⟩,rfl⟩,h3⟩
theorem sorted_ext:∀ {l l':List Int},l.Pairwise (· < ·)→l'.Pairwise (· < ·)→(∀ k,k∈l ↔ k∈l')→l=l'
 | [],[],_,_,_=>rfl
 | [],x::l',_,_,h=>by have:=(h x).2 (.head _);cases this
 | x::l,[],_,_,h=>by have:=(h x).1 (.head _);cases this
 | x::l,y::l',h1,h2,h=>by
  obtain⟨a1,a2⟩:=List.pairwise_cons.1 h1
  obtain⟨b1,b2⟩:=List.pairwise_cons.1 h2
  have hxy:x=y:=by
   rcases List.mem_cons.1 ((h x).1 (.head _)) with e | e
   ·exact e
   ·rcases List.mem_cons.1 ((h y).2 (.head _)) with e2 | e2
    ·exact e2.symm
    ·have:=a1 y e2;have:=b1 x e;omega
  subst hxy
  rw[sorted_ext a2 b2 fun k=>?_]
  constructor
  ·intro hk
   rcases List.mem_cons.1 ((h k).1 (.tail _ hk)) with e | e
   ·have:=a1 k hk;omega
   ·exact e
  ·intro hk
   rcases List.mem_cons.1 ((h k).2 (.tail _ hk)) with e | e
   ·have:=b1 k hk;omega
   ·exact e
theorem listL_sorted (s:List Bool):(listL true 0 s).Pairwise (· < ·):=by
 rw[ups_list true,List.pairwise_map]
 exact(ups_sorted s).imp fun h=>by omega
section
variable {ds ds':List Df} {up:Nat→Nat} (hk:Keeps ds ds' up)
include hk
theorem calls_keep {i k:Nat} (hi:i < ds'.length) (hkl:k < ds'.length):(k:Int)∈(callsL (grL ds')).getD i [] ↔ ((up k:Nat):Int)∈(callsL (grL ds)).getD (up i) []:=by
 obtain⟨h1,h2⟩:=hk.get hi
 obtain⟨h3,-⟩:=hk.get hkl
 rw[calls_iff (g:=grL ds') rfl hi hkl,calls_iff (g:=grL ds) rfl h1 h3]
 show (∃ nd∈ds'[i].t.ns,_) ↔ ∃ nd∈ds[up i].t.ns,_
 rw[h2]
 constructor
 ·rintro⟨nd,a,b,c⟩
  obtain⟨q,hq,e1,e2⟩:=hk.cl _ (List.getElem_mem hi) nd a b
  have c:findAt nd.t ds' 0=(k:Int):=c
  obtain rfl:q=k:=by omega
  exact⟨nd,a,b,e2⟩
 ·rintro⟨nd,a,b,c⟩
  obtain⟨q,hq,e1,e2⟩:=hk.cl _ (List.getElem_mem hi) nd a b
  have c:findAt nd.t ds 0=((up k:Nat):Int):=c
  obtain rfl:q=k:=hk.inj hq hkl (by omega)
  exact⟨nd,a,b,e1⟩
theorem calls_in {i b:Nat} (hi:i < ds'.length) (hb:b < ds.length) (h:(b:Int)∈(callsL (grL ds)).getD (up i) []):∃ k,k < ds'.length∧b=up k:=by
 obtain⟨h1,h2⟩:=hk.get hi
 obtain⟨nd,a,c,e⟩:=(calls_iff (g:=grL ds) rfl h1 hb).1 h
 have a:nd∈ds[up i].t.ns:=a
 rw[h2] at a
 obtain⟨q,hq,e1,e2⟩:=hk.cl _ (List.getElem_mem hi) nd a c
 have e:findAt nd.t ds 0=(b:Int):=e
 exact⟨q,hq,by omega⟩
theorem reach_keep {i b:Nat} (hi:i < ds'.length):Comes (callsL (grL ds)) (up i) b ↔ ∃ a,a < ds'.length∧b=up a∧Comes (callsL (grL ds')) i a:=by
 have hL':=callsL_valid (g:=grL ds') rfl
 have hL:=callsL_valid (g:=grL ds) rfl
 have n':(callsL (grL ds')).length=ds'.length:=by simp[callsL,grL]
 have n1:(callsL (grL ds)).length=ds.length:=by simp[callsL,grL]
 constructor
 ·intro h
  induction h with
  | self=>exact⟨i,hi,rfl,.self⟩
  | @next a k hc hkm ih=>
   obtain⟨a',ha',rfl,hc'⟩:=ih
   obtain⟨q1,q2,q3⟩:=callsL_in hL hkm
   obtain⟨k',hk',e⟩:=calls_in hk ha' (by omega) hkm
   refine⟨k',hk',e,?_⟩
   rw[e] at hkm
   exact Comes.next hc' ((calls_keep hk ha' hk').2 hkm)
 ·rintro⟨a,ha,rfl,h⟩
  clear ha
  induction h with
  | self=>exact .self
  | @next a k hc hkm ih=>
   obtain⟨q1,q2,q3⟩:=callsL_in hL' hkm
   exact Comes.next ih ((calls_keep hk (by omega) (by omega)).1 hkm)
theorem fromI_keep {i:Nat} (hi:i < ds'.length):fromI (callsL (grL ds)) (up i)=(fromI (callsL (grL ds')) i).map fun k=>((up k.toNat:Nat):Int):=by
 have hL':=callsL_valid (g:=grL ds') rfl
 have hL:=callsL_valid (g:=grL ds) rfl
 have n':(callsL (grL ds')).length=ds'.length:=by simp[callsL,grL]
 have n1:(callsL (grL ds)).length=ds.length:=by simp[callsL,grL]
 obtain⟨h1,-⟩:=hk.get hi
 have hv:∀ {k:Int},k∈fromI (callsL (grL ds')) i→∃ a:Nat,k=a∧a < (callsL (grL ds')).length∧Comes (callsL (grL ds')) i a:=fun {k} h=>fromI_nat hL' (i:=i) (by omega) h
 refine sorted_ext (listL_sorted _) ?_ fun k=>?_
 ·refine List.Pairwise.map _ (R:=fun a b=>a < b∧a∈fromI (callsL (grL ds')) i∧b∈fromI (callsL (grL ds')) i) (fun a b ⟨hab,ha,hb⟩=>?_) ?_
  ·obtain⟨x,rfl,hx,-⟩:=hv ha
   obtain⟨y,rfl,hy,-⟩:=hv hb
   have:=hk.lt x y (by omega) (by omega)
   simp
   omega
  ·exact List.Pairwise.imp_of_mem (fun {a b} ha hb h=>⟨h,ha,hb⟩) (listL_sorted _)
 ·constructor
  ·intro h
   obtain⟨b,rfl,hb,hc⟩:=fromI_nat hL (i:=up i) (by omega) h
   obtain⟨a,ha,rfl,hc'⟩:=(reach_keep hk hi).1 hc
   exact List.mem_map.2 ⟨(a:Int),(fromI_mem hL' (by omega)).2 hc',by simp⟩
  ·intro h
   obtain⟨a,ha,rfl⟩:=List.mem_map.1 h
   obtain⟨x,rfl,hx,hc⟩:=hv ha
   rw[Int.toNat_natCast,fromI_mem hL (by omega)]
   exact(reach_keep hk hi).2 ⟨x,by omega,rfl,hc⟩
end
theorem callsL_grL {g:Gr} (hn:g.ds.length=g.n):callsL (grL g.ds)=callsL g:=by
 unfold callsL calledL grL
 simp only
 rw[hn]
theorem callsL_ct (g:Gr):callsL g.ct=callsL g:=by
 have hf:∀ (nm:ByteArray) (ds:List Df) (i:Nat),findAt nm (ds.map Df.ct) i=findAt nm ds i:=fun nm ds=>by
  induction ds with
  | nil=>intro i;rfl
  | cons d ds ih=>intro i;rw[List.map_cons,findAt,findAt,ih];rfl
 have hnm:∀ d:Df,namedL d.ct.t.ns=namedL d.t.ns:=fun d=>by
  show namedL (d.t.ns.map Nd.ct)=_
  unfold namedL
  rw[List.filter_map,List.map_map]
  rfl
 unfold callsL
 show (g.ds.map Df.ct).map _=_
 rw[List.map_map]
 refine List.map_congr_left fun d _=>?_
 show listL true 0 (thereL (g.ds.map Df.ct) g.n (namedL d.ct.t.ns))=listL true 0 (thereL g.ds g.n (namedL d.t.ns))
 rw[hnm]
 unfold thereL
 congr 1
 congr 1
 funext s nm
 rw[hf]
def marks64 (l:List Int):List Bool:=(List.range 64).map fun (i:Nat)=>decide ((i:Int)∈l)
theorem marks_len (l:List Int):(marks64 l).length=64:=by simp[marks64]
theorem marks_get {l:List Int} {i:Nat} (hi:i < 64):(marks64 l).getD i false=decide ((i:Int)∈l):=by
 unfold marks64
 rw[List.getD_eq_getElem?_getD,List.getElem?_map,List.getElem?_range hi]
 rfl
theorem getD_take' (s:List Bool) (n i:Nat):(s.take n).getD i false=if i < n then s.getD i false else false:=by
 rw[List.getD_eq_getElem?_getD,List.getD_eq_getElem?_getD,List.getElem?_take]
 split<;>rfl
theorem bools_ext {a b:List Bool} (hl:a.length=b.length) (h:∀ i,i < a.length→a.getD i false=b.getD i false):a=b:=by
 refine List.ext_getElem hl fun i h1 h2=>?_
 have:=h i h1
 rw[List.getD_eq_getElem?_getD,List.getD_eq_getElem?_getD,List.getElem?_eq_getElem h1,List.getElem?_eq_getElem h2] at this
 exact this
theorem marks_take {s:List Bool} (hs:s.length≤64):(marks64 (listL true 0 s)).take s.length=s:=by
 refine bools_ext (by rw[List.length_take,marks_len];omega) fun i hi=>?_
 rw[List.length_take,marks_len] at hi
 have hi:i < s.length:=by omega
 rw[getD_take',if_pos hi,marks_get (by omega)]
 cases h:s.getD i false with
 | true=>exact decide_eq_true (listL_isM.2 h)
 | false=>
  refine decide_eq_false fun h1=>?_
  have:=listL_isM.1 h1
  unfold isM at this
  rw[h] at this
  cases this
section
variable {deb:List Int} {g:Gr} (hn:g.ds.length=g.n) (hm:mayG deb g=0)
include hn hm
theorem may_calls {i:Nat} (hi:i < g.ds.length) {nd:Nd} (hnd:nd∈g.ds[i].t.ns) (h3:nd.k=3):∃ q:Nat,findAt nd.t g.ds 0=(q:Int)∧q < g.ds.length∧(q:Int)∈(callsL g).getD i []:=by
 obtain⟨-,-,-,-,h5⟩:=may_split.1 hm
 have h6:=h5 _ (List.getElem_mem hi) nd hnd h3
 have h7:=findAt_lt nd.t g.ds 0 h6
 obtain⟨q,hq⟩:=Int.eq_ofNat_of_zero_le h6
 exact⟨q,hq,by omega,(calls_iff hn hi (by omega)).2 ⟨nd,hnd,h3,hq⟩⟩
theorem keeps_calls {s:List Bool} (hs:s.length=g.ds.length) (hc:∀ i,i < g.ds.length→s.getD i false=true→∀ k:Nat,(k:Int)∈(callsL g).getD i []→s.getD k false=true):Keeps g.ds (keepL s g.ds) (upK s):=
 keeps_of hs fun i hi h1 nd hnd h3=>by
  obtain⟨q,h4,h5,h6⟩:=may_calls hn hm hi hnd h3
  exact⟨q,h4,hc i hi h1 q h6⟩
theorem keeps_from {i:Nat} (hi:i < g.ds.length):(fromL (callsL g) i).length=g.ds.length∧Keeps g.ds (keepL (fromL (callsL g) i) g.ds) (upK (fromL (callsL g) i)):=by
 have hL:=callsL_valid hn
 have hl:(callsL g).length=g.ds.length:=by simp[callsL]
 have hf:=fromL_ok hL (i:=i) (by omega)
 have h1:(fromL (callsL g) i).length=g.ds.length:=by rw[hf.len,hl]
 refine⟨h1,keeps_calls hn hm h1 fun a ha h2 k hk=>?_⟩
 have:=Comes.next ((hf.iff a).1 h2) hk
 have h3:=(hf.iff _).2 this
 unfold isM at h3
 simpa using h3
theorem pruned {h:Gr} (hct:h.ct=(grL (keepL (fromL (callsL g) 0) g.ds)).ct) :
  h.n=(fromG deb g 0).length∧listL false 0 (fromL (callsL h) 0)=[]∧upK (fromL (callsL g) 0) 0=0∧0 < (keepL (fromL (callsL g) 0) g.ds).length ∧
  ∀ i,i < (keepL (fromL (callsL g) 0) g.ds).length→(fromG deb g 0)[i]?=some ((upK (fromL (callsL g) 0) i:Nat):Int):=by
 have h0:0 < g.ds.length:=by
  have:=(may_split.1 hm).1
  omega
 have hL:=callsL_valid hn
 have hl:(callsL g).length=g.ds.length:=by simp[callsL]
 have hf:=fromL_ok hL (i:=0) (by omega)
 obtain⟨h1,hk⟩:=keeps_from hn hm h0
 have hG:fromG deb g 0=listL true 0 (fromL (callsL g) 0):=by
  unfold fromG
  have:inR 0 g.n=true:=by
   unfold inR
   simp
   omega
  rw[this,decide_eq_true hm]
  rfl
 have hcl:callsL h=callsL (grL (keepL (fromL (callsL g) 0) g.ds)):=by rw[←callsL_ct h,hct,callsL_ct]
 have hhn:h.n=(keepL (fromL (callsL g) 0) g.ds).length:=congrArg Gr.n hct
 rw[hG,hcl,ups_list true]
 have h00:(fromL (callsL g) 0).getD 0 false=true:=(hf.iff 0).2 .self
 have hsay:=hf.iff
 generalize hs:fromL (callsL g) 0=s at h1 hk hhn h00 hsay ⊢
 have hlen:=(keepL_at s g.ds h1).1
 obtain⟨i0,hi0,e0⟩:=upK_of h1 h00
 have hup0:upK s 0=0:=by
  by_cases e:i0=0
  ·rw[e] at e0
   exact e0
  ·have:=hk.lt 0 i0 (by omega) hi0
   omega
 have hpos:0 < (keepL s g.ds).length:=by omega
 refine⟨by rw[hhn,List.length_map,hlen],?_,hup0,hpos,fun i hi=>?_⟩
 ·rw[List.eq_nil_iff_forall_not_mem]
  intro k hkm
  obtain⟨j,rfl,-⟩:=(listL_mem _ _ _ _).1 hkm
  rw[Nat.zero_add] at hkm
  have hL':=callsL_valid (g:=grL (keepL s g.ds)) rfl
  have hl':(callsL (grL (keepL s g.ds))).length=(keepL s g.ds).length:=by simp[callsL,grL]
  have hf':=fromL_ok hL' (i:=0) (by omega)
  obtain⟨h2,h3⟩:=listL_notM.1 hkm
  rw[hf'.len,hl'] at h2
  refine h3 ((hf'.iff j).2 ?_)
  have h4:Comes (callsL (grL g.ds)) (upK s 0) (upK s j):=by
   rw[hup0,callsL_grL hn]
   exact(hsay _).1 (upK_at h1 h2).2
  obtain⟨a,ha,e,hc⟩:=(reach_keep hk hpos).1 h4
  rw[hk.inj h2 ha e]
  exact hc
 ·rw[List.getElem?_map,List.getElem?_eq_getElem (by omega)]
  unfold upK
  rw[List.getD_eq_getElem?_getD,List.getElem?_eq_getElem (by omega)]
  simp
end
section
variable {X:Ctx} {β:Nat→Nat} {F:Fr} {C:Bx} {I:GH} {M:List Blk} {o:Oper} {K:KS}
theorem OtherOb.copyL (hE:EOK X.P X.E) {x y:Operand} {t:Nat} (ho:o.op=.call { callee:=.builtin .copy,args:=#[x,y],argTypes:=#[t,t] }) (hd:∀ d,o.dst=some d→d < X.n)
  {e:Nat} {ti ei:TI} (ht:X.E t=some ti) (hts:ti.sh=.slice e) (he:X.E e=some ei)
  {g n c:Nat} {cur:List Value} (hx:ev F x=.val (.slice (some ⟨g,0,none⟩) n c)) (hc:n * ei.size≤cur.length)
  {sa:Option Addr} {c':Nat} (hy:ev F y=.val (.slice sa n c')) {news:List Value} (hl:news.length=n * ei.size) (hn:0 < n→∃ ad,sa=some ad∧Rd I M ad (n * ei.size) news) (h1:allOne news=true)
  (pre post:List Blk) (hM:M=pre++⟨g,.cells cur.toArray e (0,0)⟩::post)
  (k:K (put o.dst (.val (.int .i64 n)) F) C I (pre++⟨g,.cells (splice cur 0 news).toArray e (0,0)⟩::post)):OtherOb X o F C I M K:=by
 refine⟨fun a w Q ⟨β,hR⟩=>?_⟩
 have hu:=und_slice hE ht hts
 obtain⟨inf,z,hi,hi1,hi2,hi3,hi4⟩:=(hE _ _ he).inf
 have hg:w.heap[g]?=some (.cells cur.toArray e (0,0)):=hR.holds.m ⟨g,.cells cur.toArray e (0,0)⟩ (by rw[hM];simp)
 have hst:=run_storeCells_at X.P g 0 e news 0 cur.toArray w hg (by rw[hl];simpa using hc) (allOne_spec h1)
 simp only[Nat.add_zero] at hst
 have hf:(Builtin.firstCells ei.size n (.slice sa n c')).run X.P w=.ok news.toArray w:=by
  by_cases h0:0 < n
  ·obtain⟨ad,rfl,hsp,cs,T,fr,hkn,hv,hl⟩:=hn h0
   refine run_firstCells_some (P:=X.P) w ei.size n ad n c' news hl fun j v hj=>?_
   rw[addr_add _ hsp,cell_of_block (hkn.heap hR.holds)]
   rw[←hv,List.getElem?_take] at hj
   split at hj
   ·rw[List.getElem?_drop] at hj
    simpa using hj
   ·cases hj
  ·have h2:n=0:=by omega
   subst h2
   have h3:news=[]:=List.eq_nil_of_length_eq_zero (by rw[hl,Nat.zero_mul])
   subst h3
   cases sa with
   | none=>simp[Builtin.firstCells]
   | some ad=>exact run_firstCells_some (P:=X.P) w ei.size 0 ad 0 c' [] (by simp) fun j v hj=>by simp at hj
 have ex:=eval_of_ev hR.fr hx
 have ey:=eval_of_ev hR.fr hy
 refine wpIn_val (by rw[ho];simp) (v:=.int .i64 n) (w':=w.setRow g (splice cur 0 news).toArray) ?_ ⟨_,_,_,_,⟨β,RelB.put (x:=.val (.int .i64 n)) ?_ hd rfl⟩,k⟩
 ·have hrun:(Builtin.copy_ #[t,t] o.type #[.slice (some ⟨g,0,none⟩) n c,.slice sa n c']).run X.P w=.ok (.int .i64 n) (w.setRow g (splice cur 0 news).toArray):=by
   rw[←hi1] at hf
   simp[Builtin.copy_,run_underlying hu,Builtin.lenOf,sizeOf,typeInfo,hi,hf,hst,splice,goInt]
  unfold execOp
  simp only[ho,resolve,invoke,builtin,Sem.run_bind,Sem.run_pure,Result.andThen_ok,List.map_toArray,List.map_cons,List.map_nil,ex,ey,hrun]
 ·exact hR.store_blk hM
end
section
variable {X:Ctx} {F:Fr} {C:Bx} {I:GH} {M:List Blk} {o:Oper}
theorem ev_cg {G F:Fr} {y:Operand} {r:SV} (h:evr G y=evr F y) (h':ev F y=r):ev G y=r:=by
 simp only[ev,evq,h]
 exact h'
theorem DrawOb.copyAt {K:SV→GH→List Blk→Prop} (hE:EOK X.P X.E) {x y:Operand} {t:Nat} (ho:o.op=.call { callee:=.builtin .copy,args:=#[x,y],argTypes:=#[t,t] })
  {e:Nat} {ti ei:TI} (ht:X.E t=some ti) (hts:ti.sh=.slice e) (he:X.E e=some ei)
  {g off n c m:Nat} {cur:List Value} (hx:ev F x=.val (.slice (some ⟨g,off,none⟩) n c)) (hmn:m≤n) (hc:off+m * ei.size≤cur.length)
  {sa:Option Addr} {c':Nat} (hy:ev F y=.val (.slice sa m c')) {news:List Value} (hl:news.length=m * ei.size) (hn:0 < m→∃ ad,sa=some ad∧Rd I M ad (m * ei.size) news) (h1:allOne news=true)
  (pre post:List Blk) (hM:M=pre++⟨g,.cells cur.toArray e (0,0)⟩::post)
  (k:K (.val (.int .i64 m)) I (pre++⟨g,.cells (splice cur off news).toArray e (0,0)⟩::post)):DrawOb X o F C I M K:=by
 refine⟨fun β a w Q hR=>?_⟩
 have hu:=und_slice hE ht hts
 obtain⟨inf,z,hi,hi1,hi2,hi3,hi4⟩:=(hE _ _ he).inf
 have hg:w.heap[g]?=some (.cells cur.toArray e (0,0)):=hR.holds.m ⟨g,.cells cur.toArray e (0,0)⟩ (by rw[hM];simp)
 have hst:=run_storeCells_at X.P g off e news 0 cur.toArray w hg (by rw[hl];simpa using hc) (allOne_spec h1)
 simp only[Nat.add_zero] at hst
 have hf:(Builtin.firstCells ei.size m (.slice sa m c')).run X.P w=.ok news.toArray w:=by
  by_cases h0:0 < m
  ·obtain⟨ad,rfl,hsp,cs,T,fr,hkn,hv,hl⟩:=hn h0
   refine run_firstCells_some (P:=X.P) w ei.size m ad m c' news hl fun j v hj=>?_
   rw[addr_add _ hsp,cell_of_block (hkn.heap hR.holds)]
   rw[←hv,List.getElem?_take] at hj
   split at hj
   ·rw[List.getElem?_drop] at hj
    simpa using hj
   ·cases hj
  ·have h2:m=0:=by omega
   subst h2
   have h3:news=[]:=List.eq_nil_of_length_eq_zero (by rw[hl,Nat.zero_mul])
   subst h3
   cases sa with
   | none=>simp[Builtin.firstCells]
   | some ad=>exact run_firstCells_some (P:=X.P) w ei.size 0 ad 0 c' [] (by simp) fun j v hj=>by simp at hj
 have ex:=eval_of_ev hR.fr hx
 have ey:=eval_of_ev hR.fr hy
 have hmin:Nat.min m n=m:=Nat.min_eq_left hmn
 have hmin2:Nat.min n m=m:=Nat.min_eq_right hmn
 have hmin3:min m n=m:=Nat.min_eq_left hmn
 have hmin4:min n m=m:=Nat.min_eq_right hmn
 refine wpIn_val (by rw[ho];simp) (v:=.int .i64 m) (w':=w.setRow g (splice cur off news).toArray) ?_ ⟨_,.val (.int .i64 m),I,_,rfl,rfl,?_,k⟩
 ·have hrun:(Builtin.copy_ #[t,t] o.type #[.slice (some ⟨g,off,none⟩) n c,.slice sa m c']).run X.P w=.ok (.int .i64 m) (w.setRow g (splice cur off news).toArray):=by
   rw[←hi1] at hf
   simp[Builtin.copy_,run_underlying hu,Builtin.lenOf,sizeOf,typeInfo,hi,hf,hst,splice,goInt,hmin,hmin2,hmin3,hmin4]
  unfold execOp
  simp only[ho,resolve,invoke,builtin,Sem.run_bind,Sem.run_pure,Result.andThen_ok,List.map_toArray,List.map_cons,List.map_nil,ex,ey,hrun]
 ·exact hR.store_blk hM
end
def mkRow (b:Nat) (s:List Bool):Blk:=⟨b,.cells (s.map Value.bool).toArray 118 (0,0)⟩
theorem mkRow_rd {I:GH} {M:List Blk} {b:Nat} {s:List Bool} (hM:mkRow b s∈M) {j:Nat} (hj:j < s.length):Rd I M ((⟨b,0,none⟩:Addr).add (j * 1)) 1 [.bool (s.getD j false)]:=by
 rw[addr_add (⟨b,0,none⟩:Addr) rfl,Nat.zero_add,Nat.mul_one]
 refine⟨rfl,_,_,_,.inr ⟨_,hM,rfl,rfl⟩,?_,rfl⟩
 simp only
 rw[List.drop_eq_getElem_cons (by simpa using hj),List.take_succ_cons,List.take_zero,List.getElem_map,List.getD_eq_getElem?_getD,List.getElem?_eq_getElem hj]
 rfl
theorem mkRow_all {I:GH} {M:List Blk} {b:Nat} {s:List Bool} (hM:mkRow b s∈M) {n:Nat} (hn:s.length=n):Rd I M (⟨b,0,none⟩:Addr) n (s.map Value.bool):=by
 refine⟨rfl,_,_,_,.inr ⟨_,hM,rfl,rfl⟩,?_,by simpa using hn⟩
 simp only[List.drop_zero]
 exact List.take_of_length_le (by simp[hn])
theorem mkRow_set {b:Nat} {s:List Bool} {j:Nat} (hj:j < s.length) (v:Bool):(⟨b,.cells (splice (s.map Value.bool) j [.bool v]).toArray 118 (0,0)⟩:Blk)=mkRow b (s.set j v):=by
 unfold mkRow
 rw[boolRow_set s j hj v]
theorem erase_ok {g n c:Nat} {cur:List Value} {L:List Df} {i:Nat} (q1:cur.length=c * 3) (q2:n≤c) (q3:c≤maxLen) (q4:cur.take (n * 3)=L.flatMap Df.cells) (hlen:L.length=n) (hi:i < n) {zs:List Value} (hzs:zs.length=3) :
  OS.ok ⟨some g,n - 1,c,splice (splice cur (i * 3) ((L.drop (i+1)).flatMap Df.cells)) ((n - 1) * 3) zs⟩ 3 ((L.eraseIdx i).flatMap Df.cells):=by
 have hnl:((L.drop (i+1)).flatMap Df.cells).length=(n - (i+1)) * 3:=by rw[flat_len _ 3 Df.cells_len,List.length_drop];omega
 have hcl:(splice cur (i * 3) ((L.drop (i+1)).flatMap Df.cells)).length=cur.length:=by
  unfold splice
  rw[List.length_append,List.length_append,List.length_take,List.length_drop,hnl]
  omega
 refine⟨?_,(fun h=>by cases h),fun g' hg'=>?_⟩
 ·rw[flat_len _ 3 Df.cells_len,List.length_eraseIdx,if_pos (by omega)]
  simp only
  omega
 ·cases hg'
  refine⟨?_,by simp only;omega,q3,?_⟩
  ·simp only
   rw[←q1,←hcl]
   unfold splice
   simp only[List.length_append,List.length_take,List.length_drop]
   rw[hcl] at *
   omega
  ·simp only
   have h2:∀ (l:List Value) (k:Nat) (v:List Value),k≤l.length→(splice l k v).take k=l.take k:=fun l k v h=>by
    unfold splice
    rw[List.append_assoc,List.take_append_of_le_length (by rw[List.length_take];omega),List.take_take,Nat.min_self]
   rw[h2 _ _ _ (by rw[hcl];omega)]
   have h3:((L.take i).flatMap Df.cells).length=i * 3:=by rw[flat_len _ 3 Df.cells_len,List.length_take_of_le (by omega)]
   have h4:cur.take (i * 3)=(L.take i).flatMap Df.cells:=by
    have:cur.take (i * 3)=(cur.take (n * 3)).take (i * 3):=by rw[List.take_take,Nat.min_eq_left (by omega)]
    have e1:L.flatMap Df.cells=(L.take i).flatMap Df.cells++(L.drop i).flatMap Df.cells:=by rw[←List.flatMap_append,List.take_append_drop]
    rw[this,q4,e1,←h3,List.take_left]
   unfold splice
   rw[h4,List.take_append_of_le_length (by rw[List.length_append,h3,hnl];omega),List.take_of_length_le (by rw[List.length_append,h3,hnl];omega),←List.flatMap_append,List.eraseIdx_eq_take_drop_succ]
def behindL (s:List Bool) (L:List Df) (k:Nat):List Df:=L.take k++keepL (s.drop k) (L.drop k)
theorem behind_all (s:List Bool) (L:List Df) {n:Nat} (h:L.length=n):behindL s L n=L:=by
 unfold behindL
 rw[List.take_of_length_le (by omega),List.drop_of_length_le (l:=L) (by omega)]
 cases s.drop n<;>simp[keepL]
theorem behind_zero (s:List Bool) (L:List Df):behindL s L 0=keepL s L:=rfl
theorem behind_step (s:List Bool) (L:List Df) {j:Nat} (hs:j < s.length) (hj:j < L.length):behindL s L j=if s.getD j false then behindL s L (j+1) else (behindL s L (j+1)).eraseIdx j:=by
 have e1:s.drop j=s[j]::s.drop (j+1):=List.drop_eq_getElem_cons hs
 have e2:L.drop j=L[j]::L.drop (j+1):=List.drop_eq_getElem_cons hj
 have e3:L.take (j+1)=L.take j++[L[j]]:=List.take_succ_eq_append_getElem hj
 have e4:s.getD j false=s[j]:=by rw[List.getD_eq_getElem?_getD,List.getElem?_eq_getElem hs];rfl
 have hl:(L.take j).length=j:=by rw[List.length_take];omega
 have e5:∀ (A K:List Df) (x:Df),A.length=j→(A++x::K).eraseIdx j=A++K:=fun A K x h=>by
  rw[List.eraseIdx_append_of_length_le (by omega),h,Nat.sub_self]
  rfl
 have e6:L.take (j+1)++keepL (s.drop (j+1)) (L.drop (j+1))=L.take j++L[j]::keepL (s.drop (j+1)) (L.drop (j+1)):=by rw[e3,List.append_assoc];rfl
 unfold behindL
 rw[e6,e5 _ _ _ hl,e1,e2,keepL,e4]
 cases s[j] with
 | true=>rfl
 | false=>rfl
theorem behind_len (s:List Bool) (L:List Df) {k:Nat} (hk:k≤L.length):k≤(behindL s L k).length:=by
 unfold behindL
 rw[List.length_append,List.length_take]
 omega
theorem behind_le (s:List Bool) (L:List Df) (k:Nat):(behindL s L k).length≤L.length:=by
 unfold behindL
 have:=(keepL_sub (s.drop k) (L.drop k)).length_le
 rw[List.length_append,List.length_take]
 rw[List.length_drop] at this
 omega
theorem Copy_fullM {I:GH} {M0:List Blk} {g:Gr} (hg:g.ok I):Spec Tryz.prog 65 [g.val] I M0 fun v I' M'=>I'=I∧∃ (os:OS) (L:List Df) (M1:List Blk),v=.agg #[os.val]∧os.n=g.n∧os.ok 3 (L.flatMap Df.cells)∧M'=os.blk 46++(M1++M0)∧L.map Df.ct=g.ds.map Df.ct∧∀ d∈L,DfM M1 d:=by
 refine Spec.weakK (Spec.frame (Copy_full hg)) ?_
 rintro v J M ⟨M',rfl,-,-,rfl,os,L,M1,rfl,h1,h2,rfl,h3,h4⟩
 exact⟨rfl,os,L,M1,rfl,h1,h2,by rw[List.append_assoc],h3,h4⟩
structure OnI (s:List Bool) (L:List Df) (n:Nat) (x:Nat×OS):Prop where
 k:x.1≤n
 ok:x.2.ok 3 ((behindL s L x.1).flatMap Df.cells)
set_option maxRecDepth 100000 in
set_option maxHeartbeats 8000000 in
theorem only_full {I:GH} {g:Gr} (hg:g.ok I) {s:List Bool} (hs:s.length=64) (hn:g.n≤64):Spec Tryz.prog 75 [g.val,.agg (s.map Value.bool).toArray] I [] fun v I' M'=>I'=I∧∃ h:Gr,v=h.val∧GrM M' h∧h.ct=(grL (keepL (s.take g.n) g.ds)).ct:=by
 refine spec_of_V [3] TryzEOK Tryz.func75 rfl rfl rfl ?_
 intro B h0
 have hgn:=hg.n
 have hcap:=hg.rs.cap
 refine AllocOb.mk fun b hb hbM=>?_
 refine CallOb.whole _ (Copy_fullM (M0:=[mkRow b s]) hg) ?_
 rintro v J N - ⟨hJ,os0,L,M1,rfl,hon,hos0,hN,hct,hds⟩
 subst J
 subst N
 have hLn:L.length=g.ds.length:=by simpa using congrArg List.length hct
 refine ArithOb.mk ((g.n:Int) - 1) (by rw[hon];exact wr_eq rfl (by omega)) ?_
 refine LoopOb.inv (ι:=Nat×OS) (fun x=>{ fl:=[(3,.val (.pointer (some ⟨b,0,none⟩))),(4,.ref 4 0),(5,.ref 5 0),(6,.val (.int .i64 ((x.1:Int) - 1)))],cl:=[(4,[.slice none 0 0]),(5,[x.2.val])],gi:=I,mi:=x.2.blk 46++(M1++[mkRow b s]) }) (fun x=>OnI s L g.n x) (fun x=>x.1) ?_ ?_
 ·exact⟨(g.n,os0),⟨Nat.le_refl _,by rw[behind_all s L (by omega)];exact hos0⟩,.refl,aF4,.cons rfl (.cons rfl (.nil))⟩
 rintro⟨k,os⟩ ⟨hk,hos⟩
 simp only at hk hos
 refine CondOb.mk (fun h=>?_) (fun h=>?_)
 rotate_left
 ·have hk0:k=0:=by have:¬ (0:Int)≤(k:Int) - 1:=of_decide_eq_false h;omega
  subst hk0
  rw[behind_zero] at hos
  have hkl:=(keepL_sub s L).length_le
  have hlen:=hos.len
  rw[flat_len _ 3 Df.cells_len] at hlen
  refine⟨_,_,.refl,rfl,⟨keepL s L,os.a.map fun g=>⟨g,0,none⟩,os.n,os.c⟩,rfl,⟨(RM.of_os hos (by omega)).mono fun x hx=>List.mem_append_left _ hx,fun d hd=>(hds d ((keepL_sub s L).subset hd)).mono fun x hx=>List.mem_append_right _ (List.mem_append_left _ hx)⟩,?_⟩
  have e1:keepL s g.ds=keepL (s.take g.n) g.ds:=by
   have:∀ (s:List Bool) (l:List Df),keepL s l=keepL (s.take l.length) l:=by
    intro s
    induction s with
    | nil=>intro l;simp
    | cons c s ih=>intro l;cases l with
     | nil=>rfl
     | cons x l=>simp only[List.length_cons,List.take_succ_cons,keepL,ih l]
   rw[this s g.ds,hgn]
  have e2:(keepL s L).map Df.ct=(keepL (s.take g.n) g.ds).map Df.ct:=by rw[←keepL_map,hct,keepL_map,e1]
  have e3:=congrArg List.length e2
  rw[List.length_map,List.length_map] at e3
  unfold Gr.ct grL
  simp only
  rw[e2,←e3]
  congr 1
  omega
 obtain⟨j,rfl⟩:∃ j,k=j+1:=⟨k - 1,by have:(0:Int)≤(k:Int) - 1:=of_decide_eq_true h;omega⟩
 have hj:j < g.n:=hk
 have hjs:j < s.length:=by omega
 have hjj:((j+1:Nat):Int) - 1=(j:Int):=by omega
 have hbs:=behind_step s L hjs (show j < L.length by omega)
 refine ArrOb.mk j hjj (by omega) ?_
 refine LoadOb.mk _ (mkRow_rd (b:=b) (s:=s) (by simp) hjs) ?_
 refine CondOb.mk (fun hc=>?_) (fun hc=>?_)
 ·have hc:s.getD j false=true:=hc
  rw[if_pos hc] at hbs
  refine ArithOb.mk ((j:Int) - 1) (wr_eq (by omega) (by omega)) ?_
  exact⟨(j,os),⟨⟨by simp only;omega,by simp only;rw[hbs];exact hos⟩,by simp only;omega⟩,.refl,aF4,.cons rfl (.cons rfl (.nil))⟩
 have hc:s.getD j false=false:=hc
 rw[if_neg (by rw[hc];simp)] at hbs
 have hbl:=behind_len s L (k:=j+1) (by omega)
 have hbe:=behind_le s L (j+1)
 generalize behindL s L (j+1)=L' at hos hbs hbl hbe
 have hlen:=hos.len
 rw[flat_len _ 3 Df.cells_len] at hlen
 obtain⟨a,n,c,cur⟩:=os
 cases a with
 | none=>
  have:=(hos.nil rfl).1
  simp only at this hlen
  omega
 | some q=>
 obtain⟨q1,q2,q3,q4⟩:=hos.cap q rfl
 simp only at q1 q2 q3 q4 hlen
 have hlen:L'.length=n:=by omega
 have hjn:j < n:=by omega
 have hgM:(⟨q,.cells cur.toArray 46 (0,0)⟩:Blk)∈((⟨some q,n,c,cur⟩:OS).blk 46++(M1++[mkRow b s])):=.head _
 have hnl:((L'.drop (j+1)).flatMap Df.cells).length=(n - (j+1)) * 3:=by rw[flat_len _ 3 Df.cells_len,List.length_drop];omega
 refine CodeOb.draw TryzEOK rfl rfl rfl ?_
 refine SliceOb.mk j n (by exact hjj) rfl (by omega) (Nat.le_refl _) ?_
 refine ArithOb.mk ((j+1:Nat):Int) (wr_eq (by omega) (by omega)) ?_
 refine SliceOb.mk (j+1) n rfl rfl (by omega) (Nat.le_refl _) ?_
 have hcj:¬ c=j:=by omega
 have hsv1:(Value.slice (if c=j then some ⟨q,0,none⟩ else (some (⟨q,0,none⟩:Addr)).map (·.add (j * 3))) (n - j) (c - j))=.slice (some ⟨q,j * 3,none⟩) (n - j) (c - j):=by
  rw[if_neg hcj,Option.map_some,addr_add (⟨q,0,none⟩:Addr) rfl,Nat.zero_add]
 have hsv2:(Value.slice (if c=j+1 then some ⟨q,0,none⟩ else (some (⟨q,0,none⟩:Addr)).map (·.add ((j+1) * 3))) (n - (j+1)) (c - (j+1)))=.slice (some ⟨q,if c=j+1 then 0 else (j+1) * 3,none⟩) (n - (j+1)) (c - (j+1)):=by
  by_cases hc:c=j+1
  ·rw[if_pos hc,if_pos hc]
  ·rw[if_neg hc,if_neg hc,Option.map_some,addr_add (⟨q,0,none⟩:Addr) rfl,Nat.zero_add]
 intro G hG
 refine DrawOb.copyAt TryzEOK rfl (e:=46) rfl rfl rfl (g:=q) (off:=j * 3) (n:=n - j) (c:=c - j) (m:=n - (j+1)) (cur:=cur) (ev_cg (hG _ (by simp[Op.operands,Call.operands])) (congrArg SV.val hsv1)) (by omega) (by rw[q1];show j * 3+(n - (j+1)) * 3≤c * 3;omega) (ev_cg (hG _ (by simp[Op.operands,Call.operands])) (congrArg SV.val hsv2)) (news:=(L'.drop (j+1)).flatMap Df.cells) hnl ?_ (flat_one Df.one _) [] (M1++[mkRow b s]) rfl ?_
 ·intro hpos
  refine⟨_,rfl,rfl,cur.toArray,46,(0,0),.inr ⟨_,hgM,rfl,rfl⟩,?_,hnl⟩
  rw[if_neg (by omega),drop_flat _ 3 Df.cells_len,←q4,List.drop_take]
  congr 1
  show (n - (j+1)) * 3=n * 3 - (j+1) * 3
  omega
 refine ArithOb.mk ((n - 1:Nat):Int) (wr_eq (by omega) (by omega)) ?_
 refine IdxOb.mk ⟨q,0,none⟩ (n - 1) rfl rfl (show n - 1 < n by omega) ?_
 have hcl:(splice cur (j * 3) ((L'.drop (j+1)).flatMap Df.cells)).length=cur.length:=by
  unfold splice
  rw[List.length_append,List.length_append,List.length_take,List.length_drop,hnl]
  omega
 refine StoreOb.mk [] (M1++[mkRow b s]) (splice cur (j * 3) ((L'.drop (j+1)).flatMap Df.cells)).toArray 46 ?_ ?_ ?_ rfl ?_
 ·rw[addr_add (⟨q,0,none⟩:Addr) rfl]
 ·rw[addr_add (⟨q,0,none⟩:Addr) rfl]
 ·rw[addr_add (⟨q,0,none⟩:Addr) rfl]
  show 0+(n - 1) * 3+3≤(splice cur (j * 3) ((L'.drop (j+1)).flatMap Df.cells)).toArray.size
  rw[List.size_toArray,hcl,q1]
  omega
 rw[addr_add (⟨q,0,none⟩:Addr) rfl]
 refine SliceOb.mk 0 (n - 1) rfl rfl (Nat.zero_le _) (show n - 1≤c by omega) ?_
 refine ArithOb.mk ((j:Int) - 1) (wr_eq (by omega) (by omega)) ?_
 refine⟨(j,⟨some q,n - 1,c,_⟩),⟨⟨by simp only;omega,?_⟩,by simp only;omega⟩,.refl,aF4,.cons rfl (.cons rfl (.nil))⟩
 simp only
 rw[hbs,Nat.zero_add]
 exact erase_ok (g:=q) q1 q2 q3 q4 hlen hjn (zs:=[.string ⟨#[]⟩,.slice none 0 0,.int .i64 0]) rfl
section
variable {H:Type} {enc:TypeId×Value→H}
end
structure Stp where
 p:Int
 w:Int
 r:Int
 pa:Option Addr
 pn:Nat
 pc:Nat
 pl:List Int
 at_:Int
def Stp.cells (s:Stp):List Value:=[.int .u8 s.p,.int .u8 s.w,.int .i64 s.r,.slice s.pa s.pn s.pc,.int .i64 s.at_]
def Stp.val (s:Stp):Value:=.agg #[.int .u8 s.p,.int .u8 s.w,.int .i64 s.r,.slice s.pa s.pn s.pc,.int .i64 s.at_]
theorem Stp.cells_len (s:Stp):s.cells.length=5:=rfl
structure RwW (I:GH) (x:Rw):Prop where
 rs:RS I x.a x.n x.c 1 0 (x.l.map (.int .i64 ·))
 val:∀ k∈x.l,i64ok k
theorem RwW.mono {I I':GH} {x:Rw} (h:RwW I x) (hI:∀ b o,I b=some o→I' b=some o):RwW I' x:=⟨h.rs.mono hI,h.val⟩
section
variable {H:Type} {enc:TypeId×Value→H}
set_option maxRecDepth 100000 in
theorem arg_ints {W:World} {base:Nat} {v:Value} {d:DataW H} {p:List MemPlace} (h:DataW.Trod enc Tryz.prog W 0 (fun _=>true) true 57 v d p) (hv:Value.okWide Tryz.prog W .any base 57 v):∃ x:Rw,v=x.val∧RwW (ghost W) x:=by
 have ht:Tryz.prog.underlying 57=some (.slice 3):=by kernel_rfl
 obtain⟨a,n,c,rfl⟩:=Go.WideShapes.okWide_slice ht hv
 obtain⟨fuel,hf⟩:=h
 obtain⟨a',n',c',l,e0,hrs,hn,hl⟩:=open_ints1 hf
 have e1:[Value.slice a n c]=[Value.slice a' n' c']:=e0
 simp only[List.cons.injEq,Value.slice.injEq,and_true] at e1
 obtain⟨rfl,rfl,rfl⟩:=e1
 exact⟨⟨a,n,c,l⟩,rfl,hrs,hl⟩
end
def stO:Option Int→Stp
 | none=>⟨0,0,0,none,0,0,[],0⟩
 | some r=>⟨7,1,r,none,0,0,[],0⟩
theorem WCheckM {I:GH} {M0:List Blk} {deb:List Int} (hT:Tabs I deb) {g:Gr} (hg:g.ok I) (hkb:∀ d∈g.ds,KB d.t):Spec Tryz.prog 21 [g.val] I M0 fun v I' M'=>(∀ b o,I b=some o→I' b=some o)∧M'=M0∧∃ r:Int×Int,v=.int .i64 r.2∧IsWhere deb g r:=by
 refine Spec.weakK (Spec.frame (WCheck_is hT hg hkb)) ?_
 rintro v J M ⟨M',rfl,-,h1,-,rfl,r,rfl,h2⟩
 exact⟨h1,rfl,r,rfl,h2⟩
theorem step_spec {I:GH} {M0:List Blk} {deb:List Int} (hT:Tabs I deb) {g:Gr} (hg:g.ok I) (hn:g.n≤1099511627776):Spec Tryz.prog 74 [g.val] I M0 fun v I' M'=>(∀ b o,I b=some o→I' b=some o)∧M'=M0∧v=.tuple #[(stO (uselessG deb g).head?).val,.bool (uselessG deb g).head?.isSome]:=by
 refine spec_of_V [] TryzEOK Tryz.func74 rfl rfl rfl ?_
 intro B h0
 refine CallOb.mk [] M0 _ (.refl _) (Useless_spec hT hg hn) ?_
 rintro v I1 N - ⟨hI1,x,rfl,hx,hxl,rfl⟩
 have hxn:=hx.n
 cases hl:uselessG deb g with
 | nil=>
  rw[hl] at hxl
  rw[hxl] at hxn
  refine CondOb.mk (fun _=>?_) (fun h=>?_)
  ·exact⟨_,_,.refl,hI1,rfl,rfl⟩
  ·have h:¬ (x.n:Int)=0:=of_decide_eq_false h
   simp only[List.length_nil] at hxn
   omega
 | cons u l=>
  rw[hl] at hxl
  refine CondOb.mk (fun h=>?_) (fun _=>?_)
  ·have h:(x.n:Int)=0:=of_decide_eq_true h
   rw[hxl] at hxn
   simp only[List.length_cons] at hxn
   omega
  ·have h0':0 < x.n:=by rw[←hxn,hxl];simp
   have h0l:0 < x.l.length:=by rw[hxl];simp
   obtain⟨ad,had,hrd⟩:=hx.rs.one h0' h0l
   have e:x.l[0]=u:=by simp[hxl]
   rw[e] at hrd
   refine IdxOb.mk ad 0 had rfl h0' ?_
   refine LoadOb.mk _ (hrd _) ?_
   exact⟨_,_,.refl,hI1,rfl,rfl⟩
def IsStep (deb:List Int) (g:Gr) (o:Option Int):Prop:=∃ r,IsWhere deb g r∧o=if r.2=0 then (uselessG deb g).head? else none
theorem First_spec {I:GH} {M0:List Blk} {deb:List Int} (hT:Tabs I deb) {g:Gr} (hg:g.ok I) (hn:g.n≤1099511627776) (hkb:∀ d∈g.ds,KB d.t):Spec Tryz.prog 33 [g.val] I M0 fun v I' M'=>(∀ b o,I b=some o→I' b=some o)∧M'=M0∧∃ o,IsStep deb g o∧v=.tuple #[(stO o).val,.bool o.isSome]:=by
 refine spec_of_V [] TryzEOK Tryz.func33 rfl rfl rfl ?_
 intro B h0
 refine CallOb.whole _ (WCheckM hT hg hkb) ?_
 rintro v I1 N - ⟨hI1,hN,r,rfl,hr⟩
 subst N
 by_cases h:r.2=0
 ·refine CondOb.mk (fun h'=>absurd h' (by simp[h])) (fun _=>?_)
  refine CallOb.whole _ (step_spec (hT.mono hI1) (hg.mono hI1) hn) ?_
  rintro v I2 N - ⟨hI2,hN,rfl⟩
  subst N
  exact⟨_,_,.refl,fun b o h=>hI2 _ _ (hI1 _ _ h),rfl,_,⟨r,hr,(if_pos h).symm⟩,rfl⟩
 ·refine CondOb.mk (fun _=>?_) (fun h'=>absurd h' (by simp[h]))
  exact⟨_,_,.refl,hI1,rfl,none,⟨r,hr,(if_neg h).symm⟩,rfl⟩
def stepsL:Option Int→List Stp
 | none=>[]
 | some r=>[stO (some r)]
theorem Steps_spec {I:GH} {M0:List Blk} {deb:List Int} (hT:Tabs I deb) {g:Gr} (hg:g.ok I) (hn:g.n≤1099511627776) (hkb:∀ d∈g.ds,KB d.t):Spec Tryz.prog 35 [g.val] I M0 fun v I' M'=>(∀ b o,I b=some o→I' b=some o)∧∃ (o:Option Int) (os:OS),IsStep deb g o∧os.ok 5 ((stepsL o).flatMap Stp.cells)∧v=os.val∧M'=os.blk 59++M0:=by
 refine spec_of_V [] TryzEOK Tryz.func35 rfl rfl rfl ?_
 intro B h0
 refine CallOb.whole _ (First_spec hT hg hn hkb) ?_
 rintro v I1 N - ⟨hI1,hN,o,ho,rfl⟩
 subst N
 cases o with
 | none=>
  refine CondOb.mk (fun _=>?_) (fun h=>by cases h)
  exact⟨_,_,.refl,hI1,none,OS0,ho,OS0_ok 5,rfl,rfl⟩
 | some r=>
  refine CondOb.mk (fun h=>by cases h) (fun _=>?_)
  refine AllocOb.mk fun b hb hbM=>?_
  exact⟨_,_,.refl,hI1,some r,⟨some b,1,1,(stO (some r)).cells⟩,ho,⟨rfl,(fun h=>by cases h),fun g h=>⟨rfl,Nat.le_refl _,(show (1:Nat)≤maxLen by decide),rfl⟩⟩,rfl,rfl⟩
def isStepB (s:Stp) (o:Option Int):Bool:=o.isSome && (decide (s.p=7) && (decide (s.w=1) && (decide (s.r=o.getD 0) && (decide (s.pn=0) && decide (s.at_=0)))))
def IsDo (deb:List Int) (g:Gr) (s:Stp) (r:Int×List Df):Prop:=∃ x,IsWhere deb g x∧r=if x.2=0 then (if isStepB s (uselessG deb g).head? then (0,keepL (fromL (callsL g) 0) g.ds) else (47,[])) else (x.2,[])
theorem GrM_nil (M:List Blk):GrM M ⟨[],none,0,0⟩:=⟨⟨rfl,⟨Nat.le_refl _,by decide⟩,.inl rfl⟩,fun d hd=>by cases hd⟩
theorem set_marks {l:List Int} {k:Nat} (hk:k < l.length) {z:Nat} (hz:l[k]=(z:Int)) (h64:z < 64):(marks64 (l.take k)).set z true=marks64 (l.take (k+1)):=by
 refine bools_ext (by rw[List.length_set,marks_len,marks_len]) fun i hi=>?_
 rw[List.length_set,marks_len] at hi
 rw[marks_get hi,List.take_succ_eq_append_getElem hk,List.getD_eq_getElem?_getD,List.getElem?_set]
 by_cases e:z=i
 ·subst e
  rw[if_pos rfl,if_pos (by rw[marks_len];exact hi)]
  simp[hz]
 ·rw[if_neg e,←List.getD_eq_getElem?_getD,marks_get hi,decide_eq_decide]
  constructor
  ·intro h;exact List.mem_append_left _ h
  ·intro h
   rcases List.mem_append.1 h with h | h
   ·exact h
   ·rw[List.mem_singleton,hz] at h
    omega
theorem fromG_lt {deb:List Int} {g:Gr} (hn:g.ds.length=g.n) {i:Int}:∀ k∈fromG deb g i,∃ z:Nat,k=(z:Int)∧z < g.n:=fun k hk=>by
 unfold fromG at hk
 cases hc:inR i g.n && decide (mayG deb g=0) with
 | false=>rw[hc] at hk;cases hk
 | true=>
  rw[hc,cond_true] at hk
  simp only[Bool.and_eq_true] at hc
  have hin:=hc.1
  unfold inR at hin
  simp at hin
  have hl:(callsL g).length=g.n:=by simp[callsL,hn]
  have:=listL_valid (wh:=true) (s:=fromL (callsL g) i.toNat) k hk
  rw[from_len (callsL_valid hn) (by omega),hl] at this
  exact⟨k.toNat,by omega,by omega⟩
set_option maxRecDepth 100000 in
set_option maxHeartbeats 8000000 in
theorem Do_own {I:GH} {deb:List Int} (hT:Tabs I deb) {g:Gr} (hg:g.ok I) (hkb:∀ d∈g.ds,KB d.t) (s:Stp):Spec Tryz.prog 32 [g.val,s.val] I [] fun v I' M'=>(∀ b o,I b=some o→I' b=some o)∧∃ (r:Int×List Df) (h:Gr),IsDo deb g s r∧v=.tuple #[h.val,.int .i64 r.1]∧GrM M' h∧h.ct=(grL r.2).ct:=by
 refine spec_of_V [9] TryzEOK Tryz.func32 rfl rfl rfl ?_
 intro B h0
 have hgn:=hg.n
 refine CallOb.whole _ (WCheckM hT hg hkb) ?_
 rintro v I1 N - ⟨hI1,hN,x,rfl,hx⟩
 subst N
 by_cases h:x.2=0
 rotate_left
 ·refine CondOb.mk (fun _=>?_) (fun h'=>absurd h' (by simp[h]))
  exact⟨_,_,.refl,hI1,(x.2,[]),⟨[],none,0,0⟩,⟨x,hx,(if_neg h).symm⟩,rfl,GrM_nil _,rfl⟩
 refine CondOb.mk (fun h'=>absurd h' (by simp[h])) (fun _=>?_)
 have hm:mayG deb g=0:=by
  rcases hx with ⟨a,e⟩ | ⟨a,-⟩
  ·rw[e] at h
   exact h
  ·exact a
 have h64:=may64 hm
 refine CallOb.whole _ (step_spec (hT.mono hI1) (hg.mono hI1) (by omega)) ?_
 rintro v I2 N - ⟨hI2,hN,rfl⟩
 subst N
 have hI2':∀ b o,I b=some o→I2 b=some o:=fun b o h=>hI2 _ _ (hI1 _ _ h)
 have hno:isStepB s (uselessG deb g).head?=false→∃ (r:Int×List Df) (h:Gr),IsDo deb g s r∧Value.tuple #[(⟨[],none,0,0⟩:Gr).val,.int .i64 47]=.tuple #[h.val,.int .i64 r.1]∧GrM [] h∧h.ct=(grL r.2).ct:=fun h4=>
  ⟨(47,[]),⟨[],none,0,0⟩,⟨x,hx,by rw[if_pos h,if_neg (by rw[h4];simp)]⟩,rfl,GrM_nil _,rfl⟩
 cases ho:(uselessG deb g).head? with
 | none=>
  rw[ho] at hno
  refine GuardOb.mk (fun h=>by cases h) (fun _=>?_)
  exact⟨_,_,.refl,hI2',hno rfl⟩
 | some u=>
 rw[ho] at hno
 have hno:¬ (s.p=7∧s.w=1∧s.r=u∧s.pn=0∧s.at_=0)→_:=fun h4=>hno (by
  cases hb:isStepB s (some u) with
  | false=>rfl
  | true=>
   refine absurd ?_ h4
   simpa[isStepB] using hb)
 obtain⟨sp,sw,sr,spa,spn,spc,spl,sat⟩:=s
 simp only at hno
 refine GuardOb.mk (fun _=>?_) (fun h=>by cases h)
 by_cases g1:sp=7
 rotate_left
 ·refine GuardOb.mk (fun h'=>absurd h' (by simp[stO,g1])) (fun _=>?_)
  exact⟨_,_,.refl,hI2',hno fun h=>g1 h.1⟩
 subst g1
 refine GuardOb.mk (fun _=>?_) (fun h'=>absurd h' (by simp[stO]))
 by_cases g2:sw=1
 rotate_left
 ·refine GuardOb.mk (fun h'=>absurd h' (by simp[stO,g2])) (fun _=>?_)
  exact⟨_,_,.refl,hI2',hno fun h=>g2 h.2.1⟩
 subst g2
 refine GuardOb.mk (fun _=>?_) (fun h'=>absurd h' (by simp[stO]))
 by_cases g3:sr=u
 rotate_left
 ·refine GuardOb.mk (fun h'=>absurd h' (by simp[stO,g3])) (fun _=>?_)
  exact⟨_,_,.refl,hI2',hno fun h=>g3 h.2.2.1⟩
 subst g3
 refine GuardOb.mk (fun _=>?_) (fun h'=>absurd h' (by simp[stO]))
 by_cases g4:spn=0
 rotate_left
 ·refine GuardOb.mk (fun h'=>absurd h' (by simp[stO,g4])) (fun _=>?_)
  exact⟨_,_,.refl,hI2',hno fun h=>g4 h.2.2.2.1⟩
 subst g4
 refine GuardOb.mk (fun _=>?_) (fun h'=>absurd h' (by simp[stO]))
 by_cases g5:sat=0
 rotate_left
 ·refine CondOb.mk (fun _=>?_) (fun h'=>absurd h' (by simp[stO,g5]))
  exact⟨_,_,.refl,hI2',hno fun h=>g5 h.2.2.2.2⟩
 subst g5
 refine CondOb.mk (fun h'=>absurd h' (by simp[stO])) (fun _=>?_)
 clear hno
 refine AllocOb.mk fun b hb hbM=>?_
 have hT2:=hT.mono hI2'
 have hg2:=hg.mono hI2'
 refine CallOb.mk [] [mkRow b (List.replicate 64 false)] _ (.refl _) (From_spec hT2 hg2 (by omega) 0) ?_
 rintro v I3 N - ⟨hI3,y,rfl,hy,hyl,rfl⟩
 have hyn:=hy.n
 have hycap:=hy.rs.cap
 have hylt:=fromG_lt (deb:=deb) hgn (i:=0)
 rw[←hyl] at hylt
 refine LoopOb.inv (ι:=Nat) (fun k=>{ fl:=[(2,.ref 2 0),(4,.ref 4 0),(9,.val (.pointer (some ⟨b,0,none⟩))),(59,.val y.val),(60,.val (.int .i64 y.n)),(61,.val (.int .i64 k))],cl:=[(2,[.slice g.a g.n g.c]),(4,[.slice none 0 0])],gi:=I3,mi:=[mkRow b (marks64 (y.l.take k))] }) (fun k=>k≤y.n) (fun k=>y.n - k) ?_ ?_
 ·exact⟨0,Nat.zero_le _,.refl,aF6,.cons rfl (.cons rfl (.nil))⟩
 intro k hk
 refine CondOb.mk (fun h'=>?_) (fun h'=>?_)
 ·have hlt:k < y.n:=by have:(k:Int) < (y.n:Int):=of_decide_eq_true h';omega
  have hkl:k < y.l.length:=by omega
  obtain⟨ad,had,hrd⟩:=hy.rs.one hlt hkl
  obtain⟨z,hz,hzn⟩:=hylt _ (List.getElem_mem hkl)
  have hset:=set_marks hkl hz (by omega)
  rw[hz] at hrd
  refine IdxOb.mk ad k had rfl hlt ?_
  refine LoadOb.mk _ (hrd _) ?_
  refine ArrOb.mk z rfl (by omega) ?_
  refine StoreOb.add [] [] _ 118 rfl (by show 0+z * 1+1≤((marks64 _).map Value.bool).toArray.size;rw[List.size_toArray,List.length_map,marks_len];omega) rfl ?_
  refine ArithOb.mk _ (next_wr (i:=k) (by omega)) ?_
  refine⟨k+1,⟨hlt,by omega⟩,.eqM ?_,aF6,.cons rfl (.cons rfl (.nil))⟩
  rw[←hset,←mkRow_set (by rw[marks_len];omega),Nat.zero_add,Nat.mul_one]
  rfl
 ·have hge:k=y.n:=by have:¬ (k:Int) < (y.n:Int):=of_decide_eq_false h';omega
  subst hge
  rw[List.take_of_length_le (by omega)]
  refine LoadOb.mk _ (mkRow_all (b:=b) (s:=marks64 y.l) (.head _) (marks_len _)) ?_
  refine CallOb.mk [] [mkRow b (marks64 y.l)] _ (.refl _) (only_full (hg2.mono hI3) (marks_len _) (by omega)) ?_
  rintro v I4 N - ⟨hI4,h',rfl,hh,hhct⟩
  subst I4
  refine⟨_,_,.sub (List.sublist_append_left _ _) .refl,fun b o h=>hI3 _ _ (hI2' _ _ h),(0,keepL (fromL (callsL g) 0) g.ds),h',⟨x,hx,?_⟩,rfl,hh,?_⟩
  ·rw[if_pos h,ho,if_pos (by simp[isStepB])]
  ·have hG:y.l=listL true 0 (fromL (callsL g) 0):=by
    rw[hyl]
    unfold fromG
    have hpos:=may_pos hm
    have:inR 0 g.n=true:=by
     unfold inR
     simp
     omega
    rw[this,decide_eq_true hm]
    rfl
   have hfl:(fromL (callsL g) 0).length=g.n:=by
    have hpos:=may_pos hm
    have hl:(callsL g).length=g.n:=by simp[callsL,hgn]
    rw[from_len (callsL_valid hgn) (by omega),hl]
   rw[hhct,hG]
   have:=marks_take (s:=fromL (callsL g) 0) (by omega)
   rw[hfl] at this
   rw[this]
theorem eqPl_bools {F:Nat→EV→EV→Option Bool} {E:Env} {e:Nat} {ei:TI} (he:E e=some ei) (hs:ei.size=1) (ha:ei.sh.agg=false) (hF:∀ a b,F e (.b a) (.b b)=some (a == b)):∀ (l m:List Bool) (P1 P2:List EV),l.length=m.length→P1.length=P2.length →
  eqPl F E (P1++l.map EV.b) (P2++m.map EV.b) ((List.range' P1.length l.length).map fun i=>(e,i * ei.size))=some (decide (l=m))
 | [],[],P1,P2,_,_=>rfl
 | [],_::_,_,_,h,_=>by simp at h
 | _::_,[],_,_,h,_=>by simp at h
 | a::l,b::m,P1,P2,h,hp=>by
  have ih:=eqPl_bools he hs ha hF l m (P1++[EV.b a]) (P2++[EV.b b]) (by simpa using h) (by simpa using hp)
  rw[List.length_append,List.length_singleton,List.append_assoc,List.append_assoc,List.singleton_append,List.singleton_append] at ih
  rw[List.length_cons,List.range'_succ,List.map_cons,List.map_cons,List.map_cons,eqPl,partE_at he hs ha,opn_s,hp,partE_at he hs ha,opn_s,←hp]
  rw[hF,opn_s,cnd_eq]
  by_cases e1:a=b
  ·subst e1
   simp only[beq_self_eq_true,if_true]
   rw[ih]
   simp
  ·have:(a == b)=false:=by simpa using e1
   simp[this,e1]
theorem binOb_neK {x y:Operand} {p q:List Bool} (hp:p.length=64) (hq:q.length=64) {V:Value→Prop} {other:Prop} (h:V (.bool (!decide (p=q)))) :
  BinOb Tryz.prog .neq 118 x y (.val (.agg (p.map Value.bool).toArray)) (.val (.agg (q.map Value.bool).toArray)) V other:=by
 have hv:∀ l:List Bool,VRs (fun _=>none) (l.map EV.b) (l.map Value.bool):=fun l=>by
  induction l with
  | nil=>exact .nil
  | cons a l ih=>exact .cons (by simp only[VR]) ih
 refine b_agg_ok (X:=⟨Tryz.prog,TryzE,[],0,0,default,fun _=>none,[],none⟩) (D:=fun _=>none) (v:=.b (!decide (p=q))) TryzEOK ?_ (hv p) (hv q) (fun u hu=>by simp only[VR] at hu;rw[hu];exact h)
 show b_agg Tryz.prog TryzE .neq 118 _ _=_
 obtain⟨i1,h1,hs1⟩:∃ i,TryzE 118=some i∧i.sh=.array 64 4:=⟨_,rfl,rfl⟩
 obtain⟨i2,h2,hs2,hz2⟩:∃ i,TryzE 4=some i∧i.sh=.bool∧i.size=1:=⟨_,rfl,rfl,rfl⟩
 have hF:∀ a b,eqT Tryz.prog TryzE 7 4 (.b a) (.b b)=some (a == b):=fun a b=>by
  simp only[eqT,h2,opn_s,hs2]
 have hk:=eqPl_bools (F:=eqT Tryz.prog TryzE 7) h2 hz2 (by rw[hs2];rfl) hF p q [] [] (by omega) rfl
 unfold b_agg
 rw[eqT]
 simp only[h1,opn_s,hs1,h2]
 rw[List.nil_append,List.nil_append,List.length_nil,hp] at hk
 rw[List.range_eq_range',hk,show Tryz.prog.eqGuardType Tryz.prog.depth 118=false by kernel_rfl]
 rfl
def inN (n:Nat) (k:Int):Bool:=decide (0≤k) && decide (k < (n:Int))
def keepOk (deb:List Int) (g:Gr) (l:List Int):Bool:=decide (mayG deb g=0) && (decide (l≠[]) && (l.all (inN g.n) && (decide l.Nodup && l.all fun i=>(callsG deb g i).all fun j=>decide (j∈l))))
def keptL (deb:List Int) (g:Gr) (l:List Int):List Df:=if keepOk deb g l then keepL ((marks64 l).take g.n) g.ds else []
theorem marks_put {l:List Int} {z:Nat} (h64:z < 64):(marks64 l).set z true=marks64 (l++[(z:Int)]):=by
 refine bools_ext (by rw[List.length_set,marks_len,marks_len]) fun i hi=>?_
 rw[List.length_set,marks_len] at hi
 rw[marks_get hi,List.getD_eq_getElem?_getD,List.getElem?_set]
 by_cases e:z=i
 ·subst e
  rw[if_pos rfl,if_pos (by rw[marks_len];exact hi)]
  simp
 ·rw[if_neg e,←List.getD_eq_getElem?_getD,marks_get hi,decide_eq_decide]
  constructor
  ·intro h;exact List.mem_append_left _ h
  ·intro h
   rcases List.mem_append.1 h with h | h
   ·exact h
   ·rw[List.mem_singleton] at h
    omega
theorem marks_eq {l m:List Int} (hl:∀ k∈l,inN 64 k=true) (hm:∀ k∈m,inN 64 k=true):marks64 l=marks64 m ↔ ∀ k,k∈l ↔ k∈m:=by
 constructor
 ·intro h k
  have:∀ l m:List Int,(∀ k∈l,inN 64 k=true)→marks64 l=marks64 m→k∈l→k∈m:=fun l m hl h hk=>by
   have h1:=hl k hk
   unfold inN at h1
   simp only[Bool.and_eq_true,decide_eq_true_eq] at h1
   have h2:=marks_get (l:=l) (i:=k.toNat) (by omega)
   rw[h,marks_get (by omega),decide_eq_decide,show ((k.toNat:Nat):Int)=k by omega] at h2
   exact h2.2 hk
  exact⟨this l m hl h,this m l hm h.symm⟩
 ·intro h
  unfold marks64
  refine List.map_congr_left fun i _=>?_
  rw[decide_eq_decide]
  exact h _
theorem callsG_lt {deb:List Int} {g:Gr} (hn:g.ds.length=g.n) {i:Int}:∀ k∈callsG deb g i,inN g.n k=true:=fun k hk=>by
 unfold callsG at hk
 cases hc:inR i g.n && decide (mayG deb g=0) with
 | false=>rw[hc] at hk;cases hk
 | true=>
  rw[hc,cond_true] at hk
  have hl:(callsL g).length=g.n:=by simp[callsL,hn]
  have:=callsL_in (callsL_valid hn) hk
  unfold inN
  simp
  omega
theorem inN_mono {n m:Nat} (h:n≤m) {k:Int} (hk:inN n k=true):inN m k=true:=by
 unfold inN at hk ⊢
 simp at hk ⊢
 omega
set_option maxRecDepth 100000 in
set_option maxHeartbeats 16000000 in
theorem Keep_own {I:GH} {deb:List Int} (hT:Tabs I deb) {g:Gr} (hg:g.ok I) {x:Rw} (hx:RwW I x) (hx2:x.n≤1000000):Spec Tryz.prog 34 [g.val,x.val] I [] fun v I' M'=>(∀ b o,I b=some o→I' b=some o)∧∃ h:Gr,v=.tuple #[h.val,.bool (keepOk deb g x.l)]∧GrM M' h∧h.ct=(grL (keptL deb g x.l)).ct:=by
 refine spec_of_V [6,9] TryzEOK Tryz.func34 rfl rfl rfl ?_
 intro B h0
 have hgn:=hg.n
 have hxn:x.l.length=x.n:=by simpa using hx.rs.len
 refine CallOb.mk [] [] _ (.refl _) (May_spec hT hg) ?_
 rintro v I1 N - ⟨rfl,hI1,rfl⟩
 have hno:∀ {M:List Blk},keepOk deb g x.l=false→∃ h:Gr,Value.tuple #[(⟨[],none,0,0⟩:Gr).val,.bool false]=.tuple #[h.val,.bool (keepOk deb g x.l)]∧GrM M h∧h.ct=(grL (keptL deb g x.l)).ct:=fun h=>
  ⟨⟨[],none,0,0⟩,by rw[h],GrM_nil _,by rw[keptL,h];rfl⟩
 by_cases hm:mayG deb g=0
 rotate_left
 ·refine GuardOb.mk (fun h'=>absurd h' (by simp[hm])) (fun _=>?_)
  exact⟨_,_,.refl,hI1,hno (by rw[keepOk,decide_eq_false hm];rfl)⟩
 refine GuardOb.mk (fun _=>?_) (fun h'=>absurd h' (by simp[hm]))
 by_cases hx0:x.n=0
 ·refine CondOb.mk (fun _=>?_) (fun h'=>absurd h' (by simp[hx0]))
  have:x.l=[]:=List.eq_nil_of_length_eq_zero (by omega)
  exact⟨_,_,.refl,hI1,hno (by rw[keepOk,this];simp)⟩
 refine CondOb.mk (fun h'=>absurd h' (by simp[hx0])) (fun _=>?_)
 have h64:=may64 hm
 have hT1:=hT.mono hI1
 have hg1:=hg.mono hI1
 have hx1:=hx.mono hI1
 refine AllocOb.mk fun b hb hbM=>?_
 refine LoopOb.inv (ι:=Nat) (fun k=>{ fl:=[(1,.val x.val),(2,.ref 2 0),(4,.ref 4 0),(6,.val (.pointer (some ⟨b,0,none⟩))),(23,.val x.val),(24,.val (.int .i64 x.n)),(25,.val (.int .i64 k))],cl:=[(2,[.slice g.a g.n g.c]),(4,[.slice none 0 0])],gi:=I1,mi:=[mkRow b (marks64 (x.l.take k))] }) (fun k=>k≤x.n∧(x.l.take k).all (inN g.n)=true∧(x.l.take k).Nodup) (fun k=>x.n - k) ?_ ?_
 ·exact⟨0,⟨Nat.zero_le _,rfl,.nil⟩,.refl,aF7,.cons rfl (.cons rfl (.nil))⟩
 rintro k ⟨hk,hin,hnd⟩
 refine CondOb.mk (fun h'=>?_) (fun h'=>?_)
 ·have hlt:k < x.n:=by have:(k:Int) < (x.n:Int):=of_decide_eq_true h';omega
  have hkl:k < x.l.length:=by omega
  obtain⟨ad,had,hrd⟩:=hx1.rs.one hlt hkl
  have htk:=List.take_succ_eq_append_getElem hkl
  have hmem:=List.getElem_mem hkl
  have hsub:∀ y,y∈x.l.take (k+1)→y∈x.l:=fun y hy=>List.mem_of_mem_take hy
  have hnod:x.l.Nodup→(x.l.take (k+1)).Nodup:=fun h=>h.sublist (List.take_sublist _ _)
  generalize x.l[k]=z at hrd htk hmem
  refine IdxOb.mk ad k had rfl hlt ?_
  refine LoadOb.mk _ (hrd _) ?_
  have hbad:inN g.n z=false→keepOk deb g x.l=false:=fun h=>by
   cases hc:keepOk deb g x.l with
   | false=>rfl
   | true=>
    simp only[keepOk,Bool.and_eq_true] at hc
    have:=List.all_eq_true.1 hc.2.2.1 z hmem
    rw[h] at this
    cases this
  by_cases hz0:z < 0
  ·refine GuardOb.mk (fun h'=>absurd h' (by simp[hz0])) (fun _=>?_)
   exact⟨_,_,.sub (List.nil_sublist _) .refl,hI1,hno (hbad (by unfold inN;simp;omega))⟩
  refine GuardOb.mk (fun _=>?_) (fun h'=>absurd h' (by simp[hz0]))
  by_cases hzn:(g.n:Int)≤z
  ·refine GuardOb.mk (fun h'=>absurd h' (by simp[hzn])) (fun _=>?_)
   exact⟨_,_,.sub (List.nil_sublist _) .refl,hI1,hno (hbad (by unfold inN;simp;omega))⟩
  refine GuardOb.mk (fun _=>?_) (fun h'=>absurd h' (by simp[hzn]))
  obtain⟨y,rfl⟩:=Int.eq_ofNat_of_zero_le (show 0≤z by omega)
  refine ArrOb.mk y rfl (by omega) ?_
  refine LoadOb.mk _ (mkRow_rd (b:=b) (s:=marks64 (x.l.take k)) (.head _) (by rw[marks_len];omega)) ?_
  have hget:=marks_get (l:=x.l.take k) (i:=y) (by omega)
  refine CondOb.mk (fun h'=>?_) (fun h'=>?_)
  ·have h':(marks64 (x.l.take k)).getD y false=true:=h'
   rw[hget] at h'
   have h':=of_decide_eq_true h'
   refine⟨_,_,.sub (List.nil_sublist _) .refl,hI1,hno ?_⟩
   cases hc:keepOk deb g x.l with
   | false=>rfl
   | true=>
    simp only[keepOk,Bool.and_eq_true,decide_eq_true_eq] at hc
    have:=hnod hc.2.2.2.1
    rw[htk,List.nodup_append] at this
    exact absurd rfl (this.2.2 _ h' _ (.head _))
  ·have h':(marks64 (x.l.take k)).getD y false=false:=h'
   rw[hget] at h'
   have h':=of_decide_eq_false h'
   refine ArrOb.mk y rfl (by omega) ?_
   refine StoreOb.add [] [] _ 118 rfl (by show 0+y * 1+1≤((marks64 _).map Value.bool).toArray.size;rw[List.size_toArray,List.length_map,marks_len];omega) rfl ?_
   refine ArithOb.mk _ (next_wr (i:=k) (by omega)) ?_
   refine⟨k+1,⟨⟨hlt,?_,?_⟩,by omega⟩,.eqM ?_,aF7,.cons rfl (.cons rfl (.nil))⟩
   ·rw[htk,List.all_append,hin]
    simp[inN]
    omega
   ·rw[htk,List.nodup_append]
    refine⟨hnd,by simp,fun a ha c hc=>?_⟩
    rw[List.mem_singleton.1 hc]
    rintro rfl
    exact h' ha
   ·rw[htk,←marks_put (by omega),←mkRow_set (by rw[marks_len];omega),Nat.zero_add,Nat.mul_one]
    rfl
 have hge:k=x.n:=by have:¬ (k:Int) < (x.n:Int):=of_decide_eq_false h';omega
 subst hge
 rw[List.take_of_length_le (by omega)] at hin hnd ⊢
 have hin:=List.all_eq_true.1 hin
 refine LoadOb.mk _ (mkRow_all (b:=b) (s:=marks64 x.l) (.head _) (marks_len _)) ?_
 refine AllocOb.mk fun b2 hb2 hb2M=>?_
 have hone:allOne ((marks64 x.l).map Value.bool).toArray.toList=true:=List.all_eq_true.2 fun v hv=>by
  rw[List.toList_toArray] at hv
  obtain⟨c,-,rfl⟩:=List.mem_map.1 hv
  rfl
 refine StoreOb.mk [] [mkRow b (marks64 x.l)] _ 118 rfl rfl (by show 0+((marks64 x.l).map Value.bool).toArray.toList.length≤64;rw[List.toList_toArray,List.length_map,marks_len];decide) hone ?_
 refine LoopOb.inv (ι:=Nat×GH) (fun y=>{ fl:=[(2,.ref 2 0),(4,.ref 4 0),(6,.val (.pointer (some ⟨b,0,none⟩))),(9,.val (.pointer (some ⟨b2,0,none⟩))),(48,.val x.val),(49,.val (.int .i64 x.n)),(50,.val (.int .i64 y.1))],cl:=[(2,[.slice g.a g.n g.c]),(4,[.slice none 0 0])],gi:=y.2,mi:=[mkRow b2 (marks64 (x.l++(x.l.take y.1).flatMap (callsG deb g))),mkRow b (marks64 x.l)] }) (fun y=>y.1≤x.n∧∀ b o,I1 b=some o→y.2 b=some o) (fun y=>x.n - y.1) ?_ ?_
 ·refine⟨(0,I1),⟨Nat.zero_le _,fun _ _ h=>h⟩,.eqM ?_,aF7,.cons rfl (.cons rfl (.nil))⟩
  have hsp:splice (List.replicate 64 (Value.bool false)) 0 ((marks64 x.l).map Value.bool)=(marks64 x.l).map Value.bool:=by
   unfold splice
   rw[List.take_zero,List.nil_append,List.drop_of_length_le (by simp[marks_len]),List.append_nil]
  simp only[List.take_zero,List.flatMap_nil,List.append_nil]
  show [(⟨b2,.cells (splice (List.replicate 64 (Value.bool false)) 0 ((marks64 x.l).map Value.bool)).toArray 118 (0,0)⟩:Blk),mkRow b (marks64 x.l)]=_
  rw[hsp]
  rfl
 rintro⟨k,J⟩ ⟨hk,hJ⟩
 simp only at hk hJ
 have hTJ:=hT1.mono hJ
 have hgJ:=hg1.mono hJ
 refine CondOb.mk (fun h'=>?_) (fun h'=>?_)
 ·have hlt:k < x.n:=by have:(k:Int) < (x.n:Int):=of_decide_eq_true h';omega
  have hkl:k < x.l.length:=by omega
  obtain⟨ad,had,hrd⟩:=(hx1.mono hJ).rs.one hlt hkl
  have htk:=List.take_succ_eq_append_getElem hkl
  generalize x.l[k]=z at hrd htk
  refine IdxOb.mk ad k had rfl hlt ?_
  refine LoadOb.mk _ (hrd _) ?_
  refine CallOb.mk [] [mkRow b2 (marks64 (x.l++(x.l.take k).flatMap (callsG deb g))),mkRow b (marks64 x.l)] _ (.refl _) (Calls_spec hTJ hgJ (by omega) z) ?_
  rintro v J2 N - ⟨hJ2,y,rfl,hy,hyl,rfl⟩
  have hyn:=hy.n
  have hycap:=hy.rs.cap
  have hylt:=callsG_lt (deb:=deb) hgn (i:=z)
  rw[←hyl] at hylt
  refine LoopOb.inv (ι:=Nat) (fun m=>{ fl:=[(2,.ref 2 0),(4,.ref 4 0),(6,.val (.pointer (some ⟨b,0,none⟩))),(9,.val (.pointer (some ⟨b2,0,none⟩))),(48,.val x.val),(49,.val (.int .i64 x.n)),(50,.val (.int .i64 k)),(56,.val y.val),(57,.val (.int .i64 y.n)),(58,.val (.int .i64 m))],cl:=[(2,[.slice g.a g.n g.c]),(4,[.slice none 0 0])],gi:=J2,mi:=[mkRow b2 (marks64 (x.l++((x.l.take k).flatMap (callsG deb g)++y.l.take m))),mkRow b (marks64 x.l)] }) (fun m=>m≤y.n) (fun m=>y.n - m) ?_ ?_
  ·refine⟨0,Nat.zero_le _,.eqM ?_,aF10,.cons rfl (.cons rfl (.nil))⟩
   simp only[List.take_zero,List.append_nil]
   rfl
  intro m hm2
  refine CondOb.mk (fun h'=>?_) (fun h'=>?_)
  ·have hlt2:m < y.n:=by have:(m:Int) < (y.n:Int):=of_decide_eq_true h';omega
   have hml:m < y.l.length:=by omega
   obtain⟨bd,hbd,hrb⟩:=hy.rs.one hlt2 hml
   have htm:=List.take_succ_eq_append_getElem hml
   have hlw:=hylt _ (List.getElem_mem hml)
   generalize y.l[m]=w at hrb htm hlw
   unfold inN at hlw
   simp only[Bool.and_eq_true,decide_eq_true_eq] at hlw
   obtain⟨u,rfl⟩:=Int.eq_ofNat_of_zero_le hlw.1
   refine IdxOb.mk bd m hbd rfl hlt2 ?_
   refine LoadOb.mk _ (hrb _) ?_
   refine ArrOb.mk u rfl (by omega) ?_
   refine StoreOb.add [] [mkRow b (marks64 x.l)] _ 118 rfl (by show 0+u * 1+1≤((marks64 _).map Value.bool).toArray.size;rw[List.size_toArray,List.length_map,marks_len];omega) rfl ?_
   refine ArithOb.mk _ (next_wr (i:=m) (by omega)) ?_
   refine⟨m+1,⟨hlt2,by omega⟩,.eqM ?_,aF10,.cons rfl (.cons rfl (.nil))⟩
   have e:marks64 (x.l++((x.l.take k).flatMap (callsG deb g)++(y.l.take m++[(u:Int)])))=(marks64 (x.l++((x.l.take k).flatMap (callsG deb g)++y.l.take m))).set u true:=by
    rw[marks_put (by omega)]
    congr 1
    simp
   rw[htm]
   rw[e,←mkRow_set (by rw[marks_len];omega),Nat.zero_add,Nat.mul_one]
   rfl
  ·have hge:m=y.n:=by have:¬ (m:Int) < (y.n:Int):=of_decide_eq_false h';omega
   subst hge
   refine ArithOb.mk _ (next_wr (i:=k) (by omega)) ?_
   refine⟨(k+1,J2),⟨⟨hlt,fun c o h=>hJ2 _ _ (hJ _ _ h)⟩,by simp only;omega⟩,.eqM ?_,aF7,.cons rfl (.cons rfl (.nil))⟩
   simp only
   rw[htk,List.flatMap_append,List.take_of_length_le (l:=y.l) (by omega),hyl]
   simp
 have hge:k=x.n:=by have:¬ (k:Int) < (x.n:Int):=of_decide_eq_false h';omega
 subst hge
 rw[List.take_of_length_le (by omega)]
 refine LoadOb.mk _ (mkRow_all (b:=b2) (s:=marks64 (x.l++x.l.flatMap (callsG deb g))) (.head _) (marks_len _)) ?_
 refine LoadOb.mk _ (mkRow_all (b:=b) (s:=marks64 x.l) (.tail _ (.head _)) (marks_len _)) ?_
 refine binOb_neK (marks_len _) (marks_len _) ?_
 have hin64:∀ y∈x.l,inN 64 y=true:=fun y hy=>inN_mono h64 (hin y hy)
 have hall64:∀ y∈x.l++x.l.flatMap (callsG deb g),inN 64 y=true:=fun y hy=>by
  rcases List.mem_append.1 hy with hy | hy
  ·exact hin64 y hy
  ·obtain⟨z,-,hz⟩:=List.mem_flatMap.1 hy
   exact inN_mono h64 (callsG_lt hgn y hz)
 have hiff:marks64 (x.l++x.l.flatMap (callsG deb g))=marks64 x.l ↔ (x.l.all fun i=>(callsG deb g i).all fun j=>decide (j∈x.l))=true:=by
  rw[marks_eq hall64 hin64]
  simp only[List.all_eq_true,decide_eq_true_eq]
  constructor
  ·intro h i hi j hj
   exact(h j).1 (List.mem_append_right _ (List.mem_flatMap.2 ⟨i,hi,hj⟩))
  ·intro h y
   constructor
   ·intro hy
    rcases List.mem_append.1 hy with hy | hy
    ·exact hy
    ·obtain⟨z,hz,hz2⟩:=List.mem_flatMap.1 hy
     exact h z hz y hz2
   ·intro hy;exact List.mem_append_left _ hy
 have hx0':x.l≠[]:=fun e=>hx0 (by rw[←hxn,e];rfl)
 have hkeep:keepOk deb g x.l=decide (marks64 (x.l++x.l.flatMap (callsG deb g))=marks64 x.l):=by
  rw[keepOk,decide_eq_true hm,decide_eq_true hx0',List.all_eq_true.2 hin,decide_eq_true hnd]
  simp only[Bool.true_and]
  rw[Bool.eq_iff_iff,←hiff,decide_eq_true_iff]
 by_cases he:marks64 (x.l++x.l.flatMap (callsG deb g))=marks64 x.l
 rotate_left
 ·refine CondOb.mk (fun _=>?_) (fun h'=>absurd h' (by simp[he]))
  exact⟨_,_,.sub (List.nil_sublist _) .refl,fun c o h=>hJ _ _ (hI1 _ _ h),hno (by rw[hkeep,decide_eq_false he])⟩
 refine CondOb.mk (fun h'=>absurd h' (by simp[he])) (fun _=>?_)
 refine LoadOb.mk _ (mkRow_all (b:=b) (s:=marks64 x.l) (.tail _ (.head _)) (marks_len _)) ?_
 refine CallOb.mk [] [mkRow b2 (marks64 (x.l++x.l.flatMap (callsG deb g))),mkRow b (marks64 x.l)] _ (.refl _) (only_full hgJ (marks_len _) (by omega)) ?_
 rintro v J2 N - ⟨hJ2,h',rfl,hh,hhct⟩
 subst J2
 refine⟨_,_,.sub (List.sublist_append_left _ _) .refl,fun c o h=>hJ _ _ (hI1 _ _ h),h',?_,hh,?_⟩
 ·rw[hkeep,decide_eq_true he]
  rfl
 ·rw[hhct,keptL,hkeep,decide_eq_true he,if_pos rfl]
def fI (z:Int):List Value:=[.int .i64 z]
theorem flat_fI:∀ l:List Int,l.flatMap fI=l.map (.int .i64 ·)
 | []=>rfl
 | z::l=>by rw[List.flatMap_cons,flat_fI l];rfl
structure RevI (l0:List Int) (I:GH) (os0:OS) (x:Nat×OS×List Int):Prop where
 i:2 * x.1≤l0.length+1
 ok:x.2.1.ok 1 (x.2.2.flatMap fI)
 len:x.2.2.length=l0.length
 at_:∀ k,k < l0.length→x.2.2[k]?=if k < x.1∨l0.length≤k+x.1 then l0[l0.length - 1 - k]? else l0[k]?
 a:x.2.1.a=os0.a
 v:x.2.1.val=os0.val
set_option maxRecDepth 100000 in
set_option maxHeartbeats 4000000 in
theorem Reverse_spec {I:GH} {M0:List Blk} {os0:OS} {l0:List Int} (hos0:os0.ok 1 (l0.map (.int .i64 ·))) (hb:os0.n≤1099511627776):Spec Tryz.prog 109 [os0.val] I (os0.blk 3++M0) fun v I' M'=>I'=I∧∃ os':OS,os'.val=os0.val∧os'.ok 1 (l0.reverse.map (.int .i64 ·))∧M'=os'.blk 3++M0:=by
 refine spec_of_V [] TryzEOK Tryz.func109 rfl rfl rfl ?_
 intro B h0
 have hln:=hos0.len1
 refine ArithOb.mk ((l0.length:Int) - 1) (by show IntKind.i64.wrap ((os0.n:Int) - 1)=_;rw[wrap_i64 ⟨by omega,by omega⟩,hln]) ?_
 refine LoopOb.inv (ι:=Nat×OS×List Int) (fun x=>{ fl:=[(0,.val os0.val),(2,.val (.int .i64 x.1)),(3,.val (.int .i64 ((l0.length:Int) - 1 - x.1)))],cl:=[],gi:=I,mi:=x.2.1.blk 3++M0 }) (fun x=>RevI l0 I os0 x) (fun x=>l0.length - x.1) ?_ ?_
 ·refine⟨(0,os0,l0),⟨by simp,by rw[flat_fI];exact hos0,rfl,fun k hk=>?_,rfl,rfl⟩,.refl,.cons .refl (.cons .refl (.cons ?_ .nil)),.nil⟩
  ·simp only
   rw[if_neg (by omega)]
  ·simp only[Int.ofNat_zero,Int.sub_zero]
   exact .refl
 rintro⟨i,os,l⟩ ⟨hi,hos,hlen,hat,hoa,hov⟩
 simp only at hi hos hlen hat hoa hov
 obtain⟨hon,hoc⟩:=os_n hov
 refine CondOb.mk (fun h=>?_) (fun h=>?_)
 rotate_left
 ·have hge:¬ (i:Int) < (l0.length:Int) - 1 - i:=of_decide_eq_false h
  refine⟨_,_,.refl,rfl,os,hov,?_,rfl⟩
  have e:l=l0.reverse:=by
   refine List.ext_getElem? fun k=>?_
   by_cases hk:k < l0.length
   ·rw[hat k hk,List.getElem?_reverse hk]
    split
    ·rfl
    ·congr 1
     omega
   ·rw[List.getElem?_eq_none (by omega),List.getElem?_eq_none (by rw[List.length_reverse];omega)]
  rw[←e,←flat_fI]
  exact hos
 have hlt:(i:Int) < (l0.length:Int) - 1 - i:=of_decide_eq_true h
 obtain⟨j,hj⟩:∃ j:Nat,(l0.length:Int) - 1 - i=(j:Int):=⟨l0.length - 1 - i,by omega⟩
 have hil:i < l.length:=by omega
 have hjl:j < l.length:=by omega
 obtain⟨ad,had,hrj⟩:=OS.ok.row (I:=I) (M:=os.blk 3++M0) (e:=3) (f:=fI) (size:=1) (fun _=>rfl) (by decide) hos (fun z hz=>List.mem_append_left _ hz) hjl
 obtain⟨ad',had',hri⟩:=OS.ok.row (I:=I) (M:=os.blk 3++M0) (e:=3) (f:=fI) (size:=1) (fun _=>rfl) (by decide) hos (fun z hz=>List.mem_append_left _ hz) hil
 obtain rfl:ad=ad':=Option.some.inj (had.symm.trans had')
 have hadI:=had
 rw[hoa] at hadI
 have hln2:l.length=os0.n:=by omega
 refine CodeOb.draw TryzEOK rfl rfl rfl ?_
 refine IdxOb.mk ad j hadI hj (by omega) ?_
 refine LoadOb.mk _ hrj ?_
 refine IdxOb.mk ad i hadI rfl (by omega) ?_
 refine LoadOb.mk _ hri ?_
 refine IdxOb.mk ad i hadI rfl (by omega) ?_
 refine OS.putI fI 1 (fun _=>rfl) (e:=3) hos hil l[j] rfl [] M0 rfl had ?_
 intro os2 hv2 ha2 hn2 hok2
 refine IdxOb.mk ad j hadI hj (by omega) ?_
 refine OS.putI fI 1 (fun _=>rfl) (e:=3) hok2 (show j < (l.set i l[j]).length by rw[List.length_set];exact hjl) l[i] rfl [] M0 rfl (by rw[ha2];exact had) ?_
 intro os3 hv3 ha3 hn3 hok3
 refine ArithOb.mk _ (next_wr (i:=i) (by omega)) ?_
 refine ArithOb.mk ((l0.length:Int) - 1 - ((i+1:Nat):Int)) (by rw[wrap_i64 ⟨by omega,by omega⟩];omega) ?_
 refine⟨(i+1,os3,(l.set i l[j]).set j l[i]),⟨⟨by simp only;omega,hok3,by simp only[List.length_set];exact hlen,fun k hk=>?_,(ha3.trans ha2).trans hoa,(hv3.trans hv2).trans hov⟩,by simp only;omega⟩,.refl,aF3,.nil⟩
 have hki:=hat i (by omega)
 have hkj:=hat j (by omega)
 rw[if_neg (by omega),List.getElem?_eq_getElem hil] at hki
 rw[if_neg (by omega),List.getElem?_eq_getElem hjl] at hkj
 simp only
 rw[List.getElem?_set,List.getElem?_set,List.length_set]
 by_cases e1:j=k
 ·subst e1
  rw[if_pos rfl,if_pos hjl,if_pos (by omega),hki]
  congr 1
  omega
 ·rw[if_neg e1]
  by_cases e2:i=k
  ·subst e2
   rw[if_pos rfl,if_pos hil,if_pos (by omega),hkj]
   congr 1
   omega
  ·rw[if_neg e2,hat k hk]
   by_cases e3:k < i∨l0.length≤k+i
   ·rw[if_pos e3,if_pos (by omega)]
   ·rw[if_neg e3,if_neg (by omega)]
set_option maxRecDepth 100000 in
set_option maxHeartbeats 8000000 in
theorem TBehind_spec {I:GH} {M0:List Blk} {t:Tr} (ht:t.ok I) (hr:right t=true) (hn:t.n≤1099511627776) {node:Nat} (hnode:node < t.n) :
  Spec Tryz.prog 131 [t.val,.int .i64 node] I M0 fun v I' M'=>I'=I∧∃ os:OS,os.ok 1 ((backOf t.ns node).reverse.map (.int .i64 ·))∧v=os.val∧os.n≤t.n∧valid t.ns.length (backOf t.ns node).reverse∧M'=os.blk 3++M0:=by
 refine spec_of_V [] TryzEOK Tryz.func131 rfl rfl rfl ?_
 intro B h0
 have htn:=ht.n
 have hszn:szOf t.ns node≤t.ns.length:=sz_le hr t.ns.length node (by omega) (by omega)
 refine AllocOb.mk fun b1 hb1 hbM1=>?_
 refine LoopOb.inv (ι:=OS×List Int×OS×List Int×Nat) (fun x=>{ fl:=[(2,.ref 2 0),(5,.val x.2.2.1.val),(6,.val x.1.val)],cl:=[(2,t.cells)],gi:=I,mi:=x.2.2.1.blk 3++(x.1.blk 3++M0) })
  (BackInv t node) (fun x=>sumOf (szOf t.ns) x.2.1) ?_ ?_
 ·refine⟨(⟨some b1,1,1,[.int .i64 node]⟩,[(node:Int)],OS0,[],t.ns.length+1),⟨⟨rfl,(fun h=>by cases h),fun g' hg'=>⟨rfl,Nat.le_refl _,by simp[maxLen],rfl⟩⟩,OS0_ok 1,fun k hk=>?_,(fun k hk=>by cases hk),?_,?_,rfl⟩,.refl,aF3,.cons rfl (.nil)⟩
  ·simp only[List.mem_singleton] at hk
   omega
  ·simp[sumOf]
  ·simp only[sumOf,List.map_cons,List.map_nil,List.sum_cons,List.sum_nil]
   omega
 rintro⟨todo,tl,back,bl,f⟩ ⟨htodo,hback,hvt,hvb,hsum,hfuel,heq⟩
 simp only at htodo hback hvt hvb hsum hfuel heq
 have hbl:=hback.len1
 have htl:=htodo.len1
 refine CondOb.mk (fun h=>?_) (fun h=>?_)
 ·have h0t:0 < todo.n:=by
   have:(0:Int) < (todo.n:Int):=of_decide_eq_true h
   omega
  obtain⟨tl',m,rfl⟩:∃ tl' m,tl=tl'++[m]:=by
   rcases List.eq_nil_or_concat tl with h1 | ⟨r,p,h1⟩
   ·subst h1
    simp at htl
    omega
   ·exact⟨r,p,by simpa using h1⟩
  have hm:=hvt m (by simp)
  obtain⟨m,rfl⟩:=Int.eq_ofNat_of_zero_le hm.1
  have hml:m < t.n:=by omega
  have hml':m < t.ns.length:=by omega
  have htl':todo.n=tl'.length+1:=by simpa using htl
  have hszm:=szOf_eq hr hml'
  rw[sumOf_append] at hsum hfuel
  have hs1:sumOf (szOf t.ns) [(m:Int)]=szOf t.ns m:=by simp[sumOf]
  rw[hs1,hszm] at hsum hfuel
  have htlen:tl'.length≤sumOf (szOf t.ns) tl':=len_le_sum hr fun k hk=>hvt k (by simp[hk])
  have hklen:t.ns[m].kids.length≤sumOf (szOf t.ns) t.ns[m].kids:=len_le_sum hr fun k hk=>by
   have:=right_kids hr m hml' k hk
   omega
  have htot:tl'.length+t.ns[m].kids.length≤t.ns.length:=by omega
  obtain⟨ad,had,hrd⟩:=OS.rdI (I:=I) (e:=3) (M:=back.blk 3++(todo.blk 3++M0)) htodo (fun x hx=>by simp[hx]) (j:=tl'.length) (by simp)
  rw[List.getElem_concat_length rfl] at hrd
  have hpop:=htodo
  rw[List.map_append] at hpop
  have hpop:=OS.pop hpop
  have he:todo.n - 1=tl'.length:=by omega
  rw[he] at hpop
  have hcapt:tl'.length≤todo.c:=by
   cases hta:todo.a with
   | none=>have:=(htodo.nil hta).1;omega
   | some gg=>
    have:=(htodo.cap gg hta).2.1
    omega
  obtain⟨an,han,hrn⟩:=ht.rs.row Nd.cells_len hml hml'
  have hd:=ht.ns _ (List.getElem_mem hml')
  have hkn:=hd.kn
  have hkc:=hd.rs.cap
  have hkv:=right_kids hr m hml'
  refine ArithOb.mk ((tl'.length:Nat):Int) (by show IntKind.i64.wrap ((todo.n:Int) - 1)=_;rw[wrap_i64 ⟨by omega,by omega⟩];omega) ?_
  refine IdxOb.mk ad tl'.length had rfl (show tl'.length < todo.n by omega) ?_
  refine LoadOb.mk _ hrd ?_
  refine CodeOb.draw TryzEOK rfl rfl rfl ?_
  refine ArithOb.mk ((tl'.length:Nat):Int) (by show IntKind.i64.wrap ((todo.n:Int) - 1)=_;rw[wrap_i64 ⟨by omega,by omega⟩];omega) ?_
  refine SliceOb.mk 0 tl'.length rfl rfl (Nat.zero_le _) hcapt ?_
  refine IdxOb.mk an m han rfl hml ?_
  refine LoadOb.mk _ ((hrn _).part (k:=8) (m:=1) (by decide)) ?_
  have hkrd:∀ M,0 < t.ns[m].kn→∃ ad,t.ns[m].ka=some ad∧Rd I M ad (t.ns[m].kn * 1) (t.ns[m].kids.map (.int .i64 ·)):=fun M h0=>hd.rs.one' M h0
  refine OtherOb.appL TryzEOK rfl (by simp) (e:=3) rfl rfl rfl ⟨todo.a,tl'.length,todo.c,todo.cur⟩ hpop rfl (sa:=t.ns[m].ka) (m:=t.ns[m].kn) (c':=t.ns[m].kc) (news:=t.ns[m].kids.map (.int .i64 ·)) rfl (by rw[List.length_map,hkn];show _=t.ns[m].kn * 1;omega) (hkrd _) (ints_one _) (back.blk 3) M0 rfl (by simp only;omega) (by show (tl'.length+t.ns[m].kn) * 8≤_;omega) ?_
  intro td htdn htdI htd
  rw[←List.map_append] at htd
  refine AllocOb.mk fun b2 hb2 hbM2=>?_
  refine OtherOb.app1 TryzEOK rfl (by simp) (e:=3) rfl rfl rfl back hback rfl (cs:=[.int .i64 m]) rfl rfl rfl [] (td.blk 3++M0) rfl (by omega) (by show (back.n+1) * 8≤_;omega) ?_
  intro bk hbkn hbkI hbk
  have hbk:bk.ok 1 ((bl++[(m:Int)]).map (.int .i64 ·)):=by rw[List.map_append];exact hbk
  refine⟨(td,tl'++t.ns[m].kids,bk,bl++[(m:Int)],f - 1),⟨⟨htd,hbk,fun k hk=>?_,fun k hk=>?_,?_,?_,?_⟩,?_⟩,.refl,aF3,.cons rfl (.nil)⟩
  ·rcases List.mem_append.1 hk with hk | hk
   ·exact hvt k (by simp[hk])
   ·have:=hkv k hk
    omega
  ·rcases List.mem_append.1 hk with hk | hk
   ·exact hvb k hk
   ·simp only[List.mem_singleton] at hk
    omega
  ·simp only[sumOf_append,List.length_append,List.length_cons,List.length_nil]
   omega
  ·simp only[sumOf_append]
   omega
  ·obtain⟨f',rfl⟩:∃ f',f=f'+1:=⟨f - 1,by omega⟩
   rw[heq,backGo_snoc,Int.toNat_natCast,nodeAt_eq hml']
   rfl
  ·simp only
   rw[sumOf_append,sumOf_append,hs1,hszm]
   omega
 have htl0:tl=[]:=by
  have:¬ (0:Int) < (todo.n:Int):=of_decide_eq_false h
  exact List.eq_nil_of_length_eq_zero (by omega)
 subst htl0
 rw[backGo_nil] at heq
 simp only[sumOf,List.map_nil,List.sum_nil,Nat.zero_add] at hsum
 refine CallOb.whole _ (Reverse_spec (os0:=back) hback (by omega)) ?_
 rintro v J N - ⟨rfl,os,hov,hos,hN⟩
 subst N
 refine⟨_,os.blk 3++M0,.sub (.append (.refl _) (List.sublist_append_right _ _)) .refl,rfl,os,by rw[heq];exact hos,hov.symm,?_,fun k hk=>hvb k (by rw[heq] at hk;exact List.mem_reverse.1 hk),rfl⟩
 have:=(os_n hov).1
 omega
structure TkK (d:Nd) (P':List Int) (y:Nat×OS×List Int):Prop where
 k:y.1≤d.kn
 ok:y.2.1.ok 1 (y.2.2.flatMap fI)
 n:y.2.1.n=d.kn
 eq:y.2.2=(d.kids.take y.1).map (fun k=>P'.getD k.toNat 0)++d.kids.drop y.1
set_option maxRecDepth 100000 in
set_option maxHeartbeats 8000000 in
theorem taken_own {I:GH} {t:Tr} (ht:t.ok I) (hr:right t=true) (hn:t.n≤1099511627776) {node:Nat} (hnode:node < t.n) :
  Spec Tryz.prog 88 [t.val,.int .i64 node] I [] fun v I' M'=>(∀ b o,I b=some o→I' b=some o)∧M'=[]∧∃ t':Tr,v=t'.val∧t'.ok I'∧SubAt t node t':=by
 refine spec_of_VF [] TryzEOK Tryz.func88 rfl rfl rfl ?_
 intro B h0
 have htn:=ht.n
 have hcap:=ht.rs.cap
 refine CallOb.mk [] [] _ (.refl _) (TBehind_spec (M0:=[]) ht hr hn hnode) ?_
 rintro v J0 N - ⟨hJ0,back,hback,rfl,hbn,hvb,rfl⟩
 subst J0
 obtain⟨rb,hrb⟩:∃ rb,(backOf t.ns node).reverse=rb:=⟨_,rfl⟩
 rw[hrb] at hback hvb
 have hbl:=hback.len1
 refine MakeOb.mk t.n t.n rfl rfl (Nat.le_refl _) (by show 8 * t.n≤_;omega) (by omega) ?_
 refine AllocOb.mk fun b9 hb9 hbM9=>?_
 refine MakeOb.mk 0 back.n rfl rfl (Nat.zero_le _) (by show 96 * back.n≤_;omega) (by omega) ?_
 refine AllocOb.mk fun b7 hb7 hbM7=>?_
 have e9:(rowOf [Value.int .i64 0] (t.n * 1))=(List.replicate t.n (0:Int)).map (Value.int .i64):=by rw[rowOf_one,List.map_replicate,Nat.mul_one]
 refine LoopOb.invF (ι:=Nat×List Int×OS×List Nd×GH) (fun x=>{ fl:=[(2,.ref 2 0),(4,.ref 4 0),(5,.val back.val),(6,.val (.slice (some ⟨b9,0,none⟩) t.n t.n)),(7,.val x.2.2.1.val),(24,.val back.val),(25,.val (.int .i64 back.n)),(26,.val (.int .i64 x.1))],cl:=[(2,t.cells),(4,[.slice none 0 0,.int .i64 0])],gi:=x.2.2.2.2,mi:=intRow b9 x.2.1::(x.2.2.1.blk 91++(back.blk 3++[])) })
  (SubInv I t rb) (fun x=>rb.length - x.1) ?_ ?_
 ·intro _
  refine⟨(0,List.replicate t.n 0,⟨some b7,0,back.n,rowOf [.int .u8 0,.int .u64 0,.int .u64 0,.int .u64 0,.int .u64 0,.string ⟨#[]⟩,.int .i64 0,.int .i64 0,.slice none 0 0] (back.n * 9)⟩,[],I),⟨Nat.zero_le _,by simp[htn],⟨rfl,(fun h=>by cases h),fun g' hg'=>⟨by simp[rowOf_eq,madeCells],Nat.zero_le _,by unfold maxLen;simp only;omega,by simp⟩⟩,rfl,(by rw[htn];rfl),(fun d hd=>by cases hd),fun _ _ h=>h,(fun c hc=>by have:=List.eq_of_mem_replicate hc;omega),(fun d hd=>by cases hd)⟩,.perm (List.Perm.swap _ _ _) (.eqM (by rw[e9];simp only[List.append_nil];rfl)),aF8,.cons rfl (.cons rfl (.nil))⟩
 rintro⟨j,P,out,outN,J⟩ ⟨hj,hPl,hout,hon,hfold,hJok,hJ,hPb,hkb⟩
 simp only at hj hPl hout hon hfold hJok hJ hPb hkb
 have hol:out.n=j:=by
  have:=hout.len
  rw[flat_len _ 9 Nd.cells_len,hon] at this
  omega
 subst hol
 refine CondOb.mk (fun h=>?_) (fun h=>?_)
 ·have hjr:out.n < rb.length:=by
   have:(out.n:Int) < (back.n:Int):=of_decide_eq_true h
   omega
  have hm:=hvb _ (List.getElem_mem hjr)
  obtain⟨m,hmm⟩:=Int.eq_ofNat_of_zero_le hm.1
  rw[hmm] at hm
  have hml:m < t.n:=by omega
  have hml':m < t.ns.length:=by omega
  obtain⟨ad,had,hrdb⟩:=OS.rdI (I:=J) (e:=3) (M:=intRow b9 P::(out.blk 91++(back.blk 3++[]))) hback (fun x hx=>by simp[hx]) hjr
  rw[hmm] at hrdb
  obtain⟨an,han,hrn⟩:=(ht.rs.mono hJ).row Nd.cells_len hml hml'
  have hd:=(ht.ns _ (List.getElem_mem hml')).mono hJ
  have hkn:=hd.kn
  have hkc:=hd.rs.cap
  have hkv:=right_kids hr m hml'
  have hna:nodeAt t.ns m=t.ns[m]:=nodeAt_eq hml'
  generalize hdd:t.ns[m]=d at hd hkn hkc hkv hrn hna
  have hset:=intRow_set P m (by omega) (out.n:Int)
  generalize hP':P.set m (out.n:Int)=P' at hset
  have hPl':P'.length=t.ns.length:=by rw[←hP'];simpa using hPl
  have hPb':∀ c∈P',0≤c∧c≤rb.length:=fun c hc=>by
   rw[←hP'] at hc
   rcases List.mem_or_eq_of_mem_set hc with hc | rfl
   ·exact hPb c hc
   ·omega
  refine IdxOb.mk ad out.n had rfl (show _ < back.n by omega) ?_
  refine LoadOb.mk _ hrdb ?_
  refine IdxOb.mk ⟨b9,0,none⟩ m rfl rfl hml ?_
  refine StoreOb.addTo [] (out.blk 91++(back.blk 3++[])) (P.map (Value.int .i64)) 3 rfl (by rw[Nat.ble_eq,List.length_map];show 0+m * 1+1≤_;omega) rfl (P'.map (Value.int .i64)) (by rw[Nat.zero_add,Nat.mul_one];exact hset) ?_
  refine IdxOb.mk an m han rfl hml ?_
  refine LoadOb.mk _ (hrn _) ?_
  have hbM:(out.n+1) * 96≤140737488355328:=by omega
  refine CondOb.mk (fun h1=>?_) (fun h1=>?_)
  ·have hk0:0 < d.kn:=by have:(0:Int) < (d.kn:Int):=of_decide_eq_true h1;omega
   refine MakeOb.mk d.kn d.kn rfl rfl (Nat.le_refl _) (by show 8 * d.kn≤_;omega) (by omega) ?_
   refine AllocOb.mk fun b11 hb11 hbM11=>?_
   have hz:(rowOf [Value.int .i64 0] (d.kn * 1)).length=d.kn:=by simp[rowOf_eq,madeCells]
   have hsp:splice (rowOf [Value.int .i64 0] (d.kn * 1)) 0 (d.kids.map (.int .i64 ·))=d.kids.map (.int .i64 ·):=by
    unfold splice
    rw[List.take_zero,List.nil_append,Nat.zero_add,List.drop_of_length_le (by rw[hz,List.length_map];omega),List.append_nil]
   refine OtherOb.copyL TryzEOK rfl (by simp) (e:=3) rfl rfl rfl (g:=b11) (n:=d.kn) (c:=d.kn) (cur:=rowOf [Value.int .i64 0] (d.kn * 1)) rfl (by rw[hz];show d.kn * 1≤_;omega) (sa:=d.ka) (c':=d.kc) rfl (news:=d.kids.map (.int .i64 ·)) (by rw[List.length_map];show _=d.kn * 1;omega) (fun h0=>hd.rs.one' _ h0) (ints_one _) [] (intRow b9 P'::(out.blk 91++(back.blk 3++[]))) rfl ?_
   rw[hsp]
   refine LoopOb.inv (ι:=Nat×OS×List Int) (fun y=>{ fl:=[(2,.ref 2 0),(4,.ref 4 0),(5,.val back.val),(6,.val (.slice (some ⟨b9,0,none⟩) t.n t.n)),(7,.val out.val),(8,.val (.int .i64 out.n)),(9,.val (.int .i64 m)),(10,.ref 10 0),(11,.val y.2.1.val),(24,.val back.val),(25,.val (.int .i64 back.n)),(26,.val (.int .i64 out.n)),(52,.val y.2.1.val),(53,.val (.int .i64 d.kn)),(54,.val (.int .i64 y.1))],cl:=[(2,t.cells),(4,[.slice none 0 0,.int .i64 0]),(10,d.cells)],gi:=J,mi:=y.2.1.blk 3++(intRow b9 P'::(out.blk 91++(back.blk 3++[]))) }) (fun y=>TkK d P' y) (fun y=>d.kn - y.1) ?_ ?_
   ·exact⟨(0,⟨some b11,d.kn,d.kn,d.kids.map (.int .i64 ·)⟩,d.kids),⟨Nat.zero_le _,⟨by rw[flat_fI,List.length_map];simp only;omega,(fun h=>by cases h),fun g' hg'=>⟨by simp only[List.length_map];omega,Nat.le_refl _,by unfold maxLen;simp only;omega,by rw[flat_fI];exact List.take_of_length_le (by rw[List.length_map];simp only;omega)⟩⟩,rfl,by simp⟩,.refl,aF15,.cons rfl (.cons rfl (.cons rfl (.nil)))⟩
   rintro⟨k,ko,kl⟩ ⟨hk,hko,hkn2,hkl⟩
   simp only at hk hko hkn2 hkl
   have hkoM:∀ x∈ko.blk 3,x∈ko.blk 3++(intRow b9 P'::(out.blk 91++(back.blk 3++[]))):=fun x hx=>List.mem_append_left _ hx
   have hmemP:intRow b9 P'∈ko.blk 3++(intRow b9 P'::(out.blk 91++(back.blk 3++[]))):=by simp
   have hkll:kl.length=d.kids.length:=by
    rw[hkl,List.length_append,List.length_map,List.length_take,List.length_drop]
    omega
   refine CondOb.mk (fun h2=>?_) (fun h2=>?_)
   ·have hkk:k < d.kn:=by have:(k:Int) < (d.kn:Int):=of_decide_eq_true h2;omega
    have hkk':k < d.kids.length:=by omega
    have hkkl:k < kl.length:=by omega
    have hv:=hkv _ (List.getElem_mem hkk')
    have hkP:d.kids[k].toNat < P'.length:=by omega
    have hPg:P'.getD d.kids[k].toNat 0=P'[d.kids[k].toNat]:=by simp[List.getD_eq_getElem?_getD,hkP]
    have hklk:kl[k]=d.kids[k]:=by
     have h3:kl[k]?=d.kids[k]?:=by
      rw[hkl,List.getElem?_append_right (by rw[List.length_map,List.length_take];omega),List.length_map,List.length_take,Nat.min_eq_left (by omega),Nat.sub_self,List.getElem?_drop,Nat.add_zero]
     rw[List.getElem?_eq_getElem hkkl,List.getElem?_eq_getElem hkk'] at h3
     exact Option.some.inj h3
    obtain⟨ak,hak,hrk⟩:=OS.ok.row (I:=J) (M:=ko.blk 3++(intRow b9 P'::(out.blk 91++(back.blk 3++[])))) (e:=3) (f:=fI) (size:=1) (fun _=>rfl) (by decide) hko hkoM hkkl
    rw[hklk] at hrk
    refine IdxOb.mk ak k hak rfl (show k < ko.n by omega) ?_
    refine LoadOb.mk _ hrk ?_
    refine IdxOb.mk ⟨b9,0,none⟩ d.kids[k].toNat rfl (by omega) (by omega) ?_
    refine LoadOb.mk _ (intRow_rd hmemP hkP) ?_
    refine IdxOb.mk ak k hak rfl (show k < ko.n by omega) ?_
    refine OS.putI fI 1 (fun _=>rfl) (e:=3) hko hkkl P'[d.kids[k].toNat] rfl [] (intRow b9 P'::(out.blk 91++(back.blk 3++[]))) rfl hak ?_
    intro ko2 hv2 ha2 hn2 hok2
    refine ArithOb.mk _ (next_wr (i:=k) (by omega)) ?_
    refine⟨(k+1,ko2,kl.set k P'[d.kids[k].toNat]),⟨⟨hkk,hok2,hn2.trans hkn2,?_⟩,by simp only;omega⟩,.refl,.cons .refl (.cons .refl (.cons .refl (.cons .refl (.cons .refl (.cons .refl (.cons .refl (.cons .refl (.cons ?_ (.cons .refl (.cons .refl (.cons .refl (.cons ?_ (aF2))))))))))))),.cons rfl (.cons rfl (.cons rfl (.nil)))⟩
    ·simp only
     rw[hkl,List.take_succ_eq_append_getElem hkk',List.map_append,List.map_cons,List.map_nil,hPg,List.set_append_right _ _ (by rw[List.length_map,List.length_take];omega),List.length_map,List.length_take,Nat.min_eq_left (by omega),Nat.sub_self,List.drop_eq_getElem_cons hkk',List.set_cons_zero,List.append_assoc]
     rfl
    ·simp only
     rw[hv2]
     exact .refl
    ·simp only
     rw[hv2]
     exact .refl
   have hge:k=d.kn:=by have:¬ (k:Int) < (d.kn:Int):=of_decide_eq_false h2;omega
   subst hge
   rw[List.take_of_length_le (by omega),List.drop_of_length_le (by omega),List.append_nil] at hkl
   rw[flat_fI] at hko
   refine AllocOb.mk fun b15 hb15 hbM15=>?_
   have hnd:∃ nd:Nd,nd=⟨d.k,d.s0,d.s1,d.s2,d.s3,d.t,d.lo,d.hi,ko.a.map fun g=>⟨g,0,none⟩,ko.n,ko.c,kl⟩:=⟨_,rfl⟩
   obtain⟨nd,hnd⟩:=hnd
   have hndc:nd.cells=[.int .u8 d.k,.int .u64 d.s0,.int .u64 d.s1,.int .u64 d.s2,.int .u64 d.s3,.string d.t,.int .i64 d.lo,.int .i64 d.hi,.slice (ko.a.map fun g=>⟨g,0,none⟩) ko.n ko.c]:=by rw[hnd];rfl
   refine OtherOb.app1 TryzEOK rfl (by simp) (e:=91) rfl rfl rfl out hout rfl (cs:=[.int .u8 d.k,.int .u64 d.s0,.int .u64 d.s1,.int .u64 d.s2,.int .u64 d.s3,.string d.t,.int .i64 d.lo,.int .i64 d.hi,.slice (ko.a.map fun g=>⟨g,0,none⟩) ko.n ko.c]) rfl rfl rfl (ko.blk 3++[intRow b9 P']) (back.blk 3++[]) (by simp;rfl) (by omega) (by show (out.n+1) * 96≤_;omega) ?_
   intro out2 hon2 hoI2 hout2
   refine ArithOb.mk _ (next_wr (i:=out.n) (by omega)) ?_
   have hklb:∀ c∈kl,0≤c∧c≤rb.length:=fun c hc=>by
    rw[hkl] at hc
    obtain⟨q,hq,rfl⟩:=List.mem_map.1 hc
    have hq':=hkv q hq
    have hqP:q.toNat < P'.length:=by omega
    exact hPb' (P'.getD q.toNat 0) (by simp only[List.getD_eq_getElem?_getD,List.getElem?_eq_getElem hqP,Option.getD_some];exact List.getElem_mem _)
   intro hfa
   obtain⟨J',hw,hle,hrs⟩:=OS.give (I:=J) (b:=8) (e:=3) hko (by omega) (fun g hg=>hfa.d ⟨g,.cells ko.cur.toArray 3 (0,0)⟩ (by simp[OS.blk,hg])) (intRow b9 P'::(out2.blk 91++(back.blk 3++[])))
   refine⟨(out.n+1,P',out2,outN++[nd],J'),⟨⟨by simp only;omega,hPl',?_,by simp[hon],?_,?_,fun b o h=>hle _ _ (hJ _ _ h),hPb',?_⟩,by simp only;omega⟩,?_,aF8,.cons rfl (.cons rfl (.nil))⟩
   ·simp only
    rw[List.flatMap_append]
    have:([nd].flatMap Nd.cells)=nd.cells:=by simp
    rw[this,hndc]
    exact hout2
   ·simp only
    rw[List.take_succ_eq_append_getElem hjr,List.foldl_append,hfold,List.foldl_cons,List.foldl_nil,hmm]
    show (P.set m ((outN.map Nd.ct).length:Int),outN.map Nd.ct++[(nodeAt t.ns m).withKids ((nodeAt t.ns m).kids.map fun k=>(P.set m ((outN.map Nd.ct).length:Int)).getD k.toNat 0)])=_
    rw[List.length_map,hon,hP',hna,←hkl,List.map_append,hnd]
    rfl
   ·simp only
    intro x hx
    rcases List.mem_append.1 hx with hx | hx
    ·exact(hJok x hx).mono hle
    ·simp only[List.mem_singleton] at hx
     rw[hx,hnd]
     refine⟨hd.k,hd.s0,hd.s1,hd.s2,hd.s3,hd.t,hd.lo,hd.hi,hrs,fun c hc=>?_⟩
     have:=hklb c hc
     exact⟨by omega,by omega⟩
   ·simp only
    intro x hx
    rcases List.mem_append.1 hx with hx | hx
    ·exact hkb x hx
    ·simp only[List.mem_singleton] at hx
     rw[hx,hnd]
     exact hklb
   ·simp only
    refine .perm (M1:=ko.blk 3++(intRow b9 P'::(out2.blk 91++(back.blk 3++[])))) ?_ hw
    simp
  ·have hk0:d.kn=0:=by have:¬ (0:Int) < (d.kn:Int):=of_decide_eq_false h1;omega
   have hknil:d.kids=[]:=List.eq_nil_of_length_eq_zero (by omega)
   refine LoopOb.inv (ι:=Nat×OS×List Int) (fun y=>{ fl:=[(2,.ref 2 0),(4,.ref 4 0),(5,.val back.val),(6,.val (.slice (some ⟨b9,0,none⟩) t.n t.n)),(7,.val out.val),(8,.val (.int .i64 out.n)),(9,.val (.int .i64 m)),(10,.ref 10 0),(11,.val y.2.1.val),(24,.val back.val),(25,.val (.int .i64 back.n)),(26,.val (.int .i64 out.n)),(52,.val y.2.1.val),(53,.val (.int .i64 d.kn)),(54,.val (.int .i64 y.1))],cl:=[(2,t.cells),(4,[.slice none 0 0,.int .i64 0]),(10,d.cells)],gi:=J,mi:=y.2.1.blk 3++(intRow b9 P'::(out.blk 91++(back.blk 3++[]))) }) (fun y=>TkK d P' y) (fun y=>d.kn - y.1) ?_ ?_
   ·refine⟨(0,OS0,d.kids),⟨Nat.zero_le _,by rw[hknil];exact OS0_ok 1,hk0.symm,by simp⟩,.refl,.cons .refl (.cons .refl (.cons .refl (.cons .refl (.cons .refl (.cons .refl (.cons .refl (.cons .refl (.cons .refl (.cons .refl (.cons .refl (.cons .refl (.cons .refl (.cons ?_ (.cons .refl .nil)))))))))))))),.cons rfl (.cons rfl (.cons rfl (.nil)))⟩
    simp only
    rw[hk0]
    exact .refl
   rintro⟨k,ko,kl⟩ ⟨hk,hko,hkn2,hkl⟩
   simp only at hk hko hkn2 hkl
   have hkoM:∀ x∈ko.blk 3,x∈ko.blk 3++(intRow b9 P'::(out.blk 91++(back.blk 3++[]))):=fun x hx=>List.mem_append_left _ hx
   have hmemP:intRow b9 P'∈ko.blk 3++(intRow b9 P'::(out.blk 91++(back.blk 3++[]))):=by simp
   have hkll:kl.length=d.kids.length:=by
    rw[hkl,List.length_append,List.length_map,List.length_take,List.length_drop]
    omega
   refine CondOb.mk (fun h2=>?_) (fun h2=>?_)
   ·have hkk:k < d.kn:=by have:(k:Int) < (d.kn:Int):=of_decide_eq_true h2;omega
    have hkk':k < d.kids.length:=by omega
    have hkkl:k < kl.length:=by omega
    have hv:=hkv _ (List.getElem_mem hkk')
    have hkP:d.kids[k].toNat < P'.length:=by omega
    have hPg:P'.getD d.kids[k].toNat 0=P'[d.kids[k].toNat]:=by simp[List.getD_eq_getElem?_getD,hkP]
    have hklk:kl[k]=d.kids[k]:=by
     have h3:kl[k]?=d.kids[k]?:=by
      rw[hkl,List.getElem?_append_right (by rw[List.length_map,List.length_take];omega),List.length_map,List.length_take,Nat.min_eq_left (by omega),Nat.sub_self,List.getElem?_drop,Nat.add_zero]
     rw[List.getElem?_eq_getElem hkkl,List.getElem?_eq_getElem hkk'] at h3
     exact Option.some.inj h3
    obtain⟨ak,hak,hrk⟩:=OS.ok.row (I:=J) (M:=ko.blk 3++(intRow b9 P'::(out.blk 91++(back.blk 3++[])))) (e:=3) (f:=fI) (size:=1) (fun _=>rfl) (by decide) hko hkoM hkkl
    rw[hklk] at hrk
    refine IdxOb.mk ak k hak rfl (show k < ko.n by omega) ?_
    refine LoadOb.mk _ hrk ?_
    refine IdxOb.mk ⟨b9,0,none⟩ d.kids[k].toNat rfl (by omega) (by omega) ?_
    refine LoadOb.mk _ (intRow_rd hmemP hkP) ?_
    refine IdxOb.mk ak k hak rfl (show k < ko.n by omega) ?_
    refine OS.putI fI 1 (fun _=>rfl) (e:=3) hko hkkl P'[d.kids[k].toNat] rfl [] (intRow b9 P'::(out.blk 91++(back.blk 3++[]))) rfl hak ?_
    intro ko2 hv2 ha2 hn2 hok2
    refine ArithOb.mk _ (next_wr (i:=k) (by omega)) ?_
    refine⟨(k+1,ko2,kl.set k P'[d.kids[k].toNat]),⟨⟨hkk,hok2,hn2.trans hkn2,?_⟩,by simp only;omega⟩,.refl,.cons .refl (.cons .refl (.cons .refl (.cons .refl (.cons .refl (.cons .refl (.cons .refl (.cons .refl (.cons ?_ (.cons .refl (.cons .refl (.cons .refl (.cons ?_ (aF2))))))))))))),.cons rfl (.cons rfl (.cons rfl (.nil)))⟩
    ·simp only
     rw[hkl,List.take_succ_eq_append_getElem hkk',List.map_append,List.map_cons,List.map_nil,hPg,List.set_append_right _ _ (by rw[List.length_map,List.length_take];omega),List.length_map,List.length_take,Nat.min_eq_left (by omega),Nat.sub_self,List.drop_eq_getElem_cons hkk',List.set_cons_zero,List.append_assoc]
     rfl
    ·simp only
     rw[hv2]
     exact .refl
    ·simp only
     rw[hv2]
     exact .refl
   have hge:k=d.kn:=by have:¬ (k:Int) < (d.kn:Int):=of_decide_eq_false h2;omega
   subst hge
   rw[List.take_of_length_le (by omega),List.drop_of_length_le (by omega),List.append_nil] at hkl
   rw[flat_fI] at hko
   refine AllocOb.mk fun b15 hb15 hbM15=>?_
   have hnd:∃ nd:Nd,nd=⟨d.k,d.s0,d.s1,d.s2,d.s3,d.t,d.lo,d.hi,ko.a.map fun g=>⟨g,0,none⟩,ko.n,ko.c,kl⟩:=⟨_,rfl⟩
   obtain⟨nd,hnd⟩:=hnd
   have hndc:nd.cells=[.int .u8 d.k,.int .u64 d.s0,.int .u64 d.s1,.int .u64 d.s2,.int .u64 d.s3,.string d.t,.int .i64 d.lo,.int .i64 d.hi,.slice (ko.a.map fun g=>⟨g,0,none⟩) ko.n ko.c]:=by rw[hnd];rfl
   refine OtherOb.app1 TryzEOK rfl (by simp) (e:=91) rfl rfl rfl out hout rfl (cs:=[.int .u8 d.k,.int .u64 d.s0,.int .u64 d.s1,.int .u64 d.s2,.int .u64 d.s3,.string d.t,.int .i64 d.lo,.int .i64 d.hi,.slice (ko.a.map fun g=>⟨g,0,none⟩) ko.n ko.c]) rfl rfl rfl (ko.blk 3++[intRow b9 P']) (back.blk 3++[]) (by simp;rfl) (by omega) (by show (out.n+1) * 96≤_;omega) ?_
   intro out2 hon2 hoI2 hout2
   refine ArithOb.mk _ (next_wr (i:=out.n) (by omega)) ?_
   have hklb:∀ c∈kl,0≤c∧c≤rb.length:=fun c hc=>by
    rw[hkl] at hc
    obtain⟨q,hq,rfl⟩:=List.mem_map.1 hc
    have hq':=hkv q hq
    have hqP:q.toNat < P'.length:=by omega
    exact hPb' (P'.getD q.toNat 0) (by simp only[List.getD_eq_getElem?_getD,List.getElem?_eq_getElem hqP,Option.getD_some];exact List.getElem_mem _)
   intro hfa
   obtain⟨J',hw,hle,hrs⟩:=OS.give (I:=J) (b:=8) (e:=3) hko (by omega) (fun g hg=>hfa.d ⟨g,.cells ko.cur.toArray 3 (0,0)⟩ (by simp[OS.blk,hg])) (intRow b9 P'::(out2.blk 91++(back.blk 3++[])))
   refine⟨(out.n+1,P',out2,outN++[nd],J'),⟨⟨by simp only;omega,hPl',?_,by simp[hon],?_,?_,fun b o h=>hle _ _ (hJ _ _ h),hPb',?_⟩,by simp only;omega⟩,?_,aF8,.cons rfl (.cons rfl (.nil))⟩
   ·simp only
    rw[List.flatMap_append]
    have:([nd].flatMap Nd.cells)=nd.cells:=by simp
    rw[this,hndc]
    exact hout2
   ·simp only
    rw[List.take_succ_eq_append_getElem hjr,List.foldl_append,hfold,List.foldl_cons,List.foldl_nil,hmm]
    show (P.set m ((outN.map Nd.ct).length:Int),outN.map Nd.ct++[(nodeAt t.ns m).withKids ((nodeAt t.ns m).kids.map fun k=>(P.set m ((outN.map Nd.ct).length:Int)).getD k.toNat 0)])=_
    rw[List.length_map,hon,hP',hna,←hkl,List.map_append,hnd]
    rfl
   ·simp only
    intro x hx
    rcases List.mem_append.1 hx with hx | hx
    ·exact(hJok x hx).mono hle
    ·simp only[List.mem_singleton] at hx
     rw[hx,hnd]
     refine⟨hd.k,hd.s0,hd.s1,hd.s2,hd.s3,hd.t,hd.lo,hd.hi,hrs,fun c hc=>?_⟩
     have:=hklb c hc
     exact⟨by omega,by omega⟩
   ·simp only
    intro x hx
    rcases List.mem_append.1 hx with hx | hx
    ·exact hkb x hx
    ·simp only[List.mem_singleton] at hx
     rw[hx,hnd]
     exact hklb
   ·simp only
    refine .perm (M1:=ko.blk 3++(intRow b9 P'::(out2.blk 91++(back.blk 3++[])))) ?_ hw
    simp
 have hge:out.n=rb.length:=by
  have:¬ (out.n:Int) < (back.n:Int):=of_decide_eq_false h
  omega
 refine ArithOb.mk ((outN.length:Int) - 1) (by show IntKind.i64.wrap ((out.n:Int) - 1)=_;rw[wrap_i64 ⟨by omega,by omega⟩,hon]) ?_
 intro hfa
 obtain⟨J',hw,hle,hrs⟩:=OS.give (I:=J) (b:=96) (e:=91) hout (by omega) (fun g hg=>hfa.d ⟨g,.cells out.cur.toArray 91 (0,0)⟩ (by simp[OS.blk,hg])) []
 refine⟨J',[],.sub (M1:=out.blk 91++[]) (by rw[List.append_nil];exact .cons _ (List.sublist_append_left _ _)) hw,fun b o h=>hle _ _ (hJ _ _ h),rfl,⟨outN,out.a.map fun g=>⟨g,0,none⟩,out.n,out.c,(outN.length:Int) - 1⟩,rfl,⟨hrs,fun d hd=>(hJok d hd).mono hle,⟨by simp only;omega,by simp only;omega⟩⟩,⟨?_,rfl⟩⟩
 rw[List.take_of_length_le (by omega)] at hfold
 rw[subC,hrb,←htn] at *
 rw[hfold]
theorem taken_spec {I:GH} {M0:List Blk} {t:Tr} (ht:t.ok I) (hr:right t=true) (hn:t.n≤1099511627776) {node:Nat} (hnode:node < t.n) :
  Spec Tryz.prog 88 [t.val,.int .i64 node] I M0 fun v I' M'=>(∀ b o,I b=some o→I' b=some o)∧M'=M0∧∃ t':Tr,v=t'.val∧t'.ok I'∧SubAt t node t':=by
 refine Spec.weakK (Spec.frame (taken_own ht hr hn hnode)) ?_
 rintro v J M ⟨M',rfl,-,-,h1,rfl,t',rfl,h2,h3⟩
 exact⟨h1,rfl,t',rfl,h2,h3⟩
theorem take_ext {α:Type} {l m:List α} {k:Nat} (hl:k < l.length) (hm:k < m.length) (h:l.take k=m.take k) (e:l[k]=m[k]):l.take (k+1)=m.take (k+1):=by
 rw[List.take_succ_eq_append_getElem hl,List.take_succ_eq_append_getElem hm,h,e]
theorem take_ne {α:Type} {l m:List α} {k:Nat} (hl:k < l.length) (hm:k < m.length) (e:¬ l[k]=m[k]):¬ l=m:=fun h=>by
 subst h
 exact e rfl
set_option maxHeartbeats 2000000 in
theorem EqualI_spec {I:GH} {M0:List Blk} {a a':Option Addr} {n n' c c' b b':Nat} {l l':List Int} (h:RS I a n c 1 b (l.map (.int .i64 ·))) (h':RS I a' n' c' 1 b' (l'.map (.int .i64 ·))) (hb:n≤140737488355327):Spec Tryz.prog 132 [.slice a n c,.slice a' n' c'] I M0 fun v I' M'=>v=.bool (decide (l=l'))∧I'=I∧M'=M0:=by
 refine spec_of_V [] TryzEOK Tryz.func132 rfl rfl rfl ?_
 intro B h0
 have hl:l.length=n:=by simpa using h.len
 have hl':l'.length=n':=by simpa using h'.len
 by_cases hn:n=n'
 rotate_left
 ·refine CondOb.mk (fun _=>?_) (fun h=>absurd h (by simp;omega))
  exact⟨_,_,.refl,by rw[decide_eq_false fun e=>hn (by rw[←hl,←hl',e])],rfl,rfl⟩
 subst hn
 refine CondOb.mk (fun h=>absurd h (by simp)) (fun _=>?_)
 refine LoopOb.inv (ι:=Nat) (fun k=>{ fl:=[(0,.val (.slice a n c)),(1,.val (.slice a' n c')),(12,.val (.int .i64 n)),(13,.val (.int .i64 k))],gi:=I,mi:=M0 }) (fun k=>k≤n∧l.take k=l'.take k) (fun k=>n - k) ?_ ?_
 ·exact⟨0,⟨Nat.zero_le _,rfl⟩,.refl,aF4,.nil⟩
 rintro k ⟨hk,ht⟩
 refine CondOb.mk (fun h2=>?_) (fun h2=>?_)
 ·have hlt:k < n:=by have:(k:Int) < (n:Int):=of_decide_eq_true h2;omega
  have hkl:k < l.length:=by omega
  have hkl':k < l'.length:=by omega
  obtain⟨ad,had,hrd⟩:=h.one hlt hkl
  obtain⟨ad',had',hrd'⟩:=h'.one hlt hkl'
  have hex:=take_ext hkl hkl' ht
  have hne:=take_ne hkl hkl'
  generalize l[k]=x at hrd hex hne
  generalize l'[k]=y at hrd' hex hne
  refine CodeOb.draw TryzEOK rfl rfl rfl ?_
  refine IdxOb.mk ad k had rfl hlt ?_
  refine LoadOb.mk _ (hrd _) ?_
  refine IdxOb.mk ad' k had' rfl hlt ?_
  refine LoadOb.mk _ (hrd' _) ?_
  by_cases e:x=y
  ·refine CondOb.mk (fun h=>absurd h (by simp[e])) (fun _=>?_)
   refine ArithOb.mk _ (next_wr (i:=k) (by omega)) ?_
   exact⟨k+1,⟨⟨hlt,hex e⟩,by omega⟩,.refl,aF4,.nil⟩
  ·refine CondOb.mk (fun _=>?_) (fun h=>absurd h (by simp[e]))
   exact⟨_,_,.refl,by rw[decide_eq_false (hne e)],rfl,rfl⟩
 ·have hge:k=n:=by have:¬ (k:Int) < (n:Int):=of_decide_eq_false h2;omega
  subst hge
  rw[List.take_of_length_le (by omega),List.take_of_length_le (by omega)] at ht
  exact⟨_,_,.refl,by rw[decide_eq_true ht],rfl,rfl⟩
def ndB (x y:Nd):Bool:=decide (x.k=y.k) && ((decide (x.s0=y.s0) && (decide (x.s1=y.s1) && (decide (x.s2=y.s2) && decide (x.s3=y.s3)))) && (decide (x.t=y.t) && (decide (x.lo=y.lo) && (decide (x.hi=y.hi) && decide (x.kids=y.kids)))))
theorem ndB_iff (x y:Nd):ndB x y=true ↔ x.k=y.k∧(x.s0=y.s0∧x.s1=y.s1∧x.s2=y.s2∧x.s3=y.s3)∧x.t=y.t∧x.lo=y.lo∧x.hi=y.hi∧x.kids=y.kids:=by
 simp only[ndB,Bool.and_eq_true,decide_eq_true_eq]
theorem ndB_self (x:Nd):ndB x x=true:=(ndB_iff x x).2 ⟨rfl,⟨rfl,rfl,rfl,rfl⟩,rfl,rfl,rfl,rfl⟩
set_option maxRecDepth 100000 in
set_option maxHeartbeats 4000000 in
theorem same_spec {I:GH} {M0:List Blk} {x y:Nd} (hx:x.ok I) (hy:y.ok I):Spec Tryz.prog 89 [x.val,y.val] I M0 fun v I' M'=>v=.bool (ndB x y)∧I'=I∧M'=M0:=by
 refine spec_of_V [] TryzEOK Tryz.func89 rfl rfl rfl ?_
 intro B h0
 have hcx:x.kn≤x.kc∧x.kn * 8≤140737488355328:=hx.rs.cap
 have hrx:=hx.rs
 have hry:=hy.rs
 obtain⟨k,s0,s1,s2,s3,t,lo,hi,ka,kn,kc,kids⟩:=x
 obtain⟨k',s0',s1',s2',s3',t',lo',hi',ka',kn',kc',kids'⟩:=y
 simp only at hrx hry hcx
 have no:∀ {P:Prop},(P→¬ (k=k'∧((s0=s0'∧s1=s1'∧s2=s2'∧s3=s3')∧t=t'∧lo=lo'∧hi=hi'∧kids=kids')))→P→Value.bool false=.bool (ndB ⟨k,s0,s1,s2,s3,t,lo,hi,ka,kn,kc,kids⟩ ⟨k',s0',s1',s2',s3',t',lo',hi',ka',kn',kc',kids'⟩):=fun h p=>by
  cases hb:ndB ⟨k,s0,s1,s2,s3,t,lo,hi,ka,kn,kc,kids⟩ ⟨k',s0',s1',s2',s3',t',lo',hi',ka',kn',kc',kids'⟩ with
  | false=>rfl
  | true=>exact absurd ((ndB_iff _ _).1 hb) (h p)
 by_cases g1:k=k'
 rotate_left
 ·refine GuardOb.mk (fun h'=>absurd h' (by simp[g1])) (fun _=>?_)
  exact⟨_,_,.refl,no (fun h h2=>h h2.1) g1,rfl,rfl⟩
 refine GuardOb.mk (fun _=>?_) (fun h'=>absurd h' (by simp[g1]))
 refine BinOb.eq4 TryzEOK (e:=87) rfl rfl rfl rfl (by kernel_rfl) ?_
 by_cases g2:s0=s0'∧s1=s1'∧s2=s2'∧s3=s3'
 rotate_left
 ·refine GuardOb.mk (fun h'=>absurd h' (by simpa using g2)) (fun _=>?_)
  exact⟨_,_,.refl,no (fun h h2=>h h2.2.1) g2,rfl,rfl⟩
 refine GuardOb.mk (fun _=>?_) (fun h'=>absurd h' (by simp[g2]))
 by_cases g3:t=t'
 rotate_left
 ·refine GuardOb.mk (fun h'=>absurd h' (by simp[g3])) (fun _=>?_)
  exact⟨_,_,.refl,no (fun h h2=>h h2.2.2.1) g3,rfl,rfl⟩
 refine GuardOb.mk (fun _=>?_) (fun h'=>absurd h' (by simp[g3]))
 by_cases g4:lo=lo'
 rotate_left
 ·refine GuardOb.mk (fun h'=>absurd h' (by simp[g4])) (fun _=>?_)
  exact⟨_,_,.refl,no (fun h h2=>h h2.2.2.2.1) g4,rfl,rfl⟩
 refine GuardOb.mk (fun _=>?_) (fun h'=>absurd h' (by simp[g4]))
 by_cases g5:hi=hi'
 rotate_left
 ·refine GuardOb.mk (fun h'=>absurd h' (by simp[g5])) (fun _=>?_)
  exact⟨_,_,.refl,no (fun h h2=>h h2.2.2.2.2.1) g5,rfl,rfl⟩
 refine GuardOb.mk (fun _=>?_) (fun h'=>absurd h' (by simp[g5]))
 refine CallOb.whole _ (EqualI_spec hrx hry (show kn≤_ by omega)) ?_
 rintro v J N - ⟨rfl,hJ,hN⟩
 subst J
 subst N
 refine⟨_,_,.refl,?_,rfl,rfl⟩
 obtain⟨q1,q2,q3,q4⟩:=g2
 congr 1
 rw[Bool.eq_iff_iff,ndB_iff,decide_eq_true_iff]
 exact⟨fun h=>⟨g1,⟨q1,q2,q3,q4⟩,g3,g4,g5,h⟩,fun h=>h.2.2.2.2.2⟩
def eqAll {α:Type} (q:α→α→Bool):List α→List α→Bool
 | [],[]=>true
 | a::l,b::m=>q a b && eqAll q l m
 | _,_=>false
theorem eqAll_self {α:Type} {q:α→α→Bool} (h:∀ x,q x x=true):∀ l:List α,eqAll q l l=true
 | []=>rfl
 | a::l=>by rw[eqAll,h,eqAll_self h l];rfl
theorem eqAll_ct:∀ l m:List Nd,eqAll ndB (l.map Nd.ct) (m.map Nd.ct)=eqAll ndB l m
 | [],[]=>rfl
 | [],_::_=>rfl
 | _::_,[]=>rfl
 | a::l,b::m=>by
  rw[List.map_cons,List.map_cons,eqAll,eqAll,eqAll_ct l m]
  rfl
theorem eqAll_len {α:Type} (q:α→α→Bool):∀ l m:List α,l.length≠m.length→eqAll q l m=false
 | [],[],h=>absurd rfl h
 | [],_::_,_=>rfl
 | _::_,[],_=>rfl
 | a::l,b::m,h=>by
  rw[eqAll,eqAll_len q l m (by simpa using h),Bool.and_false]
set_option maxRecDepth 100000 in
set_option maxHeartbeats 2000000 in
theorem EqualN_spec {I:GH} {M0:List Blk} {s t:Tr} (hs:s.ok I) (ht:t.ok I):Spec Tryz.prog 87 [.slice s.a s.n s.c,.slice t.a t.n t.c,.func (.func 89) #[] #[]] I M0 fun v I' M'=>v=.bool (eqAll ndB s.ns t.ns)∧I'=I∧M'=M0:=by
 refine spec_of_V [] TryzEOK Tryz.func87 rfl rfl rfl ?_
 intro B h0
 have hsn:=hs.n
 have htn:=ht.n
 have hcap:=hs.rs.cap
 by_cases hn:s.n=t.n
 rotate_left
 ·refine CondOb.mk (fun _=>?_) (fun h=>absurd h (by simp;omega))
  exact⟨_,_,.refl,by rw[eqAll_len _ _ _ (by omega)],rfl,rfl⟩
 refine CondOb.mk (fun h=>absurd h (by simp[hn])) (fun _=>?_)
 refine LoopOb.inv (ι:=Nat) (fun k=>{ fl:=[(1,.val (.slice t.a t.n t.c)),(2,.val (.func (.func 89) #[] #[])),(15,.val (.slice s.a s.n s.c)),(16,.val (.int .i64 s.n)),(17,.val (.int .i64 k))],gi:=I,mi:=M0 }) (fun k=>k≤s.n∧eqAll ndB s.ns t.ns=eqAll ndB (s.ns.drop k) (t.ns.drop k)) (fun k=>s.n - k) ?_ ?_
 ·exact⟨0,⟨Nat.zero_le _,rfl⟩,.refl,aF5,.nil⟩
 rintro k ⟨hk,he⟩
 refine CondOb.mk (fun h2=>?_) (fun h2=>?_)
 ·have hlt:k < s.n:=by have:(k:Int) < (s.n:Int):=of_decide_eq_true h2;omega
  have hkl:k < s.ns.length:=by omega
  have hkl':k < t.ns.length:=by omega
  obtain⟨ad,had,hrd⟩:=hs.rs.row Nd.cells_len hlt hkl
  obtain⟨ad',had',hrd'⟩:=ht.rs.row Nd.cells_len (show k < t.n by omega) hkl'
  have hx:=hs.ns _ (List.getElem_mem hkl)
  have hy:=ht.ns _ (List.getElem_mem hkl')
  rw[List.drop_eq_getElem_cons hkl,List.drop_eq_getElem_cons hkl',eqAll] at he
  generalize s.ns[k]=x at hrd hx he
  generalize t.ns[k]=y at hrd' hy he
  refine IdxOb.mk ad k had rfl hlt ?_
  refine LoadOb.mk _ (hrd _) ?_
  refine IdxOb.mk ad' k had' rfl (by omega) ?_
  refine LoadOb.mk _ (hrd' _) ?_
  refine CallOb.whole _ (same_spec hx hy) ?_
  rintro v J N - ⟨rfl,hJ,hN⟩
  subst J
  subst N
  cases e:ndB x y with
  | true=>
   refine CondOb.mk (fun h=>absurd h (by simp)) (fun _=>?_)
   refine ArithOb.mk _ (next_wr (i:=k) (by omega)) ?_
   exact⟨k+1,⟨⟨hlt,by rw[he,e,Bool.true_and]⟩,by omega⟩,.refl,aF5,.nil⟩
  | false=>
   refine CondOb.mk (fun _=>?_) (fun h=>absurd h (by simp))
   exact⟨_,_,.refl,by rw[he,e,Bool.false_and],rfl,rfl⟩
 ·have hge:k=s.n:=by have:¬ (k:Int) < (s.n:Int):=of_decide_eq_false h2;omega
  subst hge
  rw[List.drop_of_length_le (by omega),List.drop_of_length_le (by omega)] at he
  exact⟨_,_,.refl,by rw[he];rfl,rfl,rfl⟩
def sameT (a b:Tr):Bool:=decide (a.n=b.n) && (right a && (right b && eqAll ndB (subC a.ns a.root) (subC b.ns b.root)))
set_option maxRecDepth 100000 in
set_option maxHeartbeats 4000000 in
theorem TSame_spec {I:GH} {M0:List Blk} {deb:List Int} (hT:Tabs I deb) {a b:Tr} (ha:a.ok I) (hb:b.ok I) (hn:a.n≤1099511627776):Spec Tryz.prog 48 [a.val,b.val] I M0 fun v I' M'=>v=.bool (sameT a b)∧(∀ c o,I c=some o→I' c=some o)∧M'=M0:=by
 refine spec_of_V [] TryzEOK Tryz.func48 rfl rfl rfl ?_
 intro B h0
 have han:=ha.n
 have hbn:=hb.n
 by_cases h1:a.n=b.n
 rotate_left
 ·refine GuardOb.mk (fun h'=>absurd h' (by simp;omega)) (fun _=>?_)
  exact⟨_,_,.refl,by rw[sameT,decide_eq_false h1,Bool.false_and],fun _ _ h=>h,rfl⟩
 refine GuardOb.mk (fun _=>?_) (fun h'=>absurd h' (by simp[h1]))
 refine CallOb.mk [] M0 _ (.refl _) (Right_spec hT.c ha) ?_
 rintro v J N - ⟨rfl,hJ,rfl⟩
 subst J
 cases h2:right a with
 | false=>
  refine GuardOb.mk (fun h'=>absurd h' (by simp)) (fun _=>?_)
  exact⟨_,_,.refl,by rw[sameT,h2,Bool.false_and,Bool.and_false],fun _ _ h=>h,rfl⟩
 | true=>
 refine GuardOb.mk (fun _=>?_) (fun h'=>absurd h' (by simp))
 refine CallOb.mk [] M0 _ (.refl _) (Right_spec hT.c hb) ?_
 rintro v J N - ⟨rfl,hJ,rfl⟩
 subst J
 cases h3:right b with
 | false=>
  refine CondOb.mk (fun _=>?_) (fun h'=>absurd h' (by simp))
  exact⟨_,_,.refl,by rw[sameT,h3,Bool.false_and,Bool.and_false,Bool.and_false],fun _ _ h=>h,rfl⟩
 | true=>
 refine CondOb.mk (fun h'=>absurd h' (by simp)) (fun _=>?_)
 obtain⟨ra0,ra1⟩:=right_root h2
 obtain⟨rb0,rb1⟩:=right_root h3
 obtain⟨ra,hra⟩:=Int.eq_ofNat_of_zero_le ra0
 obtain⟨rb,hrb⟩:=Int.eq_ofNat_of_zero_le rb0
 have hsa:=taken_spec (M0:=M0) ha h2 hn (node:=ra) (by omega)
 rw[←hra] at hsa
 refine CodeOb.draw TryzEOK rfl rfl rfl ?_
 refine PCallOb.whole _ hsa (fun v I' M' h x hx=>by rw[h.2.1];exact hx) ?_
 rintro v J N - ⟨hJ,hN,ta,rfl,hta,hsa2⟩
 subst N
 have hsb:=taken_spec (M0:=M0) (hb.mono hJ) h3 (by omega) (node:=rb) (by omega)
 rw[←hrb] at hsb
 refine PCallOb.whole _ hsb (fun v I' M' h x hx=>by rw[h.2.1];exact hx) ?_
 rintro v J2 N - ⟨hJ2,hN,tb,rfl,htb,hsb2⟩
 subst N
 refine CallOb.whole _ (EqualN_spec (hta.mono hJ2) htb) ?_
 rintro v J3 N - ⟨rfl,hJ3,hN⟩
 subst J3
 subst N
 refine⟨_,_,.refl,?_,fun c o h=>hJ2 _ _ (hJ _ _ h),rfl⟩
 rw[sameT,decide_eq_true h1,h2,h3,←hsa2.ct,←hsb2.ct,eqAll_ct]
 rfl
def sameD (d e:Df):Bool:=decide (d.name=e.name) && sameT d.t e.t
def sameG (g h:Gr):Bool:=eqAll sameD g.ds h.ds
theorem sameT_ct (a b:Tr):sameT a.ct b.ct=sameT a b:=by
 unfold sameT
 rw[right_ct,right_ct]
 have e1:subC a.ct.ns a.ct.root=subC a.ns a.root:=subC_ct a.ns a.root
 have e2:subC b.ct.ns b.ct.root=subC b.ns b.root:=subC_ct b.ns b.root
 rw[e1,e2]
 rfl
theorem sameG_ct (g h:Gr):sameG g.ct h.ct=sameG g h:=by
 unfold sameG
 show eqAll sameD (g.ds.map Df.ct) (h.ds.map Df.ct)=_
 have:∀ l m:List Df,eqAll sameD (l.map Df.ct) (m.map Df.ct)=eqAll sameD l m:=by
  intro l
  induction l with
  | nil=>intro m;cases m<;>rfl
  | cons a l ih=>
   intro m
   cases m with
   | nil=>rfl
   | cons b m=>
    rw[List.map_cons,List.map_cons,eqAll,eqAll,ih]
    congr 1
    unfold sameD
    have e1:sameT a.ct.t b.ct.t=sameT a.t b.t:=sameT_ct a.t b.t
    rw[e1]
    rfl
 exact this _ _
set_option maxRecDepth 100000 in
set_option maxHeartbeats 2000000 in
theorem GSame1_spec {I:GH} {M0:List Blk} {deb:List Int} (hT:Tabs I deb) {d e:Df} (hd:d.ok I) (he:e.ok I) (hn:d.t.n≤1099511627776):Spec Tryz.prog 119 [.agg d.cells.toArray,.agg e.cells.toArray] I M0 fun v I' M'=>v=.bool (sameD d e)∧(∀ c o,I c=some o→I' c=some o)∧M'=M0:=by
 refine spec_of_V [] TryzEOK Tryz.func119 rfl rfl rfl ?_
 intro B h0
 obtain⟨nm,t⟩:=d
 obtain⟨nm',t'⟩:=e
 by_cases h:nm=nm'
 ·refine GuardOb.mk (fun _=>?_) (fun h'=>absurd h' (by simp[h]))
  refine CallOb.whole _ (TSame_spec hT hd.t he.t hn) ?_
  rintro v J N - ⟨rfl,hJ,hN⟩
  subst N
  exact⟨_,_,.refl,by rw[sameD,decide_eq_true h,Bool.true_and],hJ,rfl⟩
 ·refine GuardOb.mk (fun h'=>absurd h' (by simp[h])) (fun _=>?_)
  exact⟨_,_,.refl,by rw[sameD,decide_eq_false h,Bool.false_and],fun _ _ h=>h,rfl⟩
set_option maxRecDepth 100000 in
set_option maxHeartbeats 4000000 in
theorem EqualD_spec {I:GH} {M0:List Blk} {deb:List Int} (hT:Tabs I deb) {s t:Gr} (hs:s.ok I) (ht:t.ok I) (hb:∀ d∈s.ds,d.t.n≤1099511627776):Spec Tryz.prog 118 [.slice s.a s.n s.c,.slice t.a t.n t.c,.func (.func 119) #[] #[]] I M0 fun v I' M'=>v=.bool (sameG s t)∧(∀ c o,I c=some o→I' c=some o)∧M'=M0:=by
 refine spec_of_V [] TryzEOK Tryz.func118 rfl rfl rfl ?_
 intro B h0
 have hsn:=hs.n
 have htn:=ht.n
 have hcap:=hs.rs.cap
 unfold sameG
 by_cases hn:s.n=t.n
 rotate_left
 ·refine CondOb.mk (fun _=>?_) (fun h=>absurd h (by simp;omega))
  exact⟨_,_,.refl,by rw[eqAll_len _ _ _ (by omega)],fun _ _ h=>h,rfl⟩
 refine CondOb.mk (fun h=>absurd h (by simp[hn])) (fun _=>?_)
 refine LoopOb.inv (ι:=Nat×GH) (fun x=>{ fl:=[(1,.val (.slice t.a t.n t.c)),(2,.val (.func (.func 119) #[] #[])),(15,.val (.slice s.a s.n s.c)),(16,.val (.int .i64 s.n)),(17,.val (.int .i64 x.1))],gi:=x.2,mi:=M0 }) (fun x=>x.1≤s.n∧eqAll sameD s.ds t.ds=eqAll sameD (s.ds.drop x.1) (t.ds.drop x.1)∧∀ c o,I c=some o→x.2 c=some o) (fun x=>s.n - x.1) ?_ ?_
 ·exact⟨(0,I),⟨Nat.zero_le _,rfl,fun _ _ h=>h⟩,.refl,aF5,.nil⟩
 rintro⟨k,J⟩ ⟨hk,he,hJ⟩
 simp only at hk he hJ
 refine CondOb.mk (fun h2=>?_) (fun h2=>?_)
 ·have hlt:k < s.n:=by have:(k:Int) < (s.n:Int):=of_decide_eq_true h2;omega
  have hkl:k < s.ds.length:=by omega
  have hkl':k < t.ds.length:=by omega
  obtain⟨ad,had,hrd⟩:=(hs.mono hJ).rs.row Df.cells_len hlt hkl
  obtain⟨ad',had',hrd'⟩:=(ht.mono hJ).rs.row Df.cells_len (show k < t.n by omega) hkl'
  have hx:=(hs.mono hJ).ds _ (List.getElem_mem hkl)
  have hy:=(ht.mono hJ).ds _ (List.getElem_mem hkl')
  have hbx:=hb _ (List.getElem_mem hkl)
  rw[List.drop_eq_getElem_cons hkl,List.drop_eq_getElem_cons hkl',eqAll] at he
  generalize s.ds[k]=x at hrd hx he hbx
  generalize t.ds[k]=y at hrd' hy he
  refine IdxOb.mk ad k had rfl hlt ?_
  refine LoadOb.mk _ (hrd _) ?_
  refine IdxOb.mk ad' k had' rfl (by omega) ?_
  refine LoadOb.mk _ (hrd' _) ?_
  refine CallOb.whole _ (GSame1_spec (hT.mono hJ) hx hy hbx) ?_
  rintro v J2 N - ⟨rfl,hJ2,hN⟩
  subst N
  cases e:sameD x y with
  | true=>
   refine CondOb.mk (fun h=>absurd h (by simp)) (fun _=>?_)
   refine ArithOb.mk _ (next_wr (i:=k) (by omega)) ?_
   exact⟨(k+1,J2),⟨⟨hlt,by simp only;rw[he,e,Bool.true_and],fun c o h=>hJ2 _ _ (hJ _ _ h)⟩,by simp only;omega⟩,.refl,aF5,.nil⟩
  | false=>
   refine CondOb.mk (fun _=>?_) (fun h=>absurd h (by simp))
   exact⟨_,_,.refl,by rw[he,e,Bool.false_and],fun c o h=>hJ2 _ _ (hJ _ _ h),rfl⟩
 ·have hge:k=s.n:=by have:¬ (k:Int) < (s.n:Int):=of_decide_eq_false h2;omega
  subst hge
  rw[List.drop_of_length_le (by omega),List.drop_of_length_le (by omega)] at he
  exact⟨_,_,.refl,by rw[he];rfl,hJ,rfl⟩
theorem GSame_spec {I:GH} {M0:List Blk} {deb:List Int} (hT:Tabs I deb) {s t:Gr} (hs:s.ok I) (ht:t.ok I) (hb:∀ d∈s.ds,d.t.n≤1099511627776):Spec Tryz.prog 73 [s.val,t.val] I M0 fun v I' M'=>v=.bool (sameG s t)∧(∀ c o,I c=some o→I' c=some o)∧M'=M0:=by
 refine spec_of_V [] TryzEOK Tryz.func73 rfl rfl rfl ?_
 intro B h0
 refine CallOb.whole _ (EqualD_spec hT hs ht hb) ?_
 rintro v J N - ⟨rfl,hJ,hN⟩
 subst N
 exact⟨_,_,.refl,rfl,hJ,rfl⟩
theorem Do_fr {I:GH} {M0:List Blk} {deb:List Int} (hT:Tabs I deb) {g:Gr} (hg:g.ok I) (hkb:∀ d∈g.ds,KB d.t) (s:Stp):Spec Tryz.prog 32 [g.val,s.val] I M0 fun v I' M'=>(∀ b o,I b=some o→I' b=some o)∧M'=M0∧∃ (r:Int×List Df) (h:Gr),IsDo deb g s r∧v=.tuple #[h.val,.int .i64 r.1]∧h.ok I'∧h.ct=(grL r.2).ct:=by
 refine Spec.weakK (Spec.frame (Spec.frz (Do_own hT hg hkb s))) ?_
 rintro v J M ⟨M',rfl,-,hJ,rfl,-,I',M1,⟨h1,r,h,hr,rfl,hh,hct⟩,hF⟩
 exact⟨hJ,rfl,r,h,hr,rfl,hh.frz hF,hct⟩
theorem Keep_fr {I:GH} {M0:List Blk} {deb:List Int} (hT:Tabs I deb) {g:Gr} (hg:g.ok I) {x:Rw} (hx:RwW I x) (hx2:x.n≤1000000):Spec Tryz.prog 34 [g.val,x.val] I M0 fun v I' M'=>(∀ b o,I b=some o→I' b=some o)∧M'=M0∧∃ h:Gr,v=.tuple #[h.val,.bool (keepOk deb g x.l)]∧h.ok I'∧h.ct=(grL (keptL deb g x.l)).ct:=by
 refine Spec.weakK (Spec.frame (Spec.frz (Keep_own hT hg hx hx2))) ?_
 rintro v J M ⟨M',rfl,-,hJ,rfl,-,I',M1,⟨h1,h,rfl,hh,hct⟩,hF⟩
 exact⟨hJ,rfl,h,rfl,hh.frz hF,hct⟩
theorem uselessG_ct (deb:List Int) (g:Gr):uselessG deb g.ct=uselessG deb g:=by
 unfold uselessG
 rw[mayG_ct,callsL_ct]
 rfl
theorem callsG_ct (deb:List Int) (g:Gr) (i:Int):callsG deb g.ct i=callsG deb g i:=by
 unfold callsG
 rw[mayG_ct,callsL_ct]
 rfl
theorem keepOk_ct (deb:List Int) (g:Gr) (l:List Int):keepOk deb g.ct l=keepOk deb g l:=by
 have e:∀ i,callsG deb g.ct i=callsG deb g i:=callsG_ct deb g
 unfold keepOk
 simp only[mayG_ct,e]
 rfl
def stepC (cs:List DfC) (F:List Fl):Option Int:=if (whereC (grC cs).ds F).2=0 then (uselessG debL (grC cs)).head? else none
def doC (cs:List DfC) (F:List Fl) (s:Stp):Int×List Df:=if (whereC (grC cs).ds F).2=0 then (if isStepB s (uselessG debL (grC cs)).head? then (0,keepL (fromL (callsL (grC cs)) 0) (grC cs).ds) else (47,[])) else ((whereC (grC cs).ds F).2,[])
section
variable {I:GH} {cs:List DfC} {F:List Fl} (hK:Known13 cs F) {g:Gr} (hg:g.ok I) (hR:DfsR cs g.ds)
include hK hg hR
theorem known_step {o:Option Int} (h:IsStep debL g o):o=stepC cs F:=by
 obtain⟨r,h1,rfl⟩:=h
 rw[known_where hK hg hR h1,stepC,←gr_ct hR hg,uselessG_ct]
theorem known_do {s:Stp} {r:Int×List Df} (h:IsDo debL g s r):r.1=(doC cs F s).1∧r.2.map Df.ct=(doC cs F s).2:=by
 obtain⟨x,h1,rfl⟩:=h
 have hct:=gr_ct hR hg
 rw[known_where hK hg hR h1,doC,←hct,uselessG_ct,callsL_ct]
 split
 ·split
  ·refine⟨rfl,?_⟩
   show (keepL _ g.ds).map Df.ct=keepL _ (g.ds.map Df.ct)
   rw[keepL_map]
  ·exact⟨rfl,rfl⟩
 ·exact⟨rfl,rfl⟩
end
theorem read25 {I:GH} {M0:List Blk} (hT:Tabs I debL) {fu:Nat} {s:List UInt8} {cs:List DfC} {a1 e:Int} {k:IntKind} (hgr:grOf fu 52 s=some (cs,a1,k,e)):Spec Tryz.prog 31 [.string ⟨s.toArray⟩] I M0 fun v I' M'=>(∀ b o,I b=some o→I' b=some o)∧M'=M0∧∃ g:Gr,v=g.val∧g.ok I'∧DfsR cs g.ds:=by
 refine spec_of_V [] TryzEOK Tryz.func31 rfl rfl rfl ?_
 intro B h0
 refine CallOb.mk [] M0 _ (.refl _) (grOf_spec hT hgr) ?_
 rintro v J1 N - ⟨rfl,hJ1,g,rfl,hg,hR⟩
 exact⟨_,_,.refl,hJ1,rfl,g,rfl,hg,hR⟩
theorem check_known {I:GH} {M0:List Blk} (hT:Tabs I debL) {cs:List DfC} {F:List Fl} (hK:Known13 cs F) {g:Gr} (hg:g.ok I) (hR:DfsR cs g.ds) {e:Int} (he:(whereC (grC cs).ds F).2=e):Spec Tryz.prog 21 [g.val] I M0 fun v I' M'=>v=.int .i64 e∧(∀ b o,I b=some o→I' b=some o)∧M'=M0:=by
 refine Spec.weakK (WCheckM hT hg (hK.of hg hR).2.2) ?_
 rintro v J M ⟨h1,h2,r,rfl,hr⟩
 exact⟨by rw[known_where hK hg hR hr,he],h1,h2⟩
def waysL:Option Int→List Int
 | none=>[]
 | some r=>[1000+r * 100]
set_option maxRecDepth 100000 in
set_option maxHeartbeats 8000000 in
theorem ways25_spec {I:GH} {M0:List Blk} (hT:Tabs I debL) {fu:Nat} {s:List UInt8} {cs:List DfC} {a1 e:Int} {k:IntKind} (hgr:grOf fu 52 s=some (cs,a1,k,e)) {F:List Fl} {f:Nat} (hc:chk13 cs F f=true) {o:Option Int} (ho:stepC cs F=o) (hb:∀ r,o=some r→0≤r∧r < 1000) :
  Spec Tryz.prog 72 [.string ⟨s.toArray⟩] I M0 fun v I' M'=>(∀ b o,I b=some o→I' b=some o)∧∃ os:OS,v=os.val∧os.ok 1 ((waysL o).map (.int .i64 ·))∧M'=os.blk 3++M0:=by
 have hK:=known13_of hc
 refine spec_of_V [] TryzEOK Tryz.func72 rfl rfl rfl ?_
 intro B h0
 refine CallOb.whole _ (read25 hT hgr) ?_
 rintro v J1 N - ⟨hJ1,hN,g,rfl,hg,hR⟩
 subst N
 have hT1:=hT.mono hJ1
 obtain⟨hm,hF,hkb⟩:=hK.of hg hR
 have h64:=may64 hm
 refine CallOb.whole _ (Steps_spec hT1 hg (by omega) hkb) ?_
 rintro v J2 N - ⟨hJ2,o',os,ho',hos,rfl,hN⟩
 subst N
 obtain rfl:o'=o:=(known_step hK hg hR ho').trans ho
 have hlen:=hos.len
 rw[flat_len _ 5 Stp.cells_len] at hlen
 have hJ:∀ b o,I b=some o→J2 b=some o:=fun b o h=>hJ2 _ _ (hJ1 _ _ h)
 cases o' with
 | none=>
  have hn:os.n=0:=by
   simp[stepsL] at hlen
   omega
  refine LoopOb.unroll 1 ?_
  refine CondOb.mk (fun h=>absurd h (by simp[hn])) (fun _=>?_)
  exact⟨_,_,.sub (List.sublist_append_right _ _) .refl,hJ,OS0,rfl,OS0_ok 1,rfl⟩
 | some r=>
  have hn:os.n=1:=by
   simp[stepsL] at hlen
   omega
  obtain⟨hr0,hr1⟩:=hb r rfl
  obtain⟨ad,had,hrd⟩:=OS.ok.row (I:=J2) (M:=os.blk 59++M0) (e:=59) Stp.cells_len (by decide) hos (fun z hz=>List.mem_append_left _ hz) (j:=0) (by simp[stepsL])
  have hrd:Rd J2 (os.blk 59++M0) (ad.add (0 * 5)) 5 [.int .u8 7,.int .u8 1,.int .i64 r,.slice none 0 0,.int .i64 0]:=hrd
  have r1:Rd J2 (os.blk 59++M0) ((ad.add (0 * 5)).add 1) 1 [.int .u8 1]:=hrd.part (k:=1) (m:=1) (by decide)
  have r2:Rd J2 (os.blk 59++M0) ((ad.add (0 * 5)).add 2) 1 [.int .i64 r]:=hrd.part (k:=2) (m:=1) (by decide)
  have r3:Rd J2 (os.blk 59++M0) ((ad.add (0 * 5)).add 3) 1 [.slice none 0 0]:=hrd.part (k:=3) (m:=1) (by decide)
  have r4:Rd J2 (os.blk 59++M0) ((ad.add (0 * 5)).add 4) 1 [.int .i64 0]:=hrd.part (k:=4) (m:=1) (by decide)
  refine LoopOb.unroll 2 ?_
  refine CondOb.mk (fun _=>?_) (fun h=>absurd h (by simp[hn]))
  refine CodeOb.draw TryzEOK rfl rfl rfl ?_
  refine IdxOb.mk ad 0 had rfl (by omega) ?_
  refine LoadOb.mk _ r1 ?_
  refine ArithOb.mk 1 (by decide) ?_
  refine ArithOb.mk 1000 (by decide) ?_
  refine IdxOb.mk ad 0 had rfl (by omega) ?_
  refine LoadOb.mk _ r2 ?_
  refine ArithOb.mk (r * 100) (wr_eq rfl (by omega)) ?_
  refine ArithOb.mk (1000+r * 100) (wr_eq rfl (by omega)) ?_
  refine IdxOb.mk ad 0 had rfl (by omega) ?_
  refine LoadOb.mk _ r3 ?_
  refine ArithOb.mk 0 (by decide) ?_
  refine ArithOb.mk (1000+r * 100) (wr_eq (by omega) (by omega)) ?_
  refine IdxOb.mk ad 0 had rfl (by omega) ?_
  refine LoadOb.mk _ r4 ?_
  refine ArithOb.mk (1000+r * 100) (wr_eq (by omega) (by omega)) ?_
  refine AllocOb.mk fun b hb hbM=>?_
  refine OtherOb.app1 TryzEOK rfl (by simp) (e:=3) rfl rfl rfl OS0 (OS0_ok 1) rfl (cs:=[.int .i64 (1000+r * 100)]) rfl rfl rfl [] (os.blk 59++M0) rfl (by decide) (by decide) ?_
  intro os2 hn2 hI2 hok2
  refine ArithOb.mk 1 (by decide) ?_
  refine CondOb.mk (fun h=>absurd h (by simp[hn])) (fun _=>?_)
  exact⟨_,_,.sub (List.Sublist.append_left (List.sublist_append_right _ _) (os2.blk 3)) .refl,hJ,os2,rfl,hok2,rfl⟩
theorem these25_spec {I:GH} {M0:List Blk} (hT:Tabs I debL) {fu:Nat} {s:List UInt8} {cs:List DfC} {a1 e:Int} {k:IntKind} (hgr:grOf fu 52 s=some (cs,a1,k,e)) {F:List Fl} {f:Nat} (hc:chk13 cs F f=true) {o:Option Int} (ho:stepC cs F=o) (hb:∀ r,o=some r→0≤r∧r < 1000)
  {a:Option Addr} {n c:Nat} (hw:(o=none∧n=0)∨∃ r ad,o=some r∧n=1∧a=some ad∧∀ (J:GH) (M:List Blk),(∀ z∈M0,z∈M)→Rd J M (ad.add (0 * 1)) 1 [.int .i64 (1000+r * 100)]) :
  Spec Tryz.prog 29 [.string ⟨s.toArray⟩,.slice a n c] I M0 fun v I' M'=>v=.bool true∧(∀ b o,I b=some o→I' b=some o)∧M'=M0:=by
 refine spec_of_V [] TryzEOK Tryz.func29 rfl rfl rfl ?_
 intro B h0
 refine CallOb.whole _ (ways25_spec hT hgr hc ho hb) ?_
 rintro v J N - ⟨hJ,os,rfl,hos,hN⟩
 subst N
 have hlen:(waysL o).length=os.n:=by simpa using hos.len
 rcases hw with ⟨rfl,rfl⟩ | ⟨r,ad,rfl,rfl,rfl,hrd⟩
 ·have hn:os.n=0:=hlen.symm
  refine CondOb.mk (fun h=>absurd h (by simp[hn])) (fun _=>?_)
  refine LoopOb.unroll 1 ?_
  refine CondOb.mk (fun h=>absurd h (by simp[hn])) (fun _=>?_)
  exact⟨_,_,.sub (List.sublist_append_right _ _) .refl,rfl,hJ,rfl⟩
 ·have hn:os.n=1:=hlen.symm
  obtain⟨ad2,had2,hrd2⟩:=OS.rdI (I:=J) (M:=os.blk 3++M0) (e:=3) hos (fun z hz=>List.mem_append_left _ hz) (j:=0) (by simp[waysL])
  have hrd2:Rd J (os.blk 3++M0) (ad2.add (0 * 1)) 1 [.int .i64 (1000+r * 100)]:=hrd2
  refine CondOb.mk (fun h=>absurd h (by simp[hn])) (fun _=>?_)
  refine LoopOb.unroll 2 ?_
  refine CondOb.mk (fun _=>?_) (fun h=>absurd h (by simp[hn]))
  refine CodeOb.draw TryzEOK rfl rfl rfl ?_
  refine IdxOb.mk ad2 0 had2 rfl (by omega) ?_
  refine LoadOb.mk _ hrd2 ?_
  refine IdxOb.mk ad 0 rfl rfl (by omega) ?_
  refine LoadOb.mk _ (hrd J _ fun z hz=>List.mem_append_right _ hz) ?_
  refine CondOb.mk (fun h=>absurd h (by simp)) (fun _=>?_)
  refine ArithOb.mk 1 (by decide) ?_
  refine CondOb.mk (fun h=>absurd h (by simp[hn])) (fun _=>?_)
  exact⟨_,_,.sub (List.sublist_append_right _ _) .refl,rfl,hJ,rfl⟩
set_option maxRecDepth 100000 in
set_option maxHeartbeats 4000000 in
theorem comes25_spec {I:GH} (hT:Tabs I debL) {fu fu':Nat} {s want:List UInt8} {cs cw:List DfC} {a1 e a1' e':Int} {k k':IntKind} (hgr:grOf fu 52 s=some (cs,a1,k,e)) (hgw:grOf fu' 52 want=some (cw,a1',k',e')) {F:List Fl} {f:Nat} (hc:chk13 cs F f=true)
  {way rule at_:Int} {pa:Option Addr} {pn pc:Nat} {ds:List Df} (hd:doC cs F ⟨7,way,rule,pa,pn,pc,[],at_⟩=(0,ds)) (hsame:sameG (grL ds) (grC cw)=true) (hpos:0 < ds.length) (hsm:(ds.all fun d=>decide (d.t.n≤1000000))=true) :
  Spec Tryz.prog 30 [.string ⟨s.toArray⟩,.int .u8 way,.int .i64 rule,.slice pa pn pc,.int .i64 at_,.string ⟨want.toArray⟩] I [] fun v I' M'=>v=.bool true∧(∀ b o,I b=some o→I' b=some o)∧M'=[]:=by
 have hK:=known13_of hc
 refine spec_of_V [] TryzEOK Tryz.func30 rfl rfl rfl ?_
 intro B h0
 refine CallOb.whole _ (read25 hT hgr) ?_
 rintro v J1 N - ⟨hJ1,hN,g,rfl,hg,hR⟩
 subst N
 have hT1:=hT.mono hJ1
 obtain⟨hm,hF,hkb⟩:=hK.of hg hR
 refine CallOb.whole _ (Do_fr hT1 hg hkb ⟨7,way,rule,pa,pn,pc,[],at_⟩) ?_
 rintro v J2 N - ⟨hJ2,hN,r,h,hr,rfl,hh,hct⟩
 subst N
 obtain⟨q1,q2⟩:=known_do hK hg hR hr
 rw[hd] at q1 q2
 obtain⟨r1,r2⟩:=r
 simp only at q1 q2 hct
 subst q1
 have hT2:=hT1.mono hJ2
 have hhn:=hh.n
 have hds:h.ds.map Df.ct=ds:=(congrArg Gr.ds hct).trans q2
 have hl:h.ds.length=ds.length:=by rw[←hds,List.length_map]
 have hsmall:∀ d∈h.ds,d.t.n≤1099511627776:=fun d hd=>by
  have h1:d.ct∈ds:=by rw[←hds];exact List.mem_map.2 ⟨d,hd,rfl⟩
  have h2:=of_decide_eq_true (List.all_eq_true.1 hsm _ h1)
  have h3:d.ct.t.n=d.t.n:=rfl
  omega
 refine CodeOb.draw TryzEOK rfl rfl rfl ?_
 refine GuardOb.mk (fun _=>?_) (fun h=>absurd h (by simp))
 refine GuardOb.mk (fun _=>?_) (fun h=>absurd h (by simp;omega))
 refine PCallOb.whole _ (read25 hT2 hgw) (fun v I' M' h x hx=>by rw[h.2.1];exact hx) ?_
 rintro v J3 N - ⟨hJ3,hN,w,rfl,hw,hRw⟩
 subst N
 refine CallOb.whole _ (GSame_spec (hT2.mono hJ3) (hh.mono hJ3) hw hsmall) ?_
 rintro v J4 N - ⟨rfl,hJ4,hN⟩
 subst N
 refine⟨_,_,.refl,?_,fun b o h=>hJ4 _ _ (hJ3 _ _ (hJ2 _ _ (hJ1 _ _ h))),rfl⟩
 have e1:sameG h w=sameG (grL ds) (grC cw):=by
  rw[←sameG_ct h w,gr_ct hRw hw]
  unfold sameG
  show eqAll sameD (h.ds.map Df.ct) _=_
  rw[hds]
  rfl
 rw[e1,hsame]
set_option maxRecDepth 100000 in
set_option maxHeartbeats 4000000 in
theorem keptY25_spec {I:GH} {M0:List Blk} (hT:Tabs I debL) {fu fu':Nat} {s want:List UInt8} {cs cw:List DfC} {a1 e a1' e':Int} {k k':IntKind} (hgr:grOf fu 52 s=some (cs,a1,k,e)) (hgw:grOf fu' 52 want=some (cw,a1',k',e')) (hwn:(⟨want.toArray⟩:ByteArray)≠⟨#[]⟩)
  {x:Rw} (hx:RwW I x) (hxn:x.n≤1000000) {ds:List Df} (hk1:keepOk debL (grC cs) x.l=true) (hd:keepL ((marks64 x.l).take (grC cs).n) (grC cs).ds=ds) (hsame:sameG (grL ds) (grC cw)=true) (hsm:(ds.all fun d=>decide (d.t.n≤1000000))=true) :
  Spec Tryz.prog 36 [.string ⟨s.toArray⟩,.string ⟨want.toArray⟩,x.val] I M0 fun v I' M'=>v=.bool true∧(∀ b o,I b=some o→I' b=some o)∧M'=M0:=by
 refine spec_of_V [] TryzEOK Tryz.func36 rfl rfl rfl ?_
 intro B h0
 refine CallOb.whole _ (read25 hT hgr) ?_
 rintro v J1 N - ⟨hJ1,hN,g,rfl,hg,hR⟩
 subst N
 have hT1:=hT.mono hJ1
 have hgct:=gr_ct hR hg
 rw[←hgct,keepOk_ct] at hk1
 have hd2:(keepL ((marks64 x.l).take g.n) g.ds).map Df.ct=ds:=by
  rw[←hgct] at hd
  rw[←hd,←keepL_map]
  rfl
 refine CallOb.whole _ (Keep_fr hT1 hg (hx.mono hJ1) hxn) ?_
 rintro v J2 N - ⟨hJ2,hN,h,rfl,hh,hct⟩
 subst N
 rw[hk1]
 have hct2:h.ct=(grL (keepL ((marks64 x.l).take g.n) g.ds)).ct:=by rw[hct,keptL,hk1,if_pos rfl]
 have hT2:=hT1.mono hJ2
 have hds:h.ds.map Df.ct=ds:=(congrArg Gr.ds hct2).trans hd2
 have hsmall:∀ d∈h.ds,d.t.n≤1099511627776:=fun d hd=>by
  have h1:d.ct∈ds:=by rw[←hds];exact List.mem_map.2 ⟨d,hd,rfl⟩
  have h2:=of_decide_eq_true (List.all_eq_true.1 hsm _ h1)
  have h3:d.ct.t.n=d.t.n:=rfl
  omega
 refine CondOb.mk (fun h=>absurd (of_decide_eq_true h) hwn) (fun _=>?_)
 refine CodeOb.draw TryzEOK rfl rfl rfl ?_
 refine GuardOb.mk (fun _=>?_) (fun h=>absurd h (by simp))
 refine PCallOb.whole _ (read25 hT2 hgw) (fun v I' M' h x hx=>by rw[h.2.1];exact hx) ?_
 rintro v J3 N - ⟨hJ3,hN,w,rfl,hw,hRw⟩
 subst N
 refine CallOb.whole _ (GSame_spec (hT2.mono hJ3) (hh.mono hJ3) hw hsmall) ?_
 rintro v J4 N - ⟨rfl,hJ4,hN⟩
 subst N
 refine⟨_,_,.refl,?_,fun b o h=>hJ4 _ _ (hJ3 _ _ (hJ2 _ _ (hJ1 _ _ h))),rfl⟩
 have e1:sameG h w=sameG (grL ds) (grC cw):=by
  rw[←sameG_ct h w,gr_ct hRw hw]
  unfold sameG
  show eqAll sameD (h.ds.map Df.ct) _=_
  rw[hds]
  rfl
 rw[e1,hsame]
theorem keptN25_spec {I:GH} {M0:List Blk} (hT:Tabs I debL) {fu:Nat} {s:List UInt8} {cs:List DfC} {a1 e:Int} {k:IntKind} (hgr:grOf fu 52 s=some (cs,a1,k,e))
  {x:Rw} (hx:RwW I x) (hxn:x.n≤1000000) (hk1:keepOk debL (grC cs) x.l=false) :
  Spec Tryz.prog 36 [.string ⟨s.toArray⟩,.string ⟨#[]⟩,x.val] I M0 fun v I' M'=>v=.bool true∧(∀ b o,I b=some o→I' b=some o)∧M'=M0:=by
 refine spec_of_V [] TryzEOK Tryz.func36 rfl rfl rfl ?_
 intro B h0
 refine CallOb.whole _ (read25 hT hgr) ?_
 rintro v J1 N - ⟨hJ1,hN,g,rfl,hg,hR⟩
 subst N
 have hT1:=hT.mono hJ1
 rw[←gr_ct hR hg,keepOk_ct] at hk1
 refine CallOb.whole _ (Keep_fr hT1 hg (hx.mono hJ1) hxn) ?_
 rintro v J2 N - ⟨hJ2,hN,h,rfl,hh,hct⟩
 subst N
 rw[hk1]
 have hn:h.n=0:=by
  have:=congrArg Gr.n hct
  rw[keptL,hk1] at this
  exact this
 refine CondOb.mk (fun _=>?_) (fun h=>absurd h (by simp))
 refine GuardOb.mk (fun _=>?_) (fun h=>absurd h (by simp))
 refine⟨_,_,.refl,?_,fun b o h=>hJ2 _ _ (hJ1 _ _ h),rfl⟩
 rw[hn]
 rfl
def pc25_0:List DfC:=[⟨[97],⟨[⟨2,0,0,0,0,[120],0,0,[]⟩],0⟩⟩,⟨[98],⟨[⟨3,0,0,0,0,[99],0,0,[]⟩],0⟩⟩,⟨[99],⟨[⟨3,0,0,0,0,[98],0,0,[]⟩,⟨2,0,0,0,0,[121],0,0,[]⟩,⟨4,0,0,0,0,[],0,0,[0,1]⟩,⟨0,0,0,0,0,[],0,0,[]⟩,⟨5,0,0,0,0,[],0,0,[2,3]⟩],4⟩⟩]
theorem pg25_0:grOf 100000 52 [97,32,60,45,32,34,120,34,32,98,32,60,45,32,99,32,99,32,60,45,32,98,32,34,121,34,32,47,32,34,34]=some (pc25_0,0,.i64,0):=by kernel_rfl
def pc25_1:List DfC:=[⟨[97],⟨[⟨2,0,0,0,0,[120],0,0,[]⟩],0⟩⟩,⟨[98],⟨[⟨2,0,0,0,0,[121],0,0,[]⟩,⟨3,0,0,0,0,[99],0,0,[]⟩,⟨4,0,0,0,0,[],0,0,[0,1]⟩],2⟩⟩,⟨[99],⟨[⟨2,0,0,0,0,[122],0,0,[]⟩,⟨3,0,0,0,0,[98],0,0,[]⟩,⟨4,0,0,0,0,[],0,0,[0,1]⟩,⟨0,0,0,0,0,[],0,0,[]⟩,⟨5,0,0,0,0,[],0,0,[2,3]⟩],4⟩⟩]
theorem pg25_1:grOf 100000 52 [97,32,60,45,32,34,120,34,32,98,32,60,45,32,34,121,34,32,99,32,99,32,60,45,32,34,122,34,32,98,32,47,32,34,34]=some (pc25_1,0,.i64,0):=by kernel_rfl
def pc25_2:List DfC:=[⟨[97],⟨[⟨2,0,0,0,0,[120],0,0,[]⟩],0⟩⟩]
theorem pg25_2:grOf 100000 52 [97,32,60,45,32,34,120,34]=some (pc25_2,0,.i64,0):=by kernel_rfl
def pc25_3:List DfC:=[⟨[97],⟨[⟨3,0,0,0,0,[98],0,0,[]⟩],0⟩⟩,⟨[98],⟨[⟨0,0,0,0,0,[],0,0,[]⟩],0⟩⟩]
theorem pg25_3:grOf 100000 52 [97,32,60,45,32,98,32,98,32,60,45,32,34,34]=some (pc25_3,0,.i64,0):=by kernel_rfl
def pc25_4:List DfC:=[⟨[97],⟨[⟨3,0,0,0,0,[98],0,0,[]⟩],0⟩⟩,⟨[98],⟨[⟨2,0,0,0,0,[120],0,0,[]⟩],0⟩⟩,⟨[99],⟨[⟨3,0,0,0,0,[97],0,0,[]⟩],0⟩⟩]
theorem pg25_4:grOf 100000 52 [97,32,60,45,32,98,32,98,32,60,45,32,34,120,34,32,99,32,60,45,32,97]=some (pc25_4,0,.i64,0):=by kernel_rfl
def pc25_5:List DfC:=[⟨[97],⟨[⟨3,0,0,0,0,[98],0,0,[]⟩],0⟩⟩,⟨[98],⟨[⟨2,0,0,0,0,[120],0,0,[]⟩],0⟩⟩]
theorem pg25_5:grOf 100000 52 [97,32,60,45,32,98,32,98,32,60,45,32,34,120,34]=some (pc25_5,0,.i64,0):=by kernel_rfl
theorem pn25_4:(⟨([97,32,60,45,32,98,32,98,32,60,45,32,34,120,34,32,99,32,60,45,32,97]:List UInt8).toArray⟩:ByteArray)≠⟨#[]⟩:=by decide
theorem pn25_5:(⟨([97,32,60,45,32,98,32,98,32,60,45,32,34,120,34]:List UInt8).toArray⟩:ByteArray)≠⟨#[]⟩:=by decide
theorem pk25_0:chk13 pc25_0 (flC pc25_0 5) 5=true:=by kernel_rfl
theorem pk25_1:chk13 pc25_1 (flC pc25_1 5) 5=true:=by kernel_rfl
theorem pk25_3:chk13 pc25_3 (flC pc25_3 5) 5=true:=by kernel_rfl
theorem pw25_0:(whereC (grC pc25_0).ds (flC pc25_0 5)).2=42:=by kernel_rfl
theorem ps25_1:stepC pc25_1 (flC pc25_1 5)=some 1:=by kernel_rfl
theorem ps25_3:stepC pc25_3 (flC pc25_3 5)=none:=by kernel_rfl
def pd25:List Df:=(doC pc25_1 (flC pc25_1 5) ⟨7,1,1,none,0,0,[],0⟩).2
theorem pd25_0:doC pc25_1 (flC pc25_1 5) ⟨7,1,1,none,0,0,[],0⟩=(0,pd25):=by kernel_rfl
theorem pd25_1:sameG (grL pd25) (grC pc25_2)=true:=by kernel_rfl
theorem pd25_2:pd25.length=1:=by kernel_rfl
theorem pd25_3:(pd25.all fun d=>decide (d.t.n≤1000000))=true:=by kernel_rfl
theorem pk25k_0:keepOk debL (grC pc25_4) [0,1]=true:=by kernel_rfl
def pl25_0:List Df:=keepL ((marks64 [0,1]).take (grC pc25_4).n) (grC pc25_4).ds
theorem pl25s_0:sameG (grL pl25_0) (grC pc25_5)=true:=by kernel_rfl
theorem pl25n_0:(pl25_0.all fun d=>decide (d.t.n≤1000000))=true:=by kernel_rfl
theorem pk25k_1:keepOk debL (grC pc25_4) [0]=false:=by kernel_rfl
theorem pk25k_2:keepOk debL (grC pc25_4) [2,0,1]=true:=by kernel_rfl
def pl25_2:List Df:=keepL ((marks64 [2,0,1]).take (grC pc25_4).n) (grC pc25_4).ds
theorem pl25s_2:sameG (grL pl25_2) (grC pc25_4)=true:=by kernel_rfl
theorem pl25n_2:(pl25_2.all fun d=>decide (d.t.n≤1000000))=true:=by kernel_rfl
theorem ints_row {I:GH} {b:Nat} {l:List Int} (hb:I b=none) (hl:∀ k∈l,i64ok k) (hn:l.length≤1000000):RwW (ins I b (.cells (l.map (.int .i64 ·)).toArray 3 (0,0))) ⟨some ⟨b,0,none⟩,l.length,l.length,l⟩:=
 ⟨⟨by simp,⟨Nat.le_refl _,(by omega:l.length * 0≤_)⟩,.inr ⟨⟨b,0,none⟩,rfl,rfl,_,_,_,ins_self ..,by simp only[List.drop_zero];exact List.take_of_length_le (by simp)⟩⟩,hl⟩
set_option maxRecDepth 100000 in
set_option maxHeartbeats 8000000 in
theorem awake25_spec {I:GH} (hT:Tabs I debL):Spec Tryz.prog 28 [] I [] fun v J M''=>v=.bool true∧(∀ b o,I b=some o→J b=some o)∧M''=[]:=by
 refine spec_of_V [] TryzEOK Tryz.func28 rfl rfl rfl ?_
 intro B h0
 refine CallOb.whole _ (read25 hT pg25_0) ?_
 rintro v I1 N - ⟨hI1,hN,g,rfl,hg,hR⟩
 subst N
 have hT1:=hT.mono hI1
 refine CallOb.whole _ (check_known hT1 (known13_of pk25_0) hg hR pw25_0) ?_
 rintro v I2 N - ⟨rfl,hI2,hN⟩
 subst N
 have hT2:=hT1.mono hI2
 refine GuardOb.mk (fun _=>?_) (fun h=>absurd h (by simp))
 refine AllocOb.mk fun b1 hb1 hM1=>?_
 refine CallOb.whole _ (these25_spec hT2 pg25_1 pk25_1 (o:=some 1) ps25_1 (fun r h=>by cases h;decide) (.inr ⟨1,⟨b1,0,none⟩,rfl,rfl,rfl,fun J M hM=>⟨rfl,_,_,_,.inr ⟨_,hM _ (.head _),rfl,rfl⟩,rfl,rfl⟩⟩)) ?_
 rintro v I3 N - ⟨rfl,hI3,hN⟩
 subst N
 have hT3:=hT2.mono hI3
 refine GuardOb.mk (fun _=>?_) (fun h=>by cases h)
 refine CallOb.mk [] [_] _ (.refl _) (comes25_spec hT3 pg25_1 pg25_2 pk25_1 (way:=1) (rule:=1) (at_:=0) (pa:=none) (pn:=0) (pc:=0) pd25_0 pd25_1 (by rw[pd25_2];decide) pd25_3) ?_
 rintro v I4 N - ⟨rfl,hI4,rfl⟩
 have hT4:=hT3.mono hI4
 refine GuardOb.mk (fun _=>?_) (fun h=>by cases h)
 refine CallOb.whole _ (these25_spec hT4 pg25_3 pk25_3 (o:=none) ps25_3 (fun r h=>by cases h) (.inl ⟨rfl,rfl⟩)) ?_
 rintro v I5 N - ⟨rfl,hI5,hN⟩
 subst N
 have hT5:=hT4.mono hI5
 refine GuardOb.mk (fun _=>?_) (fun h=>by cases h)
 refine AllocOb.mk fun c0 hc0' hM0'=>?_
 have hsp0:=keptY25_spec (M0:=[⟨b1,.cells #[.int .i64 1100] 3 (0,0)⟩]) (hT5.mono (ins_le hc0')) pg25_4 pg25_5 pn25_5 (ints_row (l:=[0,1]) hc0' (by simp[i64ok]) (by decide)) (Nat.le_of_ble_eq_true rfl) (ds:=pl25_0) pk25k_0 rfl pl25s_0 pl25n_0
 refine CallOb.mkW (ins I5 c0 (.cells (List.map (fun k:Int=>Value.int IntKind.i64 k) [0,1]).toArray 3 (0,0))) [⟨b1,.cells #[.int .i64 1100] 3 (0,0)⟩] [] _ (.prom (b:=c0) (o:=.cells (List.map (fun k:Int=>Value.int IntKind.i64 k) [0,1]).toArray 3 (0,0)) (post:=[⟨b1,.cells #[.int .i64 1100] 3 (0,0)⟩]) rfl (by simp) .refl) hsp0 ?_
 rintro v I6 N - - ⟨rfl,hI6,rfl⟩
 have hI6:∀ b o,I5 b=some o→I6 b=some o:=fun b o h=>hI6 _ _ (ins_le hc0' _ _ h)
 have hT6:=hT5.mono hI6
 refine GuardOb.mk (fun _=>?_) (fun h=>by cases h)
 refine AllocOb.mk fun c1 hc1' hM1'=>?_
 have hsp1:=keptN25_spec (M0:=[⟨b1,.cells #[.int .i64 1100] 3 (0,0)⟩]) (hT6.mono (ins_le hc1')) pg25_4 (ints_row (l:=[0]) hc1' (by simp[i64ok]) (by decide)) (Nat.le_of_ble_eq_true rfl) pk25k_1
 refine CallOb.mkW (ins I6 c1 (.cells (List.map (fun k:Int=>Value.int IntKind.i64 k) [0]).toArray 3 (0,0))) [⟨b1,.cells #[.int .i64 1100] 3 (0,0)⟩] [] _ (.prom (b:=c1) (o:=.cells (List.map (fun k:Int=>Value.int IntKind.i64 k) [0]).toArray 3 (0,0)) (post:=[⟨b1,.cells #[.int .i64 1100] 3 (0,0)⟩]) rfl (by simp) .refl) hsp1 ?_
 rintro v I7 N - - ⟨rfl,hI7,rfl⟩
 have hI7:∀ b o,I6 b=some o→I7 b=some o:=fun b o h=>hI7 _ _ (ins_le hc1' _ _ h)
 have hT7:=hT6.mono hI7
 refine GuardOb.mk (fun _=>?_) (fun h=>by cases h)
 refine AllocOb.mk fun c2 hc2' hM2'=>?_
 have hsp2:=keptY25_spec (M0:=[⟨b1,.cells #[.int .i64 1100] 3 (0,0)⟩]) (hT7.mono (ins_le hc2')) pg25_4 pg25_4 pn25_4 (ints_row (l:=[2,0,1]) hc2' (by simp[i64ok]) (by decide)) (Nat.le_of_ble_eq_true rfl) (ds:=pl25_2) pk25k_2 rfl pl25s_2 pl25n_2
 refine CallOb.mkW (ins I7 c2 (.cells (List.map (fun k:Int=>Value.int IntKind.i64 k) [2,0,1]).toArray 3 (0,0))) [⟨b1,.cells #[.int .i64 1100] 3 (0,0)⟩] [] _ (.prom (b:=c2) (o:=.cells (List.map (fun k:Int=>Value.int IntKind.i64 k) [2,0,1]).toArray 3 (0,0)) (post:=[⟨b1,.cells #[.int .i64 1100] 3 (0,0)⟩]) rfl (by simp) .refl) hsp2 ?_
 rintro v I8 N - - ⟨rfl,hI8,rfl⟩
 have hI8:∀ b o,I7 b=some o→I8 b=some o:=fun b o h=>hI8 _ _ (ins_le hc2' _ _ h)
 have hT8:=hT7.mono hI8
 exact⟨_,_,.sub (List.nil_sublist _) .refl,rfl,fun b o h=>hI8 _ _ (hI7 _ _ (hI6 _ _ (hI5 _ _ (hI4 _ _ (hI3 _ _ (hI2 _ _ (hI1 _ _ h))))))),rfl⟩
structure N4 (u:Tr) (x:Nat×Nat):Prop where
 q:x.2≤u.n
 p:x.1≤600
 small:x.1 < 200→u.n < 200∧x.2≤u.n∧u.n≤x.1∧∀ i (h:i < u.ns.length),i < x.2→Ns11 u.ns[i]
set_option maxRecDepth 100000 in
set_option maxHeartbeats 4000000 in
theorem wide25_spec {I:GH} {M0:List Blk} {u:Tr} (hW:TrW I u) :
  Spec Tryz.prog 77 [u.val] I M0 fun v I' M'=>(∃ w:Nat,v=.int .i64 w∧w≤600∧(w < 200→Ts11 u))∧I'=I∧M'=M0:=by
 refine spec_of_V [] TryzEOK Tryz.func77 rfl rfl rfl ?_
 intro B h0
 have hWn:=hW.n
 have hcap:=hW.rs.cap
 refine LoopOb.inv (ι:=Nat×Nat) (fun x=>{ fl:=[(1,.ref 1 0),(3,.val (.int .i64 x.1)),(4,.val (.int .i64 x.2))],cl:=[(1,u.cells)],gi:=I,mi:=M0 }) (fun x=>N4 u x) (fun x=>u.n - x.2) ?_ ?_
 ·refine⟨(min 200 u.n,0),⟨Nat.zero_le _,by simp only;omega,fun h=>⟨by simp only at h;omega,Nat.zero_le _,by simp only at h ⊢;omega,fun i _ h=>by simp at h⟩⟩,.refl,.cons .refl (.cons ?_ (.cons .refl .nil)),.cons rfl (.nil)⟩
  simp only
  rw[show ((min 200 u.n:Nat):Int)=min 200 (u.n:Int) by omega]
  exact .refl
 rintro⟨p,q⟩ ⟨hq,hp,hsm⟩
 simp only at hq hp hsm
 have fin:(p < 200→u.n≤q)→∃ w:Nat,Value.int .i64 (p:Int)=.int .i64 w∧w≤600∧(w < 200→Ts11 u):=fun h=>by
  refine⟨p,rfl,hp,fun h2=>?_⟩
  obtain⟨u1,u2,u3,u4⟩:=hsm h2
  have:=h h2
  exact⟨by omega,fun nd hnd=>by
   obtain⟨y,hy,rfl⟩:=List.getElem_of_mem hnd
   exact u4 y hy (by omega)⟩
 refine GuardOb.mk (fun h5=>CondOb.mk (fun h6=>?_) (fun h6=>?_)) (fun h5=>?_)
 ·have hql:q < u.n:=by simpa using h5
  have hp2:p < 200:=by have:=of_decide_eq_true h6;omega
  obtain⟨u1,u2,u3,u4⟩:=hsm hp2
  have hql':q < u.ns.length:=by omega
  obtain⟨bd,hbd,hrb⟩:=hW.rs.row Nd.cells_len hql hql'
  have hnd:=hW.ns _ (List.getElem_mem hql')
  have hts:=hnd.ts
  have r3:∀ M,Rd I M ((bd.add (q * 9)).add 8) 1 [.slice u.ns[q].ka u.ns[q].kn u.ns[q].kc]:=fun M=>(hrb M).part (k:=8) (m:=1) (by decide)
  have r4:∀ M,Rd I M ((bd.add (q * 9)).add 5) 1 [.string u.ns[q].t]:=fun M=>(hrb M).part (k:=5) (m:=1) (by decide)
  generalize hxx:u.ns[q]=nd at hnd hts r3 r4
  refine CodeOb.draw TryzEOK rfl rfl rfl ?_
  refine IdxOb.mk bd q hbd rfl hql ?_
  refine LoadOb.mk _ (r3 _) ?_
  refine ArithOb.mk ((p+min 200 nd.kn:Nat):Int) (wr_eq (by omega) (by omega)) ?_
  refine IdxOb.mk bd q hbd rfl hql ?_
  refine LoadOb.mk _ (r4 _) ?_
  refine DivOb.mk (by decide) ?_
  refine ArithOb.mk ((nd.t.size / 20:Nat):Int) (wr_eq (by rw[Int.tdiv_eq_ediv_of_nonneg (by omega)];omega) (by omega)) ?_
  refine ArithOb.mk ((p+min 200 nd.kn+min 200 (nd.t.size / 20):Nat):Int) (wr_eq (by omega) (by omega)) ?_
  refine ArithOb.mk _ (next_wr (i:=q) (by omega)) ?_
  refine⟨(_,q+1),⟨⟨by simp only;omega,by simp only;omega,fun h7=>?_⟩,by simp only;omega⟩,.refl,aF3,.cons rfl (.nil)⟩
  simp only at h7 ⊢
  refine⟨u1,by omega,by omega,fun i hi hi2=>?_⟩
  by_cases e:i=q
  ·subst e
   rw[hxx]
   exact⟨by omega,by omega⟩
  ·exact u4 i hi (by omega)
 ·have hp2:200≤p:=by have:=of_decide_eq_false h6;omega
  exact⟨_,_,.refl,fin (fun h=>by omega),rfl,rfl⟩
 ·have hql:u.n≤q:=by simpa using h5
  exact⟨_,_,.refl,fin (fun h=>hql),rfl,rfl⟩
structure N5 (g:Gr) (x:Nat×Nat):Prop where
 k:x.2≤g.n
 p:x.1≤1200
 small:x.1 < 200→x.2≤x.1∧∀ i (h:i < g.ds.length),i < x.2→Ds11 g.ds[i]
set_option maxRecDepth 100000 in
set_option maxHeartbeats 4000000 in
theorem large25_spec {I:GH} {g:Gr} (hg:GrW I g) :
  Spec Tryz.prog 37 [g.val,.slice none 0 0] I [] fun v I' M'=>(∃ r,v=.bool r∧(r=false→Gs11 g))∧I'=I∧M'=[]:=by
 refine spec_of_V [] TryzEOK Tryz.func37 rfl rfl rfl ?_
 intro B h0
 have hgn:=hg.n
 have hcap:=hg.rs.cap
 refine LoopOb.inv (ι:=Nat×Nat) (fun x=>{ fl:=[(1,.val (.slice none 0 0)),(2,.ref 2 0),(5,.val (.int .i64 x.1)),(6,.val (.int .i64 x.2))],cl:=[(2,[.slice g.a g.n g.c])],gi:=I }) (fun x=>N5 g x) (fun x=>g.n - x.2) ?_ ?_
 ·exact⟨(0,0),⟨Nat.zero_le _,Nat.zero_le _,fun h=>⟨Nat.le_refl _,fun i _ h=>by simp at h⟩⟩,.refl,aF4,.cons rfl (.nil)⟩
 rintro⟨p,k⟩ ⟨hk,hp,hsm⟩
 simp only at hk hp hsm
 have fin:(p < 200→g.n≤k)→∀ c:Bool,c=decide ((200:Int)≤(p:Int))→(c=false→Gs11 g):=fun h c hc hf=>by
  rw[hf] at hc
  have hp2:p < 200:=by
   have:=of_decide_eq_false hc.symm
   omega
  obtain⟨u1,u2⟩:=hsm hp2
  have:=h hp2
  exact⟨by omega,fun d hd=>by
   obtain⟨y,hy,rfl⟩:=List.getElem_of_mem hd
   exact u2 y hy (by omega)⟩
 refine GuardOb.mk (fun h5=>CondOb.mk (fun h6=>?_) (fun h6=>?_)) (fun h5=>?_)
 ·have hkl:k < g.n:=by simpa using h5
  have hp2:p < 200:=by have:=of_decide_eq_true h6;omega
  obtain⟨u1,u2⟩:=hsm hp2
  have hkl':k < g.ds.length:=by omega
  obtain⟨ad,had,hrd⟩:=hg.rs.row Df.cells_len hkl hkl'
  have hd:=hg.ds _ (List.getElem_mem hkl')
  have hnm:=hd.name
  have hW:=hd.t
  have r1:∀ M,Rd I M ((ad.add (k * 3)).add 0) 1 [.string g.ds[k].name]:=fun M=>(hrd M).part (k:=0) (m:=1) (by decide)
  have r2:∀ M,Rd I M ((ad.add (k * 3)).add 1) 2 g.ds[k].t.cells:=fun M=>(hrd M).part (k:=1) (m:=2) (by decide)
  have hds:g.ds[k]=⟨g.ds[k].name,g.ds[k].t⟩:=rfl
  generalize g.ds[k].name=nm at hnm r1 hds
  generalize g.ds[k].t=u at hW r2 hds
  refine CodeOb.draw TryzEOK rfl rfl rfl ?_
  refine ArithOb.mk ((p+1:Nat):Int) (wr_eq (by omega) (by omega)) ?_
  refine IdxOb.mk ad k had rfl hkl ?_
  refine LoadOb.mk _ (r1 _) ?_
  refine DivOb.mk (by decide) ?_
  refine ArithOb.mk ((nm.size / 20:Nat):Int) (wr_eq (by rw[Int.tdiv_eq_ediv_of_nonneg (by omega)];omega) (by omega)) ?_
  refine ArithOb.mk ((p+1+min 200 (nm.size / 20):Nat):Int) (wr_eq (by omega) (by omega)) ?_
  refine IdxOb.mk ad k had rfl hkl ?_
  refine LoadOb.mk _ (r2 _) ?_
  refine PCallOb.whole _ (wide25_spec hW) (fun v I' M' h x hx=>by rw[h.2.2];exact hx) ?_
  rintro v K1 N - ⟨⟨w,rfl,hw,hws⟩,hK1,hN⟩
  subst K1
  subst N
  refine ArithOb.mk ((p+1+min 200 (nm.size / 20)+w:Nat):Int) (wr_eq (by omega) (by omega)) ?_
  refine ArithOb.mk _ (next_wr (i:=k) (by omega)) ?_
  refine⟨(_,k+1),⟨⟨by simp only;omega,by simp only;omega,fun h7=>?_⟩,by simp only;omega⟩,.refl,aF4,.cons rfl (.nil)⟩
  simp only at h7 ⊢
  refine⟨by omega,fun i hi hi2=>?_⟩
  by_cases e:i=k
  ·subst e
   rw[hds]
   exact⟨by simp only;omega,hws (by omega)⟩
  ·exact u2 i hi (by omega)
 ·have hp2:200≤p:=by have:=of_decide_eq_false h6;omega
  refine LoopOb.unroll 1 ?_
  refine GuardOb.mk (fun h=>absurd h (by simp)) (fun _=>?_)
  exact⟨_,_,.refl,⟨_,rfl,fin (fun h=>by omega) _ rfl⟩,rfl,rfl⟩
 ·have hkl:g.n≤k:=by simpa using h5
  refine LoopOb.unroll 1 ?_
  refine GuardOb.mk (fun h=>absurd h (by simp)) (fun _=>?_)
  exact⟨_,_,.refl,⟨_,rfl,fin (fun h=>hkl) _ rfl⟩,rfl,rfl⟩
theorem sameT_of {a b:Tr} (h:a.ct=b.ct) (hr:right b=true):sameT a b=true:=by
 rw[←sameT_ct,h,sameT_ct]
 unfold sameT
 rw[decide_eq_true rfl,hr,eqAll_self ndB_self]
 rfl
section
variable {deb:List Int} {g:Gr} (hn:g.ds.length=g.n) (hm:mayG deb g=0)
include hn hm
theorem from_useless:((uselessG deb g).head?.isSome)=decide ((((fromG deb g 0).length:Nat):Int) < (g.n:Int))∧(fromG deb g 0).length≤g.n:=by
 have h0:=(may_split.1 hm).1
 have hL:=callsL_valid hn
 have hl:(callsL g).length=g.ds.length:=by simp[callsL]
 have hfl:=(fromL_ok hL (i:=0) (by omega)).len
 have hG:fromG deb g 0=listL true 0 (fromL (callsL g) 0):=by
  unfold fromG
  have:inR 0 g.n=true:=by
   unfold inR
   simp
   omega
  rw[this,decide_eq_true hm]
  rfl
 have hU:uselessG deb g=listL false 0 (fromL (callsL g) 0):=by
  unfold uselessG
  rw[decide_eq_true hm,decide_eq_false (by omega)]
  rfl
 have hb:=listL_both (fromL (callsL g) 0) 0 0
 rw[hfl,hl] at hb
 rw[hG,hU]
 refine⟨?_,by omega⟩
 cases e:listL false 0 (fromL (callsL g) 0) with
 | nil=>
  rw[e] at hb
  simp only[List.length_nil] at hb
  symm
  exact decide_eq_false (by omega)
 | cons u l=>
  rw[e] at hb
  simp only[List.length_cons] at hb
  symm
  exact decide_eq_true (by omega)
theorem pruned_row {h:Gr} (hct:h.ct=(grL (keepL (fromL (callsL g) 0) g.ds)).ct) (i:Nat) (hi:i < h.ds.length):∃ z:Nat,∃ hz:z < g.ds.length,(i=0→z=0)∧(fromG deb g 0)[i]?=some (z:Int)∧h.ds[i].name=g.ds[z].name∧h.ds[i].t.ct=g.ds[z].t.ct:=by
 have h0:=(may_split.1 hm).1
 obtain⟨h1,hk⟩:=keeps_from hn hm (i:=0) (by omega)
 obtain⟨p1,p2,p3,p4,p5⟩:=pruned hn hm hct
 have hds:h.ds.map Df.ct=(keepL (fromL (callsL g) 0) g.ds).map Df.ct:=congrArg Gr.ds hct
 have hlen:h.ds.length=(keepL (fromL (callsL g) 0) g.ds).length:=by simpa using congrArg List.length hds
 obtain⟨q1,q2⟩:=hk.get (i:=i) (by omega)
 have e:h.ds[i].ct=(keepL (fromL (callsL g) 0) g.ds)[i].ct:=by
  have:=congrArg (fun l=>l[i]?) hds
  simp only[List.getElem?_map] at this
  rw[List.getElem?_eq_getElem hi,List.getElem?_eq_getElem (by omega)] at this
  exact Option.some.inj this
 rw[←q2] at e
 have en:=congrArg Df.name e
 have et:=congrArg Df.t e
 exact⟨_,q1,(fun e=>by rw[e];exact p3),p5 i (by omega),en,et⟩
end
theorem right_of_may {deb:List Int} {g:Gr} (hm:mayG deb g=0):∀ d∈g.ds,right d.t=true:=fun d hd=>by
 have:=List.all_eq_true.1 (may_ok hm) d hd
 simp only[normal,Bool.and_eq_true] at this
 exact this.2.1
theorem kbs_kept {I J:GH} {g h:Gr} (hg:g.ok I) (hh:h.ok J) {s:List Bool} (hct:h.ct=(grL (keepL s g.ds)).ct) (hk:∀ d∈g.ds,KB d.t):∀ d∈h.ds,KB d.t:=
 kbs_ct hg.ds hh.ds (fun d hd=>by
  have h5:d.ct∈(keepL s g.ds).map Df.ct:=by
   rw[←show h.ds.map Df.ct=(keepL s g.ds).map Df.ct from congrArg Gr.ds hct]
   exact List.mem_map.2 ⟨d,hd,rfl⟩
  obtain⟨e,he,h6⟩:=List.mem_map.1 h5
  exact⟨e,(keepL_sub s g.ds).subset he,h6.symm⟩) hk
theorem Rd.up {I J:GH} {M:List Blk} {a:Addr} {n:Nat} {vs:List Value} (h:Rd I M a n vs) (hI:∀ b o,I b=some o→J b=some o):Rd J M a n vs:=by
 obtain⟨h1,cs,T,fr,h2,h3⟩:=h
 exact⟨h1,cs,T,fr,h2.imp (hI _ _) id,h3⟩
set_option maxRecDepth 100000 in
set_option maxHeartbeats 16000000 in
theorem pruneNeeded_V {I:GH} (hT:Tabs I debL) {g:Gr} (hgw:GrW I g):SpecE Tryz.prog 9 [g.val] I [] fun v I' M'=>v=.bool true:=by
 refine specE_of_V [] TryzEOK Tryz.func9 rfl rfl rfl ?_
 intro B h0
 refine CallOb.mk [] [] _ (.refl _) (large25_spec hgw) ?_
 rintro v J N - ⟨⟨r,rfl,hr⟩,hJ',hN'⟩
 subst J
 subst N
 cases r with
 | true=>
  refine GuardOb.mk (fun h=>absurd h (by simp)) (fun _=>?_)
  refine CallOb.mk [] [] _ (.refl _) (awake25_spec hT) ?_
  rintro v J1 N - ⟨rfl,hJ1,rfl⟩
  exact⟨_,_,.refl,rfl⟩
 | false=>
 refine GuardOb.mk (fun _=>?_) (fun h=>absurd h (by simp))
 refine CallOb.mk [] [] _ (.refl _) (awake25_spec hT) ?_
 rintro v J1 N - ⟨rfl,hJ1,rfl⟩
 refine CondOb.mk (fun h=>by cases h) (fun _=>?_)
 have hgs:=hr rfl
 have hT:=hT.mono hJ1
 have hg:=(hgw.mono hJ1).ok11 hgs
 have hgn:=hg.n
 have hg400:=hgs.n
 clear hgw hr
 have hkg:∀ d∈g.ds,KB d.t:=fun d hd n hn=>by have:=((hgs.ds d hd).t.ns n hn).kn;omega
 have hsmall:∀ d∈g.ds,d.t.n < 400:=fun d hd=>(hgs.ds d hd).t.n
 refine CallOb.whole _ (First_spec hT hg (by omega) hkg) ?_
 rintro v J2 N - ⟨hJ2,hN,o,ho,rfl⟩
 subst N
 have hT2:=hT.mono hJ2
 have hg2:=hg.mono hJ2
 refine CallOb.whole _ (WCheckM hT2 hg2 hkg) ?_
 rintro v J3 N - ⟨hJ3,hN,ra,rfl,hra⟩
 subst N
 have ho2:o=if ra.2=0 then (uselessG debL g).head? else none:=by
  obtain⟨r,h1,h2⟩:=ho
  rw[h1.eq hra] at h2
  exact h2
 by_cases h1:ra.2=0
 rotate_left
 ·refine CondOb.mk (fun _=>?_) (fun h=>absurd h (by simp[h1]))
  rw[if_neg h1] at ho2
  exact⟨_,_,.refl,by rw[ho2];rfl⟩
 refine CondOb.mk (fun h=>absurd h (by simp[h1])) (fun _=>?_)
 rw[if_pos h1] at ho2
 have hm:mayG debL g=0:=by
  rcases hra with ⟨a,e⟩ | ⟨a,-⟩
  ·rw[e] at h1
   exact h1
  ·exact a
 have hT3:=hT2.mono hJ3
 have hg3:=hg2.mono hJ3
 obtain⟨hfu,hfn⟩:=from_useless hgn hm
 rw[←ho2] at hfu
 refine CallOb.mk [] [] _ (.refl _) (From_spec hT3 hg3 (by omega) 0) ?_
 rintro v J4 N - ⟨hJ4,x,rfl,hx,hxl,rfl⟩
 have hxn:=hx.n
 rw[←hxl,hxn] at hfu hfn
 have hT4:=hT3.mono hJ4
 have hg4:=hg3.mono hJ4
 refine GuardOb.mk (fun _=>?_) (fun h=>absurd h (by simp[hfu]))
 refine CallOb.whole _ (Steps_spec hT4 hg4 (by omega) hkg) ?_
 rintro v J5 N - ⟨hJ5,o5,os5,ho5,hos5,rfl,hN⟩
 subst N
 have hl5:os5.n≤1:=by
  have:=hos5.len
  rw[flat_len _ 5 Stp.cells_len] at this
  cases o5 with
  | none=>simp[stepsL] at this;omega
  | some u=>simp[stepsL] at this;omega
 refine CondOb.mk (fun h=>by have:(1:Int) < (os5.n:Int):=of_decide_eq_true h;omega) (fun _=>?_)
 have hT5:=hT4.mono hJ5
 have hg5:=hg4.mono hJ5
 refine CondOb.mk (fun h=>?_) (fun h=>?_)
 ·have h:(!o.isSome)=true:=h
  have hn:uselessG debL g=[]:=by
   rw[ho2] at h
   cases e:uselessG debL g with
   | nil=>rfl
   | cons u l=>rw[e] at h;cases h
  refine CallOb.mk [] (os5.blk 59++[]) _ (.refl _) (Useless_spec hT5 hg5 (by omega)) ?_
  rintro v J6 N - ⟨hJ6,y,rfl,hy,hyl,rfl⟩
  have hyn:=hy.n
  rw[hyl,hn] at hyn
  refine⟨_,_,.refl,?_⟩
  show Value.bool (decide ((y.n:Int)=0))=_
  rw[←hyn]
  rfl
 have hsome:o.isSome=true:=by
  have h:(!o.isSome)=false:=h
  simpa using h
 clear h
 refine CallOb.whole _ (Do_fr hT5 hg5 hkg (stO o)) ?_
 rintro v J6 N - ⟨hJ6,hN,r,h,hrd,rfl,hh,hct⟩
 subst N
 have hrr:r=(0,keepL (fromL (callsL g) 0) g.ds):=by
  obtain⟨x',h2,h3⟩:=hrd
  rw[h2.eq hra,if_pos h1,←ho2] at h3
  rw[h3,if_pos]
  cases o with
  | none=>cases hsome
  | some u=>simp[isStepB,stO]
 have hr1:r.1=0:=by rw[hrr]
 have hct:h.ct=(grL (keepL (fromL (callsL g) 0) g.ds)).ct:=by rw[hct,hrr]
 clear hrr hrd
 have hT6:=hT5.mono hJ6
 obtain⟨hsl,hk⟩:=keeps_from hgn hm (i:=0) (by have:=may_pos hm;omega)
 obtain⟨p1,p2,p3,p4,-⟩:=pruned hgn hm hct
 have hkh:=kbs_kept hg5 hh hct hkg
 have hhn:=hh.n
 have hF:∃ F,IsFlow g.ds F:=by
  rcases hra with ⟨a,-⟩ | ⟨-,F,hF,-⟩
  ·exact absurd hm a
  ·exact⟨F,hF⟩
 obtain⟨F,hF⟩:=hF
 have hw:=(hra.get hm).1 h1
 rw[flowG_eq hF] at hw
 obtain⟨hm',F',hF',hl',hlo'⟩:=keep_well hg5 hk hct p4 hm hF hw.1 hw.2
 have hux:uselessG debL h=[]:=by
  unfold uselessG
  rw[p2]
  cases decide (mayG debL h=0) && !decide ((h.n:Int)=0)<;>rfl
 have hrow:=pruned_row hgn hm hct
 have hhx:h.n=x.n:=by rw[p1,←hxl,hxn]
 have hhpos:0 < h.ds.length:=by
  have:h.n=(keepL (fromL (callsL g) 0) g.ds).length:=congrArg Gr.n hct
  omega
 have hz0:0 < g.ds.length:=by have:=may_pos hm;omega
 have hnm0:h.ds[0].name=g.ds[0].name:=by
  obtain⟨z0,hz0,hzz,-,hnm0,-⟩:=hrow 0 hhpos
  have hz00:=hzz rfl
  subst hz00
  exact hnm0
 obtain⟨ad0,had0,hrdh0⟩:=hh.rs.row Df.cells_len (show 0 < h.n by omega) hhpos
 obtain⟨bd0,hbd0,hrdg0⟩:=(hg5.mono hJ6).rs.row Df.cells_len (show 0 < g.n by omega) hz0
 have r01:∀ M,Rd J6 M ((ad0.add (0 * 3)).add 0) 1 [.string h.ds[0].name]:=fun M=>(hrdh0 M).part (k:=0) (m:=1) (by decide)
 have r02:∀ M,Rd J6 M ((bd0.add (0 * 3)).add 0) 1 [.string g.ds[0].name]:=fun M=>(hrdg0 M).part (k:=0) (m:=1) (by decide)
 rw[hnm0] at r01
 generalize g.ds[0].name=nm00 at r01 r02
 refine CodeOb.draw TryzEOK rfl rfl rfl ?_
 refine GuardOb.mk (fun _=>?_) (fun h=>absurd h (by simp[hr1]))
 refine CallOb.whole _ (WCheckM hT6 hh hkh) ?_
 rintro v J7 N - ⟨hJ7,hN,rb,rfl,hrb⟩
 subst N
 have hb0:rb.2=0:=by
  have:=(hrb.get hm').2
  rw[flowG_eq hF'] at this
  exact this ⟨hl',hlo'⟩
 have hT7:=hT6.mono hJ7
 have hh7:=hh.mono hJ7
 refine GuardOb.mk (fun _=>?_) (fun h=>absurd h (by simp[hb0]))
 refine GuardOb.mk (fun _=>?_) (fun h=>absurd h (by simp[hhx]))
 refine CallOb.mk [] (os5.blk 59++[]) _ (.refl _) (Useless_spec hT7 hh7 (by omega)) ?_
 rintro v J8 N - ⟨hJ8,y,rfl,hy,hyl,rfl⟩
 have hyn:y.n=0:=by
  have:=hy.n
  rw[hyl,hux] at this
  exact this.symm
 have hT8:=hT7.mono hJ8
 have hh8:=hh7.mono hJ8
 refine GuardOb.mk (fun _=>?_) (fun h=>absurd h (by simp[hyn]))
 refine CallOb.whole _ (Steps_spec hT8 hh8 (by omega) hkh) ?_
 rintro v J9 N - ⟨hJ9,o9,os9,ho9,hos9,rfl,hN⟩
 subst N
 have hn9:os9.n=0:=by
  have e9:o9=none:=by
   obtain⟨r9,-,h9⟩:=ho9
   rw[hux] at h9
   rw[h9]
   split<;>rfl
  have:=hos9.len
  rw[flat_len _ 5 Stp.cells_len,e9] at this
  simp[stepsL] at this
  omega
 have hh9:=hh8.mono hJ9
 have hT9:=hT8.mono hJ9
 have hg9:=(((hg5.mono hJ6).mono hJ7).mono hJ8).mono hJ9
 refine GuardOb.mk (fun _=>?_) (fun h=>absurd h (by simp[hn9]))
 have hle9:∀ b o,J6 b=some o→J9 b=some o:=fun b o h=>hJ9 _ _ (hJ8 _ _ (hJ7 _ _ h))
 refine IdxOb.mk ad0 0 had0 rfl (show 0 < h.n by omega) ?_
 refine LoadOb.mk _ ((r01 _).up hle9) ?_
 refine IdxOb.mk bd0 0 hbd0 rfl (show 0 < g.n by omega) ?_
 refine LoadOb.mk _ ((r02 _).up hle9) ?_
 refine CondOb.mk (fun h=>absurd h (by simp)) (fun _=>?_)
 have hx9:=(((((hx.mono hJ5).mono hJ6).mono hJ7).mono hJ8).mono hJ9)
 refine LoopOb.inv (ι:=Nat×GH) (fun q=>{ fl:=[(1,.ref 1 0),(5,.val x.val),(6,.ref 6 0),(8,.val (.int .i64 q.1))],cl:=[(1,[.slice g.a g.n g.c]),(6,[.slice h.a h.n h.c])],gi:=q.2,mi:=[] }) (fun q=>q.1≤x.n∧∀ c o,J9 c=some o→q.2 c=some o) (fun q=>x.n - q.1) ?_ ?_
 ·exact⟨(0,J9),⟨Nat.zero_le _,fun _ _ h=>h⟩,.sub (List.nil_sublist _) .refl,aF4,.cons rfl (.cons rfl (.nil))⟩
 rintro⟨i,J⟩ ⟨hi,hJ⟩
 simp only at hi hJ
 refine CondOb.mk (fun h2=>?_) (fun h2=>?_)
 rotate_left
 ·exact⟨_,_,.refl,rfl⟩
 have hlt:i < x.n:=by have:(i:Int) < (x.n:Int):=of_decide_eq_true h2;omega
 have hih:i < h.ds.length:=by omega
 obtain⟨z,hz,-,hfz,hnm,htc⟩:=hrow i hih
 have hxz:x.l[i]?=some (z:Int):=by rw[hxl];exact hfz
 obtain⟨hxi,hxz⟩:=List.getElem?_eq_some_iff.1 hxz
 have hhJ:=hh9.mono hJ
 have hgJ:=hg9.mono hJ
 obtain⟨ad,had,hrdh⟩:=hhJ.rs.row Df.cells_len (show i < h.n by omega) hih
 obtain⟨bd,hbd,hrdg⟩:=hgJ.rs.row Df.cells_len (show z < g.n by omega) hz
 obtain⟨cd,hcd,hrdx⟩:=(hx9.mono hJ).rs.one hlt hxi
 rw[hxz] at hrdx
 have r1:∀ M,Rd J M ((ad.add (i * 3)).add 0) 1 [.string h.ds[i].name]:=fun M=>(hrdh M).part (k:=0) (m:=1) (by decide)
 have r2:∀ M,Rd J M ((bd.add (z * 3)).add 0) 1 [.string g.ds[z].name]:=fun M=>(hrdg M).part (k:=0) (m:=1) (by decide)
 have r3:∀ M,Rd J M ((ad.add (i * 3)).add 1) 2 h.ds[i].t.cells:=fun M=>(hrdh M).part (k:=1) (m:=2) (by decide)
 have r4:∀ M,Rd J M ((bd.add (z * 3)).add 1) 2 g.ds[z].t.cells:=fun M=>(hrdg M).part (k:=1) (m:=2) (by decide)
 have hth:=(hhJ.ds _ (List.getElem_mem hih)).t
 have htg:=(hgJ.ds _ (List.getElem_mem hz)).t
 have htn:h.ds[i].t.n≤1099511627776:=by
  have e0:=congrArg Tr.n htc
  have e:h.ds[i].t.n=g.ds[z].t.n:=e0
  have:=hsmall _ (List.getElem_mem hz)
  omega
 have hst:=sameT_of htc (right_of_may hm _ (List.getElem_mem hz))
 rw[hnm] at r1
 generalize h.ds[i].t=th at r3 hth htn hst
 generalize g.ds[z].t=tg at r4 htg hst
 generalize g.ds[z].name=nm at r1 r2
 refine CodeOb.draw TryzEOK rfl rfl rfl ?_
 refine IdxOb.mk ad i had rfl (by omega) ?_
 refine LoadOb.mk _ (r1 _) ?_
 refine IdxOb.mk cd i hcd rfl hlt ?_
 refine LoadOb.mk _ (hrdx _) ?_
 refine IdxOb.mk bd z hbd rfl (by omega) ?_
 refine LoadOb.mk _ (r2 _) ?_
 refine GuardOb.mk (fun _=>?_) (fun h=>absurd h (by simp))
 refine IdxOb.mk ad i had rfl (by omega) ?_
 refine LoadOb.mk _ (r3 _) ?_
 refine IdxOb.mk cd i hcd rfl hlt ?_
 refine LoadOb.mk _ (hrdx _) ?_
 refine IdxOb.mk bd z hbd rfl (by omega) ?_
 refine LoadOb.mk _ (r4 _) ?_
 refine CallOb.whole _ (TSame_spec (hT9.mono hJ) hth htg htn) ?_
 rintro v K N - ⟨rfl,hK,hN⟩
 subst N
 refine CondOb.mk (fun h=>absurd h (by simp[hst])) (fun _=>?_)
 refine ArithOb.mk _ (next_wr (i:=i) (by omega)) ?_
 exact⟨(i+1,K),⟨⟨hlt,fun c o h=>hK _ _ (hJ _ _ h)⟩,by simp only;omega⟩,.refl,aF4,.cons rfl (.cons rfl (.nil))⟩
end Go.V
