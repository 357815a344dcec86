/-
  Part 6 of what the proofs of this seat share: the executor, data in memory, walks.
-/
import Derived.Test.YtmijfbjkkllhlaaGreatDoorK5
import Derived.Test.YtmijfbjkkllhlaaGreatDoorK3
import Derived.Test.YtmijfbjkkllhlaaGreatDoorK2
set_option linter.all false
namespace Go.V
open Go Go.Proofs
def fiRow (b:Nat) (l:List Fi):Blk:=⟨b,.cells (l.flatMap Fi.cells).toArray 67 (0,0)⟩
theorem fi_len (l:List Fi):(l.flatMap Fi.cells).length=l.length * 5:=flat_len _ 5 Fi.cells_len l
theorem fiRow_rd {I:GH} {M:List Blk} {b:Nat} {l:List Fi} (hM:fiRow b l∈M) {j:Nat} (hj:j < l.length):Rd I M ((⟨b,0,none⟩:Addr).add (j * 5)) 5 l[j].cells:=by
 have h:=blk_rd (I:=I) (cs:=l.flatMap Fi.cells) (k:=j * 5) (n:=5) hM (by rw[fi_len];omega)
 rwa [flat_at Fi.cells 5 Fi.cells_len l j hj] at h
theorem fiRow_at {I:GH} {M:List Blk} {b:Nat} {l:List Fi} (hM:fiRow b l∈M):IsAt I M (some ⟨b,0,none⟩) l.length l:=
 ⟨rfl,fun j hj=>⟨_,rfl,fiRow_rd hM hj⟩⟩
theorem fiRow_set (l:List Fi) (j:Nat) (hj:j < l.length) (x:Fi):splice (l.flatMap Fi.cells) (j * 5) x.cells=(l.set j x).flatMap Fi.cells:=by
 have e:l.flatMap Fi.cells=(l.take j).flatMap Fi.cells++(l[j].cells++(l.drop (j+1)).flatMap Fi.cells):=by
  have h1:l=l.take j++(l[j]::l.drop (j+1)):=by rw[←List.drop_eq_getElem_cons hj,List.take_append_drop]
  have h2:=congrArg (fun q:List Fi=>q.flatMap Fi.cells) h1
  simp only[List.flatMap_append,List.flatMap_cons] at h2
  exact h2
 have hl:((l.take j).flatMap Fi.cells).length=j * 5:=by rw[fi_len,List.length_take];congr 1;omega
 unfold splice
 rw[List.set_eq_take_append_cons_drop,if_pos hj,List.flatMap_append,List.flatMap_cons,e,List.append_assoc]
 congr 1
 ·rw[←hl,List.take_left]
 ·congr 1
  rw[Fi.cells_len,←hl,←List.append_assoc,List.drop_left' (by rw[List.length_append,Fi.cells_len])]
theorem flatI_snoc (l:List Fi) (x:Fi):(l++[x]).flatMap Fi.cells=l.flatMap Fi.cells++x.cells:=by simp
theorem IsAt.mono {I I':GH} {M:List Blk} {a:Option Addr} {n:Nat} {ks:List Fi} (h:IsAt I M a n ks) (hI:∀ b o,I b=some o→I' b=some o):IsAt I' M a n ks:=
 ⟨h.n,fun j hj=>by
  obtain⟨ad,h1,h2⟩:=h.rd j hj
  exact⟨ad,h1,h2.mono hI⟩⟩
theorem IsAt.sub {I:GH} {M M':List Blk} {a:Option Addr} {n:Nat} {ks:List Fi} (h:IsAt I M a n ks) (hM:∀ x∈M,x∈M'):IsAt I M' a n ks:=
 ⟨h.n,fun j hj=>by
  obtain⟨ad,h1,h2⟩:=h.rd j hj
  exact⟨ad,h1,h2.sub hM⟩⟩
theorem OS.isAt {I:GH} {M:List Blk} {os:OS} {l:List Fi} {e:Nat} (h:os.ok 5 (l.flatMap Fi.cells)) (hM:∀ x∈os.blk e,x∈M):IsAt I M (os.a.map fun g=>⟨g,0,none⟩) os.n l:=by
 have hl:=h.len
 rw[fi_len] at hl
 refine⟨by omega,fun j hj=>?_⟩
 obtain⟨a,n,c,cur⟩:=os
 simp only at hl
 cases a with
 | none=>have:=(h.nil rfl).1;simp only at this;omega
 | some g=>
  obtain⟨h1,h2,h3,h4⟩:=h.cap g rfl
  simp only at h1 h2 h4
  refine⟨⟨g,0,none⟩,rfl,?_⟩
  have hm:(⟨g,.cells cur.toArray e (0,0)⟩:Blk)∈M:=hM _ (by simp[OS.blk])
  have hr:=blk_rd (I:=I) (cs:=cur) (k:=j * 5) (n:=5) hm (by omega)
  have e1:(cur.drop (j * 5)).take 5=((cur.take (n * 5)).drop (j * 5)).take 5:=by
   rw[List.drop_take,List.take_take]
   congr 1
   omega
  rw[e1,h4,flat_at Fi.cells 5 Fi.cells_len l j hj] at hr
  exact hr
theorem repI_at (acc:List Fi) (n i:Nat) (hl:acc.length=i) (hi:i < n) (x:Fi):(acc++List.replicate (n - i) fi0).set i x=(acc++[x])++List.replicate (n - (i+1)) fi0:=by
 subst hl
 rw[List.set_append_right _ _ (Nat.le_refl _),Nat.sub_self,show n - acc.length=(n - (acc.length+1))+1 by omega,List.replicate_succ,List.set_cons_zero]
 simp
theorem rowOf_flat {α:Type} (f:α→List Value) (z:α) (size:Nat) (hz:(f z).length=size) (h0:0 < size):∀ n:Nat,rowOf (f z) (n * size)=(List.replicate n z).flatMap f:=fun n=>by
 have hlen:((List.replicate n z).flatMap f).length=n * size:=by
  induction n with
  | zero=>simp
  | succ n ih=>rw[List.replicate_succ,List.flatMap_cons,List.length_append,ih,hz,Nat.add_mul];omega
 apply List.ext_getElem
 ·rw[hlen]
  simp[rowOf_eq,madeCells]
 intro i h1 h2
 have h3:i < n * size:=by rw[hlen] at h2;exact h2
 have key:∀ (n i:Nat) (h:i < ((List.replicate n z).flatMap f).length),((List.replicate n z).flatMap f)[i]=(f z)[i % size]!:=by
  intro n
  induction n with
  | zero=>intro i h;simp at h
  | succ n ih=>
   intro i h
   by_cases hi:i < size
   ·have e:((List.replicate (n+1) z).flatMap f)=f z++(List.replicate n z).flatMap f:=by rw[List.replicate_succ,List.flatMap_cons]
    simp only[e]
    rw[List.getElem_append_left (by omega),Nat.mod_eq_of_lt hi]
    rw[getElem!_pos (f z) i (by omega)]
   ·have e:((List.replicate (n+1) z).flatMap f)=f z++(List.replicate n z).flatMap f:=by rw[List.replicate_succ,List.flatMap_cons]
    simp only[e] at h ⊢
    rw[List.getElem_append_right (by omega)]
    have:=ih (i - (f z).length) (by rw[List.length_append] at h;omega)
    rw[this,hz,Nat.mod_eq_sub_mod (a:=i) (by omega)]
 rw[key n i h2]
 simp only[rowOf,List.getElem_map,List.getElem_range,hz]
theorem rowOf_fi (n:Nat):rowOf fi0.cells (n * 5)=(List.replicate n fi0).flatMap Fi.cells:=rowOf_flat Fi.cells fi0 5 rfl (by decide) n
theorem ble_fi {acc:List Fi} {n i:Nat} (hacc:acc.length=i) (hlt:i < n) (x:Fi):Nat.ble (0+i * 5+x.cells.length) ((acc++List.replicate (n - i) fi0).flatMap Fi.cells).length=true:=by
 rw[Nat.ble_eq,fi_len,Fi.cells_len,List.length_append,List.length_replicate]
 omega
theorem firstAt_findI (nm:ByteArray):∀ (ds:List Df) (i:Nat),firstAt nm ds i=bif decide (findAt nm ds i < 0) then none else some (findAt nm ds i)
 | [],i=>rfl
 | d::ds,i=>by
  unfold firstAt findAt
  rw[show decide (nm=d.name)=decide (d.name=nm) by rw[Bool.eq_iff_iff];simp[eq_comm]]
  cases decide (d.name=nm) with
  | true=>
   rw[cond_true,cond_true,decide_eq_false (by omega)]
   rfl
  | false=>
   rw[cond_false,cond_false]
   exact firstAt_findI nm ds (i+1)
theorem find_of_look {nm:ByteArray} {ds:List Df} {q:Int} (h:lookM nm (placesL ds)=some q):findAt nm ds 0=q:=by
 rw[places_first,firstAt_findI] at h
 cases hd:decide (findAt nm ds 0 < 0) with
 | true=>rw[hd] at h;cases h
 | false=>rw[hd] at h;simpa using h
theorem fits_text {d:Nd} {n:Int} (h:fits d n=true) (hk:d.k=2):1≤d.t.size:=by
 apply Nat.pos_of_ne_zero
 intro e
 have he:d.t=⟨#[]⟩:=ByteArray.ext (Array.eq_empty_of_size_eq_zero e)
 simp[fits,hk,he] at h
def KB (t:Tr):Prop:=∀ n∈t.ns,n.kn≤3000000000000
set_option maxRecDepth 100000 in
set_option maxHeartbeats 16000000 in
theorem inodes_spec {I:GH} {M0:List Blk} {g:Gr} (hg:g.ok I) {t:Tr} (ht:t.ok I) (hkb:KB t) (hr:right t=true) {la:Option Addr} {ln lc:Nat} {fl:List Fi} (hfl:IsAt I M0 la ln fl) (hc:Called (placesL g.ds) ln t.ns) {xa:Option Addr} {xc:Nat} {xs:List Fl} (hxs:FsAt I M0 xa t.n xs) :
  Spec Tryz.prog 78 [g.val,.slice la ln lc,t.val,.slice xa t.n xc] I M0 fun v I' M'=>I'=I∧∃ b,v=.slice (some ⟨b,0,none⟩) t.n t.n∧M'=fiRow b (nodesI (placesL g.ds) fl xs t.ns [])::M0:=by
 refine spec_of_V [] TryzEOK Tryz.func78 rfl rfl rfl ?_
 intro B h0
 have htn:=ht.n
 have hgn:=hg.n
 have hcap:=ht.rs.cap
 have hxn:=hxs.n
 refine CallOb.mk [] M0 _ (.refl _) icomes_spec ?_
 rintro v I1 M1 - ⟨rfl,rfl,rfl⟩
 refine MakeOb.mk t.n t.n rfl rfl (Nat.le_refl _) (by show 40 * t.n≤_;omega) (by omega) ?_
 refine AllocOb.mk fun b8 hb8 hbM8=>?_
 refine LoopOb.inv (ι:=Nat×List Fi×OS) (fun x=>{ fl:=[(1,.val (.slice la ln lc)),(3,.val (.slice xa t.n xc)),(4,.ref 4 0),(9,.ref 9 0),(10,.val (.slice (some ⟨b8,0,none⟩) t.n t.n)),(11,.val x.2.2.val),(22,.val (.slice t.a t.n t.c)),(23,.val (.int .i64 t.n)),(24,.val (.int .i64 x.1))],cl:=[(4,[.slice g.a g.n g.c]),(9,comeIv)],gi:=I1,mi:=fiRow b8 (x.2.1++List.replicate (t.n - x.1) fi0)::(x.2.2.blk 67++M0) })
  (fun x=>x.1≤t.n∧x.2.1.length=x.1∧nodesI (placesL g.ds) fl xs t.ns []=nodesI (placesL g.ds) fl xs (t.ns.drop x.1) x.2.1∧∃ ks,x.2.2.ok 5 ks) (fun x=>t.n - x.1) ?_ ?_
 ·refine⟨(0,[],OS0),⟨Nat.zero_le _,rfl,rfl,[],OS0_ok 5⟩,?_,.cons .refl (.cons .refl (.cons .refl (.cons .refl (.cons .refl (.cons .refl (.cons .refl (.cons .refl (.cons .refl (.nil))))))))),.cons rfl (.cons rfl (.nil))⟩
  have e:rowOf fi0.cells (t.n * 5)=(List.replicate t.n fi0).flatMap Fi.cells:=rowOf_fi t.n
  simp only[fiRow,List.nil_append,Nat.sub_zero]
  rw[←e]
  exact .refl
 rintro⟨i,acc,ko⟩ ⟨hi,hacc,hnf,kx,hko⟩
 simp only at hi hacc hnf hko
 refine CondOb.mk (fun h=>?_) (fun h=>?_)
 rotate_left
 ·have hge:i=t.n:=by have:¬ (i:Int) < (t.n:Int):=of_decide_eq_false h;omega
  subst hge
  rw[List.drop_eq_nil_of_le (by omega),nodesI] at hnf
  refine⟨I1,fiRow b8 (acc++List.replicate (t.n - t.n) fi0)::M0,.sub (.cons_cons _ (List.sublist_append_right _ _)) .refl,rfl,b8,rfl,?_⟩
  rw[hnf,Nat.sub_self,List.replicate_zero,List.append_nil]
 have hlt:i < t.n:=by have:(i:Int) < (t.n:Int):=of_decide_eq_true h;omega
 have hlt':i < t.ns.length:=by omega
 obtain⟨ad,had,hrd⟩:=ht.rs.row Nd.cells_len hlt hlt'
 have hdm:=List.getElem_mem hlt'
 have hd:=ht.ns _ hdm
 have hkn:=hd.kn
 have hkc:=hd.rs.cap
 have hkk3:=hkb _ hdm
 have hkv:=right_kids hr i hlt'
 have hft:=right_fits hr hlt'
 have hcd:=hc _ hdm
 obtain⟨ax,hax,hrx⟩:=hxs.rd i (by omega)
 have hxg:xs.getD i fl0=xs[i]'(by omega):=by simp[List.getD_eq_getElem?_getD,show i < xs.length by omega]
 have hnf':nodesI (placesL g.ds) fl xs t.ns []=nodesI (placesL g.ds) fl xs (t.ns.drop (i+1)) (acc++[comeFi t.ns[i] (xs[i]'(by omega)) (kidsI (placesL g.ds) fl acc t.ns[i])]):=by
  rw[hnf,List.drop_eq_getElem_cons hlt',nodesI,hacc,hxg]
 generalize xs[i]'(by omega)=x at hrx hnf'
 generalize t.ns[i]=d at hrd hd hkn hkc hkk3 hkv hft hcd hnf'
 have hk0:=hd.k.1
 have hk10:=fits_k hft
 have hu:u64ok d.s0∧u64ok d.s1∧u64ok d.s2∧u64ok d.s3:=⟨hd.s0,hd.s1,hd.s2,hd.s3⟩
 have htx:d.k=2→1≤d.t.size:=fits_text hft
 have hrow:∀ {M:List Blk} {q:Int},fiRow b8 (acc++List.replicate (t.n - i) fi0)∈M→q∈d.kids→Rd I1 M ((⟨b8,0,none⟩:Addr).add (q.toNat * 5)) 5 (acc.getD q.toNat fi0).cells:=fun {M q} hM hq=>by
  have hq':=hkv q hq
  have hql:q.toNat < acc.length:=by omega
  have:=fiRow_rd (I:=I1) hM (j:=q.toNat) (by rw[List.length_append];omega)
  rw[List.getElem_append_left hql] at this
  simpa[List.getD_eq_getElem?_getD,hql] using this
 refine IdxOb.mk ad i had rfl hlt ?_
 refine LoadOb.mk _ (hrd _) ?_
 refine SliceOb.mk 0 0 rfl rfl (Nat.le_refl _) (Nat.zero_le _) ?_
 refine LoopOb.inv (ι:=Nat×OS×List Fi) (fun s=>{ fl:=[(1,.val (.slice la ln lc)),(3,.val (.slice xa t.n xc)),(4,.ref 4 0),(9,.ref 9 0),(10,.val (.slice (some ⟨b8,0,none⟩) t.n t.n)),(11,.val s.2.1.val),(12,.val (.int .i64 i)),(13,.ref 13 0),(22,.val (.slice t.a t.n t.c)),(23,.val (.int .i64 t.n)),(24,.val (.int .i64 i)),(32,.val (.slice d.ka d.kn d.kc)),(33,.val (.int .i64 d.kn)),(34,.val (.int .i64 s.1))],cl:=[(4,[.slice g.a g.n g.c]),(9,comeIv),(13,d.cells)],gi:=I1,mi:=fiRow b8 (acc++List.replicate (t.n - i) fi0)::(s.2.1.blk 67++M0) })
  (fun s=>s.1≤d.kn∧s.2.1.ok 5 (s.2.2.flatMap Fi.cells)∧s.2.2=(d.kids.take s.1).map fun k=>acc.getD k.toNat fi0) (fun s=>d.kn - s.1) ?_ ?_
 ·exact⟨(0,⟨ko.a,0,ko.c,ko.cur⟩,[]),⟨Nat.zero_le _,OS.zero hko,rfl⟩,.refl,.cons .refl (.cons .refl (.cons .refl (.cons .refl (.cons .refl (.cons .refl (.cons .refl (.cons .refl (.cons .refl (.cons .refl (.cons .refl (.cons .refl (.cons .refl (.cons .refl (.nil)))))))))))))),.cons rfl (.cons rfl (.cons rfl (.nil)))⟩
 rintro⟨k,k2,kl⟩ ⟨hk,hk2,hkl⟩
 simp only at hk hk2 hkl
 have hk2n:k2.n=kl.length:=by have:=hk2.len;rw[fi_len] at this;omega
 have hkll:kl.length≤k:=by rw[hkl,List.length_map];exact List.length_take_le _ _
 refine CondOb.mk (fun h=>?_) (fun h=>?_)
 ·have hkk:k < d.kn:=by have:(k:Int) < (d.kn:Int):=of_decide_eq_true h;omega
  have hkk':k < d.kids.length:=by omega
  obtain⟨ak,hak,hrk⟩:=hd.rs.one hkk hkk'
  have hq:=hkv _ (List.getElem_mem hkk')
  refine IdxOb.mk ak k hak rfl hkk ?_
  refine LoadOb.mk _ (hrk _) ?_
  refine IdxOb.mk ⟨b8,0,none⟩ d.kids[k].toNat rfl (by omega) (by omega) ?_
  refine LoadOb.mk _ (hrow (.head _) (List.getElem_mem hkk')) ?_
  refine AllocOb.mk fun b9 hb9 hbM9=>?_
  refine OtherOb.app1 TryzEOK rfl (by simp) (e:=67) rfl rfl rfl k2 hk2 rfl (b9:=b9) (cs:=(acc.getD d.kids[k].toNat fi0).cells) rfl rfl rfl [fiRow b8 (acc++List.replicate (t.n - i) fi0)] M0 rfl (by omega) (by show (k2.n+1) * 40≤_;omega) ?_
  intro k3 e1 e2 e3
  refine ArithOb.mk _ (next_wr (i:=k) (by omega)) ?_
  refine⟨(k+1,k3,kl++[acc.getD d.kids[k].toNat fi0]),⟨⟨by simp only;omega,?_,?_⟩,by simp only;omega⟩,.refl,.cons .refl (.cons .refl (.cons .refl (.cons .refl (.cons .refl (.cons .refl (.cons .refl (.cons .refl (.cons .refl (.cons .refl (.cons .refl (.cons .refl (.cons .refl (.cons .refl (.nil)))))))))))))),.cons rfl (.cons rfl (.cons rfl (.nil)))⟩
  ·simp only
   rw[flatI_snoc]
   exact e3
  ·simp only
   rw[List.take_succ_eq_append_getElem hkk',List.map_append,←hkl]
   rfl
 have hge:d.kn≤k:=by have:¬ (k:Int) < (d.kn:Int):=of_decide_eq_false h;omega
 rw[List.take_of_length_le (by omega)] at hkl
 have hkln:kl.length=d.kids.length:=by rw[hkl,List.length_map]
 have hb2:k2.n+1≤140737488355328:=by omega
 clear h hk hkll
 have hset:∀ y:Fi,splice ((acc++List.replicate (t.n - i) fi0).flatMap Fi.cells) (0+i * 5) y.cells=((acc++[y])++List.replicate (t.n - (i+1)) fi0).flatMap Fi.cells:=fun y=>by
  rw[Nat.zero_add,fiRow_set _ _ (by simp;omega),repI_at acc t.n i hacc hlt]
 have hinv:∀ (ko2:OS) (ks2:List Value),ko2.ok 5 ks2→((i+1≤t.n∧(acc++[comeFi d x (kidsI (placesL g.ds) fl acc d)]).length=i+1∧nodesI (placesL g.ds) fl xs t.ns []=nodesI (placesL g.ds) fl xs (t.ns.drop (i+1)) (acc++[comeFi d x (kidsI (placesL g.ds) fl acc d)])∧∃ ks,ko2.ok 5 ks)∧t.n - (i+1) < t.n - i):=fun ko2 ks2 h2=>
  ⟨⟨hlt,by simp[hacc],hnf',ks2,h2⟩,by omega⟩
 by_cases h3:d.k=3
 ·refine CondOb.mk (fun _=>?_) (fun h=>absurd h (by simp[h3]))
  obtain⟨q,hq1,hq2⟩:=hcd h3
  have hkf:kidsI (placesL g.ds) fl acc d=kl++[fl.getD q fi0]:=by
   rw[kidsI,←hkl,hq1,h3]
   rfl
  have hql:q < fl.length:=by rw[hfl.n];exact hq2
  obtain⟨al,hal,hrl⟩:=hfl.rd q hql
  have hgq:fl.getD q fi0=fl[q]:=by simp[List.getD_eq_getElem?_getD,hql]
  have hfind:=find_of_look hq1
  refine CallOb.mk [] _ _ (.refl _) (Find_spec hg d.t) ?_
  rintro v I2 M2 - ⟨rfl,rfl,rfl⟩
  refine IdxOb.mk al q hal hfind hq2 ?_
  refine LoadOb.mk _ (hrl.sub fun x hx=>by simp[hx]) ?_
  refine AllocOb.mk fun b9 hb9 hbM9=>?_
  refine OtherOb.app1 TryzEOK rfl (by simp) (e:=67) rfl rfl rfl k2 hk2 rfl (b9:=b9) (cs:=fl[q].cells) rfl rfl rfl [fiRow b8 (acc++List.replicate (t.n - i) fi0)] M0 rfl (by omega) (by show (k2.n+1) * 40≤_;omega) ?_
  intro k3 e1 e2 e3
  rw[←flatI_snoc,←hgq,←hkf] at e3
  have hks:=OS.isAt (I:=I2) (M:=fiRow b8 (acc++List.replicate (t.n - i) fi0)::(k3.blk 67++M0)) (e:=67) e3 (fun x hx=>by simp[hx])
  obtain⟨dk,s0,s1,s2,s3,dt,lo,hi',dka,dkn,dkc,dkids⟩:=d
  simp only at h3
  subst h3
  refine CodeOb.draw TryzEOK rfl rfl rfl ?_
  refine ArrOb.mk 3 rfl (by decide) ?_
  refine IdxOb.mk ax i hax rfl hlt ?_
  refine LoadOb.mk _ (hrx.sub fun x hx=>by simp[hx]) ?_
  refine PCallOb.whole _ (icome_at (d:=⟨3,s0,s1,s2,s3,dt,lo,hi',dka,dkn,dkc,dkids⟩) (x:=x) hu hks (by omega) 3 (by decide) rfl (fun _=>by rw[e1];exact Nat.succ_pos _) (fun h=>absurd h (by decide))) (fun v I' M' h x hx=>by rw[h.2.2];exact hx) ?_
  rintro v I3 M3 - ⟨rfl,rfl,rfl⟩
  refine IdxOb.mk ⟨b8,0,none⟩ i rfl rfl hlt ?_
  refine StoreOb.addTo [] (k3.blk 67++M0) ((acc++List.replicate (t.n - i) fi0).flatMap Fi.cells) _ rfl (ble_fi hacc hlt _) rfl _ (hset _) ?_
  refine ArithOb.mk _ (next_wr (i:=i) (by omega)) ?_
  exact⟨(i+1,_,k3),hinv _ _ e3,.refl,.cons .refl (.cons .refl (.cons .refl (.cons .refl (.cons .refl (.cons .refl (.cons .refl (.cons .refl (.cons .refl (.nil))))))))),.cons rfl (.cons rfl (.nil))⟩
 refine CondOb.mk (fun h=>absurd (of_decide_eq_true h) h3) (fun _=>?_)
 have hkf:kidsI (placesL g.ds) fl acc d=kl:=by
  rw[kidsI,←hkl,decide_eq_false h3]
  simp
 rw[hkf] at hinv
 have hks:=OS.isAt (I:=I1) (M:=fiRow b8 (acc++List.replicate (t.n - i) fi0)::(k2.blk 67++M0)) (e:=67) hk2 (fun x hx=>by simp[hx])
 have hpos:6≤d.k→0 < k2.n:=fun h6=>by
  have:=fits_kid hk0 hft h6
  omega
 have hcases:d.k=0∨d.k=1∨d.k=2∨d.k=4∨d.k=5∨d.k=6∨d.k=7∨d.k=8∨d.k=9:=by omega
 obtain⟨dk,s0,s1,s2,s3,dt,lo,hi',dka,dkn,dkc,dkids⟩:=d
 simp only at hcases hpos h3 htx
 refine CodeOb.draw TryzEOK rfl rfl rfl ?_
 rcases hcases with rfl | rfl | rfl | rfl | rfl | rfl | rfl | rfl | rfl
 ·refine ArrOb.mk 0 rfl (by decide) ?_
  refine IdxOb.mk ax i hax rfl hlt ?_
  refine LoadOb.mk _ (hrx.sub fun x hx=>by simp[hx]) ?_
  refine PCallOb.whole _ (icome_at (d:=⟨0,s0,s1,s2,s3,dt,lo,hi',dka,dkn,dkc,dkids⟩) (x:=x) hu hks (Nat.le_of_succ_le hb2) 0 (by decide) rfl (fun h=>by omega) (fun h=>absurd h (by decide))) (fun v I' M' h x hx=>by rw[h.2.2];exact hx) ?_
  rintro v I2 M2 - ⟨rfl,rfl,rfl⟩
  refine IdxOb.mk ⟨b8,0,none⟩ i rfl rfl hlt ?_
  refine StoreOb.addTo [] (k2.blk 67++M0) ((acc++List.replicate (t.n - i) fi0).flatMap Fi.cells) _ rfl (ble_fi hacc hlt _) rfl _ (hset _) ?_
  refine ArithOb.mk _ (next_wr (i:=i) (by omega)) ?_
  exact⟨(i+1,_,k2),hinv _ _ hk2,.refl,.cons .refl (.cons .refl (.cons .refl (.cons .refl (.cons .refl (.cons .refl (.cons .refl (.cons .refl (.cons .refl (.nil))))))))),.cons rfl (.cons rfl (.nil))⟩
 ·refine ArrOb.mk 1 rfl (by decide) ?_
  refine IdxOb.mk ax i hax rfl hlt ?_
  refine LoadOb.mk _ (hrx.sub fun x hx=>by simp[hx]) ?_
  refine PCallOb.whole _ (icome_at (d:=⟨1,s0,s1,s2,s3,dt,lo,hi',dka,dkn,dkc,dkids⟩) (x:=x) hu hks (Nat.le_of_succ_le hb2) 1 (by decide) rfl (fun h=>by omega) (fun h=>absurd h (by decide))) (fun v I' M' h x hx=>by rw[h.2.2];exact hx) ?_
  rintro v I2 M2 - ⟨rfl,rfl,rfl⟩
  refine IdxOb.mk ⟨b8,0,none⟩ i rfl rfl hlt ?_
  refine StoreOb.addTo [] (k2.blk 67++M0) ((acc++List.replicate (t.n - i) fi0).flatMap Fi.cells) _ rfl (ble_fi hacc hlt _) rfl _ (hset _) ?_
  refine ArithOb.mk _ (next_wr (i:=i) (by omega)) ?_
  exact⟨(i+1,_,k2),hinv _ _ hk2,.refl,.cons .refl (.cons .refl (.cons .refl (.cons .refl (.cons .refl (.cons .refl (.cons .refl (.cons .refl (.cons .refl (.nil))))))))),.cons rfl (.cons rfl (.nil))⟩
 ·refine ArrOb.mk 2 rfl (by decide) ?_
  refine IdxOb.mk ax i hax rfl hlt ?_
  refine LoadOb.mk _ (hrx.sub fun x hx=>by simp[hx]) ?_
  refine PCallOb.whole _ (icome_at (d:=⟨2,s0,s1,s2,s3,dt,lo,hi',dka,dkn,dkc,dkids⟩) (x:=x) hu hks (Nat.le_of_succ_le hb2) 2 (by decide) rfl (fun h=>by omega) (fun _=>htx rfl)) (fun v I' M' h x hx=>by rw[h.2.2];exact hx) ?_
  rintro v I2 M2 - ⟨rfl,rfl,rfl⟩
  refine IdxOb.mk ⟨b8,0,none⟩ i rfl rfl hlt ?_
  refine StoreOb.addTo [] (k2.blk 67++M0) ((acc++List.replicate (t.n - i) fi0).flatMap Fi.cells) _ rfl (ble_fi hacc hlt _) rfl _ (hset _) ?_
  refine ArithOb.mk _ (next_wr (i:=i) (by omega)) ?_
  exact⟨(i+1,_,k2),hinv _ _ hk2,.refl,.cons .refl (.cons .refl (.cons .refl (.cons .refl (.cons .refl (.cons .refl (.cons .refl (.cons .refl (.cons .refl (.nil))))))))),.cons rfl (.cons rfl (.nil))⟩
 ·refine ArrOb.mk 4 rfl (by decide) ?_
  refine IdxOb.mk ax i hax rfl hlt ?_
  refine LoadOb.mk _ (hrx.sub fun x hx=>by simp[hx]) ?_
  refine PCallOb.whole _ (icome_at (d:=⟨4,s0,s1,s2,s3,dt,lo,hi',dka,dkn,dkc,dkids⟩) (x:=x) hu hks (Nat.le_of_succ_le hb2) 4 (by decide) rfl (fun h=>by omega) (fun h=>absurd h (by decide))) (fun v I' M' h x hx=>by rw[h.2.2];exact hx) ?_
  rintro v I2 M2 - ⟨rfl,rfl,rfl⟩
  refine IdxOb.mk ⟨b8,0,none⟩ i rfl rfl hlt ?_
  refine StoreOb.addTo [] (k2.blk 67++M0) ((acc++List.replicate (t.n - i) fi0).flatMap Fi.cells) _ rfl (ble_fi hacc hlt _) rfl _ (hset _) ?_
  refine ArithOb.mk _ (next_wr (i:=i) (by omega)) ?_
  exact⟨(i+1,_,k2),hinv _ _ hk2,.refl,.cons .refl (.cons .refl (.cons .refl (.cons .refl (.cons .refl (.cons .refl (.cons .refl (.cons .refl (.cons .refl (.nil))))))))),.cons rfl (.cons rfl (.nil))⟩
 ·refine ArrOb.mk 5 rfl (by decide) ?_
  refine IdxOb.mk ax i hax rfl hlt ?_
  refine LoadOb.mk _ (hrx.sub fun x hx=>by simp[hx]) ?_
  refine PCallOb.whole _ (icome_at (d:=⟨5,s0,s1,s2,s3,dt,lo,hi',dka,dkn,dkc,dkids⟩) (x:=x) hu hks (Nat.le_of_succ_le hb2) 5 (by decide) rfl (fun h=>by omega) (fun h=>absurd h (by decide))) (fun v I' M' h x hx=>by rw[h.2.2];exact hx) ?_
  rintro v I2 M2 - ⟨rfl,rfl,rfl⟩
  refine IdxOb.mk ⟨b8,0,none⟩ i rfl rfl hlt ?_
  refine StoreOb.addTo [] (k2.blk 67++M0) ((acc++List.replicate (t.n - i) fi0).flatMap Fi.cells) _ rfl (ble_fi hacc hlt _) rfl _ (hset _) ?_
  refine ArithOb.mk _ (next_wr (i:=i) (by omega)) ?_
  exact⟨(i+1,_,k2),hinv _ _ hk2,.refl,.cons .refl (.cons .refl (.cons .refl (.cons .refl (.cons .refl (.cons .refl (.cons .refl (.cons .refl (.cons .refl (.nil))))))))),.cons rfl (.cons rfl (.nil))⟩
 ·refine ArrOb.mk 6 rfl (by decide) ?_
  refine IdxOb.mk ax i hax rfl hlt ?_
  refine LoadOb.mk _ (hrx.sub fun x hx=>by simp[hx]) ?_
  refine PCallOb.whole _ (icome_at (d:=⟨6,s0,s1,s2,s3,dt,lo,hi',dka,dkn,dkc,dkids⟩) (x:=x) hu hks (Nat.le_of_succ_le hb2) 6 (by decide) rfl (fun _=>hpos (by decide)) (fun h=>absurd h (by decide))) (fun v I' M' h x hx=>by rw[h.2.2];exact hx) ?_
  rintro v I2 M2 - ⟨rfl,rfl,rfl⟩
  refine IdxOb.mk ⟨b8,0,none⟩ i rfl rfl hlt ?_
  refine StoreOb.addTo [] (k2.blk 67++M0) ((acc++List.replicate (t.n - i) fi0).flatMap Fi.cells) _ rfl (ble_fi hacc hlt _) rfl _ (hset _) ?_
  refine ArithOb.mk _ (next_wr (i:=i) (by omega)) ?_
  exact⟨(i+1,_,k2),hinv _ _ hk2,.refl,.cons .refl (.cons .refl (.cons .refl (.cons .refl (.cons .refl (.cons .refl (.cons .refl (.cons .refl (.cons .refl (.nil))))))))),.cons rfl (.cons rfl (.nil))⟩
 ·refine ArrOb.mk 7 rfl (by decide) ?_
  refine IdxOb.mk ax i hax rfl hlt ?_
  refine LoadOb.mk _ (hrx.sub fun x hx=>by simp[hx]) ?_
  refine PCallOb.whole _ (icome_at (d:=⟨7,s0,s1,s2,s3,dt,lo,hi',dka,dkn,dkc,dkids⟩) (x:=x) hu hks (Nat.le_of_succ_le hb2) 7 (by decide) rfl (fun h=>by omega) (fun h=>absurd h (by decide))) (fun v I' M' h x hx=>by rw[h.2.2];exact hx) ?_
  rintro v I2 M2 - ⟨rfl,rfl,rfl⟩
  refine IdxOb.mk ⟨b8,0,none⟩ i rfl rfl hlt ?_
  refine StoreOb.addTo [] (k2.blk 67++M0) ((acc++List.replicate (t.n - i) fi0).flatMap Fi.cells) _ rfl (ble_fi hacc hlt _) rfl _ (hset _) ?_
  refine ArithOb.mk _ (next_wr (i:=i) (by omega)) ?_
  exact⟨(i+1,_,k2),hinv _ _ hk2,.refl,.cons .refl (.cons .refl (.cons .refl (.cons .refl (.cons .refl (.cons .refl (.cons .refl (.cons .refl (.cons .refl (.nil))))))))),.cons rfl (.cons rfl (.nil))⟩
 ·refine ArrOb.mk 8 rfl (by decide) ?_
  refine IdxOb.mk ax i hax rfl hlt ?_
  refine LoadOb.mk _ (hrx.sub fun x hx=>by simp[hx]) ?_
  refine PCallOb.whole _ (icome_at (d:=⟨8,s0,s1,s2,s3,dt,lo,hi',dka,dkn,dkc,dkids⟩) (x:=x) hu hks (Nat.le_of_succ_le hb2) 8 (by decide) rfl (fun h=>by omega) (fun h=>absurd h (by decide))) (fun v I' M' h x hx=>by rw[h.2.2];exact hx) ?_
  rintro v I2 M2 - ⟨rfl,rfl,rfl⟩
  refine IdxOb.mk ⟨b8,0,none⟩ i rfl rfl hlt ?_
  refine StoreOb.addTo [] (k2.blk 67++M0) ((acc++List.replicate (t.n - i) fi0).flatMap Fi.cells) _ rfl (ble_fi hacc hlt _) rfl _ (hset _) ?_
  refine ArithOb.mk _ (next_wr (i:=i) (by omega)) ?_
  exact⟨(i+1,_,k2),hinv _ _ hk2,.refl,.cons .refl (.cons .refl (.cons .refl (.cons .refl (.cons .refl (.cons .refl (.cons .refl (.cons .refl (.cons .refl (.nil))))))))),.cons rfl (.cons rfl (.nil))⟩
 ·refine ArrOb.mk 9 rfl (by decide) ?_
  refine IdxOb.mk ax i hax rfl hlt ?_
  refine LoadOb.mk _ (hrx.sub fun x hx=>by simp[hx]) ?_
  refine PCallOb.whole _ (icome_at (d:=⟨9,s0,s1,s2,s3,dt,lo,hi',dka,dkn,dkc,dkids⟩) (x:=x) hu hks (Nat.le_of_succ_le hb2) 9 (by decide) rfl (fun _=>hpos (by decide)) (fun h=>absurd h (by decide))) (fun v I' M' h x hx=>by rw[h.2.2];exact hx) ?_
  rintro v I2 M2 - ⟨rfl,rfl,rfl⟩
  refine IdxOb.mk ⟨b8,0,none⟩ i rfl rfl hlt ?_
  refine StoreOb.addTo [] (k2.blk 67++M0) ((acc++List.replicate (t.n - i) fi0).flatMap Fi.cells) _ rfl (ble_fi hacc hlt _) rfl _ (hset _) ?_
  refine ArithOb.mk _ (next_wr (i:=i) (by omega)) ?_
  exact⟨(i+1,_,k2),hinv _ _ hk2,.refl,.cons .refl (.cons .refl (.cons .refl (.cons .refl (.cons .refl (.cons .refl (.cons .refl (.cons .refl (.cons .refl (.nil))))))))),.cons rfl (.cons rfl (.nil))⟩
end Go.V
namespace Go.V
open Go Go.Proofs
def rowV (b:Nat) (n:Nat):Value:=.slice (some ⟨b,0,none⟩) n n
structure RowsF (I:GH) (pl:List (ByteArray×Int)) (F:List Fl) (ds:List Df) (k:Nat) (rows:List Value):Prop where
 len:rows.length=ds.length
 row:∀ i (h:i < ds.length),i < k→∃ b,rows[i]?=some (rowV b ds[i].t.n)∧I b=some (flRow b (nodesF pl F ds[i].t.ns [])).obj
theorem flRow_kn {I:GH} {M:List Blk} {b:Nat} {l:List Fl} (h:I b=some (flRow b l).obj):FsAt I M (some ⟨b,0,none⟩) l.length l:=
 ⟨rfl,fun j hj=>⟨_,rfl,by
  have h1:=flRow_rd (I:=I) (M:=[flRow b l]) (.head _) hj
  obtain⟨q1,cs,T,f,q2,q3,q4⟩:=h1
  rw[addr_add _ rfl] at q2 ⊢
  refine⟨rfl,(l.flatMap Fl.cells).toArray,_,_,.inl h,?_,q4⟩
  rcases q2 with q2 | ⟨x,hx,e1,e2⟩
  ·rw[addr_add _ rfl] at q3
   have:some (Obj.cells cs T f)=some (flRow b l).obj:=q2.symm.trans h
   simp only[flRow,Option.some.injEq,Obj.cells.injEq] at this
   rw[←this.1]
   exact q3
  ·simp only[List.mem_singleton] at hx
   subst hx
   rw[addr_add _ rfl] at q3
   simp only[flRow,Obj.cells.injEq] at e2
   rw[e2.1]
   exact q3⟩⟩
def iM (b6 bl b7 bF b1:Nat) (g:Gr) (l:List Fi) (rows:List Value):List Blk:=[⟨b6,.cells #[.slice (some ⟨bl,0,none⟩) g.n g.n] 49 (0,0)⟩,⟨b7,.cells #[.slice (some ⟨bF,0,none⟩) g.n g.n] 134 (0,0)⟩,fiRow bl l,⟨bF,.cells rows.toArray 74 (0,0)⟩,⟨b1,.cells #[.slice g.a g.n g.c] 24 (0,0)⟩]
theorem blkI_rd0 {I:GH} {M:List Blk} {b:Nat} {f:Fi} (hM:(⟨b,.cells f.cells.toArray 67 (0,0)⟩:Blk)∈M):Rd I M (⟨b,0,none⟩:Addr) 5 f.cells:=⟨rfl,_,_,_,.inr ⟨_,hM,rfl,rfl⟩,rfl,rfl⟩
theorem ble_rowI {l:List Fi} {i:Nat} (hi:i < l.length) {x:Fi}:Nat.ble (0+i * 5+x.cells.length) (l.flatMap Fi.cells).length=true:=by
 rw[Nat.ble_eq,fi_len,Fi.cells_len]
 omega
theorem splice_oneI (l:List Value) (k:Nat) (v:Value) (h:k < l.length):splice l k [v]=l.set k v:=by
 rw[splice,List.set_eq_take_append_cons_drop,if_pos h]
 simp
theorem roundR_step {α:Type} (body:List α→Nat→α) {i n:Nat} (h:i < n) (l:List α):roundR body i (n - i) l=roundR body (i+1) (n - (i+1)) (l.set i (body l i)):=by
 rw[show n - i=(n - (i+1))+1 by omega,roundR]
theorem bodyI_mono' {pl:List (ByteArray×Int)} {F:List Fl} {ds:List Df} {n:Nat}:∀ {l m:List Fi},LeR OI l m→∀ i,i < n→OI.le (bodyI pl F ds l i) (bodyI pl F ds m i):=fun h i _=>bodyI_mono h i
set_option maxRecDepth 100000 in
set_option maxHeartbeats 8000000 in
theorem IOf1_spec {I:GH} {g:Gr} (hg:g.ok I) (hkb:∀ d∈g.ds,KB d.t) (hm:MayF g) {F:List Fl} {rows:List Value} (hrows:RowsF I (placesL g.ds) F g.ds g.ds.length rows) {b6 bl b7 bF b1:Nat} {l0:List Fi} (hl0:PreI g.ds F l0) :
  Spec Tryz.prog 77 [ptr b1,ptr b6,ptr b7] I (iM b6 bl b7 bF b1 g l0 rows) fun v I' M'=>v=.bool (decide (roundR (bodyI (placesL g.ds) F g.ds) 0 g.n l0≠l0))∧I'=I∧M'=iM b6 bl b7 bF b1 g (roundR (bodyI (placesL g.ds) F g.ds) 0 g.n l0) rows:=by
 refine spec_of_V [] TryzEOK Tryz.func77 rfl rfl rfl ?_
 intro B h0
 have hgn:=hg.n
 have hcap:=hg.rs.cap
 have rd1:∀ {M:List Blk},(⟨b1,.cells #[.slice g.a g.n g.c] 24 (0,0)⟩:Blk)∈M→Rd I M ((⟨b1,0,none⟩:Addr).add 0) 1 [.slice g.a g.n g.c]:=fun hM=>blk_rd (cs:=[.slice g.a g.n g.c]) (k:=0) (n:=1) hM (by simp)
 have rd1':∀ {M:List Blk},(⟨b1,.cells #[.slice g.a g.n g.c] 24 (0,0)⟩:Blk)∈M→Rd I M (⟨b1,0,none⟩:Addr) 1 [.slice g.a g.n g.c]:=fun hM=>⟨rfl,_,_,_,.inr ⟨_,hM,rfl,rfl⟩,rfl,rfl⟩
 have rd6:∀ {M:List Blk},(⟨b6,.cells #[.slice (some ⟨bl,0,none⟩) g.n g.n] 49 (0,0)⟩:Blk)∈M→Rd I M (⟨b6,0,none⟩:Addr) 1 [.slice (some ⟨bl,0,none⟩) g.n g.n]:=fun hM=>⟨rfl,_,_,_,.inr ⟨_,hM,rfl,rfl⟩,rfl,rfl⟩
 have rd7:∀ {M:List Blk},(⟨b7,.cells #[.slice (some ⟨bF,0,none⟩) g.n g.n] 134 (0,0)⟩:Blk)∈M→Rd I M (⟨b7,0,none⟩:Addr) 1 [.slice (some ⟨bF,0,none⟩) g.n g.n]:=fun hM=>⟨rfl,_,_,_,.inr ⟨_,hM,rfl,rfl⟩,rfl,rfl⟩
 refine LoadOb.mk _ (rd1 (by simp[iM])) ?_
 refine LoopOb.inv (ι:=Nat×List Fi) (fun x=>{ fl:=[(0,.val (ptr b1)),(1,.val (ptr b6)),(2,.val (ptr b7)),(4,.val (.bool (decide (x.2≠l0)))),(9,.val (.slice g.a g.n g.c)),(10,.val (.int .i64 g.n)),(11,.val (.int .i64 x.1))],gi:=I,mi:=iM b6 bl b7 bF b1 g x.2 rows })
  (fun x=>x.1≤g.n∧PreI g.ds F x.2∧LeR OI l0 x.2∧roundR (bodyI (placesL g.ds) F g.ds) 0 g.n l0=roundR (bodyI (placesL g.ds) F g.ds) x.1 (g.n - x.1) x.2) (fun x=>g.n - x.1) ?_ ?_
 ·refine⟨(0,l0),⟨Nat.zero_le _,hl0,LeR.refl _,rfl⟩,.refl,.cons .refl (.cons .refl (.cons .refl (.cons ?_ (.cons .refl (.cons .refl (.cons .refl .nil)))))),.nil⟩
  exact sv_lit (by simp)
 rintro⟨i,l⟩ ⟨hi,hP,hle,hgo⟩
 simp only at hi hP hle hgo
 have hll:=hP.len
 refine CondOb.mk (fun h=>?_) (fun h=>?_)
 rotate_left
 ·have hge:i=g.n:=by have:¬ (i:Int) < (g.n:Int):=of_decide_eq_false h;omega
  rw[hge,Nat.sub_self,roundR] at hgo
  exact⟨_,_,.refl,by rw[hgo],rfl,by rw[hgo]⟩
 have hlt:i < g.n:=by have:(i:Int) < (g.n:Int):=of_decide_eq_true h;omega
 have hlt':i < g.ds.length:=by omega
 have hil:i < l.length:=by omega
 obtain⟨ad,had,hrd⟩:=hg.rs.row Df.cells_len hlt hlt'
 have hdm:=List.getElem_mem hlt'
 have hd:=hg.ds _ hdm
 have hr:=hm.right _ hdm
 have hkbd:=hkb _ hdm
 have hca:=called_of (hm.named _ hdm)
 rw[show g.ds.length=l.length from hll.symm] at hca
 obtain⟨hP',hle'⟩:=PreR.step bodyI_mono' hP hlt'
 have hgo':roundR (bodyI (placesL g.ds) F g.ds) 0 g.n l0=roundR (bodyI (placesL g.ds) F g.ds) (i+1) (g.n - (i+1)) (l.set i (bodyI (placesL g.ds) F g.ds l i)):=by
  rw[hgo,roundR_step _ hlt]
 obtain⟨bk,hbk1,hbk2⟩:=hrows.row i hlt' hlt'
 have hrl2:i < rows.length:=by rw[hrows.len];exact hlt'
 have hbody:bodyI (placesL g.ds) F g.ds l i=(nodesI (placesL g.ds) l (nodesF (placesL g.ds) F g.ds[i].t.ns []) g.ds[i].t.ns []).getD g.ds[i].t.root.toNat fi0:=by
  unfold bodyI
  rw[List.getElem?_eq_getElem hlt']
 generalize bodyI (placesL g.ds) F g.ds l i=f at hP' hle' hgo' hbody
 generalize g.ds[i]=d at hrd hd hr hkbd hca hbody hbk1 hbk2
 have hroot:=right_root hr
 have htn:=hd.t.n
 have hxl:=nodesF_len (placesL g.ds) F d.t.ns []
 simp only[List.length_nil,Nat.zero_add] at hxl
 have hnl:=nodesI_len (placesL g.ds) l (nodesF (placesL g.ds) F d.t.ns []) d.t.ns []
 simp only[List.length_nil,Nat.zero_add] at hnl
 have hrl:d.t.root.toNat < (nodesI (placesL g.ds) l (nodesF (placesL g.ds) F d.t.ns []) d.t.ns []).length:=by omega
 have hfe:(nodesI (placesL g.ds) l (nodesF (placesL g.ds) F d.t.ns []) d.t.ns [])[d.t.root.toNat]=f:=by
  rw[hbody]
  simp[List.getD_eq_getElem?_getD,hrl]
 have hxs:∀ M,FsAt I M (some ⟨bk,0,none⟩) d.t.n (nodesF (placesL g.ds) F d.t.ns []):=fun M=>by
  have:=flRow_kn (I:=I) (M:=M) hbk2
  rwa [hxl,htn] at this
 have hspec:∀ {M:List Blk},fiRow bl l∈M→Spec Tryz.prog 78 [g.val,.slice (some ⟨bl,0,none⟩) g.n g.n,d.t.val,.slice (some ⟨bk,0,none⟩) d.t.n d.t.n] I M fun v I' M'=>I'=I∧∃ b,v=.slice (some ⟨b,0,none⟩) d.t.n d.t.n∧M'=fiRow b (nodesI (placesL g.ds) l (nodesF (placesL g.ds) F d.t.ns []) d.t.ns [])::M:=fun {M} hM=>by
  have hat:=fiRow_at (I:=I) hM
  have:=inodes_spec (M0:=M) (lc:=g.n) (xc:=d.t.n) hg hd.t hkbd hr hat hca (hxs M)
  rwa [show l.length=g.n by omega] at this
 refine IdxOb.mk ad i had rfl hlt ?_
 refine LoadOb.mk _ (hrd _) ?_
 have hlf:l.getD i fi0=l[i]:=by simp[List.getD_eq_getElem?_getD,hil]
 have more:(!decide (f=l[i]))=true→decide (l.set i f≠l0)=true:=fun h=>by
  have hne:f≠l[i]:=by simpa using h
  rw[decide_eq_true_eq]
  intro e
  have e2:l.set i f=l:=by
   refine LeR.anti (O:=OI) ?_ hle'
   rw[e]
   exact hle
  have h3:=set_getR l fi0 i i f hil
  rw[e2,if_pos rfl,hlf] at h3
  exact hne h3.symm
 have same:(!decide (f=l[i]))=false→l.set i f=l:=fun h=>by
  have he:f=l[i]:=by simpa using h
  rw[he]
  exact List.set_getElem_self hil
 have rdF:∀ {M:List Blk},(⟨bF,.cells rows.toArray 74 (0,0)⟩:Blk)∈M→Rd I M ((⟨bF,0,none⟩:Addr).add (i * 1)) 1 [rowV bk d.t.n]:=fun hM=>by
  have h:=blk_rd (I:=I) (cs:=rows) (k:=i) (n:=1) hM (by omega)
  have hri:rows[i]=rowV bk d.t.n:=by
   have:=hbk1
   rw[List.getElem?_eq_getElem hrl2] at this
   exact Option.some.inj this
  rw[List.drop_eq_getElem_cons hrl2,List.take_succ_cons,List.take_zero,hri] at h
  rw[Nat.mul_one]
  exact h
 refine CodeOb.drawC TryzEOK rfl rfl rfl (ι:=Nat) (fun s=>{ fl:=[(0,.val (ptr b1)),(1,.val (ptr b6)),(2,.val (ptr b7)),(4,.val (.bool (decide (l≠l0)))),(5,.val (.int .i64 i)),(7,.val (ptr s)),(9,.val (.slice g.a g.n g.c)),(10,.val (.int .i64 g.n)),(11,.val (.int .i64 i))],gi:=I,mi:=⟨s,.cells f.cells.toArray 67 (0,0)⟩::iM b6 bl b7 bF b1 g l rows }) (fun _=>True) ?_ ?_
 ·refine LoadOb.mk _ (rd1' (by simp[iM])) ?_
  refine LoadOb.mk _ (rd6 (by simp[iM])) ?_
  refine LoadOb.mk _ (rd7 (by simp[iM])) ?_
  refine IdxOb.mk ⟨bF,0,none⟩ i rfl rfl hlt ?_
  refine LoadOb.mk _ (rdF (by simp[iM])) ?_
  refine⟨?_,?_⟩
  ·refine PCallOb.whole _ (hspec (by simp[iM])) (fun v I' M' h x hx=>by obtain⟨-,b,-,rfl⟩:=h;exact .tail _ hx) ?_
   rintro v I2 M2 - ⟨rfl,b,rfl,rfl⟩
   refine IdxOb.mk ⟨b,0,none⟩ d.t.root.toNat rfl (by omega) (by omega) ?_
   refine LoadOb.mk _ (fiRow_rd (.head _) hrl) ?_
   rw[hfe]
   refine AllocOb.mk fun s hs hsM=>?_
   refine StoreOb.to [] _ _ _ rfl rfl rfl rfl f.cells rfl ?_
   exact⟨s,trivial,.sub (.cons_cons _ (.cons _ (.refl _))) .refl,.cons .refl (.cons .refl (.cons .refl (.cons .refl (.cons .refl (.cons .refl (.cons .refl (.cons .refl (.cons .refl (.nil))))))))),.nil⟩
  ·refine AllocOb.mk fun s hs hsM=>?_
   refine PCallOb.whole _ (hspec (by simp[iM])) (fun v I' M' h x hx=>by obtain⟨-,b,-,rfl⟩:=h;exact .tail _ hx) ?_
   rintro v I2 M2 - ⟨rfl,b,rfl,rfl⟩
   refine IdxOb.mk ⟨b,0,none⟩ d.t.root.toNat rfl (by omega) (by omega) ?_
   refine LoadOb.mk _ (fiRow_rd (.head _) hrl) ?_
   rw[hfe]
   refine StoreOb.to [_] _ _ _ rfl rfl rfl rfl f.cells rfl ?_
   exact⟨s,trivial,.sub (.cons _ (.refl _)) .refl,.cons .refl (.cons .refl (.cons .refl (.cons .refl (.cons .refl (.cons .refl (.cons .refl (.cons .refl (.cons .refl (.nil))))))))),.nil⟩
 rintro s -
 refine CodeOb.draw TryzEOK rfl rfl rfl ?_
 refine LoadOb.mk f.cells (blkI_rd0 (by simp)) ?_
 refine LoadOb.mk _ (rd6 (by simp[iM])) ?_
 refine IdxOb.mk ⟨bl,0,none⟩ i rfl rfl hlt ?_
 refine LoadOb.mk _ (fiRow_rd (by simp[iM]) hil) ?_
 refine BinOb.neI (p:=f) (q:=l[i]) ?_
 refine CondOb.mk (fun h=>?_) (fun h=>?_)
 ·refine LoadOb.mk _ (rd6 (by simp[iM])) ?_
  refine LoadOb.mk f.cells (blkI_rd0 (by simp)) ?_
  refine IdxOb.mk ⟨bl,0,none⟩ i rfl rfl hlt ?_
  refine StoreOb.addTo [⟨s,.cells f.cells.toArray 67 (0,0)⟩,⟨b6,.cells #[.slice (some ⟨bl,0,none⟩) g.n g.n] 49 (0,0)⟩,⟨b7,.cells #[.slice (some ⟨bF,0,none⟩) g.n g.n] 134 (0,0)⟩] [⟨bF,.cells rows.toArray 74 (0,0)⟩,⟨b1,.cells #[.slice g.a g.n g.c] 24 (0,0)⟩] (l.flatMap Fi.cells) _ rfl (ble_rowI hil) rfl ((l.set i f).flatMap Fi.cells) (by rw[Nat.zero_add];exact fiRow_set l i hil f) ?_
  refine ArithOb.mk _ (next_wr (i:=i) (by omega)) ?_
  exact⟨(i+1,l.set i f),⟨⟨by simp only;omega,hP',hle.trans hle',hgo'⟩,by simp only;omega⟩,.sub (M1:=iM b6 bl b7 bF b1 g (l.set i f) rows) (by exact .cons _ (.refl _)) .refl,.cons .refl (.cons .refl (.cons .refl (.cons (sv_lit (more h).symm) (.cons .refl (.cons .refl (.cons .refl .nil)))))),.nil⟩
 ·have he:l.set i f=l:=same h
  rw[he] at hgo'
  refine ArithOb.mk _ (next_wr (i:=i) (by omega)) ?_
  exact⟨(i+1,l),⟨⟨by simp only;omega,hP,hle,hgo'⟩,by simp only;omega⟩,.sub (M1:=iM b6 bl b7 bF b1 g l rows) (by exact .cons _ (.refl _)) .refl,.cons .refl (.cons .refl (.cons .refl (.cons .refl (.cons .refl (.cons .refl (.cons .refl .nil)))))),.nil⟩
end Go.V
namespace Go.V
open Go Go.Proofs
theorem permI5 {α:Type} (a b c d e:α):[a,b,c,d,e].Perm [c,a,d,b,e]:=(List.perm_middle (l₁:=[a,b]) (l₂:=[d,e])).trans (.cons _ (.cons _ (.swap _ _ _)))
def nilV:Value:=.slice none 0 0
theorem rowOf_nil (n:Nat):rowOf [nilV] (n * 1)=List.replicate n nilV:=by
 have key:∀ n:Nat,(List.replicate n nilV).flatMap (fun v:Value=>[v])=List.replicate n nilV:=by
  intro n
  induction n with
  | zero=>rfl
  | succ n ih=>rw[List.replicate_succ,List.flatMap_cons,ih];rfl
 exact(rowOf_flat (fun v:Value=>[v]) nilV 1 rfl (by decide) n).trans (key n)
set_option maxRecDepth 100000 in
set_option maxHeartbeats 8000000 in
theorem IOf_spec {I:GH} {deb:List Int} (hT:Tabs I deb) {g:Gr} (hg:g.ok I) (hkb:∀ d∈g.ds,KB d.t):Spec Tryz.prog 36 [g.val] I [] fun v I' M'=>(∀ b o,I b=some o→I' b=some o) ∧
  ((mayG deb g≠0∧v=.tuple #[.slice none 0 0,.int .i64 (mayG deb g)]∧M'=[])∨(mayG deb g=0∧∃ F b l,IsFlow g.ds F∧IsFirst g.ds F l∧v=.tuple #[.slice (some ⟨b,0,none⟩) g.n g.n,.int .i64 0]∧M'=[fiRow b l])):=by
 refine spec_of_V [1,6,7] TryzEOK Tryz.func36 rfl rfl rfl ?_
 intro B h0
 have hgn:=hg.n
 have hcap:=hg.rs.cap
 refine AllocOb.mk fun b1 hb1 hbM1=>?_
 refine LoadOb.mk [.slice g.a g.n g.c] ⟨rfl,_,_,_,.inr ⟨_,.head _,rfl,rfl⟩,rfl,rfl⟩ ?_
 refine CallOb.mk [] [⟨b1,.cells #[.slice g.a g.n g.c] 24 (0,0)⟩] _ (.refl _) (FOf_spec hT hg) ?_
 rintro v I1 M1 - ⟨hI1,⟨hm,rfl,rfl⟩ | ⟨hm,bf,F,rfl,rfl,hF⟩⟩
 ·refine CondOb.mk (fun h=>?_) (fun h=>?_)
  ·exact⟨_,_,.sub (List.nil_sublist _) .refl,hI1,.inl ⟨hm,rfl,rfl⟩⟩
  ·exact absurd h (by simp[hm])
 refine CondOb.mk (fun h=>absurd h (by simp)) (fun _=>?_)
 have hM:=mayF_of hgn hm
 have hg1:=hg.mono hI1
 have hFn:=hF.len
 refine LoadOb.mk _ (blk_rd (b:=b1) (cs:=[.slice g.a g.n g.c]) (k:=0) (n:=1) (T:=24) (.tail _ (.head _)) (by simp)) ?_
 refine MakeOb.mk g.n g.n rfl rfl (Nat.le_refl _) (by show 40 * g.n≤_;omega) (by omega) ?_
 refine AllocOb.mk fun bl hbl hbMl=>?_
 refine AllocOb.mk fun b6 hb6 hbM6=>?_
 refine StoreOb.to [] _ _ _ rfl rfl rfl rfl [.slice (some ⟨bl,0,none⟩) g.n g.n] rfl ?_
 refine LoadOb.mk _ (blk_rd (b:=b1) (cs:=[.slice g.a g.n g.c]) (k:=0) (n:=1) (T:=24) (by simp) (by simp)) ?_
 refine MakeOb.mk g.n g.n rfl rfl (Nat.le_refl _) (by show 24 * g.n≤_;omega) (by omega) ?_
 refine AllocOb.mk fun bF hbF hbMF=>?_
 refine AllocOb.mk fun b7 hb7 hbM7=>?_
 refine StoreOb.to [] _ _ _ rfl rfl rfl rfl [.slice (some ⟨bF,0,none⟩) g.n g.n] rfl ?_
 refine LoadOb.mk _ (blk_rd (b:=b1) (cs:=[.slice g.a g.n g.c]) (k:=0) (n:=1) (T:=24) (by simp) (by simp)) ?_
 have e:rowOf fi0.cells (g.n * 5)=(List.replicate g.ds.length fi0).flatMap Fi.cells:=by rw[hgn];exact rowOf_fi g.n
 have e2:rowOf [nilV] (g.n * 1)=List.replicate g.n nilV:=rowOf_nil g.n
 refine LoopOb.invF (ι:=Nat×GH×List Value) (fun x=>{ fl:=[(1,.val (ptr b1)),(4,.val (.slice (some ⟨bf,0,none⟩) g.n g.n)),(6,.val (ptr b6)),(7,.val (ptr b7)),(28,.val (.slice g.a g.n g.c)),(29,.val (.int .i64 g.n)),(30,.val (.int .i64 x.1))],gi:=x.2.1,mi:=[⟨b7,.cells #[.slice (some ⟨bF,0,none⟩) g.n g.n] 134 (0,0)⟩,⟨bF,.cells x.2.2.toArray 74 (0,0)⟩,⟨b6,.cells #[.slice (some ⟨bl,0,none⟩) g.n g.n] 49 (0,0)⟩,fiRow bl (List.replicate g.ds.length fi0),flRow bf F,⟨b1,.cells #[.slice g.a g.n g.c] 24 (0,0)⟩] })
  (fun x=>x.1≤g.n∧(∀ b o,I1 b=some o→x.2.1 b=some o)∧RowsF x.2.1 (placesL g.ds) F g.ds x.1 x.2.2) (fun x=>g.n - x.1) (fun _=>?_) ?_
 ·refine⟨(0,I1,List.replicate g.n nilV),⟨Nat.zero_le _,fun _ _ h=>h,⟨by simp[hgn],fun i _ h=>by simp at h⟩⟩,?_,.cons .refl (.cons .refl (.cons .refl (.cons .refl (.cons .refl (.cons .refl (.cons .refl (.nil))))))),.nil⟩
  simp only[fiRow]
  rw[←e,←e2]
  exact .refl
 rintro⟨i,J,rows⟩ ⟨hi,hJ,hR⟩
 simp only at hi hJ hR
 have hgJ:=hg1.mono hJ
 refine CondOb.mk (fun h=>?_) (fun h=>?_)
 ·have hlt:i < g.n:=by have:(i:Int) < (g.n:Int):=of_decide_eq_true h;omega
  have hlt':i < g.ds.length:=by omega
  obtain⟨ad,had,hrd⟩:=hgJ.rs.row Df.cells_len hlt hlt'
  have hdm:=List.getElem_mem hlt'
  have hd:=hgJ.ds _ hdm
  have hr:=hM.right _ hdm
  have hno:=hM.named _ hdm
  have hRl:=hR.len
  refine IdxOb.mk ad i had rfl hlt ?_
  refine LoadOb.mk _ (hrd _) ?_
  have hTJ:=(hT.mono hI1).mono hJ
  have hnp:nodesP g F g.ds[i].t=some (nodesF (placesL g.ds) F g.ds[i].t.ns []):=by
   rw[nodesP,show decide (F.length=g.n)=true by rw[hFn];simp[hgn],hr,hno]
   rfl
  have hstep:∀ (J2:GH) (b:Nat),(∀ b o,J b=some o→J2 b=some o)→J2 b=none→RowsF (ins J2 b (flRow b (nodesF (placesL g.ds) F g.ds[i].t.ns [])).obj) (placesL g.ds) F g.ds (i+1) (rows.set i (rowV b g.ds[i].t.n)):=fun J2 b hJ2 hb=>by
   refine⟨by simpa using hRl,fun j hj hji=>?_⟩
   by_cases ej:j=i
   ·subst ej
    exact⟨b,by simp[hRl,hj],ins_self ..⟩
   ·obtain⟨bk,q1,q2⟩:=hR.row j hj (by omega)
    exact⟨bk,by rw[List.getElem?_set_ne (by omega)];exact q1,ins_le hb _ _ (hJ2 _ _ q2)⟩
  generalize g.ds[i]=d at hrd hd hr hno hnp hstep
  refine CodeOb.draw TryzEOK rfl rfl rfl ?_
  refine LoadOb.mk [.slice (some ⟨bF,0,none⟩) g.n g.n] ⟨rfl,_,_,_,.inr ⟨_,.head _,rfl,rfl⟩,rfl,rfl⟩ ?_
  refine LoadOb.mk [.slice g.a g.n g.c] ⟨rfl,_,_,_,.inr ⟨⟨b1,.cells #[.slice g.a g.n g.c] 24 (0,0)⟩,by simp,rfl,rfl⟩,rfl,rfl⟩ ?_
  have hat:FsAt J [⟨b7,.cells #[.slice (some ⟨bF,0,none⟩) g.n g.n] 134 (0,0)⟩,⟨bF,.cells rows.toArray 74 (0,0)⟩,⟨b6,.cells #[.slice (some ⟨bl,0,none⟩) g.n g.n] 49 (0,0)⟩,fiRow bl (List.replicate g.ds.length fi0),flRow bf F,⟨b1,.cells #[.slice g.a g.n g.c] 24 (0,0)⟩] (some ⟨bf,0,none⟩) g.n F:=by
   have:=flRow_at (I:=J) (M:=[⟨b7,.cells #[.slice (some ⟨bF,0,none⟩) g.n g.n] 134 (0,0)⟩,⟨bF,.cells rows.toArray 74 (0,0)⟩,⟨b6,.cells #[.slice (some ⟨bl,0,none⟩) g.n g.n] 49 (0,0)⟩,fiRow bl (List.replicate g.ds.length fi0),flRow bf F,⟨b1,.cells #[.slice g.a g.n g.c] 24 (0,0)⟩]) (b:=bf) (l:=F) (by simp)
   rwa [show F.length=g.n by omega] at this
  refine PCallOb.whole _ (FNodes_spec (lc:=g.n) hTJ hgJ hd.t hat) (fun v I' M' h x hx=>by
   rcases h.2 with ⟨-,-,rfl⟩ | ⟨r,b,-,-,rfl⟩
   ·exact hx
   ·exact .tail _ hx) ?_
  rintro v J2 M2 - ⟨hJ2,⟨hn,-,-⟩ | ⟨r,b,hn,rfl,rfl⟩⟩
  ·rw[hnp] at hn;cases hn
  rw[hnp] at hn
  obtain rfl:=Option.some.inj hn
  refine IdxOb.mk ⟨bF,0,none⟩ i rfl rfl hlt ?_
  refine StoreOb.addTo [_,_] _ rows _ rfl (by rw[Nat.ble_eq];show 0+i * 1+1≤rows.length;omega) rfl (rows.set i (rowV b d.t.n)) ?_ ?_
  ·show splice rows (0+i * 1) [rowV b d.t.n]=_
   rw[Nat.zero_add,Nat.mul_one,splice_oneI _ _ _ (by omega)]
  refine ArithOb.mk _ (next_wr (i:=i) (by omega)) ?_
  intro hfa
  have hb:=hfa.d (flRow b (nodesF (placesL g.ds) F d.t.ns [])) (.head _)
  exact⟨(i+1,ins J2 b (flRow b (nodesF (placesL g.ds) F d.t.ns [])).obj,rows.set i (rowV b d.t.n)),⟨⟨hlt,fun b o h=>ins_le hb _ _ (hJ2 _ _ (hJ _ _ h)),hstep J2 b hJ2 hb⟩,by simp only;omega⟩,.prom rfl (by simp) .refl,.cons .refl (.cons .refl (.cons .refl (.cons .refl (.cons .refl (.cons .refl (.cons .refl (.nil))))))),.nil⟩
 have hge:i=g.n:=by have:¬ (i:Int) < (g.n:Int):=of_decide_eq_false h;omega
 subst hge
 have hR':RowsF J (placesL g.ds) F g.ds g.ds.length rows:=by rw[hgn];exact hR
 refine LoopOb.inv (ι:=List Fi) (fun l=>{ fl:=[(6,.val (ptr b6)),(10,.val (.func (.func 77) #[] #[ptr b1,ptr b6,ptr b7]))],gi:=J,mi:=iM b6 bl b7 bF b1 g l rows }) (PreI g.ds F) offsI ?_ ?_
 ·refine⟨List.replicate g.ds.length fi0,PreR.start (O:=OI) _ _,.sub (.cons_cons _ (.cons_cons _ (.cons_cons _ (.cons_cons _ (.cons _ (.refl _)))))) (.perm (permI5 ..) .refl),.cons .refl (.cons .refl (.nil)),.nil⟩
 intro l hl
 refine CallOb.whole _ (IOf1_spec hgJ hkb hM hR' hl) ?_
 rintro v J3 M3 - ⟨rfl,rfl,rfl⟩
 have hgl:g.ds.length=g.n:=hgn
 obtain⟨r1,r2,-⟩:=roundR_pre bodyI_mono' g.ds.length 0 (Nat.zero_add _) hl
 rw[hgl] at r1 r2
 refine CondOb.mk (fun h=>?_) (fun h=>?_)
 ·exact⟨_,⟨by unfold PreI;rw[hgl];exact r1,offsI_lt r2 (of_decide_eq_true h)⟩,.refl,.cons .refl (.cons .refl (.nil)),.nil⟩
 ·have hf:roundR (bodyI (placesL g.ds) F g.ds) 0 g.n l=l:=by
   have:=of_decide_eq_false h
   exact Classical.not_not.1 this
  rw[hf]
  refine LoadOb.mk [.slice (some ⟨bl,0,none⟩) g.n g.n] ⟨rfl,_,_,_,.inr ⟨_,.head _,rfl,rfl⟩,rfl,rfl⟩ ?_
  refine⟨J3,[fiRow bl l],.sub (.cons _ (.cons _ (.cons_cons _ (List.nil_sublist _)))) .refl,fun b o h=>hJ _ _ (hI1 _ _ h),.inr ⟨hm,F,bl,l,hF,?_,rfl,rfl⟩⟩
  exact PreR.done bodyI_mono' hl (by rw[hgl];exact hf)
def okI (deb:List Int) (g:Gr) (l:List Fi) (t:Tr):Bool:=decide (l.length=g.n) && (decide (mayG deb g=0) && (right t && namedOk (placesL g.ds) t.ns))
set_option maxHeartbeats 4000000 in
theorem INodes_spec {I:GH} {M0:List Blk} {deb:List Int} (hT:Tabs I deb) {g:Gr} (hg:g.ok I) {t:Tr} (ht:t.ok I) (hkb:KB t) {la:Option Addr} {ln lc:Nat} {l:List Fi} (hl:IsAt I M0 la ln l) :
  Spec Tryz.prog 39 [g.val,.slice la ln lc,t.val] I M0 fun v I' M'=>(∀ b o,I b=some o→I' b=some o) ∧
   ((okI deb g l t=false∧v=.tuple #[.slice none 0 0,.bool false]∧M'=M0)∨(okI deb g l t=true∧∃ F b,IsFlow g.ds F∧v=.tuple #[.slice (some ⟨b,0,none⟩) t.n t.n,.bool true]∧M'=fiRow b (nodesI (placesL g.ds) l (nodesF (placesL g.ds) F t.ns []) t.ns [])::M0)):=by
 refine spec_of_V [] TryzEOK Tryz.func39 rfl rfl rfl ?_
 intro B h0
 have hgn:=hg.n
 have htn:=ht.n
 have hln:=hl.n
 refine CondOb.mk (fun h=>?_) (fun h=>?_)
 ·have hne:¬ (ln:Int)=(g.n:Int):=by simpa using h
  have hd:decide (l.length=g.n)=false:=decide_eq_false (by omega)
  exact⟨_,_,.refl,fun _ _ h=>h,.inl ⟨by simp[okI,hd],rfl,rfl⟩⟩
 have hln':ln=g.n:=by
  have:(ln:Int)=(g.n:Int):=by simpa using h
  omega
 have hd1:decide (l.length=g.n)=true:=decide_eq_true (by omega)
 refine CallOb.mk [] M0 _ (.refl _) (FOf_spec hT hg) ?_
 rintro v I1 M1 - ⟨hI1,⟨hm,rfl,rfl⟩ | ⟨hm,bf,F,rfl,rfl,hF⟩⟩
 ·refine CondOb.mk (fun _=>?_) (fun h=>absurd h (by simp[hm]))
  exact⟨_,_,.refl,hI1,.inl ⟨by simp[okI,hm],rfl,rfl⟩⟩
 refine CondOb.mk (fun h=>absurd h (by simp)) (fun _=>?_)
 have hFn:=hF.len
 have hg1:=hg.mono hI1
 have ht1:=ht.mono hI1
 have hat:FsAt I1 (flRow bf F::M0) (some ⟨bf,0,none⟩) g.n F:=by
  have:=flRow_at (I:=I1) (M:=flRow bf F::M0) (b:=bf) (l:=F) (.head _)
  rwa [show F.length=g.n by omega] at this
 refine CallOb.whole _ (FNodes_spec (lc:=g.n) (hT.mono hI1) hg1 ht1 hat) ?_
 have hdF:decide (F.length=g.n)=true:=decide_eq_true (by omega)
 rintro v I2 M2 - ⟨hI2,⟨hn,rfl,rfl⟩ | ⟨r,b,hn,rfl,rfl⟩⟩
 ·refine CondOb.mk (fun _=>?_) (fun h=>absurd h (by simp))
  refine⟨_,_,.sub (.cons _ (.refl _)) .refl,fun b o h=>hI2 _ _ (hI1 _ _ h),.inl ⟨?_,rfl,rfl⟩⟩
  cases hb:(right t && namedOk (placesL g.ds) t.ns) with
  | false=>simp[okI,hb]
  | true=>rw[nodesP,hdF,hb] at hn;cases hn
 refine CondOb.mk (fun h=>absurd h (by simp)) (fun _=>?_)
 have hb:(right t && namedOk (placesL g.ds) t.ns)=true:=by
  cases hb:(right t && namedOk (placesL g.ds) t.ns) with
  | false=>rw[nodesP,hdF,hb] at hn;cases hn
  | true=>rfl
 have hr:r=nodesF (placesL g.ds) F t.ns []:=by
  rw[nodesP,hdF,hb] at hn
  exact(Option.some.inj hn).symm
 subst hr
 have hb':=hb
 rw[Bool.and_eq_true] at hb'
 have hca:=called_of hb'.2
 rw[hgn,←hln'] at hca
 have hxl:=nodesF_len (placesL g.ds) F t.ns []
 simp only[List.length_nil,Nat.zero_add] at hxl
 have hxs:FsAt I2 (flRow b (nodesF (placesL g.ds) F t.ns [])::flRow bf F::M0) (some ⟨b,0,none⟩) t.n (nodesF (placesL g.ds) F t.ns []):=by
  have:=flRow_at (I:=I2) (M:=flRow b (nodesF (placesL g.ds) F t.ns [])::flRow bf F::M0) (b:=b) (l:=nodesF (placesL g.ds) F t.ns []) (.head _)
  rwa [hxl,htn] at this
 have hl2:IsAt I2 (flRow b (nodesF (placesL g.ds) F t.ns [])::flRow bf F::M0) la ln l:=((hl.mono hI1).mono hI2).sub fun x hx=>.tail _ (.tail _ hx)
 refine CallOb.whole _ (inodes_spec (lc:=lc) (xc:=t.n) (hg1.mono hI2) (ht1.mono hI2) hkb hb'.1 hl2 hca hxs) ?_
 rintro v I3 M3 - ⟨rfl,b3,rfl,rfl⟩
 exact⟨I3,fiRow b3 (nodesI (placesL g.ds) l (nodesF (placesL g.ds) F t.ns []) t.ns [])::M0,.sub (.cons_cons _ (.cons _ (.cons _ (.refl _)))) .refl,fun b o h=>hI2 _ _ (hI1 _ _ h),.inr ⟨by rw[okI,hd1,hm,hb];rfl,F,b3,hF,rfl,rfl⟩⟩
theorem ITree_spec {I:GH} {M0:List Blk} {deb:List Int} (hT:Tabs I deb) {g:Gr} (hg:g.ok I) {t:Tr} (ht:t.ok I) (hkb:KB t) {la:Option Addr} {ln lc:Nat} {l:List Fi} (hl:IsAt I M0 la ln l) :
  Spec Tryz.prog 41 [g.val,.slice la ln lc,t.val] I M0 fun v I' M'=>(∀ b o,I b=some o→I' b=some o)∧M'=M0 ∧
   ((okI deb g l t=false∧v=.tuple #[fi0.val,.bool false])∨(okI deb g l t=true∧∃ F,IsFlow g.ds F∧v=.tuple #[((nodesI (placesL g.ds) l (nodesF (placesL g.ds) F t.ns []) t.ns []).getD t.root.toNat fi0).val,.bool true])):=by
 refine spec_of_V [] TryzEOK Tryz.func41 rfl rfl rfl ?_
 intro B h0
 have htn:=ht.n
 refine CallOb.whole _ (INodes_spec (lc:=lc) hT hg ht hkb hl) ?_
 rintro v I1 M1 - ⟨hI1,⟨hn,rfl,rfl⟩ | ⟨hn,F,b,hF,rfl,rfl⟩⟩
 ·refine CondOb.mk (fun _=>?_) (fun h=>by simp at h)
  exact⟨_,_,.refl,hI1,rfl,.inl ⟨hn,rfl⟩⟩
 have hr:right t=true:=by
  simp only[okI,Bool.and_eq_true] at hn
  exact hn.2.2.1
 have hroot:=right_root hr
 have hnl:=nodesI_len (placesL g.ds) l (nodesF (placesL g.ds) F t.ns []) t.ns []
 simp only[List.length_nil,Nat.zero_add] at hnl
 refine CondOb.mk (fun h=>by simp at h) (fun _=>?_)
 have hrl':t.root.toNat < (nodesI (placesL g.ds) l (nodesF (placesL g.ds) F t.ns []) t.ns []).length:=by omega
 refine IdxOb.mk ⟨b,0,none⟩ t.root.toNat rfl (by omega) (by omega) ?_
 refine LoadOb.mk _ (fiRow_rd (.head _) hrl') ?_
 refine⟨_,M0,.sub (.cons _ (.refl _)) .refl,hI1,rfl,.inr ⟨hn,F,hF,?_⟩⟩
 simp only[List.getD_eq_getElem?_getD,List.getElem?_eq_getElem hrl',Option.getD_some]
 rfl
end Go.V
namespace Go.V
open Go
def Tr.ct (t:Tr):Tr:=⟨t.ns.map Nd.ct,none,t.n,0,t.root⟩
def Df.ct (d:Df):Df:=⟨d.name,d.t.ct⟩
def Gr.ct (g:Gr):Gr:=⟨g.ds.map Df.ct,none,g.n,0⟩
theorem nodesOk_ct:∀ (ds:List Nd) (i:Nat) (s:List Bool),nodesOk i (ds.map Nd.ct) s=nodesOk i ds s
 | [],i,s=>rfl
 | d::ds,i,s=>by
  have h:∀ s',nodesOk (i+1) (ds.map Nd.ct) s'=nodesOk (i+1) ds s':=fun s'=>nodesOk_ct ds (i+1) s'
  rw[List.map_cons,nodesOk,nodesOk]
  simp only[h]
  rfl
theorem right_ct (t:Tr):right t.ct=right t:=by
 unfold right Tr.ct
 simp only[nodesOk_ct,List.length_map]
theorem kindAt_ct (ns:List Nd) (k:Int):kindAt (ns.map Nd.ct) k=kindAt ns k:=by
 unfold kindAt
 rw[List.map_map]
 rfl
theorem normKids_ct (ns:List Nd) (kind:Int):∀ ks,normKids (ns.map Nd.ct) kind ks=normKids ns kind ks
 | []=>rfl
 | k::ks=>by rw[normKids,normKids,kindAt_ct,normKids_ct ns kind ks]
theorem normNodes_ct (ns:List Nd):∀ ds:List Nd,normNodes (ns.map Nd.ct) (ds.map Nd.ct)=normNodes ns ds
 | []=>rfl
 | d::ds=>by
  have h:=normKids_ct ns d.k d.kids
  rw[List.map_cons,normNodes,normNodes,normNodes_ct ns ds]
  show (bif !decide (d.k=4) && !decide (d.k=5) then normNodes ns ds else bif normKids (ns.map Nd.ct) d.k d.kids then normNodes ns ds else false)=_
  rw[h]
theorem normal_ct (t:Tr):normal t.ct=normal t:=by
 unfold normal
 rw[right_ct]
 congr 1
 exact normNodes_ct t.ns t.ns
theorem depthsFrom_ct:∀ (ds:List Nd) (i:Nat) (dp:List Int),depthsFrom i (ds.map Nd.ct) dp=depthsFrom i ds dp
 | [],i,dp=>rfl
 | d::ds,i,dp=>by
  rw[List.map_cons,depthsFrom,depthsFrom,depthsFrom_ct ds]
  rfl
theorem depth_ct (t:Tr):depth t.ct=depth t:=by
 unfold depth
 rw[right_ct]
 simp only[Tr.ct,depthsFrom_ct,List.length_map]
theorem mayTree_ct (t:Tr):mayTree t.ct=mayTree t:=by
 unfold mayTree
 rw[right_ct,depth_ct]
 rfl
theorem tab_ct {α:Type} {z:α} {f g:Nd→(Int→α)→α} (h:∀ d q,f d.ct q=g d q):∀ (ds:List Nd) (acc:List α),tab z f (ds.map Nd.ct) acc=tab z g ds acc
 | [],acc=>rfl
 | d::ds,acc=>by rw[List.map_cons,tab,tab,h,tab_ct h ds]
theorem textOf_ct (deb:List Int) (ns:List Nd) (k:Int):textOf deb (ns.map Nd.ct) k=textOf deb ns k:=by
 unfold textOf tabOf
 rw[tab_ct (g:=nodeT deb ns) (fun d q=>?_)]
 show aheadB deb d++(kidsT (sepOf d) (fun k=>paren (wrapsV d.k (kindAt (ns.map Nd.ct) k)) (q k)) false d.kids++behindB d)=_
 simp only[kindAt_ct]
 rfl
theorem treeB_ct (deb:List Int) (t:Tr):treeB deb t.ct=treeB deb t:=by
 unfold treeB
 rw[right_ct]
 have:textOf deb t.ct.ns t.ct.root=textOf deb t.ns t.root:=textOf_ct deb t.ns t.root
 rw[this]
theorem defB_ct (deb:List Int) (d:Df):defB deb d.ct=defB deb d:=by
 unfold defB
 have:treeB deb d.ct.t=treeB deb d.t:=treeB_ct deb d.t
 rw[this]
 rfl
theorem gramB_ct (deb:List Int):∀ (ds:List Df) (acc:List UInt8),gramB deb (ds.map Df.ct) acc=gramB deb ds acc
 | [],acc=>rfl
 | d::ds,acc=>by rw[List.map_cons,gramB,gramB,defB_ct,gramB_ct deb ds]
theorem nodesG_ct (g:Gr):nodesG g.ct=nodesG g:=by
 unfold nodesG Gr.ct
 rw[List.map_map]
 congr 1
 refine List.map_congr_left fun d _=>?_
 show sizeT d.t.ct=sizeT d.t
 unfold sizeT
 rw[right_ct]
 rfl
theorem all_ct {q:Df→Bool} (h:∀ d,q d.ct=q d) (ds:List Df):(ds.map Df.ct).all q=ds.all q:=by
 rw[List.all_map]
 congr 1
 funext d
 exact h d
theorem largeG_ct (deb:List Int) (g:Gr):largeG deb g.ct=largeG deb g:=by
 unfold largeG
 rw[nodesG_ct]
 have h1:(g.ct.ds.all fun d=>mayTree d.t)=g.ds.all fun d=>mayTree d.t:=all_ct (fun d=>mayTree_ct d.t) g.ds
 have h2:gramB deb g.ct.ds []=gramB deb g.ds []:=gramB_ct deb g.ds []
 rw[h1,h2]
 rfl
theorem okDefs_ct (ds:List Df):okDefs (ds.map Df.ct)=okDefs ds:=all_ct (q:=fun d=>mayName d.name && normal d.t) (fun d=>by
 show (mayName d.name && normal d.t.ct)=_
 rw[normal_ct]) ds
theorem dups_ct:∀ (ds:List Df) (acc:List (ByteArray×Int)) (i:Nat),dups acc i (ds.map Df.ct)=dups acc i ds
 | [],acc,i=>rfl
 | d::ds,acc,i=>by
  rw[List.map_cons,dups,dups]
  show (bif (lookM d.name acc).isSome then none else dups (acc++[(d.name,(i:Int))]) (i+1) (ds.map Df.ct))=_
  rw[dups_ct ds]
theorem pairs_ct:∀ (ds:List Df) (i:Nat),nodePairs i (ds.map Df.ct)=(nodePairs i ds).map fun p=>(p.1,p.2.ct)
 | [],i=>rfl
 | d::ds,i=>by
  rw[List.map_cons,nodePairs,nodePairs,pairs_ct ds,List.map_append,List.map_map]
  show (d.t.ns.map Nd.ct).map (fun n=>(i,n))++_=_
  rw[List.map_map]
  rfl
theorem allNamed_ct (acc:List (ByteArray×Int)) (ds:List Df):allNamed acc (ds.map Df.ct)=allNamed acc ds:=by
 unfold allNamed
 rw[pairs_ct,List.all_map]
 rfl
theorem mayG_ct (deb:List Int) (g:Gr):mayG deb g.ct=mayG deb g:=by
 unfold mayG
 rw[largeG_ct]
 have h1:okDefs g.ct.ds=okDefs g.ds:=okDefs_ct g.ds
 have h2:dups [] 0 g.ct.ds=dups [] 0 g.ds:=dups_ct g.ds [] 0
 have h3:∀ acc,allNamed acc g.ct.ds=allNamed acc g.ds:=fun acc=>allNamed_ct acc g.ds
 rw[h1,h2]
 simp only[h3]
 rfl
theorem nodesF_ct (pl:List (ByteArray×Int)) (fl:List Fl):∀ (ds:List Nd) (acc:List Fl),nodesF pl fl (ds.map Nd.ct) acc=nodesF pl fl ds acc
 | [],acc=>rfl
 | d::ds,acc=>by
  rw[List.map_cons,nodesF,nodesF,nodesF_ct pl fl ds]
  rfl
theorem namedOk_ct (pl:List (ByteArray×Int)) (ns:List Nd):namedOk pl (ns.map Nd.ct)=namedOk pl ns:=by
 unfold namedOk
 rw[List.all_map]
 rfl
theorem placesGo_ct:∀ (ds:List Df) (acc:List (ByteArray×Int)) (i:Nat),placesGo acc i (ds.map Df.ct)=placesGo acc i ds
 | [],acc,i=>rfl
 | d::ds,acc,i=>by
  rw[List.map_cons,placesGo,placesGo,placesGo_ct ds]
  rfl
theorem placesL_ct (ds:List Df):placesL (ds.map Df.ct)=placesL ds:=placesGo_ct ds [] 0
theorem bodyF_ct (pl:List (ByteArray×Int)) (fl:List Fl) (d:Df):bodyF pl fl d.ct=bodyF pl fl d:=by
 unfold bodyF
 have:nodesF pl fl d.ct.t.ns []=nodesF pl fl d.t.ns []:=nodesF_ct pl fl d.t.ns []
 rw[this]
 rfl
theorem isFlow_ct {ds:List Df} {l:List Fl} (h:IsFlow ds l):IsFlow (ds.map Df.ct) l:=by
 refine⟨by rw[h.len,List.length_map],fun i hi=>?_,fun m hm hc=>?_⟩
 ·have hi':i < ds.length:=by simpa using hi
  rw[placesL_ct,List.getElem_map,bodyF_ct]
  exact h.fix i hi'
 ·refine h.least m (by rw[hm,List.length_map]) fun i hi=>?_
  have:=hc i (by simpa using hi)
  rwa [placesL_ct,List.getElem_map,bodyF_ct] at this
structure TC (I:GH) (t:Tr) (l:List Nd):Prop where
 ok:t.ok I
 ct:t.ns.map Nd.ct=l
 root:t.root=(l.length:Int) - 1
theorem TC.len {I:GH} {t:Tr} {l:List Nd} (h:TC I t l):t.n=l.length:=by
 rw[←h.ok.n,←h.ct,List.length_map]
theorem TC.leaf {I:GH} {t:Tr} {d:Nd} (ht:t.ok I) (h1:t.ns=[d]) (h2:t.root=0) (hd:d.ct=d):TC I t [d]:=⟨ht,by rw[h1];simp[hd],by rw[h2];rfl⟩
def cleanL (l:List Nd):List Nd:=subC l ((l.length:Int) - 1)
end Go.V
namespace Go.V
open Go Go.Proofs
def ofL (d:Nd) (ls:List (List Nd)):List Nd:=ofNds d (ls.map cleanL)
end Go.V
namespace Go.V
open Go Go.Proofs
structure TrSmall (t:Tr):Prop where
 n:t.n < 2500
 ns:∀ nd∈t.ns,NdSmall nd
theorem TrW.ok {I:GH} {t:Tr} (h:TrW I t) (hs:TrSmall t):t.ok I:=
 ⟨h.rs.big (by have:=hs.n;omega),fun nd hnd=>(h.ns nd hnd).ok (hs.ns nd hnd),h.root⟩
def bodies (g:Gr) (L0:List Tr) (i:Nat):List Tr:=L0++(g.ds.take i).map Df.t
structure L2 (L:List Tr) (n0:Nat) (x:Nat×Nat):Prop where
 i:x.2≤L.length
 n:x.1≤6000
 ge:n0≤x.1
 small:x.1 < 2500→x.2≤x.1∧∀ j (h:j < L.length),j < x.2→TrSmall L[j]
end Go.V
namespace Go.V
open Go Go.Proofs
end Go.V
namespace Go.V
open Go Go.Proofs
section
variable {I:GH} {M:List Blk} {d:Nd} {a:Option Addr} {n c:Nat} {ks:List Fl}
end
end Go.V
namespace Go.V
open Go Go.Proofs
end Go.V
namespace Go.V
open Go Go.Proofs
end Go.V
namespace Go.V
open Go Go.Proofs
end Go.V
namespace Go.V
open Go Go.Proofs
end Go.V
namespace Go.V
open Go Go.Proofs
end Go.V
namespace Go.V
open Go Go.Proofs
end Go.V
namespace Go.V
open Go Go.Proofs
end Go.V
namespace Go.V
open Go Go.Proofs
end Go.V
namespace Go.V
open Go Go.Proofs
end Go.V
namespace Go.V
open Go Go.Proofs
end Go.V
namespace Go.V
open Go Go.Proofs
end Go.V
namespace Go.V
open Go Go.Proofs
end Go.V
namespace Go.V
open Go Go.Proofs
end Go.V
namespace Go.V
open Go
def allR {α:Type} (n:Nat) (body:List α→Nat→α) (l:List α):List α:=(List.range n).map (body l)
theorem allR_len {α:Type} (n:Nat) (body:List α→Nat→α) (l:List α):(allR n body l).length=n:=by simp[allR]
theorem allR_get {α:Type} {n:Nat} (body:List α→Nat→α) (l:List α) (b:α) {i:Nat} (h:i < n):(allR n body l).getD i b=body l i:=by simp[allR,List.getD_eq_getElem?_getD,h]
section
variable {α:Type} {O:OrdB α} {n:Nat} {body:List α→Nat→α} (hmono:∀ {l m:List α},LeR O l m→∀ i,i < n→O.le (body l i) (body m i))
include hmono
theorem PreR.all {l:List α} (h:PreR O n body l):PreR O n body (allR n body l)∧LeR O l (allR n body l):=by
 have hle:LeR O l (allR n body l):=.of (by rw[allR_len,h.len]) fun i hi=>by
  rw[allR_get _ _ _ (by rw[←h.len];exact hi)]
  exact h.up i (by rw[←h.len];exact hi)
 refine⟨⟨allR_len _ _ _,fun i hi=>?_,fun m hm hc=>?_⟩,hle⟩
 ·rw[allR_get _ _ _ hi]
  exact hmono hle i hi
 ·refine .of (by rw[allR_len,hm]) fun i hi=>?_
  rw[allR_len] at hi
  rw[allR_get _ _ _ hi]
  exact O.trans (hmono (h.least m hm hc) i hi) (hc i hi)
end
section
variable {n:Nat} {body:List Fi→Nat→Fi} (hmono:∀ {l m:List Fi},LeR OI l m→∀ i,i < n→OI.le (body l i) (body m i))
include hmono
end
end Go.V
namespace Go.V
open Go Go.Proofs
structure FA where
 l:List Fl
 a:Option Addr
 n:Nat
 c:Nat
def FA.val (x:FA):Value:=.slice x.a x.n x.c
end Go.V
namespace Go.V
open Go Go.Proofs
theorem map_getD {ds:List Df} {f:Df→Fl} {i:Nat} (h:i < ds.length):(ds.map f).getD i fl0=f ds[i]:=by simp[List.getD_eq_getElem?_getD,h]
theorem PreF.all {ds:List Df} {l:List Fl} (h:PreF ds l):PreF ds (ds.map (bodyF (placesL ds) l))∧LeL l (ds.map (bodyF (placesL ds) l)):=by
 have hle:LeL l (ds.map (bodyF (placesL ds) l)):=LeL.of (by simp[h.len]) fun i hi=>by
  rw[map_getD (by rw[←h.len];exact hi)]
  exact h.up i _
 refine⟨⟨by simp,fun i hi=>?_,fun m hm hc=>LeL.of (by simp[hm]) fun i hi=>?_⟩,hle⟩
 ·rw[map_getD hi]
  exact body_mono hle _
 ·have hi':i < ds.length:=by simpa using hi
  rw[map_getD hi']
  exact(body_mono (h.least m hm hc) _).trans (hc i hi')
end Go.V
namespace Go.V
open Go Go.Proofs
structure NdC where
 k:Int
 s0:Int
 s1:Int
 s2:Int
 s3:Int
 t:List UInt8
 lo:Int
 hi:Int
 kids:List Int
def NdC.nd (c:NdC) (a:Option Addr) (n k:Nat):Nd:=⟨c.k,c.s0,c.s1,c.s2,c.s3,⟨c.t.toArray⟩,c.lo,c.hi,a,n,k,c.kids⟩
inductive NdsR:List NdC→List Nd→Prop
 | nil:NdsR [] []
 | cons {c cs ns} (a:Option Addr) (n k:Nat) (t:NdsR cs ns):NdsR (c::cs) (c.nd a n k::ns)
structure TrC where
 ns:List NdC
 root:Int
structure TrR (c:TrC) (t:Tr):Prop where
 ns:NdsR c.ns t.ns
 root:t.root=c.root
structure DfC where
 name:List UInt8
 t:TrC
inductive DfsR:List DfC→List Df→Prop
 | nil:DfsR [] []
 | cons {c cs ds} {t:Tr} (h:TrR c.t t) (k:DfsR cs ds):DfsR (c::cs) (⟨⟨c.name.toArray⟩,t⟩::ds)
def okIk:Int→Bool
 | .ofNat k=>Nat.ble k 9223372036854775807
 | .negSucc k=>Nat.ble k 9223372036854775807
def okU:Int→Bool
 | .ofNat k=>Nat.ble k 18446744073709551615
 | .negSucc _=>false
def okB:Int→Bool
 | .ofNat k=>Nat.ble k 255
 | .negSucc _=>false
theorem okIk_eq {x:Int} (h:okIk x=true):i64ok x:=by
 cases x with
 | ofNat k=>
  have:=Nat.le_of_ble_eq_true h
  exact⟨by simp only[Int.ofNat_eq_natCast];omega,by simp only[Int.ofNat_eq_natCast];omega⟩
 | negSucc k=>
  have:=Nat.le_of_ble_eq_true h
  exact⟨by omega,by omega⟩
theorem okU_eq {x:Int} (h:okU x=true):u64ok x:=by
 cases x with
 | ofNat k=>
  have:=Nat.le_of_ble_eq_true h
  exact⟨by simp,by simp;omega⟩
 | negSucc k=>cases h
theorem okB_eq {x:Int} (h:okB x=true):0≤x∧x < 256:=by
 cases x with
 | ofNat k=>
  have:=Nat.le_of_ble_eq_true h
  exact⟨by simp,by simp;omega⟩
 | negSucc k=>cases h
noncomputable def asU8:EV→Option Int
 | .i .u8 n=>cnd (okB n) (some n) none
 | _=>none
noncomputable def asU64:EV→Option Int
 | .i .u64 n=>cnd (okU n) (some n) none
 | _=>none
noncomputable def asI64:EV→Option Int
 | .i .i64 n=>cnd (okIk n) (some n) none
 | _=>none
noncomputable def asS:EV→Option (List UInt8)
 | .s l=>cnd (Nat.ble l.length 140737488355328) (some l) none
 | _=>none
section
variable {D:Nm} {v:EV} {u:Value}
theorem asU8_ok {n:Int} (h:asU8 v=some n) (hv:VR D v u):u=.int .u8 n∧0≤n∧n < 256:=by
 unfold asU8 at h
 split at h
 ·obtain⟨h1,h2⟩:=cnd_some h
  cases h2
  simp only[VR] at hv
  exact⟨hv,okB_eq h1⟩
 ·cases h
theorem asU64_ok {n:Int} (h:asU64 v=some n) (hv:VR D v u):u=.int .u64 n∧u64ok n:=by
 unfold asU64 at h
 split at h
 ·obtain⟨h1,h2⟩:=cnd_some h
  cases h2
  simp only[VR] at hv
  exact⟨hv,okU_eq h1⟩
 ·cases h
theorem asI64_ok {n:Int} (h:asI64 v=some n) (hv:VR D v u):u=.int .i64 n∧i64ok n:=by
 unfold asI64 at h
 split at h
 ·obtain⟨h1,h2⟩:=cnd_some h
  cases h2
  simp only[VR] at hv
  exact⟨hv,okIk_eq h1⟩
 ·cases h
theorem asS_ok {l:List UInt8} (h:asS v=some l) (hv:VR D v u):u=.string ⟨l.toArray⟩∧(⟨l.toArray⟩:ByteArray).size≤140737488355328:=by
 unfold asS at h
 split at h
 ·obtain⟨h1,h2⟩:=cnd_some h
  cases h2
  simp only[VR] at hv
  exact⟨hv,Nat.le_of_ble_eq_true h1⟩
 ·cases h
end
noncomputable def readS {R:Type} (G:GT) (m:Tri Ent) (x:EV) (size b:Nat) (K:List EV→Option R):Option R:=match x with
 | .sn=>K []
 | .so=>K []
 | .sl id off n c=>cnd (Nat.ble n c) (cnd (Nat.ble (Nat.mul n b) 140737488355328) (loadE G m (.p id off) (Nat.mul n size) K) none) none
 | .sx id off e n=>cnd (Nat.ble (Nat.mul n b) 140737488355328) (loadE G m (.p id off) (Nat.mul n size) K) none
 | _=>none
noncomputable def ints:List EV→Option (List Int)
 | []=>some []
 | v::l=>opn (asI64 v) none fun n=>opn (ints l) none fun r=>some (n::r)
noncomputable def readNds (G:GT) (m:Tri Ent):List EV→Option (List NdC)
 | []=>some []
 | a::b::c::d::e::f::g::h::x::l=>opn (asU8 a) none fun a=>opn (asU64 b) none fun b=>opn (asU64 c) none fun c=>opn (asU64 d) none fun d=>opn (asU64 e) none fun e=>opn (asS f) none fun f=>opn (asI64 g) none fun g=>opn (asI64 h) none fun h=>
  opn (readS G m x 1 8 ints) none fun ks=>opn (readNds G m l) none fun ns=>some (⟨a,b,c,d,e,f,g,h,ks⟩::ns)
 | _=>none
noncomputable def readTr (G:GT) (m:Tri Ent) (x r:EV):Option TrC:=opn (readS G m x 9 96 (readNds G m)) none fun ns=>opn (asI64 r) none fun r=>some ⟨ns,r⟩
noncomputable def readDfs (G:GT) (m:Tri Ent):List EV→Option (List DfC)
 | []=>some []
 | a::x::r::l=>opn (asS a) none fun a=>opn (readTr G m x r) none fun t=>opn (readDfs G m l) none fun ds=>some (⟨a,t⟩::ds)
 | _=>none
noncomputable def readGr (G:GT) (m:Tri Ent):EV→Option (List DfC)
 | .a [x]=>readS G m x 3 48 (readDfs G m)
 | _=>none
section
variable {Y:RK} {D:Nm} {m:Me} {I J:GH} {M:List Blk}
theorem readS_ok {R:Type} (h:MS Y D m I M) (hJ:Frz I M J) {x:EV} {u:Value} (hx:VR D x u) {size b:Nat} {K:List EV→Option R} {r:R} (hr:readS Y.G m.t x size b K=some r) :
  ∃ a n c l vs,u=.slice a n c∧RS J a n c size b vs∧VRs D l vs∧K l=some r:=by
 unfold readS at hr
 split at hr
 ·simp only[VR] at hx
  exact⟨none,0,0,[],[],hx,⟨by simp,⟨Nat.le_refl _,by omega⟩,.inl rfl⟩,by simp[VRs],hr⟩
 ·simp only[VR] at hx
  obtain⟨a,c,hx⟩:=hx
  exact⟨some a,0,c,[],[],hx,⟨by simp,⟨Nat.zero_le _,by omega⟩,.inl rfl⟩,by simp[VRs],hr⟩
 ·rename_i id off n c
  obtain⟨h1,hr⟩:=cnd_some hr
  obtain⟨h2,hr⟩:=cnd_some hr
  simp only[VR] at hx
  obtain⟨a,ha,hx⟩:=hx
  obtain⟨ad,l,vs,e1,e2,e3,e4⟩:=loadE_ok h (x:=.p id off) (u:=.pointer (some ⟨a.b,a.o+off,none⟩)) (by simp only[VR];exact⟨a,ha,rfl⟩) hr
  cases e1
  obtain⟨g1,cs,T,f,g2,g3,g4⟩:=e2
  exact⟨_,n,c,l,vs,hx,⟨g4,⟨Nat.le_of_ble_eq_true h1,Nat.le_of_ble_eq_true h2⟩,.inr ⟨_,rfl,rfl,cs,T,f,hJ.kn _ _ g2,g3⟩⟩,e3,e4⟩
 ·rename_i id off e n
  obtain⟨h2,hr⟩:=cnd_some hr
  simp only[VR] at hx
  obtain⟨a,ha,hc,hx⟩:=hx
  obtain⟨ad,l,vs,e1,e2,e3,e4⟩:=loadE_ok h (x:=.p id off) (u:=.pointer (some ⟨a.b,a.o+off,none⟩)) (by simp only[VR];exact⟨a,ha,rfl⟩) hr
  cases e1
  obtain⟨g1,cs,T,f,g2,g3,g4⟩:=e2
  exact⟨_,n,a.c - e,l,vs,hx,⟨g4,⟨by omega,Nat.le_of_ble_eq_true h2⟩,.inr ⟨_,rfl,rfl,cs,T,f,hJ.kn _ _ g2,g3⟩⟩,e3,e4⟩
 ·cases hr
theorem ints_ok:∀ {l:List EV} {vs:List Value} {ks:List Int},ints l=some ks→VRs D l vs→vs=ks.map (Value.int .i64 ·)∧∀ x∈ks,i64ok x
 | [],vs,ks,h,hv=>by
  cases h
  simp only[VRs] at hv
  exact⟨hv,by simp⟩
 | v::l,vs,ks,h,hv=>by
  unfold ints at h
  obtain⟨n,h1,h⟩:=opn_eq h
  obtain⟨r,h2,h⟩:=opn_eq h
  cases h
  simp only[VRs] at hv
  obtain⟨x,xs,g1,g2,rfl⟩:=hv
  obtain⟨rfl,e1⟩:=asI64_ok h1 g1
  obtain⟨rfl,e2⟩:=ints_ok h2 g2
  exact⟨rfl,fun x hx=>(List.mem_cons.1 hx).elim (fun e=>e ▸ e1) (e2 x)⟩
theorem readNds_ok (h:MS Y D m I M) (hJ:Frz I M J):∀ (l:List EV) {vs:List Value} {cs:List NdC},readNds Y.G m.t l=some cs→VRs D l vs→∃ ns:List Nd,vs=ns.flatMap Nd.cells∧NdsR cs ns∧∀ d∈ns,d.ok J
 | [],vs,cs,hr,hv=>by
  cases hr
  simp only[VRs] at hv
  exact⟨[],hv,.nil,by simp⟩
 | a::b::c::d::e::f::g::i::x::l,vs,cs,hr,hv=>by
  unfold readNds at hr
  obtain⟨a',h1,hr⟩:=opn_eq hr
  obtain⟨b',h2,hr⟩:=opn_eq hr
  obtain⟨c',h3,hr⟩:=opn_eq hr
  obtain⟨d',h4,hr⟩:=opn_eq hr
  obtain⟨e',h5,hr⟩:=opn_eq hr
  obtain⟨f',h6,hr⟩:=opn_eq hr
  obtain⟨g',h7,hr⟩:=opn_eq hr
  obtain⟨i',h8,hr⟩:=opn_eq hr
  obtain⟨ks,h9,hr⟩:=opn_eq hr
  obtain⟨ns',h10,hr⟩:=opn_eq hr
  cases hr
  simp only[VRs] at hv
  obtain⟨_,_,k1,⟨_,_,k2,⟨_,_,k3,⟨_,_,k4,⟨_,_,k5,⟨_,_,k6,⟨_,_,k7,⟨_,_,k8,⟨_,_,k9,k10,rfl⟩,rfl⟩,rfl⟩,rfl⟩,rfl⟩,rfl⟩,rfl⟩,rfl⟩,rfl⟩:=hv
  obtain⟨rfl,e1⟩:=asU8_ok h1 k1
  obtain⟨rfl,e2⟩:=asU64_ok h2 k2
  obtain⟨rfl,e3⟩:=asU64_ok h3 k3
  obtain⟨rfl,e4⟩:=asU64_ok h4 k4
  obtain⟨rfl,e5⟩:=asU64_ok h5 k5
  obtain⟨rfl,e6⟩:=asS_ok h6 k6
  obtain⟨rfl,e7⟩:=asI64_ok h7 k7
  obtain⟨rfl,e8⟩:=asI64_ok h8 k8
  obtain⟨ka,kn,kc,li,vi,rfl,e9,e10,e11⟩:=readS_ok h hJ k9 h9
  obtain⟨rfl,e12⟩:=ints_ok e11 e10
  obtain⟨ns,rfl,e13,e14⟩:=readNds_ok h hJ l h10 k10
  refine⟨NdC.nd ⟨a',b',c',d',e',f',g',i',ks⟩ ka kn kc::ns,rfl,.cons ka kn kc e13,fun y hy=>?_⟩
  rcases List.mem_cons.1 hy with rfl | hy
  ·exact⟨e1,e2,e3,e4,e5,Nat.le_trans e6 (by decide),e7,e8,e9,e12⟩
  ·exact e14 y hy
theorem readTr_ok (h:MS Y D m I M) (hJ:Frz I M J) {x r:EV} {u w:Value} {c:TrC} (hr:readTr Y.G m.t x r=some c) (hx:VR D x u) (hw:VR D r w):∃ t:Tr,u=.slice t.a t.n t.c∧w=.int .i64 t.root∧t.ok J∧TrR c t:=by
 unfold readTr at hr
 obtain⟨ns,h1,hr⟩:=opn_eq hr
 obtain⟨k,h2,hr⟩:=opn_eq hr
 cases hr
 obtain⟨rfl,e1⟩:=asI64_ok h2 hw
 obtain⟨a,n,c,l,vs,rfl,e2,e3,e4⟩:=readS_ok h hJ hx h1
 obtain⟨ds,rfl,e5,e6⟩:=readNds_ok h hJ l e4 e3
 exact⟨⟨ds,a,n,c,k⟩,rfl,rfl,⟨e2,e6,e1⟩,⟨e5,rfl⟩⟩
theorem readDfs_ok (h:MS Y D m I M) (hJ:Frz I M J):∀ (l:List EV) {vs:List Value} {cs:List DfC},readDfs Y.G m.t l=some cs→VRs D l vs→∃ ds:List Df,vs=ds.flatMap Df.cells∧DfsR cs ds∧∀ d∈ds,d.ok J
 | [],vs,cs,hr,hv=>by
  cases hr
  simp only[VRs] at hv
  exact⟨[],hv,.nil,by simp⟩
 | a::x::r::l,vs,cs,hr,hv=>by
  unfold readDfs at hr
  obtain⟨a',h1,hr⟩:=opn_eq hr
  obtain⟨t',h2,hr⟩:=opn_eq hr
  obtain⟨ds',h3,hr⟩:=opn_eq hr
  cases hr
  simp only[VRs] at hv
  obtain⟨_,_,k1,⟨_,_,k2,⟨_,_,k3,k4,rfl⟩,rfl⟩,rfl⟩:=hv
  obtain⟨rfl,e1⟩:=asS_ok h1 k1
  obtain⟨t,rfl,rfl,e2,e3⟩:=readTr_ok h hJ h2 k2 k3
  obtain⟨ds,rfl,e4,e5⟩:=readDfs_ok h hJ l h3 k4
  refine⟨⟨⟨a'.toArray⟩,t⟩::ds,rfl,.cons (c:=⟨a',t'⟩) e3 e4,fun y hy=>?_⟩
  rcases List.mem_cons.1 hy with rfl | hy
  ·exact⟨e1,e2⟩
  ·exact e5 y hy
theorem readGr_ok (h:MS Y D m I M) (hJ:Frz I M J) {x:EV} {u:Value} {cs:List DfC} (hr:readGr Y.G m.t x=some cs) (hx:VR D x u):∃ g:Gr,u=g.val∧g.ok J∧DfsR cs g.ds:=by
 unfold readGr at hr
 split at hr
 ·simp only[VR,VRs] at hx
  obtain⟨_,⟨y,_,hx,rfl,rfl⟩,rfl⟩:=hx
  obtain⟨a,n,c,l,vs,rfl,e2,e3,e4⟩:=readS_ok h hJ hx hr
  obtain⟨ds,rfl,e5,e6⟩:=readDfs_ok h hJ l e4 e3
  exact⟨⟨ds,a,n,c⟩,rfl,⟨e2,e6⟩,e5⟩
 ·cases hr
end
end Go.V
namespace Go.V
open Go Go.Proofs
noncomputable def grOf (f g:Nat) (text:List UInt8):Option (List DfC×Int×IntKind×Int):=opn (callF YK (E_code YK f) g [.s text] ⟨.nil,0⟩) none fun p=>match p.1 with
 | .t [x,.i .i64 a,.i k e]=>opn (readGr GTs p.2.t x) none fun c=>some (c,a,k,e)
 | _=>none
noncomputable def exprOf (f g:Nat) (text:List UInt8):Option (TrC×Int×IntKind×Int):=opn (callF YK (E_code YK f) g [.s text] ⟨.nil,0⟩) none fun p=>match p.1 with
 | .t [.a [x,r],.i .i64 a,.i k e]=>opn (readTr GTs p.2.t x r) none fun c=>some (c,a,k,e)
 | _=>none
theorem grOf_spec {I:GH} (hT:Tabs I debL) {f g:Nat} {text:List UInt8} {c:List DfC} {a:Int} {k:IntKind} {e:Int} (h:grOf f g text=some (c,a,k,e)) :
  Spec Tryz.prog g [.string ⟨text.toArray⟩] I [] fun r J M''=>M''=[]∧(∀ b o,I b=some o→J b=some o)∧∃ G:Gr,r=.tuple #[G.val,.int .i64 a,.int k e]∧G.ok J∧DfsR c G.ds:=by
 unfold grOf at h
 obtain⟨⟨v,m'⟩,h1,h⟩:=opn_eq h
 refine Spec.weakK (reckonX hT h1 (us:=[.string ⟨text.toArray⟩]) (by simp[VRs,VR])) ?_
 rintro r J M'' ⟨rfl,hle,I',M',D',hv,hm,hJ⟩
 refine⟨rfl,hle,?_⟩
 simp only at h
 split at h
 ·obtain⟨c',h2,h⟩:=opn_eq h
  cases h
  simp only[VR,VRs] at hv
  obtain⟨_,⟨u,_,hu,⟨_,_,rfl,⟨_,_,rfl,rfl,rfl⟩,rfl⟩,rfl⟩,rfl⟩:=hv
  obtain⟨G,rfl,g1,g2⟩:=readGr_ok hm hJ h2 hu
  exact⟨G,rfl,g1,g2⟩
 ·cases h
theorem exprOf_spec {I:GH} (hT:Tabs I debL) {f g:Nat} {text:List UInt8} {c:TrC} {a:Int} {k:IntKind} {e:Int} (h:exprOf f g text=some (c,a,k,e)) :
  Spec Tryz.prog g [.string ⟨text.toArray⟩] I [] fun r J M''=>M''=[]∧(∀ b o,I b=some o→J b=some o)∧∃ t:Tr,r=.tuple #[t.val,.int .i64 a,.int k e]∧t.ok J∧TrR c t:=by
 unfold exprOf at h
 obtain⟨⟨v,m'⟩,h1,h⟩:=opn_eq h
 refine Spec.weakK (reckonX hT h1 (us:=[.string ⟨text.toArray⟩]) (by simp[VRs,VR])) ?_
 rintro r J M'' ⟨rfl,hle,I',M',D',hv,hm,hJ⟩
 refine⟨rfl,hle,?_⟩
 simp only at h
 split at h
 ·obtain⟨c',h2,h⟩:=opn_eq h
  cases h
  simp only[VR,VRs] at hv
  obtain⟨_,⟨u,_,⟨_,⟨_,_,hx,⟨_,_,hr,rfl,rfl⟩,rfl⟩,rfl⟩,⟨_,_,rfl,⟨_,_,rfl,rfl,rfl⟩,rfl⟩,rfl⟩,rfl⟩:=hv
  obtain⟨t,rfl,rfl,g1,g2⟩:=readTr_ok hm hJ h2 hx hr
  exact⟨t,rfl,g1,g2⟩
 ·cases h
end Go.V
namespace Go.V
open Go Go.Proofs
def NdC.pl (c:NdC):Nd:=c.nd none 0 0
def TrC.tr (c:TrC):Tr:=⟨c.ns.map NdC.pl,none,c.ns.length,0,c.root⟩
def DfC.df (c:DfC):Df:=⟨⟨c.name.toArray⟩,c.t.tr⟩
def grC (cs:List DfC):Gr:=⟨cs.map DfC.df,none,cs.length,0⟩
theorem NdsR.ct {cs:List NdC} {ns:List Nd} (h:NdsR cs ns):ns.map Nd.ct=cs.map NdC.pl:=by
 induction h with
 | nil=>rfl
 | cons a n k t ih=>rw[List.map_cons,List.map_cons,ih];rfl
theorem NdsR.len {cs:List NdC} {ns:List Nd} (h:NdsR cs ns):ns.length=cs.length:=by
 induction h with
 | nil=>rfl
 | cons a n k t ih=>simp[ih]
theorem TrR.ct {I:GH} {c:TrC} {t:Tr} (h:TrR c t) (ht:t.ok I):t.ct=c.tr:=by
 unfold Tr.ct TrC.tr
 rw[h.ns.ct,h.root,←ht.n,h.ns.len]
theorem DfsR.ct {I:GH} {cs:List DfC} {ds:List Df} (h:DfsR cs ds) (hd:∀ d∈ds,d.ok I):ds.map Df.ct=cs.map DfC.df:=by
 induction h with
 | nil=>rfl
 | cons h k ih=>
  rw[List.map_cons,List.map_cons,ih fun d hd'=>hd d (.tail _ hd')]
  congr 1
  unfold Df.ct DfC.df
  rw[h.ct (hd _ (.head _)).t]
theorem DfsR.len {cs:List DfC} {ds:List Df} (h:DfsR cs ds):ds.length=cs.length:=by
 induction h with
 | nil=>rfl
 | cons h k ih=>simp[ih]
theorem gr_ct {I:GH} {cs:List DfC} {g:Gr} (h:DfsR cs g.ds) (hg:g.ok I):g.ct=grC cs:=by
 unfold Gr.ct grC
 rw[h.ct hg.ds,←hg.n,h.len]
theorem nodesI_ct (pl:List (ByteArray×Int)) (l:List Fi) (xs:List Fl):∀ (ds:List Nd) (acc:List Fi),nodesI pl l xs (ds.map Nd.ct) acc=nodesI pl l xs ds acc
 | [],acc=>rfl
 | d::ds,acc=>by
  rw[List.map_cons,nodesI,nodesI,nodesI_ct pl l xs ds]
  rfl
theorem bodyI_ct (pl:List (ByteArray×Int)) (F:List Fl) (ds:List Df) (l:List Fi) (i:Nat):bodyI pl F (ds.map Df.ct) l i=bodyI pl F ds l i:=by
 unfold bodyI
 rw[List.getElem?_map]
 cases ds[i]? with
 | none=>rfl
 | some d=>
  simp only[Option.map_some]
  show (nodesI pl l (nodesF pl F (d.t.ns.map Nd.ct) []) (d.t.ns.map Nd.ct) []).getD d.t.root.toNat fi0=_
  rw[nodesI_ct,nodesF_ct]
theorem isFirst_ct {ds:List Df} {F:List Fl} {l:List Fi} (h:IsFirst ds F l):IsFirst (ds.map Df.ct) F l:=by
 unfold IsFirst at h ⊢
 have e:bodyI (placesL (ds.map Df.ct)) F (ds.map Df.ct)=bodyI (placesL ds) F ds:=by
  funext l i
  rw[placesL_ct,bodyI_ct]
 rw[e,List.length_map]
 exact h
def lastL {α:Type} (L:α):List α→α
 | []=>L
 | M::Ms=>lastL M Ms
def roundsF (ds:List Df):List Fl→List (List Fl)→Bool
 | L,[]=>decide (ds.map (bodyF (placesL ds) L)=L)
 | L,M::Ms=>decide (ds.map (bodyF (placesL ds) L)=M) && roundsF ds M Ms
theorem roundsF_ok {ds:List Df}:∀ {Ms:List (List Fl)} {L:List Fl},PreF ds L→roundsF ds L Ms=true→IsFlow ds (lastL L Ms)
 | [],L,hp,h=>by
  have h1:=of_decide_eq_true h
  refine⟨hp.len,fun i hi=>?_,hp.least⟩
  have:=map_getD (f:=bodyF (placesL ds) L) hi
  rw[h1] at this
  exact this
 | M::Ms,L,hp,h=>by
  simp only[roundsF,Bool.and_eq_true,decide_eq_true_eq] at h
  have:=roundsF_ok (Ms:=Ms) (L:=M) (by rw[←h.1];exact hp.all.1) h.2
  exact this
def roundsI (ds:List Df) (F:List Fl):List Fi→List (List Fi)→Bool
 | L,[]=>decide (allR ds.length (bodyI (placesL ds) F ds) L=L)
 | L,M::Ms=>decide (allR ds.length (bodyI (placesL ds) F ds) L=M) && roundsI ds F M Ms
theorem roundsI_ok {ds:List Df} {F:List Fl}:∀ {Ms:List (List Fi)} {L:List Fi},PreI ds F L→roundsI ds F L Ms=true→IsFirst ds F (lastL L Ms)
 | [],L,hp,h=>by
  have h1:=of_decide_eq_true h
  refine⟨hp.len,fun i hi=>?_,hp.least⟩
  have:=allR_get (bodyI (placesL ds) F ds) L fi0 hi
  rw[h1] at this
  exact this
 | M::Ms,L,hp,h=>by
  simp only[roundsI,Bool.and_eq_true,decide_eq_true_eq] at h
  have:=roundsI_ok (F:=F) (Ms:=Ms) (L:=M) (by rw[←h.1];exact(PreR.all bodyI_mono' hp).1) h.2
  exact this
structure Known11 (cs:List DfC) (F:List Fl) (l:List Fi):Prop where
 may:mayG debL (grC cs)=0
 flow:IsFlow (grC cs).ds F
 first:IsFirst (grC cs).ds F l
 kb:(cs.all fun d=>d.t.ns.all fun n=>decide (n.kids.length≤1000))=true
def kbC (c:TrC):Bool:=c.ns.all fun n=>decide (n.kids.length≤1000)
theorem kb_of {I:GH} {c:TrC} {t:Tr} (h:TrR c t) (ht:t.ok I) (hk:kbC c=true):KB t:=fun n hn=>by
 have h1:=(ht.ns n hn).kn
 have h2:n.ct∈c.ns.map NdC.pl:=by
  rw[←h.ns.ct]
  exact List.mem_map.2 ⟨n,hn,rfl⟩
 obtain⟨x,hx,e⟩:=List.mem_map.1 h2
 have h3:=of_decide_eq_true (List.all_eq_true.1 hk x hx)
 have h4:x.kids=n.kids:=congrArg Nd.kids e
 rw[h4] at h3
 omega
theorem kbs_of {I:GH} {cs:List DfC} {ds:List Df} (h:DfsR cs ds) (hd:∀ d∈ds,d.ok I) (hk:(cs.all fun d=>d.t.ns.all fun n=>decide (n.kids.length≤1000))=true):∀ d∈ds,KB d.t:=by
 induction h with
 | nil=>intro d hd;cases hd
 | cons h k ih=>
  simp only[List.all_cons,Bool.and_eq_true] at hk
  intro d hm
  rcases List.mem_cons.1 hm with rfl | hm
  ·exact kb_of h (hd _ (.head _)).t hk.1
  ·exact ih (fun d hd'=>hd d (.tail _ hd')) (by simpa using hk.2) d hm
def chk11 (cs:List DfC) (F:List Fl) (l:List Fi) (c:TrC) (bytes:List UInt8) (free:Bool):Bool:=
 kbC c && (right c.tr && (namedOk (placesL (grC cs).ds) c.tr.ns && decide ((nodesI (placesL (grC cs).ds) l (nodesF (placesL (grC cs).ds) F c.tr.ns []) c.tr.ns []).getD c.root.toNat fi0=⟨ofW bytes,free⟩)))
theorem IOf_known {I:GH} (hT:Tabs I debL) {g:Gr} (hg:g.ok I) {cs:List DfC} (hR:DfsR cs g.ds) {F:List Fl} {l:List Fi} (hK:Known11 cs F l):Spec Tryz.prog 36 [g.val] I [] fun v I' M'=>(∀ b o,I b=some o→I' b=some o) ∧
  ∃ b,v=.tuple #[.slice (some ⟨b,0,none⟩) g.n g.n,.int .i64 0]∧M'=[fiRow b l]:=by
 have hct:=gr_ct hR hg
 refine Spec.weakK (IOf_spec hT hg (kbs_of hR hg.ds hK.kb)) ?_
 rintro v J M ⟨h1,⟨h2,-⟩ | ⟨h2,F',b,l',hF,hl,rfl,rfl⟩⟩
 ·exfalso
  have:=hK.may
  rw[←hct,mayG_ct] at this
  exact h2 this
 ·have hds:g.ds.map Df.ct=(grC cs).ds:=congrArg Gr.ds hct
  have e1:=isFlow_ct hF
  rw[hds] at e1
  obtain rfl:=hK.flow.unique e1
  have e2:=isFirst_ct hl
  rw[hds] at e2
  obtain rfl:=IsR.unique hK.first e2
  exact⟨h1,b,rfl,rfl⟩
theorem ITree_known {I:GH} {M0:List Blk} (hT:Tabs I debL) {g:Gr} (hg:g.ok I) {cs:List DfC} (hR:DfsR cs g.ds) {F:List Fl} {l:List Fi} (hK:Known11 cs F l) {t:Tr} (ht:t.ok I) {c:TrC} (hc:TrR c t) {bytes:List UInt8} {free:Bool} (hchk:chk11 cs F l c bytes free=true) {la:Option Addr} {lc:Nat} (hl:IsAt I M0 la g.n l) :
  Spec Tryz.prog 41 [g.val,.slice la g.n lc,t.val] I M0 fun v I' M'=>(∀ b o,I b=some o→I' b=some o)∧M'=M0∧v=.tuple #[(⟨ofW bytes,free⟩:Fi).val,.bool true]:=by
 have hct:=gr_ct hR hg
 have htc:=hc.ct ht
 have hds:g.ds.map Df.ct=(grC cs).ds:=congrArg Gr.ds hct
 have hpl:placesL (grC cs).ds=placesL g.ds:=by rw[←hds,placesL_ct]
 have hns:c.tr.ns=t.ns.map Nd.ct:=by rw[←htc];rfl
 simp only[chk11,Bool.and_eq_true,decide_eq_true_eq] at hchk
 obtain⟨k1,k2,k3,k4⟩:=hchk
 rw[←htc,right_ct] at k2
 rw[hpl,hns,namedOk_ct] at k3
 rw[hpl,hns,nodesI_ct,nodesF_ct,←hc.root] at k4
 refine Spec.weakK (ITree_spec hT hg ht (kb_of hc ht k1) hl) ?_
 rintro v J M ⟨h1,h0,⟨h2,-⟩ | ⟨h2,F',hF,rfl⟩⟩
 ·exfalso
  have hm:=hK.may
  rw[←hct,mayG_ct] at hm
  rw[okI,hm,k2,k3,decide_eq_true hl.n] at h2
  cases h2
 ·have e1:=isFlow_ct hF
  rw[hds] at e1
  obtain rfl:=hK.flow.unique e1
  rw[k4]
  exact⟨h1,h0,rfl⟩
set_option maxHeartbeats 4000000 in
theorem of11_spec {I:GH} (hT:Tabs I debL) {fu fu':Nat} {rules s bytes:List UInt8} {free:Bool} (hb:bytes.length≤140737488355328) {cs:List DfC} {a1:Int} (hgr:grOf fu 32 rules=some (cs,a1,.i64,0)) {c:TrC} {a2:Int} (hex:exprOf fu' 86 s=some (c,a2,.i64,0))
  {F:List Fl} {l:List Fi} (hK:Known11 cs F l) (hchk:chk11 cs F l c bytes free=true) :
  Spec Tryz.prog 49 [.string ⟨rules.toArray⟩,.string ⟨s.toArray⟩,.string ⟨bytes.toArray⟩,.bool free] I [] fun v J M''=>v=.bool true∧(∀ b o,I b=some o→J b=some o)∧M''=[]:=by
 refine spec_of_V [] TryzEOK Tryz.func49 rfl rfl rfl ?_
 intro B h0
 refine CallOb.mk [] [] _ (.refl _) (grOf_spec hT hgr) ?_
 rintro v J1 N - ⟨rfl,hJ1,g,rfl,hg,hR⟩
 refine CallOb.mk [] [] _ (.refl _) (exprOf_spec (hT.mono hJ1) hex) ?_
 rintro v J2 N - ⟨rfl,hJ2,t,rfl,ht,hc⟩
 have hT2:=(hT.mono hJ1).mono hJ2
 have hg2:=hg.mono hJ2
 refine CallOb.mk [] [] _ (.refl _) (IOf_known hT2 hg2 hR hK) ?_
 rintro v J3 N - ⟨hJ3,b,rfl,rfl⟩
 have hln:l.length=g.n:=by
  have h1:=hK.first.len
  have h2:(grC cs).ds.length=cs.length:=by simp[grC]
  have h3:=hR.len
  have h4:=hg.n
  omega
 have hat:IsAt J3 [fiRow b l] (some ⟨b,0,none⟩) g.n l:=by
  have:=fiRow_at (I:=J3) (M:=[fiRow b l]) (b:=b) (l:=l) (.head _)
  rwa [hln] at this
 refine CallOb.whole _ (ITree_known (hT2.mono hJ3) (hg2.mono hJ3) hR hK (ht.mono hJ3) hc hchk (lc:=g.n) hat) ?_
 rintro v J4 N - ⟨hJ4,hN,rfl⟩
 subst N
 refine CodeOb.draw TryzEOK rfl rfl rfl ?_
 refine GuardOb.mk (fun _=>?_) (fun h=>absurd h (by simp))
 refine GuardOb.mk (fun _=>?_) (fun h=>absurd h (by simp))
 refine GuardOb.mk (fun _=>?_) (fun h=>absurd h (by simp))
 refine GuardOb.mk (fun _=>?_) (fun h=>absurd h (by simp))
 refine PCallOb.whole _ (Of_spec (⟨bytes.toArray⟩:ByteArray) (by show bytes.toArray.size≤_;simpa using hb)) (fun v I' M' h x hx=>by rw[h.2.2];exact hx) ?_
 rintro v J5 N - ⟨rfl,hJ5,hN⟩
 subst J5
 subst N
 have e:ofW (⟨bytes.toArray⟩:ByteArray).data.toList=ofW bytes:=rfl
 refine BinOb.eqI (p:=⟨ofW bytes,free⟩) (q:=⟨ofW bytes,free⟩) ?_
 refine⟨_,_,.sub (List.nil_sublist _) .refl,?_,fun b o h=>hJ4 _ _ (hJ3 _ _ (hJ2 _ _ (hJ1 _ _ h))),rfl⟩
 simp
end Go.V
namespace Go.V
open Go Go.Proofs
def rt11:List UInt8:=[97,32,60,45,32,34,120,34,32,47,32,97,32,98,32,60,45,32,98,32,47,32,34,121,34,32,99,32,60,45,32,99,32,100,32,60,45,32,34,34,32,101,32,60,45,32,100,63,32,101,32,34,122,34,32,47,32,34,119,34,32,102,32,60,45,32,34,113,34,32,102,32,47,32,34,34]
def cs11:List DfC:=[⟨[97],⟨[⟨2,0,0,0,0,[120],0,0,[]⟩,⟨3,0,0,0,0,[97],0,0,[]⟩,⟨5,0,0,0,0,[],0,0,[0,1]⟩],2⟩⟩,⟨[98],⟨[⟨3,0,0,0,0,[98],0,0,[]⟩,⟨2,0,0,0,0,[121],0,0,[]⟩,⟨5,0,0,0,0,[],0,0,[0,1]⟩],2⟩⟩,⟨[99],⟨[⟨3,0,0,0,0,[99],0,0,[]⟩],0⟩⟩,⟨[100],⟨[⟨0,0,0,0,0,[],0,0,[]⟩],0⟩⟩,⟨[101],⟨[⟨3,0,0,0,0,[100],0,0,[]⟩,⟨6,0,0,0,0,[],0,1,[0]⟩,⟨3,0,0,0,0,[101],0,0,[]⟩,⟨2,0,0,0,0,[122],0,0,[]⟩,⟨4,0,0,0,0,[],0,0,[1,2,3]⟩,⟨2,0,0,0,0,[119],0,0,[]⟩,⟨5,0,0,0,0,[],0,0,[4,5]⟩],6⟩⟩,⟨[102],⟨[⟨2,0,0,0,0,[113],0,0,[]⟩,⟨3,0,0,0,0,[102],0,0,[]⟩,⟨4,0,0,0,0,[],0,0,[0,1]⟩,⟨0,0,0,0,0,[],0,0,[]⟩,⟨5,0,0,0,0,[],0,0,[2,3]⟩],4⟩⟩]
def F11:List Fl:=[⟨false,true,false⟩,⟨false,false,false⟩,⟨false,false,false⟩,⟨true,false,false⟩,⟨false,false,false⟩,⟨true,true,false⟩]
def l11:List Fi:=[⟨⟨0,72057594037927936,0,0⟩,false⟩,⟨⟨0,144115188075855872,0,0⟩,false⟩,⟨⟨0,0,0,0⟩,false⟩,⟨⟨0,0,0,0⟩,true⟩,⟨⟨0,36028797018963968,0,0⟩,false⟩,⟨⟨0,562949953421312,0,0⟩,true⟩]
theorem gr11:grOf 100000 32 rt11=some (cs11,0,.i64,0):=by kernel_rfl
theorem may11:mayG debL (grC cs11)=0:=by kernel_rfl
theorem rF11:roundsF (grC cs11).ds (List.replicate (grC cs11).ds.length fl0) [[⟨false,true,false⟩,⟨false,false,false⟩,⟨false,false,false⟩,⟨true,false,false⟩,⟨false,false,false⟩,⟨true,false,false⟩],F11]=true:=by kernel_rfl
theorem rI11:roundsI (grC cs11).ds F11 (List.replicate (grC cs11).ds.length fi0) [l11]=true:=by kernel_rfl
theorem known11:Known11 cs11 F11 l11:=
 ⟨may11,roundsF_ok (.start _) rF11,roundsI_ok (PreR.start _ _) rI11,by kernel_rfl⟩
def OfOk (c:List UInt8×List UInt8×Bool):Prop:=∀ {I:GH} (hT:Tabs I debL),Spec Tryz.prog 49 [.string ⟨rt11.toArray⟩,.string ⟨c.1.toArray⟩,.string ⟨c.2.1.toArray⟩,.bool c.2.2] I [] fun v J M''=>v=.bool true∧(∀ b o,I b=some o→J b=some o)∧M''=[]
theorem ofOk {s bytes:List UInt8} {free:Bool} (hb:bytes.length≤140737488355328) {c:TrC} (hex:exprOf 100000 86 s=some (c,0,.i64,0)) (hchk:chk11 cs11 F11 l11 c bytes free=true):OfOk (s,bytes,free):=
 fun hT=>of11_spec hT hb gr11 hex known11 hchk
end Go.V
namespace Go.V
open Go Go.Proofs
def c11_0:TrC:=⟨[⟨0,0,0,0,0,[],0,0,[]⟩],0⟩
theorem ex11_0:exprOf 100000 86 [34,34]=some (c11_0,0,.i64,0):=by kernel_rfl
theorem ok11_0:OfOk ([34,34],[],true):=ofOk (by decide) ex11_0 (by kernel_rfl)
def c11_1:TrC:=⟨[⟨1,0,60129542144,0,0,[],0,0,[]⟩],0⟩
theorem ex11_1:exprOf 100000 86 [91,97,98,99,93]=some (c11_1,0,.i64,0):=by kernel_rfl
theorem ok11_1:OfOk ([91,97,98,99,93],[97,98,99],false):=ofOk (by decide) ex11_1 (by kernel_rfl)
def c11_2:TrC:=⟨[⟨1,0,0,0,0,[],0,0,[]⟩],0⟩
theorem ex11_2:exprOf 100000 86 [91,93]=some (c11_2,0,.i64,0):=by kernel_rfl
theorem ok11_2:OfOk ([91,93],[],false):=ofOk (by decide) ex11_2 (by kernel_rfl)
def c11_3:TrC:=⟨[⟨3,0,0,0,0,[97],0,0,[]⟩,⟨3,0,0,0,0,[98],0,0,[]⟩,⟨4,0,0,0,0,[],0,0,[0,1]⟩],2⟩
theorem ex11_3:exprOf 100000 86 [97,32,98]=some (c11_3,0,.i64,0):=by kernel_rfl
theorem ok11_3:OfOk ([97,32,98],[120],false):=ofOk (by decide) ex11_3 (by kernel_rfl)
def c11_4:TrC:=⟨[⟨3,0,0,0,0,[97],0,0,[]⟩,⟨6,0,0,0,0,[],0,1,[0]⟩,⟨3,0,0,0,0,[98],0,0,[]⟩,⟨4,0,0,0,0,[],0,0,[1,2]⟩],3⟩
theorem ex11_4:exprOf 100000 86 [97,63,32,98]=some (c11_4,0,.i64,0):=by kernel_rfl
theorem ok11_4:OfOk ([97,63,32,98],[120,121],false):=ofOk (by decide) ex11_4 (by kernel_rfl)
def c11_5:TrC:=⟨[⟨3,0,0,0,0,[98],0,0,[]⟩],0⟩
theorem ex11_5:exprOf 100000 86 [98]=some (c11_5,0,.i64,0):=by kernel_rfl
theorem ok11_5:OfOk ([98],[121],false):=ofOk (by decide) ex11_5 (by kernel_rfl)
def c11_6:TrC:=⟨[⟨3,0,0,0,0,[99],0,0,[]⟩],0⟩
theorem ex11_6:exprOf 100000 86 [99]=some (c11_6,0,.i64,0):=by kernel_rfl
theorem ok11_6:OfOk ([99],[],false):=ofOk (by decide) ex11_6 (by kernel_rfl)
def c11_7:TrC:=⟨[⟨3,0,0,0,0,[99],0,0,[]⟩,⟨6,0,0,0,0,[],0,1,[0]⟩],1⟩
theorem ex11_7:exprOf 100000 86 [99,63]=some (c11_7,0,.i64,0):=by kernel_rfl
theorem ok11_7:OfOk ([99,63],[],true):=ofOk (by decide) ex11_7 (by kernel_rfl)
def c11_8:TrC:=⟨[⟨3,0,0,0,0,[99],0,0,[]⟩,⟨3,0,0,0,0,[98],0,0,[]⟩,⟨4,0,0,0,0,[],0,0,[0,1]⟩],2⟩
theorem ex11_8:exprOf 100000 86 [99,32,98]=some (c11_8,0,.i64,0):=by kernel_rfl
theorem ok11_8:OfOk ([99,32,98],[],false):=ofOk (by decide) ex11_8 (by kernel_rfl)
end Go.V
namespace Go.V
open Go Go.Proofs
def c11_9:TrC:=⟨[⟨3,0,0,0,0,[100],0,0,[]⟩,⟨3,0,0,0,0,[98],0,0,[]⟩,⟨4,0,0,0,0,[],0,0,[0,1]⟩],2⟩
theorem ex11_9:exprOf 100000 86 [100,32,98]=some (c11_9,0,.i64,0):=by kernel_rfl
theorem ok11_9:OfOk ([100,32,98],[121],false):=ofOk (by decide) ex11_9 (by kernel_rfl)
def c11_10:TrC:=⟨[⟨3,0,0,0,0,[100],0,0,[]⟩],0⟩
theorem ex11_10:exprOf 100000 86 [100]=some (c11_10,0,.i64,0):=by kernel_rfl
theorem ok11_10:OfOk ([100],[],true):=ofOk (by decide) ex11_10 (by kernel_rfl)
def c11_11:TrC:=⟨[⟨3,0,0,0,0,[101],0,0,[]⟩],0⟩
theorem ex11_11:exprOf 100000 86 [101]=some (c11_11,0,.i64,0):=by kernel_rfl
theorem ok11_11:OfOk ([101],[119],false):=ofOk (by decide) ex11_11 (by kernel_rfl)
def c11_12:TrC:=⟨[⟨3,0,0,0,0,[102],0,0,[]⟩],0⟩
theorem ex11_12:exprOf 100000 86 [102]=some (c11_12,0,.i64,0):=by kernel_rfl
theorem ok11_12:OfOk ([102],[113],true):=ofOk (by decide) ex11_12 (by kernel_rfl)
def c11_13:TrC:=⟨[⟨3,0,0,0,0,[102],0,0,[]⟩,⟨3,0,0,0,0,[102],0,0,[]⟩,⟨3,0,0,0,0,[97],0,0,[]⟩,⟨4,0,0,0,0,[],0,0,[0,1,2]⟩],3⟩
theorem ex11_13:exprOf 100000 86 [102,32,102,32,97]=some (c11_13,0,.i64,0):=by kernel_rfl
theorem ok11_13:OfOk ([102,32,102,32,97],[113,120],false):=ofOk (by decide) ex11_13 (by kernel_rfl)
def c11_14:TrC:=⟨[⟨3,0,0,0,0,[97],0,0,[]⟩,⟨3,0,0,0,0,[98],0,0,[]⟩,⟨5,0,0,0,0,[],0,0,[0,1]⟩],2⟩
theorem ex11_14:exprOf 100000 86 [97,32,47,32,98]=some (c11_14,0,.i64,0):=by kernel_rfl
theorem ok11_14:OfOk ([97,32,47,32,98],[120,121],false):=ofOk (by decide) ex11_14 (by kernel_rfl)
def c11_15:TrC:=⟨[⟨3,0,0,0,0,[97],0,0,[]⟩,⟨3,0,0,0,0,[100],0,0,[]⟩,⟨5,0,0,0,0,[],0,0,[0,1]⟩],2⟩
theorem ex11_15:exprOf 100000 86 [97,32,47,32,100]=some (c11_15,0,.i64,0):=by kernel_rfl
theorem ok11_15:OfOk ([97,32,47,32,100],[120],true):=ofOk (by decide) ex11_15 (by kernel_rfl)
def c11_16:TrC:=⟨[⟨3,0,0,0,0,[100],0,0,[]⟩,⟨3,0,0,0,0,[97],0,0,[]⟩,⟨5,0,0,0,0,[],0,0,[0,1]⟩],2⟩
theorem ex11_16:exprOf 100000 86 [100,32,47,32,97]=some (c11_16,0,.i64,0):=by kernel_rfl
theorem ok11_16:OfOk ([100,32,47,32,97],[120],true):=ofOk (by decide) ex11_16 (by kernel_rfl)
def c11_17:TrC:=⟨[⟨3,0,0,0,0,[97],0,0,[]⟩,⟨6,0,0,0,0,[],0,0,[0]⟩],1⟩
theorem ex11_17:exprOf 100000 86 [97,123,48,125]=some (c11_17,0,.i64,0):=by kernel_rfl
theorem ok11_17:OfOk ([97,123,48,125],[],true):=ofOk (by decide) ex11_17 (by kernel_rfl)
end Go.V
namespace Go.V
open Go Go.Proofs
def c11_18:TrC:=⟨[⟨3,0,0,0,0,[97],0,0,[]⟩,⟨6,0,0,0,0,[],0,3,[0]⟩],1⟩
theorem ex11_18:exprOf 100000 86 [97,123,48,44,51,125]=some (c11_18,0,.i64,0):=by kernel_rfl
theorem ok11_18:OfOk ([97,123,48,44,51,125],[120],true):=ofOk (by decide) ex11_18 (by kernel_rfl)
def c11_19:TrC:=⟨[⟨3,0,0,0,0,[97],0,0,[]⟩,⟨6,0,0,0,0,[],2,2,[0]⟩],1⟩
theorem ex11_19:exprOf 100000 86 [97,123,50,125]=some (c11_19,0,.i64,0):=by kernel_rfl
theorem ok11_19:OfOk ([97,123,50,125],[120],false):=ofOk (by decide) ex11_19 (by kernel_rfl)
def c11_20:TrC:=⟨[⟨3,0,0,0,0,[100],0,0,[]⟩,⟨6,0,0,0,0,[],2,2,[0]⟩],1⟩
theorem ex11_20:exprOf 100000 86 [100,123,50,125]=some (c11_20,0,.i64,0):=by kernel_rfl
theorem ok11_20:OfOk ([100,123,50,125],[],true):=ofOk (by decide) ex11_20 (by kernel_rfl)
def c11_21:TrC:=⟨[⟨3,0,0,0,0,[102],0,0,[]⟩,⟨6,0,0,0,0,[],2,4,[0]⟩,⟨3,0,0,0,0,[98],0,0,[]⟩,⟨4,0,0,0,0,[],0,0,[1,2]⟩],3⟩
theorem ex11_21:exprOf 100000 86 [102,123,50,44,52,125,32,98]=some (c11_21,0,.i64,0):=by kernel_rfl
theorem ok11_21:OfOk ([102,123,50,44,52,125,32,98],[113,121],false):=ofOk (by decide) ex11_21 (by kernel_rfl)
def c11_22:TrC:=⟨[⟨3,0,0,0,0,[97],0,0,[]⟩,⟨6,0,0,0,0,[],1,(-1),[0]⟩,⟨3,0,0,0,0,[98],0,0,[]⟩,⟨4,0,0,0,0,[],0,0,[1,2]⟩],3⟩
theorem ex11_22:exprOf 100000 86 [97,43,32,98]=some (c11_22,0,.i64,0):=by kernel_rfl
theorem ok11_22:OfOk ([97,43,32,98],[120],false):=ofOk (by decide) ex11_22 (by kernel_rfl)
def c11_23:TrC:=⟨[⟨3,0,0,0,0,[97],0,0,[]⟩,⟨7,0,0,0,0,[],0,0,[0]⟩],1⟩
theorem ex11_23:exprOf 100000 86 [38,97]=some (c11_23,0,.i64,0):=by kernel_rfl
theorem ok11_23:OfOk ([38,97],[],true):=ofOk (by decide) ex11_23 (by kernel_rfl)
def c11_24:TrC:=⟨[⟨3,0,0,0,0,[100],0,0,[]⟩,⟨7,0,0,0,0,[],0,0,[0]⟩],1⟩
theorem ex11_24:exprOf 100000 86 [38,100]=some (c11_24,0,.i64,0):=by kernel_rfl
theorem ok11_24:OfOk ([38,100],[],true):=ofOk (by decide) ex11_24 (by kernel_rfl)
def c11_25:TrC:=⟨[⟨1,0,0,0,0,[],0,0,[]⟩,⟨7,0,0,0,0,[],0,0,[0]⟩],1⟩
theorem ex11_25:exprOf 100000 86 [38,91,93]=some (c11_25,0,.i64,0):=by kernel_rfl
theorem ok11_25:OfOk ([38,91,93],[],false):=ofOk (by decide) ex11_25 (by kernel_rfl)
def c11_26:TrC:=⟨[⟨3,0,0,0,0,[97],0,0,[]⟩,⟨8,0,0,0,0,[],0,0,[0]⟩],1⟩
theorem ex11_26:exprOf 100000 86 [33,97]=some (c11_26,0,.i64,0):=by kernel_rfl
theorem ok11_26:OfOk ([33,97],[],false):=ofOk (by decide) ex11_26 (by kernel_rfl)
end Go.V
namespace Go.V
open Go Go.Proofs
def c11_27:TrC:=⟨[⟨2,0,0,0,0,[120],0,0,[]⟩,⟨8,0,0,0,0,[],0,0,[0]⟩],1⟩
theorem ex11_27:exprOf 100000 86 [33,34,120,34]=some (c11_27,0,.i64,0):=by kernel_rfl
theorem ok11_27:OfOk ([33,34,120,34],[],true):=ofOk (by decide) ex11_27 (by kernel_rfl)
def c11_28:TrC:=⟨[⟨3,0,0,0,0,[100],0,0,[]⟩,⟨8,0,0,0,0,[],0,0,[0]⟩],1⟩
theorem ex11_28:exprOf 100000 86 [33,100]=some (c11_28,0,.i64,0):=by kernel_rfl
theorem ok11_28:OfOk ([33,100],[],false):=ofOk (by decide) ex11_28 (by kernel_rfl)
def c11_29:TrC:=⟨[⟨1,0,0,0,0,[],0,0,[]⟩,⟨8,0,0,0,0,[],0,0,[0]⟩],1⟩
theorem ex11_29:exprOf 100000 86 [33,91,93]=some (c11_29,0,.i64,0):=by kernel_rfl
theorem ok11_29:OfOk ([33,91,93],[],true):=ofOk (by decide) ex11_29 (by kernel_rfl)
def c11_30:TrC:=⟨[⟨3,0,0,0,0,[100],0,0,[]⟩,⟨8,0,0,0,0,[],0,0,[0]⟩,⟨3,0,0,0,0,[97],0,0,[]⟩,⟨4,0,0,0,0,[],0,0,[1,2]⟩],3⟩
theorem ex11_30:exprOf 100000 86 [33,100,32,97]=some (c11_30,0,.i64,0):=by kernel_rfl
theorem ok11_30:OfOk ([33,100,32,97],[],false):=ofOk (by decide) ex11_30 (by kernel_rfl)
def c11_31:TrC:=⟨[⟨3,0,0,0,0,[97],0,0,[]⟩,⟨7,0,0,0,0,[],0,0,[0]⟩,⟨3,0,0,0,0,[98],0,0,[]⟩,⟨4,0,0,0,0,[],0,0,[1,2]⟩],3⟩
theorem ex11_31:exprOf 100000 86 [38,97,32,98]=some (c11_31,0,.i64,0):=by kernel_rfl
theorem ok11_31:OfOk ([38,97,32,98],[121],false):=ofOk (by decide) ex11_31 (by kernel_rfl)
def c11_32:TrC:=⟨[⟨3,0,0,0,0,[102],0,0,[]⟩,⟨9,0,0,0,0,[110],0,0,[0]⟩,⟨3,0,0,0,0,[97],0,0,[]⟩,⟨4,0,0,0,0,[],0,0,[1,2]⟩],3⟩
theorem ex11_32:exprOf 100000 86 [60,110,58,32,102,62,32,97]=some (c11_32,0,.i64,0):=by kernel_rfl
theorem ok11_32:OfOk ([60,110,58,32,102,62,32,97],[113,120],false):=ofOk (by decide) ex11_32 (by kernel_rfl)
def c11_33:TrC:=⟨[⟨3,0,0,0,0,[99],0,0,[]⟩,⟨7,0,0,0,0,[],0,0,[0]⟩,⟨3,0,0,0,0,[97],0,0,[]⟩,⟨4,0,0,0,0,[],0,0,[1,2]⟩],3⟩
theorem ex11_33:exprOf 100000 86 [38,99,32,97]=some (c11_33,0,.i64,0):=by kernel_rfl
theorem ok11_33:OfOk ([38,99,32,97],[],false):=ofOk (by decide) ex11_33 (by kernel_rfl)
def c11_34:TrC:=⟨[⟨2,0,0,0,0,[112,113],0,0,[]⟩,⟨1,0,2111062325329920,0,0,[],0,0,[]⟩,⟨5,0,0,0,0,[],0,0,[0,1]⟩],2⟩
theorem ex11_34:exprOf 100000 86 [34,112,113,34,32,47,32,91,111,45,114,93]=some (c11_34,0,.i64,0):=by kernel_rfl
theorem ok11_34:OfOk ([34,112,113,34,32,47,32,91,111,45,114,93],[111,112,113,114],false):=ofOk (by decide) ex11_34 (by kernel_rfl)
end Go.V
namespace Go.V
open Go Go.Proofs
def cases11:List (List UInt8×List UInt8×Bool):=[([34,34],[],true),([91,97,98,99,93],[97,98,99],false),([91,93],[],false),([97,32,98],[120],false),([97,63,32,98],[120,121],false),([98],[121],false),([99],[],false),([99,63],[],true),([99,32,98],[],false),([100,32,98],[121],false),([100],[],true),([101],[119],false),([102],[113],true),([102,32,102,32,97],[113,120],false),([97,32,47,32,98],[120,121],false),([97,32,47,32,100],[120],true),([100,32,47,32,97],[120],true),([97,123,48,125],[],true),([97,123,48,44,51,125],[120],true),([97,123,50,125],[120],false),([100,123,50,125],[],true),([102,123,50,44,52,125,32,98],[113,121],false),([97,43,32,98],[120],false),([38,97],[],true),([38,100],[],true),([38,91,93],[],false),([33,97],[],false),([33,34,120,34],[],true),([33,100],[],false),([33,91,93],[],true),([33,100,32,97],[],false),([38,97,32,98],[121],false),([60,110,58,32,102,62,32,97],[113,120],false),([38,99,32,97],[],false),([34,112,113,34,32,47,32,91,111,45,114,93],[111,112,113,114],false)]
theorem all11:∀ c∈cases11,OfOk c:=List.forall_mem_cons.2 ⟨ok11_0,List.forall_mem_cons.2 ⟨ok11_1,List.forall_mem_cons.2 ⟨ok11_2,List.forall_mem_cons.2 ⟨ok11_3,List.forall_mem_cons.2 ⟨ok11_4,List.forall_mem_cons.2 ⟨ok11_5,List.forall_mem_cons.2 ⟨ok11_6,List.forall_mem_cons.2 ⟨ok11_7,List.forall_mem_cons.2 ⟨ok11_8,List.forall_mem_cons.2 ⟨ok11_9,List.forall_mem_cons.2 ⟨ok11_10,List.forall_mem_cons.2 ⟨ok11_11,List.forall_mem_cons.2 ⟨ok11_12,List.forall_mem_cons.2 ⟨ok11_13,List.forall_mem_cons.2 ⟨ok11_14,List.forall_mem_cons.2 ⟨ok11_15,List.forall_mem_cons.2 ⟨ok11_16,List.forall_mem_cons.2 ⟨ok11_17,List.forall_mem_cons.2 ⟨ok11_18,List.forall_mem_cons.2 ⟨ok11_19,List.forall_mem_cons.2 ⟨ok11_20,List.forall_mem_cons.2 ⟨ok11_21,List.forall_mem_cons.2 ⟨ok11_22,List.forall_mem_cons.2 ⟨ok11_23,List.forall_mem_cons.2 ⟨ok11_24,List.forall_mem_cons.2 ⟨ok11_25,List.forall_mem_cons.2 ⟨ok11_26,List.forall_mem_cons.2 ⟨ok11_27,List.forall_mem_cons.2 ⟨ok11_28,List.forall_mem_cons.2 ⟨ok11_29,List.forall_mem_cons.2 ⟨ok11_30,List.forall_mem_cons.2 ⟨ok11_31,List.forall_mem_cons.2 ⟨ok11_32,List.forall_mem_cons.2 ⟨ok11_33,List.forall_mem_cons.2 ⟨ok11_34,fun _ h=>(by cases h)⟩⟩⟩⟩⟩⟩⟩⟩⟩⟩⟩⟩⟩⟩⟩⟩⟩⟩⟩⟩⟩⟩⟩⟩⟩⟩⟩⟩⟩⟩⟩⟩⟩⟩⟩
def caseC (c:List UInt8×List UInt8×Bool):List Value:=[.string ⟨c.1.toArray⟩,.string ⟨c.2.1.toArray⟩,.bool c.2.2]
theorem caseC_len (c:List UInt8×List UInt8×Bool):(caseC c).length=3:=rfl
def cs11b:List DfC:=[⟨[97],⟨[⟨2,0,0,0,0,[120],0,0,[]⟩],0⟩⟩]
theorem gr11b:grOf 100000 32 [97,32,60,45,32,34,120,34]=some (cs11b,0,.i64,0):=by kernel_rfl
theorem may11b:mayG debL (grC cs11b)=0:=by kernel_rfl
def g00:Gr:=⟨[],none,0,0⟩
theorem g00_ok {I:GH}:g00.ok I:=⟨⟨rfl,⟨Nat.le_refl _,Nat.zero_le _⟩,.inl rfl⟩,fun d hd=>(by cases hd)⟩
theorem may00:mayG debL g00=4:=by kernel_rfl
theorem look11a:lookM ⟨#[97]⟩ (placesL (grC cs11b).ds)=some 0:=by kernel_rfl
theorem look11b:lookM ⟨#[98]⟩ (placesL (grC cs11b).ds)=none:=by kernel_rfl
def tr00:Tr:=⟨[],none,0,0,0⟩
theorem tr00_ok {I:GH}:tr00.ok I:=⟨⟨rfl,⟨Nat.le_refl _,Nat.zero_le _⟩,.inl rfl⟩,fun d hd=>(by cases hd),⟨by decide,by decide⟩⟩
theorem isAt_none {I:GH} {M:List Blk}:IsAt I M none 0 []:=⟨rfl,fun j h=>by simp at h⟩
theorem kb_leaf {t:Tr} {k:Int} {s:ByteArray} (h:t.ns=[leafNd k s]):KB t:=fun n hn=>by
 rw[h,List.mem_singleton] at hn
 subst hn
 show 0≤_
 omega
section
variable {I:GH} {M0:List Blk}
theorem IOf_no (hT:Tabs I debL):Spec Tryz.prog 36 [g00.val] I M0 fun v I' M'=>v=.tuple #[.slice none 0 0,.int .i64 4]∧(∀ b o,I b=some o→I' b=some o)∧M'=M0:=by
 refine Spec.weakK (Spec.frame (IOf_spec hT g00_ok fun d hd=>by cases hd)) ?_
 rintro v J M ⟨M',rfl,-,h1,-,⟨h2,rfl,rfl⟩ | ⟨h2,-⟩⟩
 ·rw[may00]
  exact⟨rfl,h1,rfl⟩
 ·rw[may00] at h2
  cases h2
theorem Empty_fr:Spec Tryz.prog 50 [] I M0 fun v I' M'=>(∀ b o,I b=some o→I' b=some o)∧M'=M0∧∃ t:Tr,v=t.val∧t.ok I'∧KB t:=by
 refine Spec.weakK (Spec.frame (Empty_spec (I:=I))) ?_
 rintro v J M ⟨M',rfl,-,h1,-,t,rfl,ht,h2,h3,rfl⟩
 exact⟨h1,rfl,t,rfl,ht,kb_leaf h2⟩
theorem Rule_fr {s:ByteArray} (hs:s.size≤140737488355328):Spec Tryz.prog 31 [.string s] I M0 fun v I' M'=>(∀ b o,I b=some o→I' b=some o)∧M'=M0∧∃ t:Tr,v=t.val∧t.ok I'∧t.ns=[leafNd 3 s]∧t.root=0:=by
 refine Spec.weakK (Spec.frame (Rule_spec (I:=I) hs)) ?_
 rintro v J M ⟨M',rfl,-,h1,-,t,rfl,ht,h2,h3,rfl⟩
 exact⟨h1,rfl,t,rfl,ht,h2,h3⟩
theorem ITree_no (hT:Tabs I debL) {g:Gr} (hg:g.ok I) {t:Tr} (ht:t.ok I) (hkb:KB t) {la:Option Addr} {ln lc:Nat} {l:List Fi} (hl:IsAt I M0 la ln l) (hno:okI debL g l t=false):Spec Tryz.prog 41 [g.val,.slice la ln lc,t.val] I M0 fun v I' M'=>(∀ b o,I b=some o→I' b=some o)∧M'=M0∧v=.tuple #[fi0.val,.bool false]:=by
 refine Spec.weakK (ITree_spec hT hg ht hkb hl) ?_
 rintro v J M ⟨h1,h0,⟨h2,rfl⟩ | ⟨h2,-⟩⟩
 ·exact⟨h1,h0,rfl⟩
 ·rw[hno] at h2;cases h2
theorem INodes_no (hT:Tabs I debL) {g:Gr} (hg:g.ok I) {t:Tr} (ht:t.ok I) (hkb:KB t) {la:Option Addr} {ln lc:Nat} {l:List Fi} (hl:IsAt I M0 la ln l) (hno:okI debL g l t=false):Spec Tryz.prog 39 [g.val,.slice la ln lc,t.val] I M0 fun v I' M'=>(∀ b o,I b=some o→I' b=some o)∧M'=M0∧v=.tuple #[.slice none 0 0,.bool false]:=by
 refine Spec.weakK (INodes_spec hT hg ht hkb hl) ?_
 rintro v J M ⟨h1,⟨h2,rfl,rfl⟩ | ⟨h2,-⟩⟩
 ·exact⟨h1,rfl,rfl⟩
 ·rw[hno] at h2;cases h2
theorem INodes_a (hT:Tabs I debL) {g:Gr} (hg:g.ok I) (hR:DfsR cs11b g.ds) {t:Tr} (ht:t.ok I) (hns:t.ns=[leafNd 3 ⟨#[97]⟩]) (hrt:t.root=0) {la:Option Addr} {lc:Nat} (hl:IsAt I M0 la 1 [fiT]):Spec Tryz.prog 39 [g.val,.slice la 1 lc,t.val] I M0 fun v I' M'=>(∀ b o,I b=some o→I' b=some o)∧∃ b,v=.tuple #[.slice (some ⟨b,0,none⟩) 1 1,.bool true]∧M'=fiRow b [fiT]::M0:=by
 have hct:=gr_ct hR hg
 have hpl:placesL g.ds=placesL (grC cs11b).ds:=(placesL_ct g.ds).symm.trans (congrArg placesL (congrArg Gr.ds hct))
 have hm:mayG debL g=0:=by rw[←mayG_ct,hct];exact may11b
 have hgn:g.n=1:=by have:=hg.n;have:=hR.len;simp[cs11b] at this;omega
 have hr:right t=true:=by
  unfold right
  rw[hns,hrt]
  decide +kernel
 have htn:t.n=1:=by have:=ht.n;rw[hns] at this;simpa using this.symm
 have hno:namedOk (placesL g.ds) t.ns=true:=by
  rw[hpl,hns]
  show ((!decide ((leafNd 3 ⟨#[97]⟩).k=3) || (lookM ⟨#[97]⟩ (placesL (grC cs11b).ds)).isSome) && true)=true
  rw[look11a]
  rfl
 have hok:okI debL g [fiT] t=true:=by
  rw[okI,hm,hr,hno,hgn]
  rfl
 refine Spec.weakK (INodes_spec hT hg ht (kb_leaf hns) hl) ?_
 rintro v J M ⟨h1,⟨h2,-⟩ | ⟨h2,F,b,hF,rfl,rfl⟩⟩
 ·rw[hok] at h2;cases h2
 ·refine⟨h1,b,by rw[htn],?_⟩
  have:nodesI (placesL g.ds) [fiT] (nodesF (placesL g.ds) F t.ns []) t.ns []=[fiT]:=by
   rw[hns,hpl]
   show [comeFi (leafNd 3 ⟨#[97]⟩) _ ([]++(bif decide ((3:Int)=3) then [[fiT].getD ((lookM ⟨#[97]⟩ (placesL (grC cs11b).ds)).getD 0).toNat fi0] else []))]=_
   rw[look11a]
   rfl
  rw[this]
end
theorem firow2 {I:GH} {M:List Blk} {b n:Nat} {l:List Fi} (hM:(⟨b,.cells (rowOf fi0.cells (n * 5)).toArray 67 (0,0)⟩:Blk)∈M):IsAt I M (some ⟨b,0,none⟩) n (List.replicate n fi0):=by
 rw[rowOf_fi] at hM
 have:=fiRow_at (I:=I) (M:=M) (b:=b) (l:=List.replicate n fi0) hM
 rwa [List.length_replicate] at this
set_option maxRecDepth 100000 in
set_option maxHeartbeats 16000000 in
theorem firstNames_V {I:GH} (hT:Tabs I debL):SpecE Tryz.prog 9 [] I [] fun v I' M'=>v=.bool true:=by
 refine specE_of_V [] TryzEOK Tryz.func9 rfl rfl rfl ?_
 intro B h0
 refine CallOb.mk [] [] _ (.refl _) (awake11_spec hT) ?_
 rintro v J0 N - ⟨rfl,hJ0,rfl⟩
 refine CondOb.mk (fun h=>by cases h) (fun _=>?_)
 refine AllocOb.mk fun b57 hb57 hbM57=>?_
 have hlen:cases11.length=35:=rfl
 refine LoopOb.inv (ι:=Nat×GH) (fun s=>{ fl:=[(57,.val (.slice (some ⟨b57,0,none⟩) 35 35)),(58,.val (.int .i64 35)),(59,.val (.int .i64 s.1))],gi:=s.2,mi:=[⟨b57,.cells (cases11.flatMap caseC).toArray 85 (0,0)⟩] }) (fun s=>s.1≤35∧∀ b o,I b=some o→s.2 b=some o) (fun s=>35 - s.1) ?_ ?_
 ·exact⟨(0,J0),⟨by simp,hJ0⟩,.refl,.cons .refl (.cons .refl (.cons .refl (.nil))),.nil⟩
 rintro⟨i,J⟩ ⟨hi,hJ⟩
 simp only at hi hJ
 have hTJ:=hT.mono hJ
 refine CondOb.mk (fun h=>?_) (fun h=>?_)
 ·have hlt:i < 35:=by have:(i:Int) < 35:=of_decide_eq_true h;omega
  have hil:i < cases11.length:=by rw[hlen];exact hlt
  have hof:OfOk cases11[i]:=all11 _ (List.getElem_mem hil)
  have hrd:∀ (K:GH),Rd K [⟨b57,.cells (cases11.flatMap caseC).toArray 85 (0,0)⟩] ((⟨b57,0,none⟩:Addr).add (i * 3)) 3 (caseC cases11[i]):=fun K=>by
   have:=blk_rd (I:=K) (b:=b57) (T:=85) (M:=[⟨b57,.cells (cases11.flatMap caseC).toArray 85 (0,0)⟩]) (cs:=cases11.flatMap caseC) (k:=i * 3) (n:=3) (.head _) (by rw[flat_len caseC 3 caseC_len,hlen];omega)
   rwa [flat_at caseC 3 caseC_len cases11 i hil] at this
  generalize cases11[i]=c at hof hrd
  refine IdxOb.mk ⟨b57,0,none⟩ i rfl rfl hlt ?_
  refine LoadOb.mk _ (hrd _) ?_
  refine CallOb.mk [] [⟨b57,.cells (cases11.flatMap caseC).toArray 85 (0,0)⟩] _ (.refl _) (hof hTJ) ?_
  rintro v J1 N - ⟨rfl,hJ1,rfl⟩
  refine CondOb.mk (fun h=>by cases h) (fun _=>?_)
  refine ArithOb.mk _ (next_wr (i:=i) (by omega)) ?_
  exact⟨(i+1,J1),⟨⟨hlt,fun b o h=>hJ1 _ _ (hJ _ _ h)⟩,by simp only;omega⟩,.refl,.cons .refl (.cons .refl (.cons .refl (.nil))),.nil⟩
 refine CallOb.mk [] [⟨b57,.cells (cases11.flatMap caseC).toArray 85 (0,0)⟩] _ (.refl _) (grOf_spec hTJ gr11b) ?_
 rintro v J1 N - ⟨rfl,hJ1,g,rfl,hg,hR⟩
 have hT1:=hTJ.mono hJ1
 have hct:=gr_ct hR hg
 have hpl:placesL g.ds=placesL (grC cs11b).ds:=(placesL_ct g.ds).symm.trans (congrArg placesL (congrArg Gr.ds hct))
 have hgn:g.n=1:=by have:=hg.n;have:=hR.len;simp[cs11b] at this;omega
 refine CallOb.whole _ (IOf_no hT1) ?_
 rintro v J2 N - ⟨rfl,hJ2,hN⟩
 subst N
 refine CallOb.whole _ Empty_fr ?_
 rintro v J3 N - ⟨hJ3,hN,t,rfl,ht,hkb⟩
 subst N
 have hJ13:∀ b o,J1 b=some o→J3 b=some o:=fun b o h=>hJ3 _ _ (hJ2 _ _ h)
 refine CallOb.whole _ (ITree_no (hT1.mono hJ13) (g00_ok) ht hkb (lc:=0) isAt_none (by simp[okI,may00])) ?_
 rintro v J4 N - ⟨hJ4,hN,rfl⟩
 subst N
 have hJ14:∀ b o,J1 b=some o→J4 b=some o:=fun b o h=>hJ4 _ _ (hJ13 _ _ h)
 refine CodeOb.drawC TryzEOK rfl rfl rfl (ι:=GH) (fun s=>{ fl:=[(3,.ref 3 0),(6,.val (.slice none 0 0)),(7,.val (.int .i64 4)),(9,.val (.bool false)),(11,.val (.bool false))],cl:=[(3,[.slice g.a g.n g.c])],gi:=s,mi:=[] }) (fun s=>∀ b o,J4 b=some o→s b=some o) ?_ ?_
 ·refine⟨?_,?_⟩
  ·refine PCallOb.whole _ Empty_fr (fun v I' M' h x hx=>by rw[h.2.1];exact hx) ?_
   rintro v Ka N - ⟨hKa,hN,t2,rfl,ht2,hkb2⟩
   subst N
   refine⟨?_,?_⟩
   ·have hTa:=(hT1.mono hJ14).mono hKa
    refine CallOb.whole _ (ITree_no hTa ((hg.mono hJ14).mono hKa) ht2 hkb2 (lc:=0) isAt_none (by simp[okI,hgn])) ?_
    rintro v Kb N - ⟨hKb,hN,rfl⟩
    subst N
    refine AllocOb.mk fun b10 hb10 hMb10=>?_
    refine StoreOb.to [] (_) _ _ rfl rfl rfl rfl fi0.cells (by rfl) ?_
    exact⟨Kb,fun b o h=>hKb _ _ (hKa _ _ h),.sub (List.nil_sublist _) .refl,.cons .refl (.cons .refl (.cons .refl (.cons .refl (.cons .refl (.nil))))),.cons rfl (.nil)⟩
   ·refine AllocOb.mk fun b10 hb10 hMb10=>?_
    have hTa:=(hT1.mono hJ14).mono hKa
    refine PCallOb.whole _ (ITree_no hTa ((hg.mono hJ14).mono hKa) ht2 hkb2 (lc:=0) isAt_none (by simp[okI,hgn])) (fun v I' M' h x hx=>by rw[h.2.1];exact hx) ?_
    rintro v Kb N - ⟨hKb,hN,rfl⟩
    subst N
    refine StoreOb.to [] (_) _ _ rfl rfl rfl rfl fi0.cells (by rfl) ?_
    exact⟨Kb,fun b o h=>hKb _ _ (hKa _ _ h),.sub (List.nil_sublist _) .refl,.cons .refl (.cons .refl (.cons .refl (.cons .refl (.cons .refl (.nil))))),.cons rfl (.nil)⟩
  ·refine AllocOb.mk fun b10 hb10 hMb10=>?_
   refine PCallOb.whole _ Empty_fr (fun v I' M' h x hx=>by rw[h.2.1];exact hx) ?_
   rintro v Ka N - ⟨hKa,hN,t2,rfl,ht2,hkb2⟩
   subst N
   have hTa:=(hT1.mono hJ14).mono hKa
   refine PCallOb.whole _ (ITree_no hTa ((hg.mono hJ14).mono hKa) ht2 hkb2 (lc:=0) isAt_none (by simp[okI,hgn])) (fun v I' M' h x hx=>by rw[h.2.1];exact hx) ?_
   rintro v Kb N - ⟨hKb,hN,rfl⟩
   subst N
   refine StoreOb.to [] (_) _ _ rfl rfl rfl rfl fi0.cells (by rfl) ?_
   exact⟨Kb,fun b o h=>hKb _ _ (hKa _ _ h),.sub (List.nil_sublist _) .refl,.cons .refl (.cons .refl (.cons .refl (.cons .refl (.cons .refl (.nil))))),.cons rfl (.nil)⟩
 rintro J5 hJ5
 have hJ15:∀ b o,J1 b=some o→J5 b=some o:=fun b o h=>hJ5 _ _ (hJ14 _ _ h)
 refine CodeOb.drawC TryzEOK rfl rfl rfl (ι:=GH) (fun s=>{ fl:=[(3,.ref 3 0),(6,.val (.slice none 0 0)),(7,.val (.int .i64 4)),(9,.val (.bool false)),(11,.val (.bool false)),(13,.val (.bool false))],cl:=[(3,[.slice g.a g.n g.c])],gi:=s,mi:=[] }) (fun s=>∀ b o,J5 b=some o→s b=some o) ?_ ?_
 ·refine⟨?_,?_,?_⟩
  ·refine MakeOb.mk 2 2 rfl rfl (Nat.le_refl _) (by decide) (by decide) ?_
   refine AllocOb.mk fun b96 hb96 hMb96=>?_
   refine⟨?_,?_⟩
   ·refine PCallOb.whole _ Empty_fr (fun v I' M' h x hx=>by rw[h.2.1];exact hx) ?_
    rintro v Ka N - ⟨hKa,hN,t2,rfl,ht2,hkb2⟩
    subst N
    refine⟨?_,?_⟩
    ·have hTa:=(hT1.mono hJ15).mono hKa
     refine CallOb.whole _ (ITree_no hTa ((hg.mono hJ15).mono hKa) ht2 hkb2 (lc:=2) (firow2 (n:=2) (l:=[]) (by first | exact .head _ | exact .tail _ (.head _) | exact .tail _ (.tail _ (.head _)))) (by simp[okI,hgn])) ?_
     rintro v Kb N - ⟨hKb,hN,rfl⟩
     subst N
     refine AllocOb.mk fun b12 hb12 hMb12=>?_
     refine StoreOb.to [] (⟨b96,.cells (rowOf fi0.cells (2 * 5)).toArray 67 (0,0)⟩::_) _ _ rfl rfl rfl rfl fi0.cells (by rfl) ?_
     exact⟨Kb,fun b o h=>hKb _ _ (hKa _ _ h),.sub (List.nil_sublist _) .refl,.cons .refl (.cons .refl (.cons .refl (.cons .refl (.cons .refl (.cons .refl (.nil)))))),.cons rfl (.nil)⟩
    ·refine AllocOb.mk fun b12 hb12 hMb12=>?_
     have hTa:=(hT1.mono hJ15).mono hKa
     refine PCallOb.whole _ (ITree_no hTa ((hg.mono hJ15).mono hKa) ht2 hkb2 (lc:=2) (firow2 (n:=2) (l:=[]) (by first | exact .head _ | exact .tail _ (.head _) | exact .tail _ (.tail _ (.head _)))) (by simp[okI,hgn])) (fun v I' M' h x hx=>by rw[h.2.1];exact hx) ?_
     rintro v Kb N - ⟨hKb,hN,rfl⟩
     subst N
     refine StoreOb.to [] (⟨b96,.cells (rowOf fi0.cells (2 * 5)).toArray 67 (0,0)⟩::_) _ _ rfl rfl rfl rfl fi0.cells (by rfl) ?_
     exact⟨Kb,fun b o h=>hKb _ _ (hKa _ _ h),.sub (List.nil_sublist _) .refl,.cons .refl (.cons .refl (.cons .refl (.cons .refl (.cons .refl (.cons .refl (.nil)))))),.cons rfl (.nil)⟩
   ·refine AllocOb.mk fun b12 hb12 hMb12=>?_
    refine PCallOb.whole _ Empty_fr (fun v I' M' h x hx=>by rw[h.2.1];exact hx) ?_
    rintro v Ka N - ⟨hKa,hN,t2,rfl,ht2,hkb2⟩
    subst N
    have hTa:=(hT1.mono hJ15).mono hKa
    refine PCallOb.whole _ (ITree_no hTa ((hg.mono hJ15).mono hKa) ht2 hkb2 (lc:=2) (firow2 (n:=2) (l:=[]) (by first | exact .head _ | exact .tail _ (.head _) | exact .tail _ (.tail _ (.head _)))) (by simp[okI,hgn])) (fun v I' M' h x hx=>by rw[h.2.1];exact hx) ?_
    rintro v Kb N - ⟨hKb,hN,rfl⟩
    subst N
    refine StoreOb.to [] (⟨b96,.cells (rowOf fi0.cells (2 * 5)).toArray 67 (0,0)⟩::_) _ _ rfl rfl rfl rfl fi0.cells (by rfl) ?_
    exact⟨Kb,fun b o h=>hKb _ _ (hKa _ _ h),.sub (List.nil_sublist _) .refl,.cons .refl (.cons .refl (.cons .refl (.cons .refl (.cons .refl (.cons .refl (.nil)))))),.cons rfl (.nil)⟩
  ·refine PCallOb.whole _ Empty_fr (fun v I' M' h x hx=>by rw[h.2.1];exact hx) ?_
   rintro v Ka N - ⟨hKa,hN,t2,rfl,ht2,hkb2⟩
   subst N
   refine⟨?_,?_⟩
   ·refine MakeOb.mk 2 2 rfl rfl (Nat.le_refl _) (by decide) (by decide) ?_
    refine AllocOb.mk fun b96 hb96 hMb96=>?_
    refine⟨?_,?_⟩
    ·have hTa:=(hT1.mono hJ15).mono hKa
     refine CallOb.whole _ (ITree_no hTa ((hg.mono hJ15).mono hKa) ht2 hkb2 (lc:=2) (firow2 (n:=2) (l:=[]) (by first | exact .head _ | exact .tail _ (.head _) | exact .tail _ (.tail _ (.head _)))) (by simp[okI,hgn])) ?_
     rintro v Kb N - ⟨hKb,hN,rfl⟩
     subst N
     refine AllocOb.mk fun b12 hb12 hMb12=>?_
     refine StoreOb.to [] (⟨b96,.cells (rowOf fi0.cells (2 * 5)).toArray 67 (0,0)⟩::_) _ _ rfl rfl rfl rfl fi0.cells (by rfl) ?_
     exact⟨Kb,fun b o h=>hKb _ _ (hKa _ _ h),.sub (List.nil_sublist _) .refl,.cons .refl (.cons .refl (.cons .refl (.cons .refl (.cons .refl (.cons .refl (.nil)))))),.cons rfl (.nil)⟩
    ·refine AllocOb.mk fun b12 hb12 hMb12=>?_
     have hTa:=(hT1.mono hJ15).mono hKa
     refine PCallOb.whole _ (ITree_no hTa ((hg.mono hJ15).mono hKa) ht2 hkb2 (lc:=2) (firow2 (n:=2) (l:=[]) (by first | exact .head _ | exact .tail _ (.head _) | exact .tail _ (.tail _ (.head _)))) (by simp[okI,hgn])) (fun v I' M' h x hx=>by rw[h.2.1];exact hx) ?_
     rintro v Kb N - ⟨hKb,hN,rfl⟩
     subst N
     refine StoreOb.to [] (⟨b96,.cells (rowOf fi0.cells (2 * 5)).toArray 67 (0,0)⟩::_) _ _ rfl rfl rfl rfl fi0.cells (by rfl) ?_
     exact⟨Kb,fun b o h=>hKb _ _ (hKa _ _ h),.sub (List.nil_sublist _) .refl,.cons .refl (.cons .refl (.cons .refl (.cons .refl (.cons .refl (.cons .refl (.nil)))))),.cons rfl (.nil)⟩
   ·refine AllocOb.mk fun b12 hb12 hMb12=>?_
    refine MakeOb.mk 2 2 rfl rfl (Nat.le_refl _) (by decide) (by decide) ?_
    refine AllocOb.mk fun b96 hb96 hMb96=>?_
    have hTa:=(hT1.mono hJ15).mono hKa
    refine PCallOb.whole _ (ITree_no hTa ((hg.mono hJ15).mono hKa) ht2 hkb2 (lc:=2) (firow2 (n:=2) (l:=[]) (by first | exact .head _ | exact .tail _ (.head _) | exact .tail _ (.tail _ (.head _)))) (by simp[okI,hgn])) (fun v I' M' h x hx=>by rw[h.2.1];exact hx) ?_
    rintro v Kb N - ⟨hKb,hN,rfl⟩
    subst N
    refine StoreOb.to [⟨b96,.cells (rowOf fi0.cells (2 * 5)).toArray 67 (0,0)⟩] (_) _ _ rfl rfl rfl rfl fi0.cells (by rfl) ?_
    exact⟨Kb,fun b o h=>hKb _ _ (hKa _ _ h),.sub (List.nil_sublist _) .refl,.cons .refl (.cons .refl (.cons .refl (.cons .refl (.cons .refl (.cons .refl (.nil)))))),.cons rfl (.nil)⟩
  ·refine AllocOb.mk fun b12 hb12 hMb12=>?_
   refine⟨?_,?_⟩
   ·refine MakeOb.mk 2 2 rfl rfl (Nat.le_refl _) (by decide) (by decide) ?_
    refine AllocOb.mk fun b96 hb96 hMb96=>?_
    refine PCallOb.whole _ Empty_fr (fun v I' M' h x hx=>by rw[h.2.1];exact hx) ?_
    rintro v Ka N - ⟨hKa,hN,t2,rfl,ht2,hkb2⟩
    subst N
    have hTa:=(hT1.mono hJ15).mono hKa
    refine PCallOb.whole _ (ITree_no hTa ((hg.mono hJ15).mono hKa) ht2 hkb2 (lc:=2) (firow2 (n:=2) (l:=[]) (by first | exact .head _ | exact .tail _ (.head _) | exact .tail _ (.tail _ (.head _)))) (by simp[okI,hgn])) (fun v I' M' h x hx=>by rw[h.2.1];exact hx) ?_
    rintro v Kb N - ⟨hKb,hN,rfl⟩
    subst N
    refine StoreOb.to [⟨b96,.cells (rowOf fi0.cells (2 * 5)).toArray 67 (0,0)⟩] (_) _ _ rfl rfl rfl rfl fi0.cells (by rfl) ?_
    exact⟨Kb,fun b o h=>hKb _ _ (hKa _ _ h),.sub (List.nil_sublist _) .refl,.cons .refl (.cons .refl (.cons .refl (.cons .refl (.cons .refl (.cons .refl (.nil)))))),.cons rfl (.nil)⟩
   ·refine PCallOb.whole _ Empty_fr (fun v I' M' h x hx=>by rw[h.2.1];exact hx) ?_
    rintro v Ka N - ⟨hKa,hN,t2,rfl,ht2,hkb2⟩
    subst N
    refine MakeOb.mk 2 2 rfl rfl (Nat.le_refl _) (by decide) (by decide) ?_
    refine AllocOb.mk fun b96 hb96 hMb96=>?_
    have hTa:=(hT1.mono hJ15).mono hKa
    refine PCallOb.whole _ (ITree_no hTa ((hg.mono hJ15).mono hKa) ht2 hkb2 (lc:=2) (firow2 (n:=2) (l:=[]) (by first | exact .head _ | exact .tail _ (.head _) | exact .tail _ (.tail _ (.head _)))) (by simp[okI,hgn])) (fun v I' M' h x hx=>by rw[h.2.1];exact hx) ?_
    rintro v Kb N - ⟨hKb,hN,rfl⟩
    subst N
    refine StoreOb.to [⟨b96,.cells (rowOf fi0.cells (2 * 5)).toArray 67 (0,0)⟩] (_) _ _ rfl rfl rfl rfl fi0.cells (by rfl) ?_
    exact⟨Kb,fun b o h=>hKb _ _ (hKa _ _ h),.sub (List.nil_sublist _) .refl,.cons .refl (.cons .refl (.cons .refl (.cons .refl (.cons .refl (.cons .refl (.nil)))))),.cons rfl (.nil)⟩
 rintro J6 hJ6
 have hJ16:∀ b o,J1 b=some o→J6 b=some o:=fun b o h=>hJ6 _ _ (hJ15 _ _ h)
 refine CodeOb.drawC TryzEOK rfl rfl rfl (ι:=GH) (fun s=>{ fl:=[(3,.ref 3 0),(6,.val (.slice none 0 0)),(7,.val (.int .i64 4)),(9,.val (.bool false)),(11,.val (.bool false)),(13,.val (.bool false)),(15,.val (.bool false))],cl:=[(3,[.slice g.a g.n g.c])],gi:=s,mi:=[] }) (fun s=>∀ b o,J6 b=some o→s b=some o) ?_ ?_
 ·refine MakeOb.mk 1 1 rfl rfl (Nat.le_refl _) (by decide) (by decide) ?_
  refine AllocOb.mk fun b103 hb103 hM103=>?_
  refine CallOb.whole _ (INodes_no (hT1.mono hJ16) (hg.mono hJ16) (tr00_ok) (fun n hn=>by cases hn) (lc:=1) (firow2 (n:=1) (l:=[]) (by first | exact .head _ | exact .tail _ (.head _) | exact .tail _ (.tail _ (.head _)))) (by
   have:right tr00=false:=rfl
   simp[okI,this])) ?_
  rintro v Kb N - ⟨hKb,hN,rfl⟩
  subst N
  exact⟨Kb,hKb,.sub (List.nil_sublist _) .refl,.cons .refl (.cons .refl (.cons .refl (.cons .refl (.cons .refl (.cons .refl (.cons .refl (.nil))))))),.cons rfl (.nil)⟩
 rintro J7 hJ7
 have hJ17:∀ b o,J1 b=some o→J7 b=some o:=fun b o h=>hJ7 _ _ (hJ16 _ _ h)
 refine CodeOb.drawC TryzEOK rfl rfl rfl (ι:=GH) (fun s=>{ fl:=[(3,.ref 3 0),(6,.val (.slice none 0 0)),(7,.val (.int .i64 4)),(9,.val (.bool false)),(11,.val (.bool false)),(13,.val (.bool false)),(15,.val (.bool false)),(17,.val (.bool false))],cl:=[(3,[.slice g.a g.n g.c])],gi:=s,mi:=[] }) (fun s=>∀ b o,J7 b=some o→s b=some o) ?_ ?_
 ·refine⟨?_,?_⟩
  ·refine MakeOb.mk 1 1 rfl rfl (Nat.le_refl _) (by decide) (by decide) ?_
   refine AllocOb.mk fun b110 hb110 hMb110=>?_
   refine PCallOb.whole _ (Rule_fr (s:=⟨#[98]⟩) (by decide)) (fun v I' M' h x hx=>by rw[h.2.1];exact hx) ?_
   rintro v Ka N - ⟨hKa,hN,t2,rfl,ht2,hns2,hrt2⟩
   subst N
   refine CallOb.whole _ (INodes_no ((hT1.mono hJ17).mono hKa) ((hg.mono hJ17).mono hKa) ht2 (kb_leaf hns2) (lc:=1) (firow2 (n:=1) (l:=[]) (by first | exact .head _ | exact .tail _ (.head _) | exact .tail _ (.tail _ (.head _)))) (by
   have h9:namedOk (placesL g.ds) t2.ns=false:=by
    rw[hpl,hns2]
    show ((!decide ((leafNd 3 ⟨#[98]⟩).k=3) || (lookM ⟨#[98]⟩ (placesL (grC cs11b).ds)).isSome) && true)=false
    rw[look11b]
    rfl
   simp[okI,h9])) ?_
   rintro v Kb N - ⟨hKb,hN,rfl⟩
   subst N
   exact⟨Kb,fun b o h=>hKb _ _ (hKa _ _ h),.sub (List.nil_sublist _) .refl,.cons .refl (.cons .refl (.cons .refl (.cons .refl (.cons .refl (.cons .refl (.cons .refl (.cons .refl (.nil)))))))),.cons rfl (.nil)⟩
  ·refine PCallOb.whole _ (Rule_fr (s:=⟨#[98]⟩) (by decide)) (fun v I' M' h x hx=>by rw[h.2.1];exact hx) ?_
   rintro v Ka N - ⟨hKa,hN,t2,rfl,ht2,hns2,hrt2⟩
   subst N
   refine MakeOb.mk 1 1 rfl rfl (Nat.le_refl _) (by decide) (by decide) ?_
   refine AllocOb.mk fun b110 hb110 hMb110=>?_
   refine CallOb.whole _ (INodes_no ((hT1.mono hJ17).mono hKa) ((hg.mono hJ17).mono hKa) ht2 (kb_leaf hns2) (lc:=1) (firow2 (n:=1) (l:=[]) (by first | exact .head _ | exact .tail _ (.head _) | exact .tail _ (.tail _ (.head _)))) (by
   have h9:namedOk (placesL g.ds) t2.ns=false:=by
    rw[hpl,hns2]
    show ((!decide ((leafNd 3 ⟨#[98]⟩).k=3) || (lookM ⟨#[98]⟩ (placesL (grC cs11b).ds)).isSome) && true)=false
    rw[look11b]
    rfl
   simp[okI,h9])) ?_
   rintro v Kb N - ⟨hKb,hN,rfl⟩
   subst N
   exact⟨Kb,fun b o h=>hKb _ _ (hKa _ _ h),.sub (List.nil_sublist _) .refl,.cons .refl (.cons .refl (.cons .refl (.cons .refl (.cons .refl (.cons .refl (.cons .refl (.cons .refl (.nil)))))))),.cons rfl (.nil)⟩
 rintro J8 hJ8
 have hJ18:∀ b o,J1 b=some o→J8 b=some o:=fun b o h=>hJ8 _ _ (hJ17 _ _ h)
 refine CodeOb.drawC TryzEOK rfl rfl rfl (ι:=GH×Nat) (fun s=>{ fl:=[(3,.ref 3 0),(6,.val (.slice none 0 0)),(7,.val (.int .i64 4)),(9,.val (.bool false)),(11,.val (.bool false)),(13,.val (.bool false)),(15,.val (.bool false)),(17,.val (.bool false)),(18,.val (.slice (some ⟨s.2,0,none⟩) 1 1)),(19,.val (.bool true))],cl:=[(3,[.slice g.a g.n g.c])],gi:=s.1,mi:=[fiRow s.2 [fiT]] }) (fun s=>∀ b o,J8 b=some o→s.1 b=some o) ?_ ?_
 ·refine⟨?_,?_⟩
  ·refine AllocOb.mk fun b118 hb118 hM118=>?_
   refine PCallOb.whole _ (Rule_fr (s:=⟨#[97]⟩) (by decide)) (fun v I' M' h x hx=>by rw[h.2.1];exact hx) ?_
   rintro v Ka N - ⟨hKa,hN,t2,rfl,ht2,hns2,hrt2⟩
   subst N
   refine CallOb.whole _ (INodes_a ((hT1.mono hJ18).mono hKa) ((hg.mono hJ18).mono hKa) hR ht2 hns2 hrt2 (lc:=1) (fiRow_at (b:=b118) (l:=[fiT]) (by exact .head _))) ?_
   rintro v Kb N - ⟨hKb,b18,rfl,hN⟩
   subst N
   exact⟨(Kb,b18),fun b o h=>hKb _ _ (hKa _ _ h),.sub (.cons_cons _ (List.nil_sublist _)) .refl,.cons .refl (.cons .refl (.cons .refl (.cons .refl (.cons .refl (.cons .refl (.cons .refl (.cons .refl (.cons .refl (.cons .refl (.nil)))))))))),.cons rfl (.nil)⟩
  ·refine PCallOb.whole _ (Rule_fr (s:=⟨#[97]⟩) (by decide)) (fun v I' M' h x hx=>by rw[h.2.1];exact hx) ?_
   rintro v Ka N - ⟨hKa,hN,t2,rfl,ht2,hns2,hrt2⟩
   subst N
   refine AllocOb.mk fun b118 hb118 hM118=>?_
   refine CallOb.whole _ (INodes_a ((hT1.mono hJ18).mono hKa) ((hg.mono hJ18).mono hKa) hR ht2 hns2 hrt2 (lc:=1) (fiRow_at (b:=b118) (l:=[fiT]) (by exact .head _))) ?_
   rintro v Kb N - ⟨hKb,b18,rfl,hN⟩
   subst N
   exact⟨(Kb,b18),fun b o h=>hKb _ _ (hKa _ _ h),.sub (.cons_cons _ (List.nil_sublist _)) .refl,.cons .refl (.cons .refl (.cons .refl (.cons .refl (.cons .refl (.cons .refl (.cons .refl (.cons .refl (.cons .refl (.cons .refl (.nil)))))))))),.cons rfl (.nil)⟩
 rintro⟨J9,b18⟩ hJ9
 refine GuardOb.mk (fun _=>?_) (fun h=>absurd h (by simp))
 refine GuardOb.mk (fun _=>?_) (fun h=>absurd h (by simp))
 refine GuardOb.mk (fun _=>?_) (fun h=>absurd h (by simp))
 refine GuardOb.mk (fun _=>?_) (fun h=>absurd h (by simp))
 refine GuardOb.mk (fun _=>?_) (fun h=>absurd h (by simp))
 refine GuardOb.mk (fun _=>?_) (fun h=>absurd h (by simp))
 refine GuardOb.mk (fun _=>?_) (fun h=>absurd h (by simp))
 refine GuardOb.mk (fun _=>?_) (fun h=>absurd h (by simp))
 refine GuardOb.mk (fun _=>?_) (fun h=>absurd h (by simp))
 refine IdxOb.mk ⟨b18,0,none⟩ 0 rfl rfl (by decide) ?_
 refine LoadOb.mk _ ((fiRow_rd (l:=[fiT]) (j:=0) (.head _) (by decide)).part (k:=4) (m:=1) (by decide)) ?_
 refine GuardOb.mk (fun _=>?_) (fun h=>absurd h (by simp[fiT]))
 refine IdxOb.mk ⟨b18,0,none⟩ 0 rfl rfl (by decide) ?_
 refine LoadOb.mk _ ((fiRow_rd (l:=[fiT]) (j:=0) (.head _) (by decide)).part (k:=0) (m:=4) (by decide)) ?_
 refine BinOb.eqW (p:=.zero) (q:=.zero) ?_
 refine⟨_,_,.refl,?_⟩
 simp
end Go.V
