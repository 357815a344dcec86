/-
  Part 6 of what the proofs of this seat share: the executor, data in memory, walks.
-/
import Derived.Test.YtmijfbjkkllhlaaGreatDoorK5
import Derived.Test.YtmijfbjkkllhlaaGreatDoorK3
import Derived.Test.YtmijfbjkkllhlaaGreatDoorK2
set_option linter.unusedVariables false
set_option linter.unusedSimpArgs false
set_option linter.unusedSectionVars false
namespace Go.V
open Go Go.Proofs
def comeFs:List Nat:=[164,165,166,167,168,169,170,171,172,167]
def comeVs:List Value:=[.func (.func 164) #[] #[],.func (.func 165) #[] #[],.func (.func 166) #[] #[],.func (.func 167) #[] #[],.func (.func 168) #[] #[],.func (.func 169) #[] #[],.func (.func 170) #[] #[],.func (.func 171) #[] #[],.func (.func 172) #[] #[],.func (.func 167) #[] #[]]
theorem comes_spec {I:GH}:Spec Tryz.prog 122 [] I [] fun v I' M'=>v=.agg comeVs.toArray∧I'=I∧M'=[]:=by
 refine spec_of_V [] TryzEOK Tryz.func122 rfl rfl rfl ?_
 intro B h0
 exact⟨_,_,.refl,rfl,rfl,rfl⟩
theorem come_at {I:GH} {M:List Blk} {d:Nd} {a:Option Addr} {n c:Nat} {ks:List Fl} (hk:FsAt I M a n ks) (hn:n≤140737488355328) (j:Nat) (hj:j < 10) (hd:d.k=j) (h0:(j=3∨6≤j)→0 < n) :
  Spec Tryz.prog (comeFs.getD j 0) [d.val,.slice a n c] I M fun v I' M'=>v=(comeFl d ks).val∧I'=I∧M'=M:=by
 match j,hj,hd,h0 with
 | 0,_,hd,_=>rw[show comeFl d ks=⟨true,false,false⟩ by simp[comeFl,hd]];exact fEmpty_spec (I:=I) (M:=M) (d:=d) (a:=a) (n:=n) (c:=c)
 | 1,_,hd,_=>rw[show comeFl d ks=⟨false,!d.setZ,true⟩ by simp[comeFl,hd]];exact fSet_spec (I:=I) (M:=M) (d:=d) (a:=a) (n:=n) (c:=c)
 | 2,_,hd,_=>rw[show comeFl d ks=⟨false,true,true⟩ by simp[comeFl,hd]];exact fText_spec (I:=I) (M:=M) (d:=d) (a:=a) (n:=n) (c:=c)
 | 3,_,hd,h0=>rw[show comeFl d ks=ks.headD fl0 by simp[comeFl,hd]];exact fItself_spec (d:=d) (c:=c) hk (h0 (by omega))
 | 4,_,hd,_=>rw[show comeFl d ks=seqFl ks by simp[comeFl,hd]];exact fSeq_spec (d:=d) (c:=c) hk hn
 | 5,_,hd,_=>rw[show comeFl d ks=chFl ks by simp[comeFl,hd]];exact fChoice_spec (d:=d) (c:=c) hk hn
 | 6,_,hd,h0=>rw[show comeFl d ks=repFl d (ks.headD fl0) by simp[comeFl,hd]];exact fRep_spec (d:=d) (c:=c) hk (h0 (by omega))
 | 7,_,hd,h0=>rw[show comeFl d ks=⟨(ks.headD fl0).suc,false,(ks.headD fl0).f⟩ by simp[comeFl,hd]];exact fAnd_spec (d:=d) (c:=c) hk (h0 (by omega))
 | 8,_,hd,h0=>rw[show comeFl d ks=⟨(ks.headD fl0).f,false,(ks.headD fl0).suc⟩ by simp[comeFl,hd]];exact fNot_spec (d:=d) (c:=c) hk (h0 (by omega))
 | 9,_,hd,h0=>rw[show comeFl d ks=ks.headD fl0 by simp[comeFl,hd]];exact fItself_spec (d:=d) (c:=c) hk (h0 (by omega))
def flRow (b:Nat) (l:List Fl):Blk:=⟨b,.cells (l.flatMap Fl.cells).toArray 80 (0,0)⟩
theorem fl_len (l:List Fl):(l.flatMap Fl.cells).length=l.length * 3:=flat_len _ 3 Fl.cells_len l
theorem flRow_rd {I:GH} {M:List Blk} {b:Nat} {l:List Fl} (hM:flRow b l∈M) {j:Nat} (hj:j < l.length):Rd I M ((⟨b,0,none⟩:Addr).add (j * 3)) 3 l[j].cells:=by
 have h:=blk_rd (I:=I) (cs:=l.flatMap Fl.cells) (k:=j * 3) (n:=3) hM (by rw[fl_len];omega)
 rwa [flat_at Fl.cells 3 Fl.cells_len l j hj] at h
theorem flRow_set (l:List Fl) (j:Nat) (hj:j < l.length) (x:Fl):splice (l.flatMap Fl.cells) (j * 3) x.cells=(l.set j x).flatMap Fl.cells:=by
 have e:l.flatMap Fl.cells=(l.take j).flatMap Fl.cells++(l[j].cells++(l.drop (j+1)).flatMap Fl.cells):=by
  have h1:l=l.take j++(l[j]::l.drop (j+1)):=by rw[←List.drop_eq_getElem_cons hj,List.take_append_drop]
  have h2:=congrArg (fun q:List Fl=>q.flatMap Fl.cells) h1
  simp only[List.flatMap_append,List.flatMap_cons] at h2
  exact h2
 have hl:((l.take j).flatMap Fl.cells).length=j * 3:=by rw[fl_len,List.length_take];congr 1;omega
 unfold splice
 rw[List.set_eq_take_append_cons_drop,if_pos hj,List.flatMap_append,List.flatMap_cons,e,List.append_assoc]
 congr 1
 ·rw[←hl,List.take_left]
 ·congr 1
  rw[Fl.cells_len,←hl,←List.append_assoc,List.drop_left' (by rw[List.length_append,Fl.cells_len])]
theorem flat_snoc (l:List Fl) (x:Fl):(l++[x]).flatMap Fl.cells=l.flatMap Fl.cells++x.cells:=by simp
theorem OS.zero {os:OS} {size:Nat} {xs:List Value} (h:os.ok size xs):OS.ok ⟨os.a,0,os.c,os.cur⟩ size []:=by
 refine⟨by simp,fun ha=>⟨rfl,(h.nil ha).2⟩,fun g hg=>?_⟩
 obtain⟨h1,h2,h3,h4⟩:=h.cap g hg
 exact⟨h1,Nat.zero_le _,h3,by simp⟩
theorem OS.fsAt {I:GH} {M:List Blk} {os:OS} {l:List Fl} {e:Nat} (h:os.ok 3 (l.flatMap Fl.cells)) (hM:∀ x∈os.blk e,x∈M):FsAt I M (os.a.map fun g=>⟨g,0,none⟩) os.n l:=by
 have hl:=h.len
 rw[fl_len] at hl
 refine⟨by omega,fun j hj=>?_⟩
 obtain⟨a,n,c,cur⟩:=os
 simp only at hl
 cases a with
 | none=>have:=(h.nil rfl).1;simp only at this;omega
 | some g=>
  obtain⟨h1,h2,h3,h4⟩:=h.cap g rfl
  simp only at h1 h2 h4
  refine⟨⟨g,0,none⟩,rfl,?_⟩
  have hm:(⟨g,.cells cur.toArray e (0,0)⟩:Blk)∈M:=hM _ (by simp[OS.blk])
  have hr:=blk_rd (I:=I) (cs:=cur) (k:=j * 3) (n:=3) hm (by omega)
  have e1:(cur.drop (j * 3)).take 3=((cur.take (n * 3)).drop (j * 3)).take 3:=by
   rw[List.drop_take,List.take_take]
   congr 1
   omega
  rw[e1,h4,flat_at Fl.cells 3 Fl.cells_len l j hj] at hr
  exact hr
def kidsF (pl:List (ByteArray×Int)) (fl acc:List Fl) (d:Nd):List Fl:=
 d.kids.map (fun k=>acc.getD k.toNat fl0)++bif decide (d.k=3) then [fl.getD ((lookM d.t pl).getD 0).toNat fl0] else []
def nodesF (pl:List (ByteArray×Int)) (fl:List Fl):List Nd→List Fl→List Fl
 | [],acc=>acc
 | d::ds,acc=>nodesF pl fl ds (acc++[comeFl d (kidsF pl fl acc d)])
theorem nodesF_len (pl:List (ByteArray×Int)) (fl:List Fl):∀ (ds:List Nd) (acc:List Fl),(nodesF pl fl ds acc).length=acc.length+ds.length
 | [],acc=>rfl
 | d::ds,acc=>by
  rw[nodesF,nodesF_len]
  simp
  omega
def Called (pl:List (ByteArray×Int)) (n:Nat) (ns:List Nd):Prop:=∀ d∈ns,d.k=3→∃ i:Nat,lookM d.t pl=some (i:Int)∧i < n
theorem fits_k {d:Nd} {n:Int} (h:fits d n=true):d.k < 10:=by
 apply Int.lt_of_not_ge
 intro hge
 have:(10:Int)≤d.k:=hge
 simp[fits,this] at h
theorem fits_kid {d:Nd} {n:Int} (h0:0≤d.k) (h:fits d n=true) (hk:6≤d.k):0 < n:=by
 have h10:=fits_k h
 have hcases:d.k=6∨d.k=7∨d.k=8∨d.k=9:=by omega
 rcases hcases with e | e | e | e<;>(simp[fits,e,cntLo,cntHi,countsL] at h;omega)
theorem rep_at (acc:List Fl) (n i:Nat) (hl:acc.length=i) (hi:i < n) (x:Fl):(acc++List.replicate (n - i) fl0).set i x=(acc++[x])++List.replicate (n - (i+1)) fl0:=by
 subst hl
 rw[List.set_append_right _ _ (Nat.le_refl _),Nat.sub_self,show n - acc.length=(n - (acc.length+1))+1 by omega,List.replicate_succ,List.set_cons_zero]
 simp
theorem rowOf_fl:∀ n:Nat,rowOf fl0.cells (n * 3)=(List.replicate n fl0).flatMap Fl.cells:=fun n=>by
 apply List.ext_getElem
 ·rw[fl_len,List.length_replicate]
  simp[rowOf_eq,madeCells]
 intro i h1 h2
 have h3:∀ x∈(List.replicate n fl0).flatMap Fl.cells,x=Value.bool false:=fun x hx=>by
  obtain⟨y,hy,hx⟩:=List.mem_flatMap.1 hx
  have:=List.eq_of_mem_replicate hy
  subst this
  simpa[Fl.cells,fl0] using hx
 rw[h3 _ (List.getElem_mem h2)]
 have hz:∀ j,j < 3→fl0.cells[j]! =Value.bool false:=fun j hj=>by
  match j,hj with
  | 0,_=>rfl
  | 1,_=>rfl
  | 2,_=>rfl
 simp only[rowOf,List.getElem_map,List.getElem_range]
 exact hz _ (Nat.mod_lt _ (by decide))
theorem ble_fl {acc:List Fl} {n i:Nat} (hacc:acc.length=i) (hlt:i < n) (x:Fl):Nat.ble (0+i * 3+x.cells.length) ((acc++List.replicate (n - i) fl0).flatMap Fl.cells).length=true:=by
 rw[Nat.ble_eq,fl_len,Fl.cells_len,List.length_append,List.length_replicate]
 omega
set_option maxRecDepth 100000 in
set_option maxHeartbeats 16000000 in
theorem fnodes_spec {I:GH} {M0:List Blk} {t:Tr} (ht:t.ok I) (hr:right t=true) {gm:Nat} {pl:List (ByteArray×Int)} (hm:I gm=some (mapO pl)) {la:Option Addr} {ln lc:Nat} {fl:List Fl} (hfl:FsAt I M0 la ln fl) (hc:Called pl ln t.ns) :
  Spec Tryz.prog 83 [.map (some gm),.slice la ln lc,t.val] I M0 fun v I' M'=>I'=I∧∃ b,v=.slice (some ⟨b,0,none⟩) t.n t.n∧M'=flRow b (nodesF pl fl t.ns [])::M0:=by
 refine spec_of_V [] TryzEOK Tryz.func83 rfl rfl rfl ?_
 intro B h0
 have htn:=ht.n
 have hcap:=ht.rs.cap
 refine CallOb.mk [] M0 _ (.refl _) comes_spec ?_
 rintro v I1 M1 - ⟨rfl,rfl,rfl⟩
 refine MakeOb.mk t.n t.n rfl rfl (Nat.le_refl _) (by show 3 * t.n≤_;omega) (by omega) ?_
 refine AllocOb.mk fun b8 hb8 hbM8=>?_
 refine LoopOb.inv (ι:=Nat×List Fl×OS) (fun x=>{ fl:=[(0,.val (.map (some gm))),(1,.val (.slice la ln lc)),(5,.ref 5 0),(7,.ref 7 0),(8,.val (.slice (some ⟨b8,0,none⟩) t.n t.n)),(9,.val x.2.2.val),(20,.val (.slice t.a t.n t.c)),(21,.val (.int .i64 t.n)),(22,.val (.int .i64 x.1))],cl:=[(5,t.cells),(7,comeVs)],gi:=I1,mi:=flRow b8 (x.2.1++List.replicate (t.n - x.1) fl0)::(x.2.2.blk 80++M0) })
  (fun x=>x.1≤t.n∧x.2.1.length=x.1∧nodesF pl fl t.ns []=nodesF pl fl (t.ns.drop x.1) x.2.1∧∃ ks,x.2.2.ok 3 ks) (fun x=>t.n - x.1) ?_ ?_
 ·refine⟨(0,[],OS0),⟨Nat.zero_le _,rfl,rfl,[],OS0_ok 3⟩,?_,.cons .refl (.cons .refl (.cons .refl (.cons .refl (.cons .refl (.cons .refl (.cons .refl (.cons .refl (.cons .refl .nil)))))))),.cons rfl (.cons rfl .nil)⟩
  have e:rowOf fl0.cells (t.n * 3)=(List.replicate t.n fl0).flatMap Fl.cells:=rowOf_fl t.n
  simp only[flRow,List.nil_append,Nat.sub_zero]
  rw[←e]
  exact .refl
 rintro⟨i,acc,ko⟩ ⟨hi,hacc,hnf,kx,hko⟩
 simp only at hi hacc hnf hko
 refine CondOb.mk (fun h=>?_) (fun h=>?_)
 rotate_left
 ·have hge:i=t.n:=by have:¬ (i:Int) < (t.n:Int):=of_decide_eq_false h;omega
  subst hge
  rw[List.drop_eq_nil_of_le (by omega),nodesF] at hnf
  refine⟨I1,flRow b8 (acc++List.replicate (t.n - t.n) fl0)::M0,.sub (.cons_cons _ (List.sublist_append_right _ _)) .refl,rfl,b8,rfl,?_⟩
  rw[hnf,Nat.sub_self,List.replicate_zero,List.append_nil]
 have hlt:i < t.n:=by have:(i:Int) < (t.n:Int):=of_decide_eq_true h;omega
 have hlt':i < t.ns.length:=by omega
 obtain⟨ad,had,hrd⟩:=ht.rs.row Nd.cells_len hlt hlt'
 have hdm:=List.getElem_mem hlt'
 have hd:=ht.ns _ hdm
 have hkn:=hd.kn
 have hkc:=hd.rs.cap
 have hkv:=right_kids hr i hlt'
 have hft:=right_fits hr hlt'
 have hcd:=hc _ hdm
 have hnf':nodesF pl fl t.ns []=nodesF pl fl (t.ns.drop (i+1)) (acc++[comeFl t.ns[i] (kidsF pl fl acc t.ns[i])]):=by
  rw[hnf,List.drop_eq_getElem_cons hlt',nodesF]
 generalize t.ns[i]=d at hrd hd hkn hkc hkv hft hcd hnf'
 have hk0:=hd.k.1
 have hk10:=fits_k hft
 have hrow:∀ {M:List Blk} {q:Int},flRow b8 (acc++List.replicate (t.n - i) fl0)∈M→q∈d.kids→Rd I1 M ((⟨b8,0,none⟩:Addr).add (q.toNat * 3)) 3 (acc.getD q.toNat fl0).cells:=fun {M q} hM hq=>by
  have hq':=hkv q hq
  have hql:q.toNat < acc.length:=by omega
  have:=flRow_rd (I:=I1) hM (j:=q.toNat) (by rw[List.length_append];omega)
  rw[List.getElem_append_left hql] at this
  simpa[List.getD_eq_getElem?_getD,hql] using this
 refine IdxOb.mk ad i had rfl hlt ?_
 refine LoadOb.mk _ (hrd _) ?_
 refine SliceOb.mk 0 0 rfl rfl (Nat.le_refl _) (Nat.zero_le _) ?_
 refine LoopOb.inv (ι:=Nat×OS×List Fl) (fun x=>{ fl:=[(0,.val (.map (some gm))),(1,.val (.slice la ln lc)),(5,.ref 5 0),(7,.ref 7 0),(8,.val (.slice (some ⟨b8,0,none⟩) t.n t.n)),(9,.val x.2.1.val),(10,.val (.int .i64 i)),(11,.ref 11 0),(20,.val (.slice t.a t.n t.c)),(21,.val (.int .i64 t.n)),(22,.val (.int .i64 i)),(30,.val (.slice d.ka d.kn d.kc)),(31,.val (.int .i64 d.kn)),(32,.val (.int .i64 x.1))],cl:=[(5,t.cells),(7,comeVs),(11,d.cells)],gi:=I1,mi:=flRow b8 (acc++List.replicate (t.n - i) fl0)::(x.2.1.blk 80++M0) })
  (fun x=>x.1≤d.kn∧x.2.1.ok 3 (x.2.2.flatMap Fl.cells)∧x.2.2=(d.kids.take x.1).map fun k=>acc.getD k.toNat fl0) (fun x=>d.kn - x.1) ?_ ?_
 ·exact⟨(0,⟨ko.a,0,ko.c,ko.cur⟩,[]),⟨Nat.zero_le _,OS.zero hko,rfl⟩,.refl,.cons .refl (.cons .refl (.cons .refl (.cons .refl (.cons .refl (.cons .refl (.cons .refl (.cons .refl (.cons .refl (.cons .refl (.cons .refl (.cons .refl (.cons .refl (.cons .refl .nil))))))))))))),.cons rfl (.cons rfl (.cons rfl .nil))⟩
 rintro⟨k,k2,kl⟩ ⟨hk,hk2,hkl⟩
 simp only at hk hk2 hkl
 have hk2n:k2.n=kl.length:=by have:=hk2.len;rw[fl_len] at this;omega
 have hkll:kl.length≤k:=by rw[hkl,List.length_map];exact List.length_take_le _ _
 refine CondOb.mk (fun h=>?_) (fun h=>?_)
 ·have hkk:k < d.kn:=by have:(k:Int) < (d.kn:Int):=of_decide_eq_true h;omega
  have hkk':k < d.kids.length:=by omega
  obtain⟨ak,hak,hrk⟩:=hd.rs.one hkk hkk'
  have hq:=hkv _ (List.getElem_mem hkk')
  refine IdxOb.mk ak k hak rfl hkk ?_
  refine LoadOb.mk _ (hrk _) ?_
  refine IdxOb.mk ⟨b8,0,none⟩ d.kids[k].toNat rfl (by omega) (by omega) ?_
  refine LoadOb.mk _ (hrow (.head _) (List.getElem_mem hkk')) ?_
  refine AllocOb.mk fun b9 hb9 hbM9=>?_
  refine OtherOb.append TryzEOK rfl (by simp) (e:=80) rfl rfl rfl k2 hk2 rfl (m:=1) rfl (news:=(acc.getD d.kids[k].toNat fl0).cells) (by decide) (blk_rd (b:=b9) (cs:=(acc.getD d.kids[k].toNat fl0).cells) (k:=0) (n:=3) (T:=80) (.head _) (Nat.le_of_ble_eq_true rfl)) rfl (Mr:=⟨b9,.cells (acc.getD d.kids[k].toNat fl0).cells.toArray 80 (0,0)⟩::flRow b8 (acc++List.replicate (t.n - i) fl0)::M0) (by
   have:=List.perm_append_comm_assoc [(⟨b9,.cells (acc.getD d.kids[k].toNat fl0).cells.toArray 80 (0,0)⟩:Blk),flRow b8 (acc++List.replicate (t.n - i) fl0)] (k2.blk 80) M0
   exact this) (by simp only[maxLen];omega) (by show (k2.n+1) * 3≤_;omega) ?_
  intro g2 c2 cur2 r1 r2 r3 r4
  refine ArithOb.mk _ (next_wr (i:=k) (by omega)) ?_
  refine⟨(k+1,⟨some g2,k2.n+1,c2,cur2⟩,kl++[acc.getD d.kids[k].toNat fl0]),⟨⟨by simp only;omega,?_,?_⟩,by simp only;omega⟩,.sub (M1:=[(⟨g2,.cells cur2.toArray 80 (0,0)⟩:Blk),flRow b8 (acc++List.replicate (t.n - i) fl0)]++M0) (.cons_cons _ (.cons _ (.refl _))) (.perm (List.Perm.swap _ _ _) .refl),.cons .refl (.cons .refl (.cons .refl (.cons .refl (.cons .refl (.cons .refl (.cons .refl (.cons .refl (.cons .refl (.cons .refl (.cons .refl (.cons .refl (.cons .refl (.cons .refl .nil))))))))))))),.cons rfl (.cons rfl (.cons rfl .nil))⟩
  ·simp only
   rw[flat_snoc]
   exact appk_ok hk2 (Fl.cells_len _) r1 r2 r3 r4
  ·simp only
   rw[List.take_succ_eq_append_getElem hkk',List.map_append,←hkl]
   rfl
 have hge:d.kn≤k:=by have:¬ (k:Int) < (d.kn:Int):=of_decide_eq_false h;omega
 rw[List.take_of_length_le (by omega)] at hkl
 have hkln:kl.length=d.kids.length:=by rw[hkl,List.length_map]
 have hb2:k2.n+1≤140737488355328:=by omega
 clear h hk hkll
 have hset:∀ x:Fl,splice ((acc++List.replicate (t.n - i) fl0).flatMap Fl.cells) (0+i * 3) x.cells=((acc++[x])++List.replicate (t.n - (i+1)) fl0).flatMap Fl.cells:=fun x=>by
  rw[Nat.zero_add,flRow_set _ _ (by simp;omega),rep_at acc t.n i hacc hlt]
 have hinv:∀ (ko2:OS) (ks2:List Value),ko2.ok 3 ks2→((i+1≤t.n∧(acc++[comeFl d (kidsF pl fl acc d)]).length=i+1∧nodesF pl fl t.ns []=nodesF pl fl (t.ns.drop (i+1)) (acc++[comeFl d (kidsF pl fl acc d)])∧∃ ks,ko2.ok 3 ks)∧t.n - (i+1) < t.n - i):=fun ko2 ks2 h2=>
  ⟨⟨hlt,by simp[hacc],hnf',ks2,h2⟩,by omega⟩
 by_cases h3:d.k=3
 ·refine CondOb.mk (fun _=>?_) (fun h=>absurd h (by simp[h3]))
  obtain⟨q,hq1,hq2⟩:=hcd h3
  have hkf:kidsF pl fl acc d=kl++[fl.getD q fl0]:=by
   rw[kidsF,←hkl,hq1,h3]
   rfl
  have hql:q < fl.length:=by rw[hfl.n];exact hq2
  obtain⟨al,hal,hrl⟩:=hfl.rd q hql
  have hgq:fl.getD q fl0=fl[q]:=by simp[List.getD_eq_getElem?_getD,hql]
  refine OtherOb.lookupF TryzEOK rfl (by simp) rfl rfl rfl rfl (fun w=>zero_int w) (l:=pl) (g:=gm) rfl rfl (.inl hm) ?_
  rw[hq1]
  refine IdxOb.mk al q hal rfl hq2 ?_
  refine LoadOb.mk _ (hrl.sub fun x hx=>by simp[hx]) ?_
  refine AllocOb.mk fun b9 hb9 hbM9=>?_
  refine OtherOb.append TryzEOK rfl (by simp) (e:=80) rfl rfl rfl k2 hk2 rfl (m:=1) rfl (news:=fl[q].cells) (by decide) (blk_rd (b:=b9) (cs:=fl[q].cells) (k:=0) (n:=3) (T:=80) (.head _) (Nat.le_of_ble_eq_true rfl)) rfl (Mr:=⟨b9,.cells fl[q].cells.toArray 80 (0,0)⟩::flRow b8 (acc++List.replicate (t.n - i) fl0)::M0) (by
   have:=List.perm_append_comm_assoc [(⟨b9,.cells fl[q].cells.toArray 80 (0,0)⟩:Blk),flRow b8 (acc++List.replicate (t.n - i) fl0)] (k2.blk 80) M0
   exact this) (by simp only[maxLen];omega) (by show (k2.n+1) * 3≤_;omega) ?_
  intro g2 c2 cur2 r1 r2 r3 r4
  have hok2:=appk_ok (g:=g2) hk2 (Fl.cells_len fl[q]) r1 r2 r3 r4
  rw[←flat_snoc,←hgq,←hkf] at hok2
  have hks:=OS.fsAt (I:=I1) (M:=⟨g2,.cells cur2.toArray 80 (0,0)⟩::⟨b9,.cells fl[q].cells.toArray 80 (0,0)⟩::flRow b8 (acc++List.replicate (t.n - i) fl0)::M0) (e:=80) hok2 (fun x hx=>by
   simp only[OS.blk,List.mem_singleton] at hx
   subst hx
   exact .head _)
  refine CodeOb.draw TryzEOK rfl rfl rfl ?_
  obtain⟨dk,s0,s1,s2,s3,dt,lo,hi',dka,dkn,dkc,dkids⟩:=d
  simp only at h3
  subst h3
  refine ArrOb.mk 3 rfl (by decide) ?_
  refine PCallOb.mkR _ [] _ perm_nil (come_at (d:=⟨3,s0,s1,s2,s3,dt,lo,hi',dka,dkn,dkc,dkids⟩) hks hb2 3 (by decide) rfl (fun _=>Nat.succ_pos _)) (fun v I' M' h x hx=>by rw[h.2.2];exact hx) ?_
  rintro v I2 M2 - ⟨rfl,rfl,rfl⟩
  rw[List.append_nil]
  refine IdxOb.mk ⟨b8,0,none⟩ i rfl rfl hlt ?_
  refine StoreOb.addTo [(⟨g2,.cells cur2.toArray 80 (0,0)⟩:Blk),⟨b9,.cells fl[q].cells.toArray 80 (0,0)⟩] M0 ((acc++List.replicate (t.n - i) fl0).flatMap Fl.cells) _ rfl (ble_fl hacc hlt _) rfl _ (hset _) ?_
  refine ArithOb.mk _ (next_wr (i:=i) (by omega)) ?_
  exact⟨(i+1,_,⟨some g2,k2.n+1,c2,cur2⟩),hinv _ _ hok2,.sub (M1:=[(⟨g2,.cells cur2.toArray 80 (0,0)⟩:Blk),flRow b8 _]++M0) (.cons_cons _ (.cons _ (.refl _))) (.perm (List.Perm.swap _ _ _) .refl),.cons .refl (.cons .refl (.cons .refl (.cons .refl (.cons .refl (.cons .refl (.cons .refl (.cons .refl (.cons .refl .nil)))))))),.cons rfl (.cons rfl .nil)⟩
 refine CondOb.mk (fun h=>absurd (of_decide_eq_true h) h3) (fun _=>?_)
 have hkf:kidsF pl fl acc d=kl:=by
  rw[kidsF,←hkl,decide_eq_false h3]
  simp
 rw[hkf] at hinv
 have hks:=OS.fsAt (I:=I1) (M:=flRow b8 (acc++List.replicate (t.n - i) fl0)::(k2.blk 80++M0)) (e:=80) hk2 (fun x hx=>by simp[hx])
 have hpos:6≤d.k→0 < k2.n:=fun h6=>by
  have:=fits_kid hk0 hft h6
  omega
 have hcases:d.k=0∨d.k=1∨d.k=2∨d.k=4∨d.k=5∨d.k=6∨d.k=7∨d.k=8∨d.k=9:=by omega
 obtain⟨dk,s0,s1,s2,s3,dt,lo,hi',dka,dkn,dkc,dkids⟩:=d
 simp only at hcases hpos h3
 refine CodeOb.draw TryzEOK rfl rfl rfl ?_
 rcases hcases with rfl | rfl | rfl | rfl | rfl | rfl | rfl | rfl | rfl
 ·refine ArrOb.mk 0 rfl (by decide) ?_
  refine PCallOb.mkR _ [] _ perm_nil (come_at (d:=⟨0,s0,s1,s2,s3,dt,lo,hi',dka,dkn,dkc,dkids⟩) hks (Nat.le_of_succ_le hb2) 0 (by decide) rfl (fun h=>by omega)) (fun v I' M' h x hx=>by rw[h.2.2];exact hx) ?_
  rintro v I2 M2 - ⟨rfl,rfl,rfl⟩
  rw[List.append_nil]
  refine IdxOb.mk ⟨b8,0,none⟩ i rfl rfl hlt ?_
  refine StoreOb.addTo [] (k2.blk 80++M0) ((acc++List.replicate (t.n - i) fl0).flatMap Fl.cells) _ rfl (ble_fl hacc hlt _) rfl _ (hset _) ?_
  refine ArithOb.mk _ (next_wr (i:=i) (by omega)) ?_
  exact⟨(i+1,_,k2),hinv _ _ hk2,.refl,.cons .refl (.cons .refl (.cons .refl (.cons .refl (.cons .refl (.cons .refl (.cons .refl (.cons .refl (.cons .refl .nil)))))))),.cons rfl (.cons rfl .nil)⟩
 ·refine ArrOb.mk 1 rfl (by decide) ?_
  refine PCallOb.mkR _ [] _ perm_nil (come_at (d:=⟨1,s0,s1,s2,s3,dt,lo,hi',dka,dkn,dkc,dkids⟩) hks (Nat.le_of_succ_le hb2) 1 (by decide) rfl (fun h=>by omega)) (fun v I' M' h x hx=>by rw[h.2.2];exact hx) ?_
  rintro v I2 M2 - ⟨rfl,rfl,rfl⟩
  rw[List.append_nil]
  refine IdxOb.mk ⟨b8,0,none⟩ i rfl rfl hlt ?_
  refine StoreOb.addTo [] (k2.blk 80++M0) ((acc++List.replicate (t.n - i) fl0).flatMap Fl.cells) _ rfl (ble_fl hacc hlt _) rfl _ (hset _) ?_
  refine ArithOb.mk _ (next_wr (i:=i) (by omega)) ?_
  exact⟨(i+1,_,k2),hinv _ _ hk2,.refl,.cons .refl (.cons .refl (.cons .refl (.cons .refl (.cons .refl (.cons .refl (.cons .refl (.cons .refl (.cons .refl .nil)))))))),.cons rfl (.cons rfl .nil)⟩
 ·refine ArrOb.mk 2 rfl (by decide) ?_
  refine PCallOb.mkR _ [] _ perm_nil (come_at (d:=⟨2,s0,s1,s2,s3,dt,lo,hi',dka,dkn,dkc,dkids⟩) hks (Nat.le_of_succ_le hb2) 2 (by decide) rfl (fun h=>by omega)) (fun v I' M' h x hx=>by rw[h.2.2];exact hx) ?_
  rintro v I2 M2 - ⟨rfl,rfl,rfl⟩
  rw[List.append_nil]
  refine IdxOb.mk ⟨b8,0,none⟩ i rfl rfl hlt ?_
  refine StoreOb.addTo [] (k2.blk 80++M0) ((acc++List.replicate (t.n - i) fl0).flatMap Fl.cells) _ rfl (ble_fl hacc hlt _) rfl _ (hset _) ?_
  refine ArithOb.mk _ (next_wr (i:=i) (by omega)) ?_
  exact⟨(i+1,_,k2),hinv _ _ hk2,.refl,.cons .refl (.cons .refl (.cons .refl (.cons .refl (.cons .refl (.cons .refl (.cons .refl (.cons .refl (.cons .refl .nil)))))))),.cons rfl (.cons rfl .nil)⟩
 ·refine ArrOb.mk 4 rfl (by decide) ?_
  refine PCallOb.mkR _ [] _ perm_nil (come_at (d:=⟨4,s0,s1,s2,s3,dt,lo,hi',dka,dkn,dkc,dkids⟩) hks (Nat.le_of_succ_le hb2) 4 (by decide) rfl (fun h=>by omega)) (fun v I' M' h x hx=>by rw[h.2.2];exact hx) ?_
  rintro v I2 M2 - ⟨rfl,rfl,rfl⟩
  rw[List.append_nil]
  refine IdxOb.mk ⟨b8,0,none⟩ i rfl rfl hlt ?_
  refine StoreOb.addTo [] (k2.blk 80++M0) ((acc++List.replicate (t.n - i) fl0).flatMap Fl.cells) _ rfl (ble_fl hacc hlt _) rfl _ (hset _) ?_
  refine ArithOb.mk _ (next_wr (i:=i) (by omega)) ?_
  exact⟨(i+1,_,k2),hinv _ _ hk2,.refl,.cons .refl (.cons .refl (.cons .refl (.cons .refl (.cons .refl (.cons .refl (.cons .refl (.cons .refl (.cons .refl .nil)))))))),.cons rfl (.cons rfl .nil)⟩
 ·refine ArrOb.mk 5 rfl (by decide) ?_
  refine PCallOb.mkR _ [] _ perm_nil (come_at (d:=⟨5,s0,s1,s2,s3,dt,lo,hi',dka,dkn,dkc,dkids⟩) hks (Nat.le_of_succ_le hb2) 5 (by decide) rfl (fun h=>by omega)) (fun v I' M' h x hx=>by rw[h.2.2];exact hx) ?_
  rintro v I2 M2 - ⟨rfl,rfl,rfl⟩
  rw[List.append_nil]
  refine IdxOb.mk ⟨b8,0,none⟩ i rfl rfl hlt ?_
  refine StoreOb.addTo [] (k2.blk 80++M0) ((acc++List.replicate (t.n - i) fl0).flatMap Fl.cells) _ rfl (ble_fl hacc hlt _) rfl _ (hset _) ?_
  refine ArithOb.mk _ (next_wr (i:=i) (by omega)) ?_
  exact⟨(i+1,_,k2),hinv _ _ hk2,.refl,.cons .refl (.cons .refl (.cons .refl (.cons .refl (.cons .refl (.cons .refl (.cons .refl (.cons .refl (.cons .refl .nil)))))))),.cons rfl (.cons rfl .nil)⟩
 ·refine ArrOb.mk 6 rfl (by decide) ?_
  refine PCallOb.mkR _ [] _ perm_nil (come_at (d:=⟨6,s0,s1,s2,s3,dt,lo,hi',dka,dkn,dkc,dkids⟩) hks (Nat.le_of_succ_le hb2) 6 (by decide) rfl (fun _=>hpos (by decide))) (fun v I' M' h x hx=>by rw[h.2.2];exact hx) ?_
  rintro v I2 M2 - ⟨rfl,rfl,rfl⟩
  rw[List.append_nil]
  refine IdxOb.mk ⟨b8,0,none⟩ i rfl rfl hlt ?_
  refine StoreOb.addTo [] (k2.blk 80++M0) ((acc++List.replicate (t.n - i) fl0).flatMap Fl.cells) _ rfl (ble_fl hacc hlt _) rfl _ (hset _) ?_
  refine ArithOb.mk _ (next_wr (i:=i) (by omega)) ?_
  exact⟨(i+1,_,k2),hinv _ _ hk2,.refl,.cons .refl (.cons .refl (.cons .refl (.cons .refl (.cons .refl (.cons .refl (.cons .refl (.cons .refl (.cons .refl .nil)))))))),.cons rfl (.cons rfl .nil)⟩
 ·refine ArrOb.mk 7 rfl (by decide) ?_
  refine PCallOb.mkR _ [] _ perm_nil (come_at (d:=⟨7,s0,s1,s2,s3,dt,lo,hi',dka,dkn,dkc,dkids⟩) hks (Nat.le_of_succ_le hb2) 7 (by decide) rfl (fun _=>hpos (by decide))) (fun v I' M' h x hx=>by rw[h.2.2];exact hx) ?_
  rintro v I2 M2 - ⟨rfl,rfl,rfl⟩
  rw[List.append_nil]
  refine IdxOb.mk ⟨b8,0,none⟩ i rfl rfl hlt ?_
  refine StoreOb.addTo [] (k2.blk 80++M0) ((acc++List.replicate (t.n - i) fl0).flatMap Fl.cells) _ rfl (ble_fl hacc hlt _) rfl _ (hset _) ?_
  refine ArithOb.mk _ (next_wr (i:=i) (by omega)) ?_
  exact⟨(i+1,_,k2),hinv _ _ hk2,.refl,.cons .refl (.cons .refl (.cons .refl (.cons .refl (.cons .refl (.cons .refl (.cons .refl (.cons .refl (.cons .refl .nil)))))))),.cons rfl (.cons rfl .nil)⟩
 ·refine ArrOb.mk 8 rfl (by decide) ?_
  refine PCallOb.mkR _ [] _ perm_nil (come_at (d:=⟨8,s0,s1,s2,s3,dt,lo,hi',dka,dkn,dkc,dkids⟩) hks (Nat.le_of_succ_le hb2) 8 (by decide) rfl (fun _=>hpos (by decide))) (fun v I' M' h x hx=>by rw[h.2.2];exact hx) ?_
  rintro v I2 M2 - ⟨rfl,rfl,rfl⟩
  rw[List.append_nil]
  refine IdxOb.mk ⟨b8,0,none⟩ i rfl rfl hlt ?_
  refine StoreOb.addTo [] (k2.blk 80++M0) ((acc++List.replicate (t.n - i) fl0).flatMap Fl.cells) _ rfl (ble_fl hacc hlt _) rfl _ (hset _) ?_
  refine ArithOb.mk _ (next_wr (i:=i) (by omega)) ?_
  exact⟨(i+1,_,k2),hinv _ _ hk2,.refl,.cons .refl (.cons .refl (.cons .refl (.cons .refl (.cons .refl (.cons .refl (.cons .refl (.cons .refl (.cons .refl .nil)))))))),.cons rfl (.cons rfl .nil)⟩
 ·refine ArrOb.mk 9 rfl (by decide) ?_
  refine PCallOb.mkR _ [] _ perm_nil (come_at (d:=⟨9,s0,s1,s2,s3,dt,lo,hi',dka,dkn,dkc,dkids⟩) hks (Nat.le_of_succ_le hb2) 9 (by decide) rfl (fun _=>hpos (by decide))) (fun v I' M' h x hx=>by rw[h.2.2];exact hx) ?_
  rintro v I2 M2 - ⟨rfl,rfl,rfl⟩
  rw[List.append_nil]
  refine IdxOb.mk ⟨b8,0,none⟩ i rfl rfl hlt ?_
  refine StoreOb.addTo [] (k2.blk 80++M0) ((acc++List.replicate (t.n - i) fl0).flatMap Fl.cells) _ rfl (ble_fl hacc hlt _) rfl _ (hset _) ?_
  refine ArithOb.mk _ (next_wr (i:=i) (by omega)) ?_
  exact⟨(i+1,_,k2),hinv _ _ hk2,.refl,.cons .refl (.cons .refl (.cons .refl (.cons .refl (.cons .refl (.cons .refl (.cons .refl (.cons .refl (.cons .refl .nil)))))))),.cons rfl (.cons rfl .nil)⟩
end Go.V
namespace Go.V
open Go
structure Fl.le (a b:Fl):Prop where
 z:a.z=true→b.z=true
 s:a.s=true→b.s=true
 f:a.f=true→b.f=true
theorem Fl.le_refl (a:Fl):a.le a:=⟨id,id,id⟩
theorem Fl.le.trans {a b c:Fl} (h:a.le b) (h':b.le c):a.le c:=⟨fun x=>h'.z (h.z x),fun x=>h'.s (h.s x),fun x=>h'.f (h.f x)⟩
theorem Fl.le.antisymm {a b:Fl} (h:a.le b) (h':b.le a):a=b:=by
 obtain⟨a1,a2,a3⟩:=a
 obtain⟨b1,b2,b3⟩:=b
 have e:∀ {x y:Bool},(x=true→y=true)→(y=true→x=true)→x=y:=fun {x y} h h'=>by cases x<;>cases y<;>simp_all
 have e1:a1=b1:=e h.z h'.z
 have e2:a2=b2:=e h.s h'.s
 have e3:a3=b3:=e h.f h'.f
 subst e1 e2 e3
 rfl
theorem Fl.bot (a:Fl):fl0.le a:=⟨(fun h=>by cases h),(fun h=>by cases h),(fun h=>by cases h)⟩
def within (a b:Fl):Bool:=(!a.z || b.z) && ((!a.s || b.s) && (!a.f || b.f))
theorem Fl.suc_mono {a b:Fl} (h:a.le b):a.suc=true→b.suc=true:=by
 intro hs
 simp only[Fl.suc,Bool.or_eq_true] at hs ⊢
 exact hs.imp h.z h.s
inductive LeL:List Fl→List Fl→Prop
 | nil:LeL [] []
 | cons {a b l m} (h:Fl.le a b) (t:LeL l m):LeL (a::l) (b::m)
theorem LeL.refl:∀ l,LeL l l
 | []=>.nil
 | a::l=>.cons a.le_refl (LeL.refl l)
theorem LeL.trans:∀ {a b c},LeL a b→LeL b c→LeL a c
 | _,_,_,.nil,.nil=>.nil
 | _,_,_,.cons h t,.cons h' t'=>.cons (h.trans h') (t.trans t')
theorem LeL.antisymm:∀ {a b},LeL a b→LeL b a→a=b
 | _,_,.nil,_=>rfl
 | _,_,.cons h t,.cons h' t'=>by rw[h.antisymm h',t.antisymm t']
theorem LeL.len:∀ {a b},LeL a b→a.length=b.length
 | _,_,.nil=>rfl
 | _,_,.cons h t=>by simp[t.len]
theorem LeL.append:∀ {a b c d},LeL a b→LeL c d→LeL (a++c) (b++d)
 | _,_,_,_,.nil,h=>h
 | _,_,_,_,.cons h t,h'=>.cons h (t.append h')
theorem LeL.getD:∀ {a b},LeL a b→∀ i,(a.getD i fl0).le (b.getD i fl0)
 | _,_,.nil,i=>by simp;exact Fl.le_refl _
 | _,_,.cons h t,0=>h
 | _,_,.cons h t,i+1=>by simpa using t.getD i
theorem LeL.of:∀ {a b:List Fl},a.length=b.length→(∀ i,i < a.length→(a.getD i fl0).le (b.getD i fl0))→LeL a b
 | [],[],_,_=>.nil
 | x::a,y::b,hl,h=>.cons (by simpa using h 0 (by simp)) (LeL.of (by simpa using hl) fun i hi=>by simpa using h (i+1) (by simpa using hi))
theorem LeL.map {α:Type} {f g:α→Fl}:∀ {l:List α},(∀ x∈l,(f x).le (g x))→LeL (l.map f) (l.map g)
 | [],_=>.nil
 | x::l,h=>.cons (h x (.head _)) (LeL.map fun y hy=>h y (.tail _ hy))
theorem LeL.head {a b:List Fl} (h:LeL a b):(a.headD fl0).le (b.headD fl0):=by
 cases h with
 | nil=>exact Fl.le_refl _
 | cons h _=>exact h
theorem LeL.bot:∀ l:List Fl,LeL (List.replicate l.length fl0) l
 | []=>.nil
 | a::l=>.cons a.bot (LeL.bot l)
theorem seq_mono:∀ {a b:List Fl},LeL a b→∀ {x y:Fl×Bool},x.1.le y.1→(x.2=true→y.2=true)→(a.foldl seqStep x).1.le (b.foldl seqStep y).1∧((a.foldl seqStep x).2=true→(b.foldl seqStep y).2=true)
 | _,_,.nil,_,_,h1,h2=>⟨h1,h2⟩
 | _,_,.cons h t,x,y,h1,h2=>by
  refine seq_mono t ⟨?_,?_,?_⟩ ?_
  ·simp only[seqStep,Bool.and_eq_true]
   exact fun g=>⟨h1.z g.1,h.z g.2⟩
  ·simp only[seqStep,Bool.or_eq_true]
   exact fun g=>g.imp h1.s h.s
  ·simp only[seqStep,Bool.or_eq_true,Bool.and_eq_true]
   exact fun g=>g.imp h1.f fun g=>⟨h2 g.1,h.f g.2⟩
  ·simp only[seqStep,Bool.and_eq_true]
   exact fun g=>⟨h2 g.1,Fl.suc_mono h g.2⟩
theorem ch_mono:∀ {a b:List Fl},LeL a b→∀ {x y:Fl},x.le y→(a.foldl chStep x).le (b.foldl chStep y)
 | _,_,.nil,_,_,h1=>h1
 | _,_,.cons h t,x,y,h1=>by
  refine ch_mono t ⟨?_,?_,?_⟩
  ·simp only[chStep,Bool.or_eq_true,Bool.and_eq_true]
   exact fun g=>g.imp h1.z fun g=>⟨h1.f g.1,h.z g.2⟩
  ·simp only[chStep,Bool.or_eq_true,Bool.and_eq_true]
   exact fun g=>g.imp h1.s fun g=>⟨h1.f g.1,h.s g.2⟩
  ·simp only[chStep,Bool.and_eq_true]
   exact fun g=>⟨h1.f g.1,h.f g.2⟩
theorem rep_mono (d:Nd) {a b:Fl} (h:a.le b):(repFl d a).le (repFl d b):=by
 unfold repFl
 cases decide (d.hi=0) with
 | true=>exact Fl.le_refl _
 | false=>
  refine⟨?_,h.s,?_⟩
  ·simp only[cond_false,Bool.or_eq_true,Bool.and_eq_true]
   exact fun g=>g.imp h.z fun g=>⟨g.1,h.f g.2⟩
  ·simp only[cond_false,Bool.and_eq_true]
   exact fun g=>⟨g.1,h.f g.2⟩
theorem come_mono (d:Nd) {a b:List Fl} (h:LeL a b):(comeFl d a).le (comeFl d b):=by
 have hh:=h.head
 unfold comeFl
 cases decide (d.k=0) with
 | true=>exact Fl.le_refl _
 | false=>
 cases decide (d.k=1) with
 | true=>exact Fl.le_refl _
 | false=>
 cases decide (d.k=2) with
 | true=>exact Fl.le_refl _
 | false=>
 cases decide (d.k=3) with
 | true=>exact hh
 | false=>
 cases decide (d.k=4) with
 | true=>
  have hs:=seq_mono h (x:=(⟨true,false,false⟩,true)) (y:=(⟨true,false,false⟩,true)) (Fl.le_refl _) id
  refine⟨hs.1.z,?_,hs.1.f⟩
  simp only[cond_true,cond_false,seqFl,seqGo,Bool.and_eq_true]
  exact fun g=>⟨hs.1.s g.1,hs.2 g.2⟩
 | false=>
 cases decide (d.k=5) with
 | true=>exact ch_mono h (Fl.le_refl _)
 | false=>
 cases decide (d.k=6) with
 | true=>exact rep_mono d hh
 | false=>
 cases decide (d.k=7) with
 | true=>exact⟨Fl.suc_mono hh,id,hh.f⟩
 | false=>
 cases decide (d.k=8) with
 | true=>exact⟨hh.f,id,Fl.suc_mono hh⟩
 | false=>exact hh
theorem kids_mono {pl:List (ByteArray×Int)} {fl fl' acc acc':List Fl} (h:LeL fl fl') (ha:LeL acc acc') (d:Nd):LeL (kidsF pl fl acc d) (kidsF pl fl' acc' d):=by
 unfold kidsF
 refine(LeL.map fun k _=>ha.getD _).append ?_
 cases decide (d.k=3) with
 | true=>exact .cons (h.getD _) .nil
 | false=>exact .nil
theorem nodes_mono {pl:List (ByteArray×Int)} {fl fl':List Fl} (h:LeL fl fl'):∀ (ds:List Nd) {acc acc':List Fl},LeL acc acc'→LeL (nodesF pl fl ds acc) (nodesF pl fl' ds acc')
 | [],_,_,ha=>ha
 | d::ds,_,_,ha=>nodes_mono h ds (ha.append (.cons (come_mono d (kids_mono h ha d)) .nil))
def bodyF (pl:List (ByteArray×Int)) (fl:List Fl) (d:Df):Fl:=(nodesF pl fl d.t.ns []).getD d.t.root.toNat fl0
theorem body_mono {pl:List (ByteArray×Int)} {fl fl':List Fl} (h:LeL fl fl') (d:Df):(bodyF pl fl d).le (bodyF pl fl' d):=(nodes_mono h d.t.ns .nil).getD _
def roundGo (pl:List (ByteArray×Int)):Nat→List Df→List Fl→List Fl
 | _,[],l=>l
 | i,d::ds,l=>roundGo pl (i+1) ds (l.set i (bodyF pl l d))
structure PreF (ds:List Df) (l:List Fl):Prop where
 len:l.length=ds.length
 up:∀ i (h:i < ds.length),(l.getD i fl0).le (bodyF (placesL ds) l ds[i])
 least:∀ m:List Fl,m.length=ds.length→(∀ i (h:i < ds.length),(bodyF (placesL ds) m ds[i]).le (m.getD i fl0))→LeL l m
theorem set_getD (l:List Fl) (i j:Nat) (x:Fl) (hi:i < l.length):(l.set i x).getD j fl0=if i=j then x else l.getD j fl0:=by
 simp only[List.getD_eq_getElem?_getD,List.getElem?_set]
 by_cases e:i=j
 ·subst e
  simp[hi]
 ·rw[if_neg e,if_neg e]
theorem PreF.start (ds:List Df):PreF ds (List.replicate ds.length fl0):=by
 refine⟨by simp,fun i h=>?_,fun m hm _=>by rw[←hm];exact LeL.bot m⟩
 have:(List.replicate ds.length fl0).getD i fl0=fl0:=by simp[List.getD_eq_getElem?_getD,h]
 rw[this]
 exact Fl.bot _
theorem PreF.step {ds:List Df} {l:List Fl} (h:PreF ds l) {i:Nat} (hi:i < ds.length):PreF ds (l.set i (bodyF (placesL ds) l ds[i]))∧LeL l (l.set i (bodyF (placesL ds) l ds[i])):=by
 have hil:i < l.length:=by rw[h.len];exact hi
 have hle:LeL l (l.set i (bodyF (placesL ds) l ds[i])):=LeL.of (by simp) fun j hj=>by
  rw[set_getD _ _ _ _ hil]
  by_cases e:i=j
  ·subst e
   rw[if_pos rfl]
   exact h.up i hi
  ·rw[if_neg e]
   exact Fl.le_refl _
 refine⟨⟨by simpa using h.len,fun j hj=>?_,fun m hm hc=>?_⟩,hle⟩
 ·rw[set_getD _ _ _ _ hil]
  by_cases e:i=j
  ·subst e
   rw[if_pos rfl]
   exact body_mono hle _
  ·rw[if_neg e]
   exact(h.up j hj).trans (body_mono hle _)
 ·have hlm:=h.least m hm hc
  refine LeL.of (by simp[h.len,hm]) fun j hj=>?_
  rw[set_getD _ _ _ _ hil]
  by_cases e:i=j
  ·subst e
   rw[if_pos rfl]
   exact(body_mono hlm _).trans (hc i hi)
  ·rw[if_neg e]
   exact hlm.getD j
theorem roundGo_pre {ds:List Df}:∀ (rest pre:List Df) {l:List Fl},ds=pre++rest→PreF ds l→PreF ds (roundGo (placesL ds) pre.length rest l)∧LeL l (roundGo (placesL ds) pre.length rest l) ∧
  (roundGo (placesL ds) pre.length rest l=l→∀ i (h:i < ds.length),pre.length≤i→l.getD i fl0=bodyF (placesL ds) l ds[i])
 | [],pre,l,hds,h=>⟨h,LeL.refl l,fun _ i hi hge=>by
  rw[hds,List.append_nil] at hi
  omega⟩
 | d::rest,pre,l,hds,h=>by
  have hi:pre.length < ds.length:=by rw[hds];simp
  have hd:ds[pre.length]=d:=by simp[hds]
  have hil:pre.length < l.length:=by rw[h.len];exact hi
  obtain⟨s1,s2⟩:=h.step hi
  rw[hd] at s1 s2
  obtain⟨r1,r2,r3⟩:=roundGo_pre rest (pre++[d]) (by rw[hds];simp) s1
  rw[List.length_append,List.length_cons,List.length_nil,Nat.zero_add] at r1 r2 r3
  refine⟨r1,s2.trans r2,fun e i hi2 hge=>?_⟩
  have e1:l.set pre.length (bodyF (placesL ds) l d)=l:=by
   refine LeL.antisymm ?_ s2
   have:roundGo (placesL ds) pre.length (d::rest) l=roundGo (placesL ds) (pre.length+1) rest (l.set pre.length (bodyF (placesL ds) l d)):=rfl
   rw[this] at e
   rw[e] at r2
   exact r2
  have e2:roundGo (placesL ds) (pre.length+1) rest l=l:=by
   have:roundGo (placesL ds) pre.length (d::rest) l=roundGo (placesL ds) (pre.length+1) rest (l.set pre.length (bodyF (placesL ds) l d)):=rfl
   rw[this,e1] at e
   exact e
  rw[e1] at r3
  by_cases hp:i=pre.length
  ·subst hp
   have h4:=set_getD l pre.length pre.length (bodyF (placesL ds) l d) hil
   rw[e1,if_pos rfl] at h4
   rw[h4,hd]
  ·exact r3 e2 i hi2 (by omega)
structure IsFlow (ds:List Df) (l:List Fl):Prop where
 len:l.length=ds.length
 fix:∀ i (h:i < ds.length),l.getD i fl0=bodyF (placesL ds) l ds[i]
 least:∀ m:List Fl,m.length=ds.length→(∀ i (h:i < ds.length),(bodyF (placesL ds) m ds[i]).le (m.getD i fl0))→LeL l m
theorem PreF.done {ds:List Df} {l:List Fl} (h:PreF ds l) (hf:roundGo (placesL ds) 0 ds l=l):IsFlow ds l:=
 ⟨h.len,fun i hi=>(roundGo_pre ds [] rfl h).2.2 hf i hi (Nat.zero_le _),h.least⟩
theorem IsFlow.unique {ds:List Df} {l l':List Fl} (h:IsFlow ds l) (h':IsFlow ds l'):l=l':=
 LeL.antisymm (h.least l' h'.len fun i hi=>by rw[←h'.fix i hi];exact Fl.le_refl _) (h'.least l h.len fun i hi=>by rw[←h.fix i hi];exact Fl.le_refl _)
def offF (x:Fl):Nat:=(bif x.z then 0 else 1)+((bif x.s then 0 else 1)+(bif x.f then 0 else 1))
def offs (l:List Fl):Nat:=(l.map offF).sum
theorem offF_le {a b:Fl} (h:a.le b):offF b≤offF a∧(offF a≤offF b→a=b):=by
 obtain⟨a1,a2,a3⟩:=a
 obtain⟨b1,b2,b3⟩:=b
 obtain⟨h1,h2,h3⟩:=h
 cases a1<;>cases b1<;>cases a2<;>cases b2<;>cases a3<;>cases b3<;>simp_all[offF]
theorem offs_le:∀ {l m:List Fl},LeL l m→offs m≤offs l∧(offs l≤offs m→l=m)
 | _,_,.nil=>⟨Nat.le_refl _,fun _=>rfl⟩
 | _,_,.cons h t=>by
  obtain⟨h1,h2⟩:=offF_le h
  obtain⟨t1,t2⟩:=offs_le t
  simp only[offs,List.map_cons,List.sum_cons] at t1 t2 ⊢
  refine⟨by omega,fun h=>?_⟩
  rw[h2 (by omega),t2 (by omega)]
theorem offs_lt {l m:List Fl} (h:LeL l m) (hne:m≠l):offs m < offs l:=by
 obtain⟨h1,h2⟩:=offs_le h
 apply Nat.lt_of_le_of_ne h1
 intro e
 exact hne (h2 (by omega)).symm
def firstAt (nm:ByteArray):List Df→Nat→Option Int
 | [],_=>none
 | d::ds,i=>bif decide (nm=d.name) then some (i:Int) else firstAt nm ds (i+1)
theorem lookM_snoc (s n:ByteArray) (v:Int):∀ l:List (ByteArray×Int),lookM s (l++[(n,v)])=match lookM s l with
  | some x=>some x
  | none=>bif decide (s=n) then some v else none
 | []=>rfl
 | p::l=>by
  have ih:=lookM_snoc s n v l
  simp only[List.cons_append,lookM]
  cases decide (s=p.1) with
  | true=>rfl
  | false=>simpa using ih
theorem places_look:∀ (ds:List Df) (acc:List (ByteArray×Int)) (i:Nat) (nm:ByteArray),lookM nm (placesGo acc i ds)=match lookM nm acc with
  | some x=>some x
  | none=>firstAt nm ds i
 | [],acc,i,nm=>by
  rw[placesGo,firstAt]
  cases lookM nm acc<;>rfl
 | d::ds,acc,i,nm=>by
  rw[placesGo,places_look ds,firstAt]
  cases hd:(lookM d.name acc).isSome with
  | true=>
   simp only[cond_true]
   cases hl:lookM nm acc with
   | some x=>rfl
   | none=>
    have:decide (nm=d.name)=false:=by
     rw[decide_eq_false_iff_not]
     intro e
     rw[←e,hl] at hd
     cases hd
    rw[this]
    rfl
  | false=>
   simp only[cond_false,lookM_snoc]
   cases hl:lookM nm acc with
   | some x=>rfl
   | none=>cases decide (nm=d.name)<;>rfl
theorem places_first (ds:List Df) (nm:ByteArray):lookM nm (placesL ds)=firstAt nm ds 0:=places_look ds [] 0 nm
theorem firstAt_lt:∀ {ds:List Df} {i:Nat} {nm:ByteArray} {v:Int},firstAt nm ds i=some v→∃ j:Nat,v=((i+j:Nat):Int)∧j < ds.length
 | d::ds,i,nm,v,h=>by
  unfold firstAt at h
  cases hd:decide (nm=d.name) with
  | true=>
   rw[hd] at h
   simp only[cond_true,Option.some.injEq] at h
   exact⟨0,by rw[←h];rfl,by simp⟩
  | false=>
   rw[hd] at h
   obtain⟨j,h1,h2⟩:=firstAt_lt h
   exact⟨j+1,by rw[h1];congr 1;omega,by simpa using h2⟩
def namedOk (pl:List (ByteArray×Int)) (ns:List Nd):Bool:=ns.all fun d=>!decide (d.k=3) || (lookM d.t pl).isSome
theorem called_of {ds:List Df} {ns:List Nd} (h:namedOk (placesL ds) ns=true):Called (placesL ds) ds.length ns:=by
 intro d hd hk
 have:=List.all_eq_true.1 h d hd
 simp only[hk,decide_true,Bool.not_true,Bool.false_or] at this
 obtain⟨v,hv⟩:=Option.isSome_iff_exists.1 this
 have hv':=hv
 rw[places_first] at hv'
 obtain⟨j,h1,h2⟩:=firstAt_lt hv'
 rw[Nat.zero_add] at h1
 exact⟨j,by rw[hv,h1],h2⟩
theorem dups_places:∀ (ds:List Df) {acc r:List (ByteArray×Int)} {i:Nat},dups acc i ds=some r→placesGo acc i ds=r
 | [],acc,r,i,h=>by
  simp only[dups,Option.some.injEq] at h
  exact h
 | d::ds,acc,r,i,h=>by
  unfold dups at h
  cases hd:(lookM d.name acc).isSome with
  | true=>rw[hd] at h;cases h
  | false=>
   rw[hd] at h
   rw[placesGo,hd]
   exact dups_places ds h
theorem pairs_mem {d:Df} {nd:Nd} (hn:nd∈d.t.ns):∀ (ds:List Df) (i:Nat),d∈ds→∃ j,(j,nd)∈nodePairs i ds:=by
 intro ds
 induction ds with
 | nil=>intro i hd;cases hd
 | cons x ds ih=>
  intro i hd
  rcases List.mem_cons.1 hd with e | hd
  ·subst e
   exact⟨i,List.mem_append.2 (.inl (List.mem_map.2 ⟨nd,hn,rfl⟩))⟩
  ·obtain⟨j,hj⟩:=ih (i+1) hd
   exact⟨j,List.mem_append.2 (.inr hj)⟩
theorem may_named {deb:List Int} {g:Gr} (h:mayG deb g=0):∀ d∈g.ds,namedOk (placesL g.ds) d.t.ns=true:=by
 unfold mayG at h
 cases h1:decide ((g.n:Int)=0) with
 | true=>rw[h1] at h;cases h
 | false=>
 cases h2:okDefs g.ds with
 | false=>rw[h1,h2] at h;cases h
 | true=>
 cases h3:largeG deb g with
 | true=>rw[h1,h2,h3] at h;cases h
 | false=>
 rw[h1,h2,h3] at h
 simp only[cond_false,Bool.not_true] at h
 split at h
 ·cases h
 ·rename_i acc hacc
  have hp:placesL g.ds=acc:=dups_places g.ds hacc
  cases h4:allNamed acc g.ds with
  | false=>rw[h4] at h;cases h
  | true=>
   intro d hd
   rw[hp,namedOk,List.all_eq_true]
   intro nd hnd
   obtain⟨j,hj⟩:=pairs_mem hnd g.ds 0 hd
   exact List.all_eq_true.1 h4 _ hj
theorem may_ok {deb:List Int} {g:Gr} (h:mayG deb g=0):okDefs g.ds=true:=by
 unfold mayG at h
 cases h1:decide ((g.n:Int)=0) with
 | true=>rw[h1] at h;cases h
 | false=>
 cases h2:okDefs g.ds with
 | false=>rw[h1,h2] at h;cases h
 | true=>rfl
end Go.V
namespace Go.V
open Go
structure OrdB (α:Type) where
 le:α→α→Prop
 bot:α
 refl:∀ a,le a a
 trans:∀ {a b c},le a b→le b c→le a c
 anti:∀ {a b},le a b→le b a→a=b
 low:∀ a,le bot a
structure LeR {α:Type} (O:OrdB α) (l m:List α):Prop where
 len:l.length=m.length
 at':∀ i,O.le (l.getD i O.bot) (m.getD i O.bot)
section
variable {α:Type} {O:OrdB α}
theorem LeR.refl (l:List α):LeR O l l:=⟨rfl,fun _=>O.refl _⟩
theorem LeR.trans {a b c:List α} (h:LeR O a b) (h':LeR O b c):LeR O a c:=⟨h.len.trans h'.len,fun i=>O.trans (h.at' i) (h'.at' i)⟩
theorem LeR.anti {a b:List α} (h:LeR O a b) (h':LeR O b a):a=b:=by
 apply List.ext_getElem h.len
 intro i h1 h2
 have:=O.anti (h.at' i) (h'.at' i)
 simpa[List.getD_eq_getElem?_getD,h1,h2] using this
theorem LeR.of {a b:List α} (hl:a.length=b.length) (h:∀ i,i < a.length→O.le (a.getD i O.bot) (b.getD i O.bot)):LeR O a b:=⟨hl,fun i=>by
 by_cases hi:i < a.length
 ·exact h i hi
 ·have e:a.getD i O.bot=O.bot:=by simp[List.getD_eq_getElem?_getD,List.getElem?_eq_none (Nat.le_of_not_lt hi)]
  rw[e]
  exact O.low _⟩
theorem LeR.snoc {a b:List α} {x y:α} (h:LeR O a b) (hx:O.le x y):LeR O (a++[x]) (b++[y]):=by
 have hl:=h.len
 refine .of (by simp[hl]) fun i hi=>?_
 rcases Nat.lt_or_ge i a.length with h1 | h1
 ·have h2:i < b.length:=by omega
  have:=h.at' i
  simpa[List.getD_eq_getElem?_getD,List.getElem?_append_left h1,List.getElem?_append_left h2] using this
 ·have h2:i=a.length:=by simp at hi;omega
  subst h2
  have e1:(a++[x]).getD a.length O.bot=x:=by simp[List.getD_eq_getElem?_getD]
  have e2:(b++[y]).getD a.length O.bot=y:=by rw[hl];simp[List.getD_eq_getElem?_getD]
  rw[e1,e2]
  exact hx
theorem set_getR (l:List α) (b:α) (i j:Nat) (x:α) (hi:i < l.length):(l.set i x).getD j b=if i=j then x else l.getD j b:=by
 simp only[List.getD_eq_getElem?_getD,List.getElem?_set]
 by_cases e:i=j
 ·subst e
  simp[hi]
 ·rw[if_neg e,if_neg e]
def roundR (body:List α→Nat→α):Nat→Nat→List α→List α
 | _,0,l=>l
 | i,k+1,l=>roundR body (i+1) k (l.set i (body l i))
structure PreR (O:OrdB α) (n:Nat) (body:List α→Nat→α) (l:List α):Prop where
 len:l.length=n
 up:∀ i,i < n→O.le (l.getD i O.bot) (body l i)
 least:∀ m:List α,m.length=n→(∀ i,i < n→O.le (body m i) (m.getD i O.bot))→LeR O l m
structure IsR (O:OrdB α) (n:Nat) (body:List α→Nat→α) (l:List α):Prop where
 len:l.length=n
 fix:∀ i,i < n→l.getD i O.bot=body l i
 least:∀ m:List α,m.length=n→(∀ i,i < n→O.le (body m i) (m.getD i O.bot))→LeR O l m
theorem IsR.unique {n:Nat} {body:List α→Nat→α} {l l':List α} (h:IsR O n body l) (h':IsR O n body l'):l=l':=
 LeR.anti (h.least l' h'.len fun i hi=>by rw[←h'.fix i hi];exact O.refl _) (h'.least l h.len fun i hi=>by rw[←h.fix i hi];exact O.refl _)
theorem rep_getR (n i:Nat) (b:α):(List.replicate n b).getD i b=b:=by
 by_cases h:i < n<;>simp[List.getD_eq_getElem?_getD,List.getElem?_replicate,h]
theorem PreR.start (n:Nat) (body:List α→Nat→α):PreR O n body (List.replicate n O.bot):=by
 refine⟨by simp,fun i h=>?_,fun m hm _=>⟨by simp[hm],fun i=>?_⟩⟩
 ·rw[rep_getR];exact O.low _
 ·rw[rep_getR];exact O.low _
section
variable {n:Nat} {body:List α→Nat→α} (hmono:∀ {l m:List α},LeR O l m→∀ i,i < n→O.le (body l i) (body m i))
include hmono
theorem PreR.step {l:List α} (h:PreR O n body l) {i:Nat} (hi:i < n):PreR O n body (l.set i (body l i))∧LeR O l (l.set i (body l i)):=by
 have hil:i < l.length:=by rw[h.len];exact hi
 have hle:LeR O l (l.set i (body l i)):=.of (by simp) fun j hj=>by
  rw[set_getR _ _ _ _ _ hil]
  by_cases e:i=j
  ·subst e
   rw[if_pos rfl]
   exact h.up i hi
  ·rw[if_neg e]
   exact O.refl _
 refine⟨⟨by simpa using h.len,fun j hj=>?_,fun m hm hc=>?_⟩,hle⟩
 ·rw[set_getR _ _ _ _ _ hil]
  by_cases e:i=j
  ·subst e
   rw[if_pos rfl]
   exact hmono hle _ hi
  ·rw[if_neg e]
   exact O.trans (h.up j hj) (hmono hle _ hj)
 ·have hlm:=h.least m hm hc
  refine .of (by simp[h.len,hm]) fun j hj=>?_
  rw[set_getR _ _ _ _ _ hil]
  by_cases e:i=j
  ·subst e
   rw[if_pos rfl]
   exact O.trans (hmono hlm _ hi) (hc i hi)
  ·rw[if_neg e]
   exact hlm.at' j
theorem roundR_pre:∀ (k i:Nat) {l:List α},i+k=n→PreR O n body l→PreR O n body (roundR body i k l)∧LeR O l (roundR body i k l) ∧
  (roundR body i k l=l→∀ j,j < n→i≤j→l.getD j O.bot=body l j)
 | 0,i,l,hk,h=>⟨h,LeR.refl l,fun _ j hj hge=>by omega⟩
 | k+1,i,l,hk,h=>by
  have hi:i < n:=by omega
  have hil:i < l.length:=by rw[h.len];exact hi
  obtain⟨s1,s2⟩:=h.step hmono hi
  obtain⟨r1,r2,r3⟩:=roundR_pre k (i+1) (by omega) s1
  refine⟨r1,s2.trans r2,fun e j hj hge=>?_⟩
  have e0:roundR body i (k+1) l=roundR body (i+1) k (l.set i (body l i)):=rfl
  have e1:l.set i (body l i)=l:=by
   refine LeR.anti (O:=O) ?_ s2
   rw[e0] at e
   rw[e] at r2
   exact r2
  have e2:roundR body (i+1) k l=l:=by
   rw[e0,e1] at e
   exact e
  rw[e1] at r3
  by_cases hp:j=i
  ·subst hp
   have h4:=set_getR l O.bot j j (body l j) hil
   rw[e1,if_pos rfl] at h4
   exact h4
  ·exact r3 e2 j hj (by omega)
theorem PreR.done {l:List α} (h:PreR O n body l) (hf:roundR body 0 n l=l):IsR O n body l:=
 ⟨h.len,fun i hi=>(roundR_pre hmono n 0 (Nat.zero_add n) h).2.2 hf i hi (Nat.zero_le _),h.least⟩
end
end
theorem countP_eq_of {α:Type} {p q:α→Bool}:∀ {l:List α},(∀ x∈l,p x=true→q x=true)→l.countP q≤l.countP p→∀ x∈l,q x=true→p x=true
 | [],_,_,x,hx,_=>by cases hx
 | y::l,h,hle,x,hx,hq=>by
  have hm:=List.countP_mono_left (p:=p) (q:=q) (l:=l) (fun x hx=>h x (.tail _ hx))
  rw[List.countP_cons,List.countP_cons] at hle
  have hy:=h y (.head _)
  have key:(q y=true→p y=true)∧l.countP q≤l.countP p:=by
   cases hp:p y<;>cases hqy:q y<;>simp_all<;>omega
  rcases List.mem_cons.1 hx with rfl | hx
  ·exact key.1 hq
  ·exact countP_eq_of (fun x hx=>h x (.tail _ hx)) key.2 x hx hq
def offW (x:BitVec 64):Nat:=(List.range 64).countP fun i=>!x.getLsbD i
theorem offW_le {x y:BitVec 64} (h:x &&& y=x):offW y≤offW x∧(offW x≤offW y→x=y):=by
 have hb:∀ i,x.getLsbD i=true→y.getLsbD i=true:=fun i hx=>by
  have:=congrArg (fun w:BitVec 64=>w.getLsbD i) h
  simp only[BitVec.getLsbD_and,hx,Bool.true_and] at this
  exact this
 have hp:∀ i∈List.range 64,(!y.getLsbD i)=true→(!x.getLsbD i)=true:=fun i _ hi=>by
  have h1:=hb i
  cases hx:x.getLsbD i with
  | false=>rfl
  | true=>rw[h1 hx] at hi;cases hi
 refine⟨List.countP_mono_left hp,fun hle=>?_⟩
 have:=countP_eq_of hp hle
 apply BitVec.eq_of_getLsbD_eq
 intro i hi
 have h1:=hb i
 have h2:=this i (List.mem_range.2 hi)
 cases hx:x.getLsbD i<;>cases hy:y.getLsbD i<;>simp_all
def offI (x:Fi):Nat:=(offW x.w.a+offW x.w.b+offW x.w.c+offW x.w.d)+(bif x.f then 0 else 1)
theorem offI_le {a b:Fi} (h:a.le b):offI b≤offI a∧(offI a≤offI b→a=b):=by
 obtain⟨h1,h2⟩:=h
 obtain⟨⟨a1,a2,a3,a4⟩,af⟩:=a
 obtain⟨⟨b1,b2,b3,b4⟩,bf⟩:=b
 have h1:=of_decide_eq_true h1
 simp only[Ws.and,Ws.mk.injEq] at h1
 obtain⟨g1,g2,g3,g4⟩:=h1
 obtain⟨p1,q1⟩:=offW_le g1
 obtain⟨p2,q2⟩:=offW_le g2
 obtain⟨p3,q3⟩:=offW_le g3
 obtain⟨p4,q4⟩:=offW_le g4
 simp only at h2
 have hf:(bif bf then 0 else 1)≤(bif af then 0 else 1)∧((bif af then 0 else 1)≤(bif bf then 0 else 1)→af=bf):=by
  cases af<;>cases bf<;>simp_all
 unfold offI
 simp only
 refine⟨by omega,fun hle=>?_⟩
 obtain rfl:=q1 (by omega)
 obtain rfl:=q2 (by omega)
 obtain rfl:=q3 (by omega)
 obtain rfl:=q4 (by omega)
 obtain rfl:=hf.2 (by omega)
 rfl
def OI:OrdB Fi:=⟨Fi.le,fi0,Fi.le_refl,fun h h'=>h.trans h',fun h h'=>h.antisymm h',Fi.bot⟩
def offsI (l:List Fi):Nat:=(l.map offI).sum
theorem offsI_le:∀ {l m:List Fi},LeR OI l m→offsI m≤offsI l∧(offsI l≤offsI m→l=m)
 | [],[],_=>⟨Nat.le_refl _,fun _=>rfl⟩
 | [],_::_,h=>by have:=h.len;simp at this
 | _::_,[],h=>by have:=h.len;simp at this
 | a::l,b::m,h=>by
  have h0:a.le b:=h.at' 0
  have ht:LeR OI l m:=⟨by simpa using h.len,fun i=>by simpa using h.at' (i+1)⟩
  obtain⟨h1,h2⟩:=offI_le h0
  obtain⟨t1,t2⟩:=offsI_le ht
  simp only[offsI,List.map_cons,List.sum_cons] at t1 t2 ⊢
  refine⟨by omega,fun h=>?_⟩
  rw[h2 (by omega),t2 (by omega)]
theorem offsI_lt {l m:List Fi} (h:LeR OI l m) (hne:m≠l):offsI m < offsI l:=by
 obtain⟨h1,h2⟩:=offsI_le h
 apply Nat.lt_of_le_of_ne h1
 intro e
 exact hne (h2 (by omega)).symm
def Ws.at (w:Ws) (i:Nat):BitVec 64:=bif decide (i=0) then w.a else bif decide (i=1) then w.b else bif decide (i=2) then w.c else w.d
def Ws.one (i:Nat) (x:BitVec 64):Ws:=⟨bif decide (i=0) then x else 0,bif decide (i=1) then x else 0,bif decide (i=2) then x else 0,bif decide (i=3) then x else 0⟩
def byteW (b:UInt8):Ws:=.one (b.toNat / 64) (1#64 <<< (b.toNat % 64))
def ofW (l:List UInt8):Ws:=l.foldl (fun w b=>w.or (byteW b)) .zero
def Nd.ws (d:Nd):Ws:=⟨BitVec.ofInt 64 d.s0,BitVec.ofInt 64 d.s1,BitVec.ofInt 64 d.s2,BitVec.ofInt 64 d.s3⟩
def repFi (d:Nd) (k:Fi):Fi:=bif decide (d.hi=0) then fiT else ⟨k.w,k.f || decide (d.lo=0)⟩
def seqFi (ks:List Fi):Fi:=ks.foldl Fi.seq fiT
def chFi (ks:List Fi):Fi:=ks.foldl Fi.choice fi0
def textFi (t:ByteArray):Fi:=⟨ofW (t.data.toList.take 1),false⟩
def comeFi (d:Nd) (x:Fl) (ks:List Fi):Fi:=
 bif decide (d.k=0) then ⟨.zero,x.suc⟩ else
 bif decide (d.k=1) then ⟨d.ws,false⟩ else
 bif decide (d.k=2) then textFi d.t else
 bif decide (d.k=3) then ks.headD fi0 else
 bif decide (d.k=4) then seqFi ks else
 bif decide (d.k=5) then chFi ks else
 bif decide (d.k=6) then repFi d (ks.headD fi0) else
 bif decide (d.k=7) then ⟨.zero,x.suc⟩ else
 bif decide (d.k=8) then ⟨.zero,x.suc⟩ else ks.headD fi0
def kidsI (pl:List (ByteArray×Int)) (fl acc:List Fi) (d:Nd):List Fi:=
 d.kids.map (fun k=>acc.getD k.toNat fi0)++bif decide (d.k=3) then [fl.getD ((lookM d.t pl).getD 0).toNat fi0] else []
def nodesI (pl:List (ByteArray×Int)) (fl:List Fi) (xs:List Fl):List Nd→List Fi→List Fi
 | [],acc=>acc
 | d::ds,acc=>nodesI pl fl xs ds (acc++[comeFi d (xs.getD acc.length fl0) (kidsI pl fl acc d)])
theorem nodesI_len (pl:List (ByteArray×Int)) (fl:List Fi) (xs:List Fl):∀ (ds:List Nd) (acc:List Fi),(nodesI pl fl xs ds acc).length=acc.length+ds.length
 | [],acc=>rfl
 | d::ds,acc=>by
  rw[nodesI,nodesI_len]
  simp
  omega
theorem LeI.map {α:Type} {f g:α→Fi} {l:List α} (h:∀ x∈l,(f x).le (g x)):LeR OI (l.map f) (l.map g):=.of (by simp) fun i hi=>by
 have hi':i < l.length:=by simpa using hi
 have:=h _ (List.getElem_mem hi')
 simpa[List.getD_eq_getElem?_getD,hi'] using (show OI.le _ _ from this)
theorem fold_mono {f:Fi→Fi→Fi} (hf:∀ {a b x y:Fi},a.le b→x.le y→(f a x).le (f b y)):∀ {l m:List Fi} {a b:Fi},LeR OI l m→a.le b→(l.foldl f a).le (m.foldl f b)
 | [],[],_,_,_,h=>h
 | [],_::_,_,_,h,_=>by have:=h.len;simp at this
 | _::_,[],_,_,h,_=>by have:=h.len;simp at this
 | x::l,y::m,a,b,h,h'=>fold_mono hf (l:=l) (m:=m) ⟨by simpa using h.len,fun i=>by simpa using h.at' (i+1)⟩ (hf h' (h.at' 0))
theorem head_mono {l m:List Fi} (h:LeR OI l m):(l.headD fi0).le (m.headD fi0):=by
 have:=h.at' 0
 cases l<;>cases m<;>exact this
theorem comeI_mono (d:Nd) (x:Fl) {a b:List Fi} (h:LeR OI a b):(comeFi d x a).le (comeFi d x b):=by
 have hh:=head_mono h
 unfold comeFi
 cases decide (d.k=0) with
 | true=>exact Fi.le_refl _
 | false=>
 cases decide (d.k=1) with
 | true=>exact Fi.le_refl _
 | false=>
 cases decide (d.k=2) with
 | true=>exact Fi.le_refl _
 | false=>
 cases decide (d.k=3) with
 | true=>exact hh
 | false=>
 cases decide (d.k=4) with
 | true=>exact fold_mono Fi.seq_mono h (Fi.le_refl _)
 | false=>
 cases decide (d.k=5) with
 | true=>exact fold_mono Fi.choice_mono h (Fi.le_refl _)
 | false=>
 cases decide (d.k=6) with
 | true=>
  simp only[cond_true,cond_false,repFi]
  cases decide (d.hi=0) with
  | true=>exact Fi.le_refl _
  | false=>
   refine⟨hh.w,?_⟩
   simp only[cond_false,Bool.or_eq_true]
   exact fun g=>g.imp hh.f id
 | false=>
 cases decide (d.k=7) with
 | true=>exact Fi.le_refl _
 | false=>
 cases decide (d.k=8) with
 | true=>exact Fi.le_refl _
 | false=>exact hh
theorem LeI.append {a b c d:List Fi} (h:LeR OI a b) (h':LeR OI c d):LeR OI (a++c) (b++d):=by
 have hl:=h.len
 have hl':=h'.len
 refine .of (by simp[hl,hl']) fun i hi=>?_
 rcases Nat.lt_or_ge i a.length with h1 | h1
 ·have h2:i < b.length:=by omega
  have:=h.at' i
  simpa[List.getD_eq_getElem?_getD,List.getElem?_append_left h1,List.getElem?_append_left h2] using this
 ·have h2:b.length≤i:=by omega
  have:=h'.at' (i - a.length)
  simp only[List.getD_eq_getElem?_getD,List.getElem?_append_right h1,List.getElem?_append_right h2] at this ⊢
  rwa [hl] at this ⊢
theorem kidsI_mono {pl:List (ByteArray×Int)} {fl fl' acc acc':List Fi} (h:LeR OI fl fl') (ha:LeR OI acc acc') (d:Nd):LeR OI (kidsI pl fl acc d) (kidsI pl fl' acc' d):=by
 unfold kidsI
 refine LeI.append (LeI.map fun k _=>ha.at' _) ?_
 cases decide (d.k=3) with
 | true=>
  refine .of rfl fun i hi=>?_
  have:i=0:=by simpa using hi
  subst this
  exact h.at' _
 | false=>exact LeR.refl _
theorem nodesI_mono {pl:List (ByteArray×Int)} {fl fl':List Fi} {xs:List Fl} (h:LeR OI fl fl'):∀ (ds:List Nd) {acc acc':List Fi},LeR OI acc acc'→LeR OI (nodesI pl fl xs ds acc) (nodesI pl fl' xs ds acc')
 | [],_,_,ha=>ha
 | d::ds,acc,acc',ha=>by
  rw[nodesI,nodesI,←ha.len]
  exact nodesI_mono h ds (ha.snoc (comeI_mono d _ (kidsI_mono h ha d)))
def bodyI (pl:List (ByteArray×Int)) (F:List Fl) (ds:List Df) (l:List Fi) (i:Nat):Fi:=match ds[i]? with
 | some d=>(nodesI pl l (nodesF pl F d.t.ns []) d.t.ns []).getD d.t.root.toNat fi0
 | none=>fi0
theorem bodyI_mono {pl:List (ByteArray×Int)} {F:List Fl} {ds:List Df} {l m:List Fi} (h:LeR OI l m) (i:Nat):(bodyI pl F ds l i).le (bodyI pl F ds m i):=by
 unfold bodyI
 split
 ·exact(nodesI_mono h _ (LeR.refl _)).at' _
 ·exact Fi.le_refl _
def IsFirst (ds:List Df) (F:List Fl) (l:List Fi):Prop:=IsR OI ds.length (bodyI (placesL ds) F ds) l
def PreI (ds:List Df) (F:List Fl) (l:List Fi):Prop:=PreR OI ds.length (bodyI (placesL ds) F ds) l
end Go.V
namespace Go.V
open Go Go.Proofs
theorem shl_bit {k:Nat} (hk:k < 64):IntKind.u64.wrap (1 * 2 ^ (min k IntKind.u64.bits))=((1#64 <<< k).toNat:Int):=by
 have h1:(1#64 <<< k).toNat=2 ^ k:=by
  rw[BitVec.toNat_shiftLeft,Nat.shiftLeft_eq]
  have:2 ^ k < 2 ^ 64:=Nat.pow_lt_pow_right (by decide) hk
  simp only[BitVec.toNat_ofNat]
  rw[Nat.mod_eq_of_lt (by decide:1 < 2 ^ 64),Nat.one_mul]
  exact Nat.mod_eq_of_lt this
 have h2:min k IntKind.u64.bits=k:=by simp only[IntKind.bits];omega
 have h3:2 ^ k < 2 ^ 64:=Nat.pow_lt_pow_right (by decide) hk
 rw[h1,h2,Int.one_mul]
 have e:((2:Int) ^ k)=((2 ^ k:Nat):Int):=by simp
 rw[e]
 generalize 2 ^ k=q at h3
 unfold IntKind.wrap
 simp only[IntKind.bits,IntKind.signed]
 simp
 omega
theorem ofW_snoc (l:List UInt8) (b:UInt8):ofW (l++[b])=(ofW l).or (byteW b):=by simp[ofW]
set_option maxHeartbeats 1000000 in
theorem Of_spec {I:GH} {M:List Blk} (s:ByteArray) (hs:s.size≤140737488355328):Spec Tryz.prog 87 [.string s] I M fun r I' M'=>r=(ofW s.data.toList).val∧I'=I∧M'=M:=by
 refine spec_of_V [] TryzEOK Tryz.func87 rfl rfl rfl ?_
 intro B h0
 have hsz:s.data.toList.length=s.size:=Array.length_toList
 refine LoopOb.inv (ι:=Nat) (fun i=>{ fl:=[(0,.val (.string s)),(2,.ref 2 0),(3,.ref 3 0),(4,.val (.int .i64 i))],cl:=[(2,Ws.zero.cells),(3,(ofW (s.data.toList.take i)).cells)],gi:=I,mi:=M }) (fun i=>i≤s.size) (fun i=>s.size - i) ?_ ?_
 ·exact⟨0,Nat.zero_le _,.refl,.cons .refl (.cons .refl (.cons .refl (.cons .refl (.nil)))),.cons rfl (.cons rfl (.nil))⟩
 intro i hi
 refine CondOb.mk (fun h=>?_) (fun h=>?_)
 rotate_left
 ·have hge:s.size≤i:=by have:¬ (i:Int) < (s.size:Int):=of_decide_eq_false h;omega
  have hw:s.data.toList.take i=s.data.toList:=List.take_of_length_le (by omega)
  refine⟨_,_,.refl,?_,rfl,rfl⟩
  show (ofW (s.data.toList.take i)).val=_
  rw[hw]
 have hlt:i < s.size:=by have:(i:Int) < (s.size:Int):=of_decide_eq_true h;omega
 have hget:s.data.toList[i]'(by omega)=s[i]:=by rw[Array.getElem_toList];rfl
 have hnext:ofW (s.data.toList.take (i+1))=(ofW (s.data.toList.take i)).or (byteW s[i]):=by
  rw[List.take_succ_eq_append_getElem (by omega),ofW_snoc,hget]
 generalize ofW (s.data.toList.take i)=w at hnext
 have hb:=s[i].toNat_lt
 have em:((s[i].toNat:Int)).tmod 64=((s[i].toNat % 64:Nat):Int):=rfl
 have ed:((s[i].toNat:Int)).tdiv 64=((s[i].toNat / 64:Nat):Int):=rfl
 refine CodeOb.draw TryzEOK rfl rfl rfl ?_
 refine StrOb.mk i rfl hlt ?_
 refine DivOb.mk (by decide) ?_
 rcases(by omega:s[i].toNat / 64=0∨s[i].toNat / 64=1∨s[i].toNat / 64=2∨s[i].toNat / 64=3) with hj | hj | hj | hj
 ·refine ArithOb.mk 0 (by rw[ed,hj];decide) ?_
  refine ArrOb.mk 0 rfl (by decide) ?_
  refine StrOb.mk i rfl hlt ?_
  refine DivOb.mk (by decide) ?_
  refine ShOb.mk (s[i].toNat % 64) em ?_
  refine ArithOb.mk _ (shl_bit (by omega)) ?_
  refine ArrOb.mk 0 rfl (by decide) ?_
  refine ArithOb.mk _ (next_wr (i:=i) (by omega)) ?_
  refine⟨i+1,⟨hlt,by omega⟩,.refl,.cons .refl (.cons .refl (.cons .refl (.cons .refl (.nil)))),.cons rfl (.cons ?_ .nil)⟩
  rw[hnext,show byteW s[i]=Ws.one 0 (1#64 <<< (s[i].toNat % 64)) by rw[byteW,hj]]
  refine congrArg some ?_
  show ([.int .u64 (worV w.a.toNat (1#64 <<< (s[i].toNat % 64)).toNat),.int .u64 w.b.toNat,.int .u64 w.c.toNat,.int .u64 w.d.toNat]:List Value)=_
  rw[worV_bv]
  simp[Ws.cells,Ws.or,Ws.one]
 ·refine ArithOb.mk 1 (by rw[ed,hj];decide) ?_
  refine ArrOb.mk 1 rfl (by decide) ?_
  refine StrOb.mk i rfl hlt ?_
  refine DivOb.mk (by decide) ?_
  refine ShOb.mk (s[i].toNat % 64) em ?_
  refine ArithOb.mk _ (shl_bit (by omega)) ?_
  refine ArrOb.mk 1 rfl (by decide) ?_
  refine ArithOb.mk _ (next_wr (i:=i) (by omega)) ?_
  refine⟨i+1,⟨hlt,by omega⟩,.refl,.cons .refl (.cons .refl (.cons .refl (.cons .refl (.nil)))),.cons rfl (.cons ?_ .nil)⟩
  rw[hnext,show byteW s[i]=Ws.one 1 (1#64 <<< (s[i].toNat % 64)) by rw[byteW,hj]]
  refine congrArg some ?_
  show ([.int .u64 w.a.toNat,.int .u64 (worV w.b.toNat (1#64 <<< (s[i].toNat % 64)).toNat),.int .u64 w.c.toNat,.int .u64 w.d.toNat]:List Value)=_
  rw[worV_bv]
  simp[Ws.cells,Ws.or,Ws.one]
 ·refine ArithOb.mk 2 (by rw[ed,hj];decide) ?_
  refine ArrOb.mk 2 rfl (by decide) ?_
  refine StrOb.mk i rfl hlt ?_
  refine DivOb.mk (by decide) ?_
  refine ShOb.mk (s[i].toNat % 64) em ?_
  refine ArithOb.mk _ (shl_bit (by omega)) ?_
  refine ArrOb.mk 2 rfl (by decide) ?_
  refine ArithOb.mk _ (next_wr (i:=i) (by omega)) ?_
  refine⟨i+1,⟨hlt,by omega⟩,.refl,.cons .refl (.cons .refl (.cons .refl (.cons .refl (.nil)))),.cons rfl (.cons ?_ .nil)⟩
  rw[hnext,show byteW s[i]=Ws.one 2 (1#64 <<< (s[i].toNat % 64)) by rw[byteW,hj]]
  refine congrArg some ?_
  show ([.int .u64 w.a.toNat,.int .u64 w.b.toNat,.int .u64 (worV w.c.toNat (1#64 <<< (s[i].toNat % 64)).toNat),.int .u64 w.d.toNat]:List Value)=_
  rw[worV_bv]
  simp[Ws.cells,Ws.or,Ws.one]
 ·refine ArithOb.mk 3 (by rw[ed,hj];decide) ?_
  refine ArrOb.mk 3 rfl (by decide) ?_
  refine StrOb.mk i rfl hlt ?_
  refine DivOb.mk (by decide) ?_
  refine ShOb.mk (s[i].toNat % 64) em ?_
  refine ArithOb.mk _ (shl_bit (by omega)) ?_
  refine ArrOb.mk 3 rfl (by decide) ?_
  refine ArithOb.mk _ (next_wr (i:=i) (by omega)) ?_
  refine⟨i+1,⟨hlt,by omega⟩,.refl,.cons .refl (.cons .refl (.cons .refl (.cons .refl (.nil)))),.cons rfl (.cons ?_ .nil)⟩
  rw[hnext,show byteW s[i]=Ws.one 3 (1#64 <<< (s[i].toNat % 64)) by rw[byteW,hj]]
  refine congrArg some ?_
  show ([.int .u64 w.a.toNat,.int .u64 w.b.toNat,.int .u64 w.c.toNat,.int .u64 (worV w.d.toNat (1#64 <<< (s[i].toNat % 64)).toNat)]:List Value)=_
  rw[worV_bv]
  simp[Ws.cells,Ws.or,Ws.one]
section
variable {I:GH} {M:List Blk} {d:Nd} {x:Fl} {a:Option Addr} {n c:Nat} {ks:List Fi}
theorem IsAt.head (hk:IsAt I M a n ks) (h0:0 < n):∃ ad,a=some ad∧Rd I M (ad.add (0 * 5)) 5 (ks.headD fi0).cells:=by
 have h1:0 < ks.length:=by rw[hk.n];exact h0
 obtain⟨ad,h2,h3⟩:=hk.rd 0 h1
 refine⟨ad,h2,?_⟩
 cases ks with
 | nil=>simp at h1
 | cons k ks=>exact h3
theorem iFlows_spec:Spec Tryz.prog 156 [d.val,x.val,.slice a n c] I M fun v I' M'=>v=Fi.val ⟨.zero,x.suc⟩∧I'=I∧M'=M:=by
 refine spec_of_V [] TryzEOK Tryz.func156 rfl rfl rfl ?_
 intro B h0
 refine CallOb.mk M [] _ perm_nil (Suc_spec x) ?_
 rintro v I' M' - ⟨rfl,rfl,rfl⟩
 rw[List.append_nil]
 exact⟨_,_,.refl,rfl,rfl,rfl⟩
theorem bv_int {z:Int} (h:u64ok z):((BitVec.ofInt 64 z).toNat:Int)=z:=by
 obtain⟨w,rfl⟩:=bv_of h
 rw[bv_ofInt]
theorem iBytes_spec (hd:u64ok d.s0∧u64ok d.s1∧u64ok d.s2∧u64ok d.s3):Spec Tryz.prog 157 [d.val,x.val,.slice a n c] I M fun v I' M'=>v=Fi.val ⟨d.ws,false⟩∧I'=I∧M'=M:=by
 refine spec_of_V [] TryzEOK Tryz.func157 rfl rfl rfl ?_
 intro B h0
 refine⟨_,_,.refl,?_,rfl,rfl⟩
 obtain⟨h0,h1,h2,h3⟩:=hd
 simp only[Fi.val,Nd.ws,bv_int h0,bv_int h1,bv_int h2,bv_int h3]
 rfl
theorem iText_spec (h1:1≤d.t.size):Spec Tryz.prog 158 [d.val,x.val,.slice a n c] I M fun v I' M'=>v=(textFi d.t).val∧I'=I∧M'=M:=by
 refine spec_of_V [] TryzEOK Tryz.func158 rfl rfl rfl ?_
 intro B h0
 refine SliceOb.mk 0 1 rfl rfl (by decide) h1 ?_
 have hl:(d.t.extract 0 1).data.toList=d.t.data.toList.take 1:=by simp
 refine CallOb.mk M [] _ perm_nil (Of_spec (d.t.extract 0 1) (by simp;omega)) ?_
 rintro v I' M' - ⟨rfl,rfl,rfl⟩
 rw[List.append_nil]
 refine⟨_,_,.refl,?_,rfl,rfl⟩
 rw[hl]
 rfl
theorem iItself_spec (hk:IsAt I M a n ks) (h0:0 < n):Spec Tryz.prog 159 [d.val,x.val,.slice a n c] I M fun v I' M'=>v=(ks.headD fi0).val∧I'=I∧M'=M:=by
 refine spec_of_V [] TryzEOK Tryz.func159 rfl rfl rfl ?_
 intro B h0'
 obtain⟨ad,had,hrd⟩:=hk.head h0
 refine IdxOb.mk ad 0 had rfl h0 ?_
 refine LoadOb.mk _ hrd ?_
 exact⟨_,_,.refl,rfl,rfl,rfl⟩
theorem iRep_spec (hk:IsAt I M a n ks) (h0:0 < n):Spec Tryz.prog 162 [d.val,x.val,.slice a n c] I M fun v I' M'=>v=(repFi d (ks.headD fi0)).val∧I'=I∧M'=M:=by
 refine spec_of_V [] TryzEOK Tryz.func162 rfl rfl rfl ?_
 intro B h0'
 obtain⟨ad,had,hrd⟩:=hk.head h0
 generalize ks.headD fi0=k at hrd
 obtain⟨⟨k0,k1,k2,k3⟩,kf⟩:=k
 refine CondOb.mk (fun h=>?_) (fun h=>?_)
 ·refine⟨_,_,.refl,?_,rfl,rfl⟩
  simp[repFi,h]
  rfl
 refine CodeOb.draw TryzEOK rfl rfl rfl ?_
 refine IdxOb.mk ad 0 had rfl h0 ?_
 refine LoadOb.mk _ (hrd.part (k:=0) (m:=4) (by decide)) ?_
 refine IdxOb.mk ad 0 had rfl h0 ?_
 refine LoadOb.mk _ (hrd.part (k:=4) (m:=1) (by decide)) ?_
 refine GuardOb.mk (fun h2=>?_) (fun h2=>?_)
 all_goals
  have hf:kf=_:=h2
  subst hf
  refine⟨_,_,.refl,?_,rfl,rfl⟩
  simp[repFi,h]
  rfl
theorem iChoice_spec (hk:IsAt I M a n ks) (hn:n≤140737488355328):Spec Tryz.prog 161 [d.val,x.val,.slice a n c] I M fun v I' M'=>v=(chFi ks).val∧I'=I∧M'=M:=by
 refine spec_of_V [] TryzEOK Tryz.func161 rfl rfl rfl ?_
 intro B h0'
 have hkn:=hk.n
 refine LoopOb.inv (ι:=Nat×Fi) (fun s=>{ fl:=[(6,.ref 6 0),(7,.ref 7 0),(10,.val (.slice a n c)),(11,.val (.int .i64 n)),(12,.val (.int .i64 s.1))],cl:=[(6,fi0.cells),(7,s.2.cells)],gi:=I,mi:=M })
  (fun s=>s.1≤n∧s.2=chFi (ks.take s.1)) (fun s=>n - s.1) ?_ ?_
 ·exact⟨(0,fi0),⟨Nat.zero_le _,rfl⟩,.refl,.cons .refl (.cons .refl (.cons .refl (.cons .refl (.cons .refl (.nil))))),.cons rfl (.cons rfl (.nil))⟩
 rintro⟨i,f⟩ ⟨hi,hf⟩
 simp only at hi hf
 refine CondOb.mk (fun h=>?_) (fun h=>?_)
 rotate_left
 ·have hge:n≤i:=by have:=of_decide_eq_false h;omega
  refine⟨_,_,.refl,?_,rfl,rfl⟩
  rw[List.take_of_length_le (by omega)] at hf
  rw[←hf]
  rfl
 have hlt:i < n:=by have:=of_decide_eq_true h;omega
 obtain⟨ad,had,hrd⟩:=hk.rd i (by omega)
 have hst:f.choice (ks[i]'(by omega))=chFi (ks.take (i+1)):=by
  rw[List.take_succ_eq_append_getElem (by omega),chFi,List.foldl_append,hf]
  rfl
 generalize ks[i]'(by omega)=k at hrd hst
 refine IdxOb.mk ad i had rfl hlt ?_
 refine LoadOb.mk _ hrd ?_
 refine CallOb.mk M [] _ perm_nil (IChoice_spec f k) ?_
 rintro v I' M' - ⟨rfl,rfl,rfl⟩
 rw[List.append_nil]
 refine ArithOb.mk _ (next_wr (i:=i) (by omega)) ?_
 exact⟨(i+1,f.choice k),⟨⟨by simp only;omega,hst⟩,by simp only;omega⟩,.refl,.cons .refl (.cons .refl (.cons .refl (.cons .refl (.cons .refl (.nil))))),.cons rfl (.cons rfl (.nil))⟩
theorem iSeq_spec (hk:IsAt I M a n ks) (hn:n≤140737488355328):Spec Tryz.prog 160 [d.val,x.val,.slice a n c] I M fun v I' M'=>v=(seqFi ks).val∧I'=I∧M'=M:=by
 refine spec_of_V [] TryzEOK Tryz.func160 rfl rfl rfl ?_
 intro B h0'
 have hkn:=hk.n
 refine LoopOb.inv (ι:=Nat×Fi) (fun s=>{ fl:=[(6,.ref 6 0),(7,.ref 7 0),(11,.val (.slice a n c)),(12,.val (.int .i64 n)),(13,.val (.int .i64 s.1))],cl:=[(6,fi0.cells),(7,s.2.cells)],gi:=I,mi:=M })
  (fun s=>s.1≤n∧s.2=seqFi (ks.take s.1)) (fun s=>n - s.1) ?_ ?_
 ·exact⟨(0,fiT),⟨Nat.zero_le _,rfl⟩,.refl,.cons .refl (.cons .refl (.cons .refl (.cons .refl (.cons .refl (.nil))))),.cons rfl (.cons rfl (.nil))⟩
 rintro⟨i,f⟩ ⟨hi,hf⟩
 simp only at hi hf
 refine CondOb.mk (fun h=>?_) (fun h=>?_)
 rotate_left
 ·have hge:n≤i:=by have:=of_decide_eq_false h;omega
  refine⟨_,_,.refl,?_,rfl,rfl⟩
  rw[List.take_of_length_le (by omega)] at hf
  rw[←hf]
  rfl
 have hlt:i < n:=by have:=of_decide_eq_true h;omega
 obtain⟨ad,had,hrd⟩:=hk.rd i (by omega)
 have hst:f.seq (ks[i]'(by omega))=seqFi (ks.take (i+1)):=by
  rw[List.take_succ_eq_append_getElem (by omega),seqFi,List.foldl_append,hf]
  rfl
 generalize ks[i]'(by omega)=k at hrd hst
 refine IdxOb.mk ad i had rfl hlt ?_
 refine LoadOb.mk _ hrd ?_
 refine CallOb.mk M [] _ perm_nil (ISeq_spec f k) ?_
 rintro v I' M' - ⟨rfl,rfl,rfl⟩
 rw[List.append_nil]
 refine ArithOb.mk _ (next_wr (i:=i) (by omega)) ?_
 exact⟨(i+1,f.seq k),⟨⟨by simp only;omega,hst⟩,by simp only;omega⟩,.refl,.cons .refl (.cons .refl (.cons .refl (.cons .refl (.cons .refl (.nil))))),.cons rfl (.cons rfl (.nil))⟩
end
def comeIs:List Nat:=[156,157,158,159,160,161,162,156,156,159]
def comeIv:List Value:=[.func (.func 156) #[] #[],.func (.func 157) #[] #[],.func (.func 158) #[] #[],.func (.func 159) #[] #[],.func (.func 160) #[] #[],.func (.func 161) #[] #[],.func (.func 162) #[] #[],.func (.func 156) #[] #[],.func (.func 156) #[] #[],.func (.func 159) #[] #[]]
theorem icomes_spec {I:GH}:Spec Tryz.prog 120 [] I [] fun v I' M'=>v=.agg comeIv.toArray∧I'=I∧M'=[]:=by
 refine spec_of_V [] TryzEOK Tryz.func120 rfl rfl rfl ?_
 intro B h0
 exact⟨_,_,.refl,rfl,rfl,rfl⟩
theorem icome_at {I:GH} {M:List Blk} {d:Nd} {x:Fl} {a:Option Addr} {n c:Nat} {ks:List Fi} (hu:u64ok d.s0∧u64ok d.s1∧u64ok d.s2∧u64ok d.s3) (hk:IsAt I M a n ks) (hn:n≤140737488355328) (j:Nat) (hj:j < 10) (hd:d.k=j) (h0:(j=3∨j=6∨j=9)→0 < n) (ht:j=2→1≤d.t.size) :
  Spec Tryz.prog (comeIs.getD j 0) [d.val,x.val,.slice a n c] I M fun v I' M'=>v=(comeFi d x ks).val∧I'=I∧M'=M:=by
 match j,hj,hd,h0,ht with
 | 0,_,hd,_,_=>rw[show comeFi d x ks=⟨.zero,x.suc⟩ by simp[comeFi,hd]];exact iFlows_spec (d:=d) (x:=x) (a:=a) (n:=n) (c:=c)
 | 1,_,hd,_,_=>rw[show comeFi d x ks=⟨d.ws,false⟩ by simp[comeFi,hd]];exact iBytes_spec (d:=d) (x:=x) (a:=a) (n:=n) (c:=c) hu
 | 2,_,hd,_,ht=>rw[show comeFi d x ks=textFi d.t by simp[comeFi,hd]];exact iText_spec (d:=d) (x:=x) (a:=a) (n:=n) (c:=c) (ht rfl)
 | 3,_,hd,h0,_=>rw[show comeFi d x ks=ks.headD fi0 by simp[comeFi,hd]];exact iItself_spec (d:=d) (x:=x) (c:=c) hk (h0 (by omega))
 | 4,_,hd,_,_=>rw[show comeFi d x ks=seqFi ks by simp[comeFi,hd]];exact iSeq_spec (d:=d) (x:=x) (c:=c) hk hn
 | 5,_,hd,_,_=>rw[show comeFi d x ks=chFi ks by simp[comeFi,hd]];exact iChoice_spec (d:=d) (x:=x) (c:=c) hk hn
 | 6,_,hd,h0,_=>rw[show comeFi d x ks=repFi d (ks.headD fi0) by simp[comeFi,hd]];exact iRep_spec (d:=d) (x:=x) (c:=c) hk (h0 (by omega))
 | 7,_,hd,_,_=>rw[show comeFi d x ks=⟨.zero,x.suc⟩ by simp[comeFi,hd]];exact iFlows_spec (d:=d) (x:=x) (a:=a) (n:=n) (c:=c)
 | 8,_,hd,_,_=>rw[show comeFi d x ks=⟨.zero,x.suc⟩ by simp[comeFi,hd]];exact iFlows_spec (d:=d) (x:=x) (a:=a) (n:=n) (c:=c)
 | 9,_,hd,h0,_=>rw[show comeFi d x ks=ks.headD fi0 by simp[comeFi,hd]];exact iItself_spec (d:=d) (x:=x) (c:=c) hk (h0 (by omega))
end Go.V
namespace Go.V
open Go Go.Proofs
theorem FsAt.mono {I I':GH} {M:List Blk} {a:Option Addr} {n:Nat} {ks:List Fl} (h:FsAt I M a n ks) (hI:∀ b o,I b=some o→I' b=some o):FsAt I' M a n ks:=
 ⟨h.n,fun j hj=>by
  obtain⟨ad,h1,h2⟩:=h.rd j hj
  exact⟨ad,h1,h2.mono hI⟩⟩
theorem FsAt.sub {I:GH} {M M':List Blk} {a:Option Addr} {n:Nat} {ks:List Fl} (h:FsAt I M a n ks) (hM:∀ x∈M,x∈M'):FsAt I M' a n ks:=
 ⟨h.n,fun j hj=>by
  obtain⟨ad,h1,h2⟩:=h.rd j hj
  exact⟨ad,h1,h2.sub hM⟩⟩
theorem flRow_at {I:GH} {M:List Blk} {b:Nat} {l:List Fl} (hM:flRow b l∈M):FsAt I M (some ⟨b,0,none⟩) l.length l:=
 ⟨rfl,fun j hj=>⟨_,rfl,flRow_rd hM hj⟩⟩
def nodesP (g:Gr) (fl:List Fl) (t:Tr):Option (List Fl):=bif decide (fl.length=g.n) && (right t && namedOk (placesL g.ds) t.ns) then some (nodesF (placesL g.ds) fl t.ns []) else none
set_option maxHeartbeats 4000000 in
theorem FNodes_spec {I:GH} {M0:List Blk} {deb:List Int} (hT:Tabs I deb) {g:Gr} (hg:g.ok I) {t:Tr} (ht:t.ok I) {la:Option Addr} {ln lc:Nat} {fl:List Fl} (hfl:FsAt I M0 la ln fl) :
  Spec Tryz.prog 44 [g.val,.slice la ln lc,t.val] I M0 fun v I' M'=>(∀ b o,I b=some o→I' b=some o) ∧
   ((nodesP g fl t=none∧v=.tuple #[.slice none 0 0,.bool false]∧M'=M0)∨∃ r b,nodesP g fl t=some r∧v=.tuple #[.slice (some ⟨b,0,none⟩) t.n t.n,.bool true]∧M'=flRow b r::M0):=by
 refine spec_of_V [] TryzEOK Tryz.func44 rfl rfl rfl ?_
 intro B h0
 have hgn:=hg.n
 have htn:=ht.n
 have hcap:=ht.rs.cap
 have hfn:=hfl.n
 refine GuardOb.mk (fun h=>?_) (fun h=>?_)
 rotate_left
 ·refine⟨_,_,.refl,fun _ _ h=>h,.inl ⟨?_,rfl,rfl⟩⟩
  have hne:¬ (ln:Int)=(g.n:Int):=by simpa using h
  have:decide (fl.length=g.n)=false:=decide_eq_false (by omega)
  simp[nodesP,this]
 have hln:ln=g.n:=by
  have:(ln:Int)=(g.n:Int):=by simpa using h
  omega
 have hd1:decide (fl.length=g.n)=true:=decide_eq_true (by omega)
 refine CallOb.mk [] M0 _ (.refl _) (Right_spec hT.c ht) ?_
 rintro v I1 M1 - ⟨rfl,rfl,rfl⟩
 refine CondOb.mk (fun h=>?_) (fun h=>?_)
 ·refine⟨_,_,.refl,fun _ _ h=>h,.inl ⟨?_,rfl,rfl⟩⟩
  have:right t=false:=by simpa using h
  simp[nodesP,this]
 have hr:right t=true:=by simpa using h
 refine CallOb.mk [] M0 _ (.refl _) (places_spec hg) ?_
 rintro v I2 M2 - ⟨hI2,rfl,gm,rfl,hgm⟩
 have ht2:=ht.mono hI2
 refine LoopOb.inv (ι:=Nat) (fun x=>{ fl:=[(1,.val (.slice la ln lc)),(3,.ref 3 0),(5,.ref 5 0),(8,.val (.map (some gm))),(27,.val (.slice t.a t.n t.c)),(28,.val (.int .i64 t.n)),(29,.val (.int .i64 x))],cl:=[(3,[.slice g.a g.n g.c]),(5,t.cells)],gi:=I2,mi:=M0 })
  (fun x=>x≤t.n∧∀ d∈t.ns.take x,(!decide (d.k=3) || (lookM d.t (placesL g.ds)).isSome)=true) (fun x=>t.n - x) ?_ ?_
 ·exact⟨0,⟨Nat.zero_le _,fun d hd=>by simp at hd⟩,.refl,.cons .refl (.cons .refl (.cons .refl (.cons .refl (.cons .refl (.cons .refl (.cons .refl .nil)))))),.cons rfl (.cons rfl .nil)⟩
 rintro i ⟨hi,hnm⟩
 refine CondOb.mk (fun h=>?_) (fun h=>?_)
 ·have hlt:i < t.n:=by have:(i:Int) < (t.n:Int):=of_decide_eq_true h;omega
  have hlt':i < t.ns.length:=by omega
  obtain⟨ad,had,hrd⟩:=ht2.rs.row Nd.cells_len hlt hlt'
  have htk:t.ns.take (i+1)=t.ns.take i++[t.ns[i]]:=List.take_succ_eq_append_getElem hlt'
  have hmem:=List.getElem_mem hlt'
  have next:(!decide (t.ns[i].k=3) || (lookM t.ns[i].t (placesL g.ds)).isSome)=true→∀ d∈t.ns.take (i+1),(!decide (d.k=3) || (lookM d.t (placesL g.ds)).isSome)=true:=fun h d hd=>by
   rw[htk] at hd
   rcases List.mem_append.1 hd with hd | hd
   ·exact hnm d hd
   ·simp only[List.mem_singleton] at hd
    rw[hd]
    exact h
  refine IdxOb.mk ad i had rfl hlt ?_
  refine LoadOb.mk _ (hrd _) ?_
  refine CondOb.mk (fun h3=>?_) (fun h3=>?_)
  ·refine ArithOb.mk _ (next_wr (i:=i) (by omega)) ?_
   refine⟨i+1,⟨⟨by omega,next ?_⟩,by omega⟩,.refl,.cons .refl (.cons .refl (.cons .refl (.cons .refl (.cons .refl (.cons .refl (.cons .refl .nil)))))),.cons rfl (.cons rfl .nil)⟩
   rw[show (!decide (t.ns[i].k=3))=true from h3]
   rfl
  ·refine OtherOb.lookupT TryzEOK rfl (by simp) rfl rfl rfl rfl (fun w=>zero_int w) (l:=placesL g.ds) (g:=gm) rfl rfl (.inl hgm) ?_
   refine CondOb.mk (fun h4=>?_) (fun h4=>?_)
   ·refine⟨_,_,.refl,hI2,.inl ⟨?_,rfl,rfl⟩⟩
    have h5:namedOk (placesL g.ds) t.ns=false:=by
     rw[namedOk,List.all_eq_false]
     refine⟨_,hmem,?_⟩
     have h6:(lookM t.ns[i].t (placesL g.ds)).isSome=false:=by simpa using h4
     rw[h6,show (!decide (t.ns[i].k=3))=false from h3]
     simp
    simp[nodesP,h5]
   ·refine ArithOb.mk _ (next_wr (i:=i) (by omega)) ?_
    refine⟨i+1,⟨⟨by omega,next ?_⟩,by omega⟩,.refl,.cons .refl (.cons .refl (.cons .refl (.cons .refl (.cons .refl (.cons .refl (.cons .refl .nil)))))),.cons rfl (.cons rfl .nil)⟩
    have h6:(lookM t.ns[i].t (placesL g.ds)).isSome=true:=by simpa using h4
    rw[h6]
    simp
 have hge:i=t.n:=by have:¬ (i:Int) < (t.n:Int):=of_decide_eq_false h;omega
 rw[List.take_of_length_le (by omega)] at hnm
 have hno:namedOk (placesL g.ds) t.ns=true:=List.all_eq_true.2 hnm
 have hca:=called_of hno
 rw[hgn,←hln] at hca
 refine CallOb.mk M0 [] _ perm_nil (fnodes_spec ht2 hr hgm (hfl.mono hI2) hca) ?_
 rintro v I3 M3 - ⟨rfl,b,rfl,rfl⟩
 rw[List.append_nil]
 exact⟨_,_,.refl,hI2,.inr ⟨_,b,by rw[nodesP,hd1,hr,hno];rfl,rfl,rfl⟩⟩
def treeP (g:Gr) (fl:List Fl) (t:Tr):Option Fl:=(nodesP g fl t).map fun r=>r.getD t.root.toNat fl0
theorem nodesP_len {g:Gr} {fl:List Fl} {t:Tr} {r:List Fl} (h:nodesP g fl t=some r):right t=true∧r.length=t.ns.length:=by
 unfold nodesP at h
 cases hb:decide (fl.length=g.n) && (right t && namedOk (placesL g.ds) t.ns) with
 | false=>rw[hb] at h;cases h
 | true=>
  rw[hb] at h
  simp only[cond_true,Option.some.injEq] at h
  simp only[Bool.and_eq_true] at hb
  refine⟨hb.2.1,?_⟩
  rw[←h,nodesF_len]
  simp
structure MayF (g:Gr):Prop where
 n:g.ds.length=g.n
 right:∀ d∈g.ds,right d.t=true
 named:∀ d∈g.ds,namedOk (placesL g.ds) d.t.ns=true
theorem mayF_of {deb:List Int} {g:Gr} (hn:g.ds.length=g.n) (h:mayG deb g=0):MayF g:=by
 refine⟨hn,fun d hd=>?_,may_named h⟩
 have:=List.all_eq_true.1 (may_ok h) d hd
 simp only[normal,Bool.and_eq_true] at this
 exact this.2.1
def ofM (b6 gm b5 bl b1:Nat) (g:Gr) (l:List Fl):List Blk:=[⟨b6,.cells #[.map (some gm)] 119 (0,0)⟩,⟨b5,.cells #[.slice (some ⟨bl,0,none⟩) g.n g.n] 74 (0,0)⟩,flRow bl l,⟨b1,.cells #[.slice g.a g.n g.c] 24 (0,0)⟩]
theorem perm_at2 {α:Type} (a b c d:α):[a,b,c,d].Perm ([c]++[a,b,d]):=List.perm_middle (l₁:=[a,b]) (l₂:=[d])
theorem perm_at3 {α:Type} (x a b c d:α):[x,a,b,c,d].Perm ([c]++[x,a,b,d]):=List.perm_middle (l₁:=[x,a,b]) (l₂:=[d])
theorem blk_rd0 {I:GH} {M:List Blk} {b:Nat} {f:Fl} (hM:(⟨b,.cells f.cells.toArray 80 (0,0)⟩:Blk)∈M):Rd I M (⟨b,0,none⟩:Addr) 3 f.cells:=⟨rfl,_,_,_,.inr ⟨_,hM,rfl,rfl⟩,rfl,rfl⟩
theorem ble_row {l:List Fl} {i:Nat} (hi:i < l.length) {x:Fl}:Nat.ble (0+i * 3+x.cells.length) (l.flatMap Fl.cells).length=true:=by
 rw[Nat.ble_eq,fl_len,Fl.cells_len]
 omega
theorem StoreOb.to {M:List Blk} {a:Addr} {vs:List Value} {K:List Blk→Prop} (pre post:List Blk) (cs:Array Value) (T:Nat) (hM:M=pre++⟨a.block,.cells cs T (0,0)⟩::post) (hs:a.spot=none) (hb:Nat.ble (a.off+vs.length) cs.size=true) (h1:allOne vs=true)
  (cs':List Value) (he:splice cs.toList a.off vs=cs') (k:K (pre++⟨a.block,.cells cs'.toArray T (0,0)⟩::post)):StoreOb M a vs K:=
 ⟨pre,post,cs,T,hM,hs,Nat.le_of_ble_eq_true hb,h1,by rw[he];exact k⟩
set_option maxRecDepth 100000 in
set_option maxHeartbeats 8000000 in
theorem Of1_spec {I:GH} {g:Gr} (hg:g.ok I) (hm:MayF g) {b6 gm b5 bl b1:Nat} (hgm:I gm=some (mapO (placesL g.ds))) {l0:List Fl} (hl0:PreF g.ds l0) :
  Spec Tryz.prog 82 [ptr b1,ptr b6,ptr b5] I (ofM b6 gm b5 bl b1 g l0) fun v I' M'=>v=.bool (decide (roundGo (placesL g.ds) 0 g.ds l0≠l0))∧I'=I∧M'=ofM b6 gm b5 bl b1 g (roundGo (placesL g.ds) 0 g.ds l0):=by
 refine spec_of_V [] TryzEOK Tryz.func82 rfl rfl rfl ?_
 intro B h0
 have hgn:=hg.n
 have hcap:=hg.rs.cap
 have rd1:∀ {M:List Blk},(⟨b1,.cells #[.slice g.a g.n g.c] 24 (0,0)⟩:Blk)∈M→Rd I M ((⟨b1,0,none⟩:Addr).add 0) 1 [.slice g.a g.n g.c]:=fun hM=>blk_rd (cs:=[.slice g.a g.n g.c]) (k:=0) (n:=1) hM (by simp)
 have rd6:∀ {M:List Blk},(⟨b6,.cells #[.map (some gm)] 119 (0,0)⟩:Blk)∈M→Rd I M (⟨b6,0,none⟩:Addr) 1 [.map (some gm)]:=fun hM=>⟨rfl,_,_,_,.inr ⟨_,hM,rfl,rfl⟩,rfl,rfl⟩
 have rd5:∀ {M:List Blk},(⟨b5,.cells #[.slice (some ⟨bl,0,none⟩) g.n g.n] 74 (0,0)⟩:Blk)∈M→Rd I M (⟨b5,0,none⟩:Addr) 1 [.slice (some ⟨bl,0,none⟩) g.n g.n]:=fun hM=>⟨rfl,_,_,_,.inr ⟨_,hM,rfl,rfl⟩,rfl,rfl⟩
 refine LoadOb.mk _ (rd1 (by simp[ofM])) ?_
 refine LoopOb.inv (ι:=Nat×List Fl) (fun x=>{ fl:=[(0,.val (ptr b1)),(1,.val (ptr b6)),(2,.val (ptr b5)),(4,.val (.bool (decide (x.2≠l0)))),(9,.val (.slice g.a g.n g.c)),(10,.val (.int .i64 g.n)),(11,.val (.int .i64 x.1))],gi:=I,mi:=ofM b6 gm b5 bl b1 g x.2 })
  (fun x=>x.1≤g.n∧PreF g.ds x.2∧LeL l0 x.2∧roundGo (placesL g.ds) 0 g.ds l0=roundGo (placesL g.ds) x.1 (g.ds.drop x.1) x.2) (fun x=>g.n - x.1) ?_ ?_
 ·refine⟨(0,l0),⟨Nat.zero_le _,hl0,LeL.refl _,rfl⟩,.refl,.cons .refl (.cons .refl (.cons .refl (.cons ?_ (.cons .refl (.cons .refl (.cons .refl .nil)))))),.nil⟩
  exact sv_lit (by simp)
 rintro⟨i,l⟩ ⟨hi,hP,hle,hgo⟩
 simp only at hi hP hle hgo
 have hll:=hP.len
 refine CondOb.mk (fun h=>?_) (fun h=>?_)
 rotate_left
 ·have hge:i=g.n:=by have:¬ (i:Int) < (g.n:Int):=of_decide_eq_false h;omega
  rw[List.drop_eq_nil_of_le (by omega),roundGo] at hgo
  exact⟨_,_,.refl,by rw[hgo],rfl,by rw[hgo]⟩
 have hlt:i < g.n:=by have:(i:Int) < (g.n:Int):=of_decide_eq_true h;omega
 have hlt':i < g.ds.length:=by omega
 have hil:i < l.length:=by omega
 obtain⟨ad,had,hrd⟩:=hg.rs.row Df.cells_len hlt hlt'
 have hdm:=List.getElem_mem hlt'
 have hd:=hg.ds _ hdm
 have hr:=hm.right _ hdm
 have hca:=called_of (hm.named _ hdm)
 rw[show g.ds.length=l.length from hll.symm] at hca
 obtain⟨hP',hle'⟩:=hP.step hlt'
 have hgo':roundGo (placesL g.ds) 0 g.ds l0=roundGo (placesL g.ds) (i+1) (g.ds.drop (i+1)) (l.set i (bodyF (placesL g.ds) l g.ds[i])):=by
  rw[hgo,List.drop_eq_getElem_cons hlt',roundGo]
 have hbody:bodyF (placesL g.ds) l g.ds[i]=(nodesF (placesL g.ds) l g.ds[i].t.ns []).getD g.ds[i].t.root.toNat fl0:=rfl
 generalize bodyF (placesL g.ds) l g.ds[i]=f at hP' hle' hgo' hbody
 generalize g.ds[i]=d at hrd hd hr hca hbody
 have hroot:=right_root hr
 have htn:=hd.t.n
 have hnl:=nodesF_len (placesL g.ds) l d.t.ns []
 simp only[List.length_nil,Nat.zero_add] at hnl
 have hrl:d.t.root.toNat < (nodesF (placesL g.ds) l d.t.ns []).length:=by omega
 have hfe:(nodesF (placesL g.ds) l d.t.ns [])[d.t.root.toNat]=f:=by
  rw[hbody]
  simp[List.getD_eq_getElem?_getD,hrl]
 have hspec:=fnodes_spec (M0:=[flRow bl l]) (ln:=l.length) (lc:=g.n) hd.t hr hgm (flRow_at (I:=I) (List.mem_singleton.2 rfl)) hca
 rw[show l.length=g.n by omega] at hspec
 refine IdxOb.mk ad i had rfl hlt ?_
 refine LoadOb.mk _ (hrd _) ?_
 have hlf:l.getD i fl0=l[i]:=by simp[List.getD_eq_getElem?_getD,hil]
 have more:(!decide (f=l[i]))=true→decide (l.set i f≠l0)=true:=fun h=>by
  have hne:f≠l[i]:=by simpa using h
  rw[decide_eq_true_eq]
  intro e
  have e2:l.set i f=l:=by
   refine LeL.antisymm ?_ hle'
   rw[e]
   exact hle
  have h3:=set_getD l i i f hil
  rw[e2,if_pos rfl,hlf] at h3
  exact hne h3.symm
 have same:(!decide (f=l[i]))=false→l.set i f=l:=fun h=>by
  have he:f=l[i]:=by simpa using h
  rw[he]
  exact List.set_getElem_self hil
 refine CodeOb.draw TryzEOK rfl rfl rfl ?_
 refine LoadOb.mk _ (rd6 (by simp[ofM])) ?_
 refine LoadOb.mk _ (rd5 (by simp[ofM])) ?_
 refine⟨?_,?_⟩
 ·refine PCallOb.mkR [flRow bl l] [⟨b6,.cells #[.map (some gm)] 119 (0,0)⟩,⟨b5,.cells #[.slice (some ⟨bl,0,none⟩) g.n g.n] 74 (0,0)⟩,⟨b1,.cells #[.slice g.a g.n g.c] 24 (0,0)⟩] _ (perm_at2 ..) hspec (fun v I' M' h x hx=>by obtain⟨-,b,-,rfl⟩:=h;exact .tail _ hx) ?_
  rintro v I2 M2 - ⟨rfl,b,rfl,rfl⟩
  refine IdxOb.mk ⟨b,0,none⟩ d.t.root.toNat rfl (by omega) (by omega) ?_
  refine LoadOb.mk _ (flRow_rd (.head _) hrl) ?_
  rw[hfe]
  refine AllocOb.mk fun b7 hb7 hbM7=>?_
  refine StoreOb.to [] [flRow b (nodesF (placesL g.ds) l d.t.ns []),flRow bl l,⟨b6,.cells #[.map (some gm)] 119 (0,0)⟩,⟨b5,.cells #[.slice (some ⟨bl,0,none⟩) g.n g.n] 74 (0,0)⟩,⟨b1,.cells #[.slice g.a g.n g.c] 24 (0,0)⟩] _ _ rfl rfl rfl rfl f.cells rfl ?_
  refine CodeOb.draw TryzEOK rfl rfl rfl ?_
  refine LoadOb.mk f.cells (blk_rd0 (by simp)) ?_
  refine LoadOb.mk _ (rd5 (by simp)) ?_
  refine IdxOb.mk ⟨bl,0,none⟩ i rfl rfl hlt ?_
  refine LoadOb.mk _ (flRow_rd (by simp) hil) ?_
  refine BinOb.neF (p:=f) (q:=l[i]) ?_
  refine CondOb.mk (fun h=>?_) (fun h=>?_)
  ·refine LoadOb.mk _ (rd5 (by simp)) ?_
   refine LoadOb.mk f.cells (blk_rd0 (by simp)) ?_
   refine IdxOb.mk ⟨bl,0,none⟩ i rfl rfl hlt ?_
   refine StoreOb.addTo [(⟨b7,.cells f.cells.toArray 80 (0,0)⟩:Blk),flRow b (nodesF (placesL g.ds) l d.t.ns [])] [⟨b6,.cells #[.map (some gm)] 119 (0,0)⟩,⟨b5,.cells #[.slice (some ⟨bl,0,none⟩) g.n g.n] 74 (0,0)⟩,⟨b1,.cells #[.slice g.a g.n g.c] 24 (0,0)⟩] (l.flatMap Fl.cells) _ rfl (ble_row hil) rfl ((l.set i f).flatMap Fl.cells) (by rw[Nat.zero_add];exact flRow_set l i hil f) ?_
   refine ArithOb.mk _ (next_wr (i:=i) (by omega)) ?_
   refine⟨(i+1,l.set i f),⟨⟨by simp only;omega,hP',hle.trans hle',hgo'⟩,by simp only;omega⟩,.sub (M1:=[flRow bl (l.set i f),⟨b6,.cells #[.map (some gm)] 119 (0,0)⟩,⟨b5,.cells #[.slice (some ⟨bl,0,none⟩) g.n g.n] 74 (0,0)⟩,⟨b1,.cells #[.slice g.a g.n g.c] 24 (0,0)⟩]) (by exact .cons _ (.cons _ (.refl _))) (.perm (perm_at2 ..).symm .refl),.cons .refl (.cons .refl (.cons .refl (.cons (sv_lit (more h).symm) (.cons .refl (.cons .refl (.cons .refl .nil)))))),.nil⟩
  ·have he:l.set i f=l:=same h
   rw[he] at hgo'
   refine ArithOb.mk _ (next_wr (i:=i) (by omega)) ?_
   exact⟨(i+1,l),⟨⟨by simp only;omega,hP,hle,hgo'⟩,by simp only;omega⟩,.sub (M1:=[flRow bl l,⟨b6,.cells #[.map (some gm)] 119 (0,0)⟩,⟨b5,.cells #[.slice (some ⟨bl,0,none⟩) g.n g.n] 74 (0,0)⟩,⟨b1,.cells #[.slice g.a g.n g.c] 24 (0,0)⟩]) (by exact .cons _ (.cons _ (.refl _))) (.perm (perm_at2 ..).symm .refl),.cons .refl (.cons .refl (.cons .refl (.cons .refl (.cons .refl (.cons .refl (.cons .refl .nil)))))),.nil⟩
 ·refine AllocOb.mk fun b7 hb7 hbM7=>?_
  refine PCallOb.mkR [flRow bl l] [(⟨b7,.cells fl0.cells.toArray 80 (0,0)⟩:Blk),⟨b6,.cells #[.map (some gm)] 119 (0,0)⟩,⟨b5,.cells #[.slice (some ⟨bl,0,none⟩) g.n g.n] 74 (0,0)⟩,⟨b1,.cells #[.slice g.a g.n g.c] 24 (0,0)⟩] _ (perm_at3 ..) hspec (fun v I' M' h x hx=>by obtain⟨-,b,-,rfl⟩:=h;exact .tail _ hx) ?_
  rintro v I2 M2 - ⟨rfl,b,rfl,rfl⟩
  refine IdxOb.mk ⟨b,0,none⟩ d.t.root.toNat rfl (by omega) (by omega) ?_
  refine LoadOb.mk _ (flRow_rd (.head _) hrl) ?_
  rw[hfe]
  refine StoreOb.to [flRow b (nodesF (placesL g.ds) l d.t.ns []),flRow bl l] [⟨b6,.cells #[.map (some gm)] 119 (0,0)⟩,⟨b5,.cells #[.slice (some ⟨bl,0,none⟩) g.n g.n] 74 (0,0)⟩,⟨b1,.cells #[.slice g.a g.n g.c] 24 (0,0)⟩] _ _ rfl rfl rfl rfl f.cells rfl ?_
  refine CodeOb.draw TryzEOK rfl rfl rfl ?_
  refine LoadOb.mk f.cells (blk_rd0 (by simp)) ?_
  refine LoadOb.mk _ (rd5 (by simp)) ?_
  refine IdxOb.mk ⟨bl,0,none⟩ i rfl rfl hlt ?_
  refine LoadOb.mk _ (flRow_rd (by simp) hil) ?_
  refine BinOb.neF (p:=f) (q:=l[i]) ?_
  refine CondOb.mk (fun h=>?_) (fun h=>?_)
  ·refine LoadOb.mk _ (rd5 (by simp)) ?_
   refine LoadOb.mk f.cells (blk_rd0 (by simp)) ?_
   refine IdxOb.mk ⟨bl,0,none⟩ i rfl rfl hlt ?_
   refine StoreOb.addTo [flRow b (nodesF (placesL g.ds) l d.t.ns [])] [(⟨b7,.cells f.cells.toArray 80 (0,0)⟩:Blk),⟨b6,.cells #[.map (some gm)] 119 (0,0)⟩,⟨b5,.cells #[.slice (some ⟨bl,0,none⟩) g.n g.n] 74 (0,0)⟩,⟨b1,.cells #[.slice g.a g.n g.c] 24 (0,0)⟩] (l.flatMap Fl.cells) _ rfl (ble_row hil) rfl ((l.set i f).flatMap Fl.cells) (by rw[Nat.zero_add];exact flRow_set l i hil f) ?_
   refine ArithOb.mk _ (next_wr (i:=i) (by omega)) ?_
   refine⟨(i+1,l.set i f),⟨⟨by simp only;omega,hP',hle.trans hle',hgo'⟩,by simp only;omega⟩,.sub (M1:=[flRow bl (l.set i f),⟨b6,.cells #[.map (some gm)] 119 (0,0)⟩,⟨b5,.cells #[.slice (some ⟨bl,0,none⟩) g.n g.n] 74 (0,0)⟩,⟨b1,.cells #[.slice g.a g.n g.c] 24 (0,0)⟩]) (by exact .cons _ (.cons_cons _ (.cons _ (.refl _)))) (.perm (perm_at2 ..).symm .refl),.cons .refl (.cons .refl (.cons .refl (.cons (sv_lit (more h).symm) (.cons .refl (.cons .refl (.cons .refl .nil)))))),.nil⟩
  ·have he:l.set i f=l:=same h
   rw[he] at hgo'
   refine ArithOb.mk _ (next_wr (i:=i) (by omega)) ?_
   exact⟨(i+1,l),⟨⟨by simp only;omega,hP,hle,hgo'⟩,by simp only;omega⟩,.sub (M1:=[flRow bl l,⟨b6,.cells #[.map (some gm)] 119 (0,0)⟩,⟨b5,.cells #[.slice (some ⟨bl,0,none⟩) g.n g.n] 74 (0,0)⟩,⟨b1,.cells #[.slice g.a g.n g.c] 24 (0,0)⟩]) (by exact .cons _ (.cons_cons _ (.cons _ (.refl _)))) (.perm (perm_at2 ..).symm .refl),.cons .refl (.cons .refl (.cons .refl (.cons .refl (.cons .refl (.cons .refl (.cons .refl .nil)))))),.nil⟩
set_option maxHeartbeats 4000000 in
theorem FOf_spec {I:GH} {deb:List Int} (hT:Tabs I deb) {g:Gr} (hg:g.ok I):Spec Tryz.prog 43 [g.val] I [] fun v I' M'=>(∀ b o,I b=some o→I' b=some o) ∧
  ((mayG deb g≠0∧v=.tuple #[.slice none 0 0,.int .i64 (mayG deb g)]∧M'=[])∨(mayG deb g=0∧∃ b l,v=.tuple #[.slice (some ⟨b,0,none⟩) g.n g.n,.int .i64 0]∧M'=[flRow b l]∧IsFlow g.ds l)):=by
 refine spec_of_V [1,5,6] TryzEOK Tryz.func43 rfl rfl rfl ?_
 intro B h0
 have hgn:=hg.n
 have hcap:=hg.rs.cap
 refine AllocOb.mk fun b1 hb1 hbM1=>?_
 refine LoadOb.mk [.slice g.a g.n g.c] ⟨rfl,_,_,_,.inr ⟨_,.head _,rfl,rfl⟩,rfl,rfl⟩ ?_
 refine CallOb.mk [] [⟨b1,.cells #[.slice g.a g.n g.c] 24 (0,0)⟩] _ (.refl _) (May_spec hT hg) ?_
 rintro v I1 M1 - ⟨rfl,hI1,rfl⟩
 refine CondOb.mk (fun h=>?_) (fun h=>?_)
 ·have hm:mayG deb g≠0:=by simpa using h
  exact⟨_,_,.sub (List.nil_sublist _) .refl,hI1,.inl ⟨hm,rfl,rfl⟩⟩
 have hm:mayG deb g=0:=by simpa using h
 have hM:=mayF_of hgn hm
 refine LoadOb.mk _ (blk_rd (b:=b1) (cs:=[.slice g.a g.n g.c]) (k:=0) (n:=1) (T:=24) (.head _) (by simp)) ?_
 refine MakeOb.mk g.n g.n rfl rfl (Nat.le_refl _) (by show 3 * g.n≤_;omega) (by omega) ?_
 refine AllocOb.mk fun bl hbl hbMl=>?_
 have e:rowOf fl0.cells (g.n * 3)=(List.replicate g.ds.length fl0).flatMap Fl.cells:=by rw[hgn];exact rowOf_fl g.n
 refine AllocOb.mk fun b5 hb5 hbM5=>?_
 refine StoreOb.to [] _ _ _ rfl rfl rfl rfl [.slice (some ⟨bl,0,none⟩) g.n g.n] rfl ?_
 refine LoadOb.mk [.slice g.a g.n g.c] ⟨rfl,_,_,_,.inr ⟨_,.tail _ (.tail _ (.head _)),rfl,rfl⟩,rfl,rfl⟩ ?_
 refine CallOb.mk [] _ _ (.refl _) (places_spec (hg.mono hI1)) ?_
 rintro v I2 M2 - ⟨hI2,rfl,gm,rfl,hgm⟩
 refine AllocOb.mk fun b6 hb6 hbM6=>?_
 refine StoreOb.to [] _ _ _ rfl rfl rfl rfl [.map (some gm)] rfl ?_
 refine LoopOb.inv (ι:=List Fl) (fun l=>{ fl:=[(5,.val (ptr b5)),(7,.val (.func (.func 82) #[] #[ptr b1,ptr b6,ptr b5]))],gi:=I2,mi:=ofM b6 gm b5 bl b1 g l }) (PreF g.ds) offs ?_ ?_
 ·refine⟨List.replicate g.ds.length fl0,.start g.ds,?_,.cons .refl (.cons .refl .nil),.nil⟩
  simp only[ofM,flRow]
  rw[←e]
  exact .refl
 intro l hl
 refine CallOb.mk (ofM b6 gm b5 bl b1 g l) [] _ (.refl _) (Of1_spec ((hg.mono hI1).mono hI2) hM hgm hl) ?_
 rintro v I3 M3 - ⟨rfl,rfl,rfl⟩
 obtain⟨r1,r2,-⟩:=roundGo_pre g.ds [] rfl hl
 refine CondOb.mk (fun h=>?_) (fun h=>?_)
 ·exact⟨_,⟨r1,offs_lt r2 (of_decide_eq_true h)⟩,.refl,.cons .refl (.cons .refl .nil),.nil⟩
 ·have hf:roundGo (placesL g.ds) 0 g.ds l=l:=by
   have:=of_decide_eq_false h
   exact Classical.not_not.1 this
  rw[hf]
  refine LoadOb.mk [.slice (some ⟨bl,0,none⟩) g.n g.n] ⟨rfl,_,_,_,.inr ⟨_,.tail _ (.head _),rfl,rfl⟩,rfl,rfl⟩ ?_
  refine⟨I3,[flRow bl l],.sub (.cons _ (.cons _ (.cons_cons _ (List.nil_sublist _)))) .refl,fun b o h=>hI2 _ _ (hI1 _ _ h),.inr ⟨hm,bl,l,rfl,rfl,hl.done hf⟩⟩
end Go.V
namespace Go.V
open Go Go.Proofs
def fiRow (b:Nat) (l:List Fi):Blk:=⟨b,.cells (l.flatMap Fi.cells).toArray 67 (0,0)⟩
theorem fi_len (l:List Fi):(l.flatMap Fi.cells).length=l.length * 5:=flat_len _ 5 Fi.cells_len l
theorem fiRow_rd {I:GH} {M:List Blk} {b:Nat} {l:List Fi} (hM:fiRow b l∈M) {j:Nat} (hj:j < l.length):Rd I M ((⟨b,0,none⟩:Addr).add (j * 5)) 5 l[j].cells:=by
 have h:=blk_rd (I:=I) (cs:=l.flatMap Fi.cells) (k:=j * 5) (n:=5) hM (by rw[fi_len];omega)
 rwa [flat_at Fi.cells 5 Fi.cells_len l j hj] at h
theorem fiRow_at {I:GH} {M:List Blk} {b:Nat} {l:List Fi} (hM:fiRow b l∈M):IsAt I M (some ⟨b,0,none⟩) l.length l:=
 ⟨rfl,fun j hj=>⟨_,rfl,fiRow_rd hM hj⟩⟩
theorem fiRow_set (l:List Fi) (j:Nat) (hj:j < l.length) (x:Fi):splice (l.flatMap Fi.cells) (j * 5) x.cells=(l.set j x).flatMap Fi.cells:=by
 have e:l.flatMap Fi.cells=(l.take j).flatMap Fi.cells++(l[j].cells++(l.drop (j+1)).flatMap Fi.cells):=by
  have h1:l=l.take j++(l[j]::l.drop (j+1)):=by rw[←List.drop_eq_getElem_cons hj,List.take_append_drop]
  have h2:=congrArg (fun q:List Fi=>q.flatMap Fi.cells) h1
  simp only[List.flatMap_append,List.flatMap_cons] at h2
  exact h2
 have hl:((l.take j).flatMap Fi.cells).length=j * 5:=by rw[fi_len,List.length_take];congr 1;omega
 unfold splice
 rw[List.set_eq_take_append_cons_drop,if_pos hj,List.flatMap_append,List.flatMap_cons,e,List.append_assoc]
 congr 1
 ·rw[←hl,List.take_left]
 ·congr 1
  rw[Fi.cells_len,←hl,←List.append_assoc,List.drop_left' (by rw[List.length_append,Fi.cells_len])]
theorem flatI_snoc (l:List Fi) (x:Fi):(l++[x]).flatMap Fi.cells=l.flatMap Fi.cells++x.cells:=by simp
theorem IsAt.mono {I I':GH} {M:List Blk} {a:Option Addr} {n:Nat} {ks:List Fi} (h:IsAt I M a n ks) (hI:∀ b o,I b=some o→I' b=some o):IsAt I' M a n ks:=
 ⟨h.n,fun j hj=>by
  obtain⟨ad,h1,h2⟩:=h.rd j hj
  exact⟨ad,h1,h2.mono hI⟩⟩
theorem IsAt.sub {I:GH} {M M':List Blk} {a:Option Addr} {n:Nat} {ks:List Fi} (h:IsAt I M a n ks) (hM:∀ x∈M,x∈M'):IsAt I M' a n ks:=
 ⟨h.n,fun j hj=>by
  obtain⟨ad,h1,h2⟩:=h.rd j hj
  exact⟨ad,h1,h2.sub hM⟩⟩
theorem OS.isAt {I:GH} {M:List Blk} {os:OS} {l:List Fi} {e:Nat} (h:os.ok 5 (l.flatMap Fi.cells)) (hM:∀ x∈os.blk e,x∈M):IsAt I M (os.a.map fun g=>⟨g,0,none⟩) os.n l:=by
 have hl:=h.len
 rw[fi_len] at hl
 refine⟨by omega,fun j hj=>?_⟩
 obtain⟨a,n,c,cur⟩:=os
 simp only at hl
 cases a with
 | none=>have:=(h.nil rfl).1;simp only at this;omega
 | some g=>
  obtain⟨h1,h2,h3,h4⟩:=h.cap g rfl
  simp only at h1 h2 h4
  refine⟨⟨g,0,none⟩,rfl,?_⟩
  have hm:(⟨g,.cells cur.toArray e (0,0)⟩:Blk)∈M:=hM _ (by simp[OS.blk])
  have hr:=blk_rd (I:=I) (cs:=cur) (k:=j * 5) (n:=5) hm (by omega)
  have e1:(cur.drop (j * 5)).take 5=((cur.take (n * 5)).drop (j * 5)).take 5:=by
   rw[List.drop_take,List.take_take]
   congr 1
   omega
  rw[e1,h4,flat_at Fi.cells 5 Fi.cells_len l j hj] at hr
  exact hr
theorem repI_at (acc:List Fi) (n i:Nat) (hl:acc.length=i) (hi:i < n) (x:Fi):(acc++List.replicate (n - i) fi0).set i x=(acc++[x])++List.replicate (n - (i+1)) fi0:=by
 subst hl
 rw[List.set_append_right _ _ (Nat.le_refl _),Nat.sub_self,show n - acc.length=(n - (acc.length+1))+1 by omega,List.replicate_succ,List.set_cons_zero]
 simp
theorem rowOf_flat {α:Type} (f:α→List Value) (z:α) (size:Nat) (hz:(f z).length=size) (h0:0 < size):∀ n:Nat,rowOf (f z) (n * size)=(List.replicate n z).flatMap f:=fun n=>by
 have hlen:((List.replicate n z).flatMap f).length=n * size:=by
  induction n with
  | zero=>simp
  | succ n ih=>rw[List.replicate_succ,List.flatMap_cons,List.length_append,ih,hz,Nat.add_mul];omega
 apply List.ext_getElem
 ·rw[hlen]
  simp[rowOf_eq,madeCells]
 intro i h1 h2
 have h3:i < n * size:=by rw[hlen] at h2;exact h2
 have key:∀ (n i:Nat) (h:i < ((List.replicate n z).flatMap f).length),((List.replicate n z).flatMap f)[i]=(f z)[i % size]!:=by
  intro n
  induction n with
  | zero=>intro i h;simp at h
  | succ n ih=>
   intro i h
   by_cases hi:i < size
   ·have e:((List.replicate (n+1) z).flatMap f)=f z++(List.replicate n z).flatMap f:=by rw[List.replicate_succ,List.flatMap_cons]
    simp only[e]
    rw[List.getElem_append_left (by omega),Nat.mod_eq_of_lt hi]
    rw[getElem!_pos (f z) i (by omega)]
   ·have e:((List.replicate (n+1) z).flatMap f)=f z++(List.replicate n z).flatMap f:=by rw[List.replicate_succ,List.flatMap_cons]
    simp only[e] at h ⊢
    rw[List.getElem_append_right (by omega)]
    have:=ih (i - (f z).length) (by rw[List.length_append] at h;omega)
    rw[this,hz,Nat.mod_eq_sub_mod (a:=i) (by omega)]
 rw[key n i h2]
 simp only[rowOf,List.getElem_map,List.getElem_range,hz]
theorem rowOf_fi (n:Nat):rowOf fi0.cells (n * 5)=(List.replicate n fi0).flatMap Fi.cells:=rowOf_flat Fi.cells fi0 5 rfl (by decide) n
theorem ble_fi {acc:List Fi} {n i:Nat} (hacc:acc.length=i) (hlt:i < n) (x:Fi):Nat.ble (0+i * 5+x.cells.length) ((acc++List.replicate (n - i) fi0).flatMap Fi.cells).length=true:=by
 rw[Nat.ble_eq,fi_len,Fi.cells_len,List.length_append,List.length_replicate]
 omega
theorem firstAt_findI (nm:ByteArray):∀ (ds:List Df) (i:Nat),firstAt nm ds i=bif decide (findAt nm ds i < 0) then none else some (findAt nm ds i)
 | [],i=>rfl
 | d::ds,i=>by
  unfold firstAt findAt
  rw[show decide (nm=d.name)=decide (d.name=nm) by rw[Bool.eq_iff_iff];simp[eq_comm]]
  cases decide (d.name=nm) with
  | true=>
   rw[cond_true,cond_true,decide_eq_false (by omega)]
   rfl
  | false=>
   rw[cond_false,cond_false]
   exact firstAt_findI nm ds (i+1)
theorem find_of_look {nm:ByteArray} {ds:List Df} {q:Int} (h:lookM nm (placesL ds)=some q):findAt nm ds 0=q:=by
 rw[places_first,firstAt_findI] at h
 cases hd:decide (findAt nm ds 0 < 0) with
 | true=>rw[hd] at h;cases h
 | false=>rw[hd] at h;simpa using h
theorem fits_text {d:Nd} {n:Int} (h:fits d n=true) (hk:d.k=2):1≤d.t.size:=by
 apply Nat.pos_of_ne_zero
 intro e
 have he:d.t=⟨#[]⟩:=ByteArray.ext (Array.eq_empty_of_size_eq_zero e)
 simp[fits,hk,he] at h
def KB (t:Tr):Prop:=∀ n∈t.ns,n.kn≤3000000000000
set_option maxRecDepth 100000 in
set_option maxHeartbeats 16000000 in
theorem inodes_spec {I:GH} {M0:List Blk} {g:Gr} (hg:g.ok I) {t:Tr} (ht:t.ok I) (hkb:KB t) (hr:right t=true) {la:Option Addr} {ln lc:Nat} {fl:List Fi} (hfl:IsAt I M0 la ln fl) (hc:Called (placesL g.ds) ln t.ns) {xa:Option Addr} {xc:Nat} {xs:List Fl} (hxs:FsAt I M0 xa t.n xs) :
  Spec Tryz.prog 78 [g.val,.slice la ln lc,t.val,.slice xa t.n xc] I M0 fun v I' M'=>I'=I∧∃ b,v=.slice (some ⟨b,0,none⟩) t.n t.n∧M'=fiRow b (nodesI (placesL g.ds) fl xs t.ns [])::M0:=by
 refine spec_of_V [] TryzEOK Tryz.func78 rfl rfl rfl ?_
 intro B h0
 have htn:=ht.n
 have hgn:=hg.n
 have hcap:=ht.rs.cap
 have hxn:=hxs.n
 refine CallOb.mk [] M0 _ (.refl _) icomes_spec ?_
 rintro v I1 M1 - ⟨rfl,rfl,rfl⟩
 refine MakeOb.mk t.n t.n rfl rfl (Nat.le_refl _) (by show 40 * t.n≤_;omega) (by omega) ?_
 refine AllocOb.mk fun b8 hb8 hbM8=>?_
 refine LoopOb.inv (ι:=Nat×List Fi×OS) (fun x=>{ fl:=[(1,.val (.slice la ln lc)),(3,.val (.slice xa t.n xc)),(4,.ref 4 0),(9,.ref 9 0),(10,.val (.slice (some ⟨b8,0,none⟩) t.n t.n)),(11,.val x.2.2.val),(22,.val (.slice t.a t.n t.c)),(23,.val (.int .i64 t.n)),(24,.val (.int .i64 x.1))],cl:=[(4,[.slice g.a g.n g.c]),(9,comeIv)],gi:=I1,mi:=fiRow b8 (x.2.1++List.replicate (t.n - x.1) fi0)::(x.2.2.blk 67++M0) })
  (fun x=>x.1≤t.n∧x.2.1.length=x.1∧nodesI (placesL g.ds) fl xs t.ns []=nodesI (placesL g.ds) fl xs (t.ns.drop x.1) x.2.1∧∃ ks,x.2.2.ok 5 ks) (fun x=>t.n - x.1) ?_ ?_
 ·refine⟨(0,[],OS0),⟨Nat.zero_le _,rfl,rfl,[],OS0_ok 5⟩,?_,.cons .refl (.cons .refl (.cons .refl (.cons .refl (.cons .refl (.cons .refl (.cons .refl (.cons .refl (.cons .refl (.nil))))))))),.cons rfl (.cons rfl (.nil))⟩
  have e:rowOf fi0.cells (t.n * 5)=(List.replicate t.n fi0).flatMap Fi.cells:=rowOf_fi t.n
  simp only[fiRow,List.nil_append,Nat.sub_zero]
  rw[←e]
  exact .refl
 rintro⟨i,acc,ko⟩ ⟨hi,hacc,hnf,kx,hko⟩
 simp only at hi hacc hnf hko
 refine CondOb.mk (fun h=>?_) (fun h=>?_)
 rotate_left
 ·have hge:i=t.n:=by have:¬ (i:Int) < (t.n:Int):=of_decide_eq_false h;omega
  subst hge
  rw[List.drop_eq_nil_of_le (by omega),nodesI] at hnf
  refine⟨I1,fiRow b8 (acc++List.replicate (t.n - t.n) fi0)::M0,.sub (.cons_cons _ (List.sublist_append_right _ _)) .refl,rfl,b8,rfl,?_⟩
  rw[hnf,Nat.sub_self,List.replicate_zero,List.append_nil]
 have hlt:i < t.n:=by have:(i:Int) < (t.n:Int):=of_decide_eq_true h;omega
 have hlt':i < t.ns.length:=by omega
 obtain⟨ad,had,hrd⟩:=ht.rs.row Nd.cells_len hlt hlt'
 have hdm:=List.getElem_mem hlt'
 have hd:=ht.ns _ hdm
 have hkn:=hd.kn
 have hkc:=hd.rs.cap
 have hkk3:=hkb _ hdm
 have hkv:=right_kids hr i hlt'
 have hft:=right_fits hr hlt'
 have hcd:=hc _ hdm
 obtain⟨ax,hax,hrx⟩:=hxs.rd i (by omega)
 have hxg:xs.getD i fl0=xs[i]'(by omega):=by simp[List.getD_eq_getElem?_getD,show i < xs.length by omega]
 have hnf':nodesI (placesL g.ds) fl xs t.ns []=nodesI (placesL g.ds) fl xs (t.ns.drop (i+1)) (acc++[comeFi t.ns[i] (xs[i]'(by omega)) (kidsI (placesL g.ds) fl acc t.ns[i])]):=by
  rw[hnf,List.drop_eq_getElem_cons hlt',nodesI,hacc,hxg]
 generalize xs[i]'(by omega)=x at hrx hnf'
 generalize t.ns[i]=d at hrd hd hkn hkc hkk3 hkv hft hcd hnf'
 have hk0:=hd.k.1
 have hk10:=fits_k hft
 have hu:u64ok d.s0∧u64ok d.s1∧u64ok d.s2∧u64ok d.s3:=⟨hd.s0,hd.s1,hd.s2,hd.s3⟩
 have htx:d.k=2→1≤d.t.size:=fits_text hft
 have hrow:∀ {M:List Blk} {q:Int},fiRow b8 (acc++List.replicate (t.n - i) fi0)∈M→q∈d.kids→Rd I1 M ((⟨b8,0,none⟩:Addr).add (q.toNat * 5)) 5 (acc.getD q.toNat fi0).cells:=fun {M q} hM hq=>by
  have hq':=hkv q hq
  have hql:q.toNat < acc.length:=by omega
  have:=fiRow_rd (I:=I1) hM (j:=q.toNat) (by rw[List.length_append];omega)
  rw[List.getElem_append_left hql] at this
  simpa[List.getD_eq_getElem?_getD,hql] using this
 refine IdxOb.mk ad i had rfl hlt ?_
 refine LoadOb.mk _ (hrd _) ?_
 refine SliceOb.mk 0 0 rfl rfl (Nat.le_refl _) (Nat.zero_le _) ?_
 refine LoopOb.inv (ι:=Nat×OS×List Fi) (fun s=>{ fl:=[(1,.val (.slice la ln lc)),(3,.val (.slice xa t.n xc)),(4,.ref 4 0),(9,.ref 9 0),(10,.val (.slice (some ⟨b8,0,none⟩) t.n t.n)),(11,.val s.2.1.val),(12,.val (.int .i64 i)),(13,.ref 13 0),(22,.val (.slice t.a t.n t.c)),(23,.val (.int .i64 t.n)),(24,.val (.int .i64 i)),(32,.val (.slice d.ka d.kn d.kc)),(33,.val (.int .i64 d.kn)),(34,.val (.int .i64 s.1))],cl:=[(4,[.slice g.a g.n g.c]),(9,comeIv),(13,d.cells)],gi:=I1,mi:=fiRow b8 (acc++List.replicate (t.n - i) fi0)::(s.2.1.blk 67++M0) })
  (fun s=>s.1≤d.kn∧s.2.1.ok 5 (s.2.2.flatMap Fi.cells)∧s.2.2=(d.kids.take s.1).map fun k=>acc.getD k.toNat fi0) (fun s=>d.kn - s.1) ?_ ?_
 ·exact⟨(0,⟨ko.a,0,ko.c,ko.cur⟩,[]),⟨Nat.zero_le _,OS.zero hko,rfl⟩,.refl,.cons .refl (.cons .refl (.cons .refl (.cons .refl (.cons .refl (.cons .refl (.cons .refl (.cons .refl (.cons .refl (.cons .refl (.cons .refl (.cons .refl (.cons .refl (.cons .refl (.nil)))))))))))))),.cons rfl (.cons rfl (.cons rfl (.nil)))⟩
 rintro⟨k,k2,kl⟩ ⟨hk,hk2,hkl⟩
 simp only at hk hk2 hkl
 have hk2n:k2.n=kl.length:=by have:=hk2.len;rw[fi_len] at this;omega
 have hkll:kl.length≤k:=by rw[hkl,List.length_map];exact List.length_take_le _ _
 refine CondOb.mk (fun h=>?_) (fun h=>?_)
 ·have hkk:k < d.kn:=by have:(k:Int) < (d.kn:Int):=of_decide_eq_true h;omega
  have hkk':k < d.kids.length:=by omega
  obtain⟨ak,hak,hrk⟩:=hd.rs.one hkk hkk'
  have hq:=hkv _ (List.getElem_mem hkk')
  refine IdxOb.mk ak k hak rfl hkk ?_
  refine LoadOb.mk _ (hrk _) ?_
  refine IdxOb.mk ⟨b8,0,none⟩ d.kids[k].toNat rfl (by omega) (by omega) ?_
  refine LoadOb.mk _ (hrow (.head _) (List.getElem_mem hkk')) ?_
  refine AllocOb.mk fun b9 hb9 hbM9=>?_
  refine OtherOb.app1 TryzEOK rfl (by simp) (e:=67) rfl rfl rfl k2 hk2 rfl (b9:=b9) (cs:=(acc.getD d.kids[k].toNat fi0).cells) rfl rfl rfl [fiRow b8 (acc++List.replicate (t.n - i) fi0)] M0 rfl (by omega) (by show (k2.n+1) * 40≤_;omega) ?_
  intro k3 e1 e2 e3
  refine ArithOb.mk _ (next_wr (i:=k) (by omega)) ?_
  refine⟨(k+1,k3,kl++[acc.getD d.kids[k].toNat fi0]),⟨⟨by simp only;omega,?_,?_⟩,by simp only;omega⟩,.refl,.cons .refl (.cons .refl (.cons .refl (.cons .refl (.cons .refl (.cons .refl (.cons .refl (.cons .refl (.cons .refl (.cons .refl (.cons .refl (.cons .refl (.cons .refl (.cons .refl (.nil)))))))))))))),.cons rfl (.cons rfl (.cons rfl (.nil)))⟩
  ·simp only
   rw[flatI_snoc]
   exact e3
  ·simp only
   rw[List.take_succ_eq_append_getElem hkk',List.map_append,←hkl]
   rfl
 have hge:d.kn≤k:=by have:¬ (k:Int) < (d.kn:Int):=of_decide_eq_false h;omega
 rw[List.take_of_length_le (by omega)] at hkl
 have hkln:kl.length=d.kids.length:=by rw[hkl,List.length_map]
 have hb2:k2.n+1≤140737488355328:=by omega
 clear h hk hkll
 have hset:∀ y:Fi,splice ((acc++List.replicate (t.n - i) fi0).flatMap Fi.cells) (0+i * 5) y.cells=((acc++[y])++List.replicate (t.n - (i+1)) fi0).flatMap Fi.cells:=fun y=>by
  rw[Nat.zero_add,fiRow_set _ _ (by simp;omega),repI_at acc t.n i hacc hlt]
 have hinv:∀ (ko2:OS) (ks2:List Value),ko2.ok 5 ks2→((i+1≤t.n∧(acc++[comeFi d x (kidsI (placesL g.ds) fl acc d)]).length=i+1∧nodesI (placesL g.ds) fl xs t.ns []=nodesI (placesL g.ds) fl xs (t.ns.drop (i+1)) (acc++[comeFi d x (kidsI (placesL g.ds) fl acc d)])∧∃ ks,ko2.ok 5 ks)∧t.n - (i+1) < t.n - i):=fun ko2 ks2 h2=>
  ⟨⟨hlt,by simp[hacc],hnf',ks2,h2⟩,by omega⟩
 by_cases h3:d.k=3
 ·refine CondOb.mk (fun _=>?_) (fun h=>absurd h (by simp[h3]))
  obtain⟨q,hq1,hq2⟩:=hcd h3
  have hkf:kidsI (placesL g.ds) fl acc d=kl++[fl.getD q fi0]:=by
   rw[kidsI,←hkl,hq1,h3]
   rfl
  have hql:q < fl.length:=by rw[hfl.n];exact hq2
  obtain⟨al,hal,hrl⟩:=hfl.rd q hql
  have hgq:fl.getD q fi0=fl[q]:=by simp[List.getD_eq_getElem?_getD,hql]
  have hfind:=find_of_look hq1
  refine CallOb.mk [] _ _ (.refl _) (Find_spec hg d.t) ?_
  rintro v I2 M2 - ⟨rfl,rfl,rfl⟩
  refine IdxOb.mk al q hal hfind hq2 ?_
  refine LoadOb.mk _ (hrl.sub fun x hx=>by simp[hx]) ?_
  refine AllocOb.mk fun b9 hb9 hbM9=>?_
  refine OtherOb.app1 TryzEOK rfl (by simp) (e:=67) rfl rfl rfl k2 hk2 rfl (b9:=b9) (cs:=fl[q].cells) rfl rfl rfl [fiRow b8 (acc++List.replicate (t.n - i) fi0)] M0 rfl (by omega) (by show (k2.n+1) * 40≤_;omega) ?_
  intro k3 e1 e2 e3
  rw[←flatI_snoc,←hgq,←hkf] at e3
  have hks:=OS.isAt (I:=I2) (M:=fiRow b8 (acc++List.replicate (t.n - i) fi0)::(k3.blk 67++M0)) (e:=67) e3 (fun x hx=>by simp[hx])
  obtain⟨dk,s0,s1,s2,s3,dt,lo,hi',dka,dkn,dkc,dkids⟩:=d
  simp only at h3
  subst h3
  refine CodeOb.draw TryzEOK rfl rfl rfl ?_
  refine ArrOb.mk 3 rfl (by decide) ?_
  refine IdxOb.mk ax i hax rfl hlt ?_
  refine LoadOb.mk _ (hrx.sub fun x hx=>by simp[hx]) ?_
  refine PCallOb.whole _ (icome_at (d:=⟨3,s0,s1,s2,s3,dt,lo,hi',dka,dkn,dkc,dkids⟩) (x:=x) hu hks (by omega) 3 (by decide) rfl (fun _=>by rw[e1];exact Nat.succ_pos _) (fun h=>absurd h (by decide))) (fun v I' M' h x hx=>by rw[h.2.2];exact hx) ?_
  rintro v I3 M3 - ⟨rfl,rfl,rfl⟩
  refine IdxOb.mk ⟨b8,0,none⟩ i rfl rfl hlt ?_
  refine StoreOb.addTo [] (k3.blk 67++M0) ((acc++List.replicate (t.n - i) fi0).flatMap Fi.cells) _ rfl (ble_fi hacc hlt _) rfl _ (hset _) ?_
  refine ArithOb.mk _ (next_wr (i:=i) (by omega)) ?_
  exact⟨(i+1,_,k3),hinv _ _ e3,.refl,.cons .refl (.cons .refl (.cons .refl (.cons .refl (.cons .refl (.cons .refl (.cons .refl (.cons .refl (.cons .refl (.nil))))))))),.cons rfl (.cons rfl (.nil))⟩
 refine CondOb.mk (fun h=>absurd (of_decide_eq_true h) h3) (fun _=>?_)
 have hkf:kidsI (placesL g.ds) fl acc d=kl:=by
  rw[kidsI,←hkl,decide_eq_false h3]
  simp
 rw[hkf] at hinv
 have hks:=OS.isAt (I:=I1) (M:=fiRow b8 (acc++List.replicate (t.n - i) fi0)::(k2.blk 67++M0)) (e:=67) hk2 (fun x hx=>by simp[hx])
 have hpos:6≤d.k→0 < k2.n:=fun h6=>by
  have:=fits_kid hk0 hft h6
  omega
 have hcases:d.k=0∨d.k=1∨d.k=2∨d.k=4∨d.k=5∨d.k=6∨d.k=7∨d.k=8∨d.k=9:=by omega
 obtain⟨dk,s0,s1,s2,s3,dt,lo,hi',dka,dkn,dkc,dkids⟩:=d
 simp only at hcases hpos h3 htx
 refine CodeOb.draw TryzEOK rfl rfl rfl ?_
 rcases hcases with rfl | rfl | rfl | rfl | rfl | rfl | rfl | rfl | rfl
 ·refine ArrOb.mk 0 rfl (by decide) ?_
  refine IdxOb.mk ax i hax rfl hlt ?_
  refine LoadOb.mk _ (hrx.sub fun x hx=>by simp[hx]) ?_
  refine PCallOb.whole _ (icome_at (d:=⟨0,s0,s1,s2,s3,dt,lo,hi',dka,dkn,dkc,dkids⟩) (x:=x) hu hks (Nat.le_of_succ_le hb2) 0 (by decide) rfl (fun h=>by omega) (fun h=>absurd h (by decide))) (fun v I' M' h x hx=>by rw[h.2.2];exact hx) ?_
  rintro v I2 M2 - ⟨rfl,rfl,rfl⟩
  refine IdxOb.mk ⟨b8,0,none⟩ i rfl rfl hlt ?_
  refine StoreOb.addTo [] (k2.blk 67++M0) ((acc++List.replicate (t.n - i) fi0).flatMap Fi.cells) _ rfl (ble_fi hacc hlt _) rfl _ (hset _) ?_
  refine ArithOb.mk _ (next_wr (i:=i) (by omega)) ?_
  exact⟨(i+1,_,k2),hinv _ _ hk2,.refl,.cons .refl (.cons .refl (.cons .refl (.cons .refl (.cons .refl (.cons .refl (.cons .refl (.cons .refl (.cons .refl (.nil))))))))),.cons rfl (.cons rfl (.nil))⟩
 ·refine ArrOb.mk 1 rfl (by decide) ?_
  refine IdxOb.mk ax i hax rfl hlt ?_
  refine LoadOb.mk _ (hrx.sub fun x hx=>by simp[hx]) ?_
  refine PCallOb.whole _ (icome_at (d:=⟨1,s0,s1,s2,s3,dt,lo,hi',dka,dkn,dkc,dkids⟩) (x:=x) hu hks (Nat.le_of_succ_le hb2) 1 (by decide) rfl (fun h=>by omega) (fun h=>absurd h (by decide))) (fun v I' M' h x hx=>by rw[h.2.2];exact hx) ?_
  rintro v I2 M2 - ⟨rfl,rfl,rfl⟩
  refine IdxOb.mk ⟨b8,0,none⟩ i rfl rfl hlt ?_
  refine StoreOb.addTo [] (k2.blk 67++M0) ((acc++List.replicate (t.n - i) fi0).flatMap Fi.cells) _ rfl (ble_fi hacc hlt _) rfl _ (hset _) ?_
  refine ArithOb.mk _ (next_wr (i:=i) (by omega)) ?_
  exact⟨(i+1,_,k2),hinv _ _ hk2,.refl,.cons .refl (.cons .refl (.cons .refl (.cons .refl (.cons .refl (.cons .refl (.cons .refl (.cons .refl (.cons .refl (.nil))))))))),.cons rfl (.cons rfl (.nil))⟩
 ·refine ArrOb.mk 2 rfl (by decide) ?_
  refine IdxOb.mk ax i hax rfl hlt ?_
  refine LoadOb.mk _ (hrx.sub fun x hx=>by simp[hx]) ?_
  refine PCallOb.whole _ (icome_at (d:=⟨2,s0,s1,s2,s3,dt,lo,hi',dka,dkn,dkc,dkids⟩) (x:=x) hu hks (Nat.le_of_succ_le hb2) 2 (by decide) rfl (fun h=>by omega) (fun _=>htx rfl)) (fun v I' M' h x hx=>by rw[h.2.2];exact hx) ?_
  rintro v I2 M2 - ⟨rfl,rfl,rfl⟩
  refine IdxOb.mk ⟨b8,0,none⟩ i rfl rfl hlt ?_
  refine StoreOb.addTo [] (k2.blk 67++M0) ((acc++List.replicate (t.n - i) fi0).flatMap Fi.cells) _ rfl (ble_fi hacc hlt _) rfl _ (hset _) ?_
  refine ArithOb.mk _ (next_wr (i:=i) (by omega)) ?_
  exact⟨(i+1,_,k2),hinv _ _ hk2,.refl,.cons .refl (.cons .refl (.cons .refl (.cons .refl (.cons .refl (.cons .refl (.cons .refl (.cons .refl (.cons .refl (.nil))))))))),.cons rfl (.cons rfl (.nil))⟩
 ·refine ArrOb.mk 4 rfl (by decide) ?_
  refine IdxOb.mk ax i hax rfl hlt ?_
  refine LoadOb.mk _ (hrx.sub fun x hx=>by simp[hx]) ?_
  refine PCallOb.whole _ (icome_at (d:=⟨4,s0,s1,s2,s3,dt,lo,hi',dka,dkn,dkc,dkids⟩) (x:=x) hu hks (Nat.le_of_succ_le hb2) 4 (by decide) rfl (fun h=>by omega) (fun h=>absurd h (by decide))) (fun v I' M' h x hx=>by rw[h.2.2];exact hx) ?_
  rintro v I2 M2 - ⟨rfl,rfl,rfl⟩
  refine IdxOb.mk ⟨b8,0,none⟩ i rfl rfl hlt ?_
  refine StoreOb.addTo [] (k2.blk 67++M0) ((acc++List.replicate (t.n - i) fi0).flatMap Fi.cells) _ rfl (ble_fi hacc hlt _) rfl _ (hset _) ?_
  refine ArithOb.mk _ (next_wr (i:=i) (by omega)) ?_
  exact⟨(i+1,_,k2),hinv _ _ hk2,.refl,.cons .refl (.cons .refl (.cons .refl (.cons .refl (.cons .refl (.cons .refl (.cons .refl (.cons .refl (.cons .refl (.nil))))))))),.cons rfl (.cons rfl (.nil))⟩
 ·refine ArrOb.mk 5 rfl (by decide) ?_
  refine IdxOb.mk ax i hax rfl hlt ?_
  refine LoadOb.mk _ (hrx.sub fun x hx=>by simp[hx]) ?_
  refine PCallOb.whole _ (icome_at (d:=⟨5,s0,s1,s2,s3,dt,lo,hi',dka,dkn,dkc,dkids⟩) (x:=x) hu hks (Nat.le_of_succ_le hb2) 5 (by decide) rfl (fun h=>by omega) (fun h=>absurd h (by decide))) (fun v I' M' h x hx=>by rw[h.2.2];exact hx) ?_
  rintro v I2 M2 - ⟨rfl,rfl,rfl⟩
  refine IdxOb.mk ⟨b8,0,none⟩ i rfl rfl hlt ?_
  refine StoreOb.addTo [] (k2.blk 67++M0) ((acc++List.replicate (t.n - i) fi0).flatMap Fi.cells) _ rfl (ble_fi hacc hlt _) rfl _ (hset _) ?_
  refine ArithOb.mk _ (next_wr (i:=i) (by omega)) ?_
  exact⟨(i+1,_,k2),hinv _ _ hk2,.refl,.cons .refl (.cons .refl (.cons .refl (.cons .refl (.cons .refl (.cons .refl (.cons .refl (.cons .refl (.cons .refl (.nil))))))))),.cons rfl (.cons rfl (.nil))⟩
 ·refine ArrOb.mk 6 rfl (by decide) ?_
  refine IdxOb.mk ax i hax rfl hlt ?_
  refine LoadOb.mk _ (hrx.sub fun x hx=>by simp[hx]) ?_
  refine PCallOb.whole _ (icome_at (d:=⟨6,s0,s1,s2,s3,dt,lo,hi',dka,dkn,dkc,dkids⟩) (x:=x) hu hks (Nat.le_of_succ_le hb2) 6 (by decide) rfl (fun _=>hpos (by decide)) (fun h=>absurd h (by decide))) (fun v I' M' h x hx=>by rw[h.2.2];exact hx) ?_
  rintro v I2 M2 - ⟨rfl,rfl,rfl⟩
  refine IdxOb.mk ⟨b8,0,none⟩ i rfl rfl hlt ?_
  refine StoreOb.addTo [] (k2.blk 67++M0) ((acc++List.replicate (t.n - i) fi0).flatMap Fi.cells) _ rfl (ble_fi hacc hlt _) rfl _ (hset _) ?_
  refine ArithOb.mk _ (next_wr (i:=i) (by omega)) ?_
  exact⟨(i+1,_,k2),hinv _ _ hk2,.refl,.cons .refl (.cons .refl (.cons .refl (.cons .refl (.cons .refl (.cons .refl (.cons .refl (.cons .refl (.cons .refl (.nil))))))))),.cons rfl (.cons rfl (.nil))⟩
 ·refine ArrOb.mk 7 rfl (by decide) ?_
  refine IdxOb.mk ax i hax rfl hlt ?_
  refine LoadOb.mk _ (hrx.sub fun x hx=>by simp[hx]) ?_
  refine PCallOb.whole _ (icome_at (d:=⟨7,s0,s1,s2,s3,dt,lo,hi',dka,dkn,dkc,dkids⟩) (x:=x) hu hks (Nat.le_of_succ_le hb2) 7 (by decide) rfl (fun h=>by omega) (fun h=>absurd h (by decide))) (fun v I' M' h x hx=>by rw[h.2.2];exact hx) ?_
  rintro v I2 M2 - ⟨rfl,rfl,rfl⟩
  refine IdxOb.mk ⟨b8,0,none⟩ i rfl rfl hlt ?_
  refine StoreOb.addTo [] (k2.blk 67++M0) ((acc++List.replicate (t.n - i) fi0).flatMap Fi.cells) _ rfl (ble_fi hacc hlt _) rfl _ (hset _) ?_
  refine ArithOb.mk _ (next_wr (i:=i) (by omega)) ?_
  exact⟨(i+1,_,k2),hinv _ _ hk2,.refl,.cons .refl (.cons .refl (.cons .refl (.cons .refl (.cons .refl (.cons .refl (.cons .refl (.cons .refl (.cons .refl (.nil))))))))),.cons rfl (.cons rfl (.nil))⟩
 ·refine ArrOb.mk 8 rfl (by decide) ?_
  refine IdxOb.mk ax i hax rfl hlt ?_
  refine LoadOb.mk _ (hrx.sub fun x hx=>by simp[hx]) ?_
  refine PCallOb.whole _ (icome_at (d:=⟨8,s0,s1,s2,s3,dt,lo,hi',dka,dkn,dkc,dkids⟩) (x:=x) hu hks (Nat.le_of_succ_le hb2) 8 (by decide) rfl (fun h=>by omega) (fun h=>absurd h (by decide))) (fun v I' M' h x hx=>by rw[h.2.2];exact hx) ?_
  rintro v I2 M2 - ⟨rfl,rfl,rfl⟩
  refine IdxOb.mk ⟨b8,0,none⟩ i rfl rfl hlt ?_
  refine StoreOb.addTo [] (k2.blk 67++M0) ((acc++List.replicate (t.n - i) fi0).flatMap Fi.cells) _ rfl (ble_fi hacc hlt _) rfl _ (hset _) ?_
  refine ArithOb.mk _ (next_wr (i:=i) (by omega)) ?_
  exact⟨(i+1,_,k2),hinv _ _ hk2,.refl,.cons .refl (.cons .refl (.cons .refl (.cons .refl (.cons .refl (.cons .refl (.cons .refl (.cons .refl (.cons .refl (.nil))))))))),.cons rfl (.cons rfl (.nil))⟩
 ·refine ArrOb.mk 9 rfl (by decide) ?_
  refine IdxOb.mk ax i hax rfl hlt ?_
  refine LoadOb.mk _ (hrx.sub fun x hx=>by simp[hx]) ?_
  refine PCallOb.whole _ (icome_at (d:=⟨9,s0,s1,s2,s3,dt,lo,hi',dka,dkn,dkc,dkids⟩) (x:=x) hu hks (Nat.le_of_succ_le hb2) 9 (by decide) rfl (fun _=>hpos (by decide)) (fun h=>absurd h (by decide))) (fun v I' M' h x hx=>by rw[h.2.2];exact hx) ?_
  rintro v I2 M2 - ⟨rfl,rfl,rfl⟩
  refine IdxOb.mk ⟨b8,0,none⟩ i rfl rfl hlt ?_
  refine StoreOb.addTo [] (k2.blk 67++M0) ((acc++List.replicate (t.n - i) fi0).flatMap Fi.cells) _ rfl (ble_fi hacc hlt _) rfl _ (hset _) ?_
  refine ArithOb.mk _ (next_wr (i:=i) (by omega)) ?_
  exact⟨(i+1,_,k2),hinv _ _ hk2,.refl,.cons .refl (.cons .refl (.cons .refl (.cons .refl (.cons .refl (.cons .refl (.cons .refl (.cons .refl (.cons .refl (.nil))))))))),.cons rfl (.cons rfl (.nil))⟩
end Go.V
namespace Go.V
open Go Go.Proofs
def rowV (b:Nat) (n:Nat):Value:=.slice (some ⟨b,0,none⟩) n n
structure RowsF (I:GH) (pl:List (ByteArray×Int)) (F:List Fl) (ds:List Df) (k:Nat) (rows:List Value):Prop where
 len:rows.length=ds.length
 row:∀ i (h:i < ds.length),i < k→∃ b,rows[i]?=some (rowV b ds[i].t.n)∧I b=some (flRow b (nodesF pl F ds[i].t.ns [])).obj
theorem flRow_kn {I:GH} {M:List Blk} {b:Nat} {l:List Fl} (h:I b=some (flRow b l).obj):FsAt I M (some ⟨b,0,none⟩) l.length l:=
 ⟨rfl,fun j hj=>⟨_,rfl,by
  have h1:=flRow_rd (I:=I) (M:=[flRow b l]) (.head _) hj
  obtain⟨q1,cs,T,f,q2,q3,q4⟩:=h1
  rw[addr_add _ rfl] at q2 ⊢
  refine⟨rfl,(l.flatMap Fl.cells).toArray,_,_,.inl h,?_,q4⟩
  rcases q2 with q2 | ⟨x,hx,e1,e2⟩
  ·rw[addr_add _ rfl] at q3
   have:some (Obj.cells cs T f)=some (flRow b l).obj:=q2.symm.trans h
   simp only[flRow,Option.some.injEq,Obj.cells.injEq] at this
   rw[←this.1]
   exact q3
  ·simp only[List.mem_singleton] at hx
   subst hx
   rw[addr_add _ rfl] at q3
   simp only[flRow,Obj.cells.injEq] at e2
   rw[e2.1]
   exact q3⟩⟩
def iM (b6 bl b7 bF b1:Nat) (g:Gr) (l:List Fi) (rows:List Value):List Blk:=[⟨b6,.cells #[.slice (some ⟨bl,0,none⟩) g.n g.n] 49 (0,0)⟩,⟨b7,.cells #[.slice (some ⟨bF,0,none⟩) g.n g.n] 134 (0,0)⟩,fiRow bl l,⟨bF,.cells rows.toArray 74 (0,0)⟩,⟨b1,.cells #[.slice g.a g.n g.c] 24 (0,0)⟩]
theorem blkI_rd0 {I:GH} {M:List Blk} {b:Nat} {f:Fi} (hM:(⟨b,.cells f.cells.toArray 67 (0,0)⟩:Blk)∈M):Rd I M (⟨b,0,none⟩:Addr) 5 f.cells:=⟨rfl,_,_,_,.inr ⟨_,hM,rfl,rfl⟩,rfl,rfl⟩
theorem ble_rowI {l:List Fi} {i:Nat} (hi:i < l.length) {x:Fi}:Nat.ble (0+i * 5+x.cells.length) (l.flatMap Fi.cells).length=true:=by
 rw[Nat.ble_eq,fi_len,Fi.cells_len]
 omega
theorem splice_oneI (l:List Value) (k:Nat) (v:Value) (h:k < l.length):splice l k [v]=l.set k v:=by
 rw[splice,List.set_eq_take_append_cons_drop,if_pos h]
 simp
theorem roundR_step {α:Type} (body:List α→Nat→α) {i n:Nat} (h:i < n) (l:List α):roundR body i (n - i) l=roundR body (i+1) (n - (i+1)) (l.set i (body l i)):=by
 rw[show n - i=(n - (i+1))+1 by omega,roundR]
theorem bodyI_mono' {pl:List (ByteArray×Int)} {F:List Fl} {ds:List Df} {n:Nat}:∀ {l m:List Fi},LeR OI l m→∀ i,i < n→OI.le (bodyI pl F ds l i) (bodyI pl F ds m i):=fun h i _=>bodyI_mono h i
set_option maxRecDepth 100000 in
set_option maxHeartbeats 8000000 in
theorem IOf1_spec {I:GH} {g:Gr} (hg:g.ok I) (hkb:∀ d∈g.ds,KB d.t) (hm:MayF g) {F:List Fl} {rows:List Value} (hrows:RowsF I (placesL g.ds) F g.ds g.ds.length rows) {b6 bl b7 bF b1:Nat} {l0:List Fi} (hl0:PreI g.ds F l0) :
  Spec Tryz.prog 77 [ptr b1,ptr b6,ptr b7] I (iM b6 bl b7 bF b1 g l0 rows) fun v I' M'=>v=.bool (decide (roundR (bodyI (placesL g.ds) F g.ds) 0 g.n l0≠l0))∧I'=I∧M'=iM b6 bl b7 bF b1 g (roundR (bodyI (placesL g.ds) F g.ds) 0 g.n l0) rows:=by
 refine spec_of_V [] TryzEOK Tryz.func77 rfl rfl rfl ?_
 intro B h0
 have hgn:=hg.n
 have hcap:=hg.rs.cap
 have rd1:∀ {M:List Blk},(⟨b1,.cells #[.slice g.a g.n g.c] 24 (0,0)⟩:Blk)∈M→Rd I M ((⟨b1,0,none⟩:Addr).add 0) 1 [.slice g.a g.n g.c]:=fun hM=>blk_rd (cs:=[.slice g.a g.n g.c]) (k:=0) (n:=1) hM (by simp)
 have rd1':∀ {M:List Blk},(⟨b1,.cells #[.slice g.a g.n g.c] 24 (0,0)⟩:Blk)∈M→Rd I M (⟨b1,0,none⟩:Addr) 1 [.slice g.a g.n g.c]:=fun hM=>⟨rfl,_,_,_,.inr ⟨_,hM,rfl,rfl⟩,rfl,rfl⟩
 have rd6:∀ {M:List Blk},(⟨b6,.cells #[.slice (some ⟨bl,0,none⟩) g.n g.n] 49 (0,0)⟩:Blk)∈M→Rd I M (⟨b6,0,none⟩:Addr) 1 [.slice (some ⟨bl,0,none⟩) g.n g.n]:=fun hM=>⟨rfl,_,_,_,.inr ⟨_,hM,rfl,rfl⟩,rfl,rfl⟩
 have rd7:∀ {M:List Blk},(⟨b7,.cells #[.slice (some ⟨bF,0,none⟩) g.n g.n] 134 (0,0)⟩:Blk)∈M→Rd I M (⟨b7,0,none⟩:Addr) 1 [.slice (some ⟨bF,0,none⟩) g.n g.n]:=fun hM=>⟨rfl,_,_,_,.inr ⟨_,hM,rfl,rfl⟩,rfl,rfl⟩
 refine LoadOb.mk _ (rd1 (by simp[iM])) ?_
 refine LoopOb.inv (ι:=Nat×List Fi) (fun x=>{ fl:=[(0,.val (ptr b1)),(1,.val (ptr b6)),(2,.val (ptr b7)),(4,.val (.bool (decide (x.2≠l0)))),(9,.val (.slice g.a g.n g.c)),(10,.val (.int .i64 g.n)),(11,.val (.int .i64 x.1))],gi:=I,mi:=iM b6 bl b7 bF b1 g x.2 rows })
  (fun x=>x.1≤g.n∧PreI g.ds F x.2∧LeR OI l0 x.2∧roundR (bodyI (placesL g.ds) F g.ds) 0 g.n l0=roundR (bodyI (placesL g.ds) F g.ds) x.1 (g.n - x.1) x.2) (fun x=>g.n - x.1) ?_ ?_
 ·refine⟨(0,l0),⟨Nat.zero_le _,hl0,LeR.refl _,rfl⟩,.refl,.cons .refl (.cons .refl (.cons .refl (.cons ?_ (.cons .refl (.cons .refl (.cons .refl .nil)))))),.nil⟩
  exact sv_lit (by simp)
 rintro⟨i,l⟩ ⟨hi,hP,hle,hgo⟩
 simp only at hi hP hle hgo
 have hll:=hP.len
 refine CondOb.mk (fun h=>?_) (fun h=>?_)
 rotate_left
 ·have hge:i=g.n:=by have:¬ (i:Int) < (g.n:Int):=of_decide_eq_false h;omega
  rw[hge,Nat.sub_self,roundR] at hgo
  exact⟨_,_,.refl,by rw[hgo],rfl,by rw[hgo]⟩
 have hlt:i < g.n:=by have:(i:Int) < (g.n:Int):=of_decide_eq_true h;omega
 have hlt':i < g.ds.length:=by omega
 have hil:i < l.length:=by omega
 obtain⟨ad,had,hrd⟩:=hg.rs.row Df.cells_len hlt hlt'
 have hdm:=List.getElem_mem hlt'
 have hd:=hg.ds _ hdm
 have hr:=hm.right _ hdm
 have hkbd:=hkb _ hdm
 have hca:=called_of (hm.named _ hdm)
 rw[show g.ds.length=l.length from hll.symm] at hca
 obtain⟨hP',hle'⟩:=PreR.step bodyI_mono' hP hlt'
 have hgo':roundR (bodyI (placesL g.ds) F g.ds) 0 g.n l0=roundR (bodyI (placesL g.ds) F g.ds) (i+1) (g.n - (i+1)) (l.set i (bodyI (placesL g.ds) F g.ds l i)):=by
  rw[hgo,roundR_step _ hlt]
 obtain⟨bk,hbk1,hbk2⟩:=hrows.row i hlt' hlt'
 have hrl2:i < rows.length:=by rw[hrows.len];exact hlt'
 have hbody:bodyI (placesL g.ds) F g.ds l i=(nodesI (placesL g.ds) l (nodesF (placesL g.ds) F g.ds[i].t.ns []) g.ds[i].t.ns []).getD g.ds[i].t.root.toNat fi0:=by
  unfold bodyI
  rw[List.getElem?_eq_getElem hlt']
 generalize bodyI (placesL g.ds) F g.ds l i=f at hP' hle' hgo' hbody
 generalize g.ds[i]=d at hrd hd hr hkbd hca hbody hbk1 hbk2
 have hroot:=right_root hr
 have htn:=hd.t.n
 have hxl:=nodesF_len (placesL g.ds) F d.t.ns []
 simp only[List.length_nil,Nat.zero_add] at hxl
 have hnl:=nodesI_len (placesL g.ds) l (nodesF (placesL g.ds) F d.t.ns []) d.t.ns []
 simp only[List.length_nil,Nat.zero_add] at hnl
 have hrl:d.t.root.toNat < (nodesI (placesL g.ds) l (nodesF (placesL g.ds) F d.t.ns []) d.t.ns []).length:=by omega
 have hfe:(nodesI (placesL g.ds) l (nodesF (placesL g.ds) F d.t.ns []) d.t.ns [])[d.t.root.toNat]=f:=by
  rw[hbody]
  simp[List.getD_eq_getElem?_getD,hrl]
 have hxs:∀ M,FsAt I M (some ⟨bk,0,none⟩) d.t.n (nodesF (placesL g.ds) F d.t.ns []):=fun M=>by
  have:=flRow_kn (I:=I) (M:=M) hbk2
  rwa [hxl,htn] at this
 have hspec:∀ {M:List Blk},fiRow bl l∈M→Spec Tryz.prog 78 [g.val,.slice (some ⟨bl,0,none⟩) g.n g.n,d.t.val,.slice (some ⟨bk,0,none⟩) d.t.n d.t.n] I M fun v I' M'=>I'=I∧∃ b,v=.slice (some ⟨b,0,none⟩) d.t.n d.t.n∧M'=fiRow b (nodesI (placesL g.ds) l (nodesF (placesL g.ds) F d.t.ns []) d.t.ns [])::M:=fun {M} hM=>by
  have hat:=fiRow_at (I:=I) hM
  have:=inodes_spec (M0:=M) (lc:=g.n) (xc:=d.t.n) hg hd.t hkbd hr hat hca (hxs M)
  rwa [show l.length=g.n by omega] at this
 refine IdxOb.mk ad i had rfl hlt ?_
 refine LoadOb.mk _ (hrd _) ?_
 have hlf:l.getD i fi0=l[i]:=by simp[List.getD_eq_getElem?_getD,hil]
 have more:(!decide (f=l[i]))=true→decide (l.set i f≠l0)=true:=fun h=>by
  have hne:f≠l[i]:=by simpa using h
  rw[decide_eq_true_eq]
  intro e
  have e2:l.set i f=l:=by
   refine LeR.anti (O:=OI) ?_ hle'
   rw[e]
   exact hle
  have h3:=set_getR l fi0 i i f hil
  rw[e2,if_pos rfl,hlf] at h3
  exact hne h3.symm
 have same:(!decide (f=l[i]))=false→l.set i f=l:=fun h=>by
  have he:f=l[i]:=by simpa using h
  rw[he]
  exact List.set_getElem_self hil
 have rdF:∀ {M:List Blk},(⟨bF,.cells rows.toArray 74 (0,0)⟩:Blk)∈M→Rd I M ((⟨bF,0,none⟩:Addr).add (i * 1)) 1 [rowV bk d.t.n]:=fun hM=>by
  have h:=blk_rd (I:=I) (cs:=rows) (k:=i) (n:=1) hM (by omega)
  have hri:rows[i]=rowV bk d.t.n:=by
   have:=hbk1
   rw[List.getElem?_eq_getElem hrl2] at this
   exact Option.some.inj this
  rw[List.drop_eq_getElem_cons hrl2,List.take_succ_cons,List.take_zero,hri] at h
  rw[Nat.mul_one]
  exact h
 refine CodeOb.drawC TryzEOK rfl rfl rfl (ι:=Nat) (fun s=>{ fl:=[(0,.val (ptr b1)),(1,.val (ptr b6)),(2,.val (ptr b7)),(4,.val (.bool (decide (l≠l0)))),(5,.val (.int .i64 i)),(7,.val (ptr s)),(9,.val (.slice g.a g.n g.c)),(10,.val (.int .i64 g.n)),(11,.val (.int .i64 i))],gi:=I,mi:=⟨s,.cells f.cells.toArray 67 (0,0)⟩::iM b6 bl b7 bF b1 g l rows }) (fun _=>True) ?_ ?_
 ·refine LoadOb.mk _ (rd1' (by simp[iM])) ?_
  refine LoadOb.mk _ (rd6 (by simp[iM])) ?_
  refine LoadOb.mk _ (rd7 (by simp[iM])) ?_
  refine IdxOb.mk ⟨bF,0,none⟩ i rfl rfl hlt ?_
  refine LoadOb.mk _ (rdF (by simp[iM])) ?_
  refine⟨?_,?_⟩
  ·refine PCallOb.whole _ (hspec (by simp[iM])) (fun v I' M' h x hx=>by obtain⟨-,b,-,rfl⟩:=h;exact .tail _ hx) ?_
   rintro v I2 M2 - ⟨rfl,b,rfl,rfl⟩
   refine IdxOb.mk ⟨b,0,none⟩ d.t.root.toNat rfl (by omega) (by omega) ?_
   refine LoadOb.mk _ (fiRow_rd (.head _) hrl) ?_
   rw[hfe]
   refine AllocOb.mk fun s hs hsM=>?_
   refine StoreOb.to [] _ _ _ rfl rfl rfl rfl f.cells rfl ?_
   exact⟨s,trivial,.sub (.cons_cons _ (.cons _ (.refl _))) .refl,.cons .refl (.cons .refl (.cons .refl (.cons .refl (.cons .refl (.cons .refl (.cons .refl (.cons .refl (.cons .refl (.nil))))))))),.nil⟩
  ·refine AllocOb.mk fun s hs hsM=>?_
   refine PCallOb.whole _ (hspec (by simp[iM])) (fun v I' M' h x hx=>by obtain⟨-,b,-,rfl⟩:=h;exact .tail _ hx) ?_
   rintro v I2 M2 - ⟨rfl,b,rfl,rfl⟩
   refine IdxOb.mk ⟨b,0,none⟩ d.t.root.toNat rfl (by omega) (by omega) ?_
   refine LoadOb.mk _ (fiRow_rd (.head _) hrl) ?_
   rw[hfe]
   refine StoreOb.to [_] _ _ _ rfl rfl rfl rfl f.cells rfl ?_
   exact⟨s,trivial,.sub (.cons _ (.refl _)) .refl,.cons .refl (.cons .refl (.cons .refl (.cons .refl (.cons .refl (.cons .refl (.cons .refl (.cons .refl (.cons .refl (.nil))))))))),.nil⟩
 rintro s -
 refine CodeOb.draw TryzEOK rfl rfl rfl ?_
 refine LoadOb.mk f.cells (blkI_rd0 (by simp)) ?_
 refine LoadOb.mk _ (rd6 (by simp[iM])) ?_
 refine IdxOb.mk ⟨bl,0,none⟩ i rfl rfl hlt ?_
 refine LoadOb.mk _ (fiRow_rd (by simp[iM]) hil) ?_
 refine BinOb.neI (p:=f) (q:=l[i]) ?_
 refine CondOb.mk (fun h=>?_) (fun h=>?_)
 ·refine LoadOb.mk _ (rd6 (by simp[iM])) ?_
  refine LoadOb.mk f.cells (blkI_rd0 (by simp)) ?_
  refine IdxOb.mk ⟨bl,0,none⟩ i rfl rfl hlt ?_
  refine StoreOb.addTo [⟨s,.cells f.cells.toArray 67 (0,0)⟩,⟨b6,.cells #[.slice (some ⟨bl,0,none⟩) g.n g.n] 49 (0,0)⟩,⟨b7,.cells #[.slice (some ⟨bF,0,none⟩) g.n g.n] 134 (0,0)⟩] [⟨bF,.cells rows.toArray 74 (0,0)⟩,⟨b1,.cells #[.slice g.a g.n g.c] 24 (0,0)⟩] (l.flatMap Fi.cells) _ rfl (ble_rowI hil) rfl ((l.set i f).flatMap Fi.cells) (by rw[Nat.zero_add];exact fiRow_set l i hil f) ?_
  refine ArithOb.mk _ (next_wr (i:=i) (by omega)) ?_
  exact⟨(i+1,l.set i f),⟨⟨by simp only;omega,hP',hle.trans hle',hgo'⟩,by simp only;omega⟩,.sub (M1:=iM b6 bl b7 bF b1 g (l.set i f) rows) (by exact .cons _ (.refl _)) .refl,.cons .refl (.cons .refl (.cons .refl (.cons (sv_lit (more h).symm) (.cons .refl (.cons .refl (.cons .refl .nil)))))),.nil⟩
 ·have he:l.set i f=l:=same h
  rw[he] at hgo'
  refine ArithOb.mk _ (next_wr (i:=i) (by omega)) ?_
  exact⟨(i+1,l),⟨⟨by simp only;omega,hP,hle,hgo'⟩,by simp only;omega⟩,.sub (M1:=iM b6 bl b7 bF b1 g l rows) (by exact .cons _ (.refl _)) .refl,.cons .refl (.cons .refl (.cons .refl (.cons .refl (.cons .refl (.cons .refl (.cons .refl .nil)))))),.nil⟩
end Go.V
namespace Go.V
open Go Go.Proofs
theorem permI5 {α:Type} (a b c d e:α):[a,b,c,d,e].Perm [c,a,d,b,e]:=(List.perm_middle (l₁:=[a,b]) (l₂:=[d,e])).trans (.cons _ (.cons _ (.swap _ _ _)))
def nilV:Value:=.slice none 0 0
theorem rowOf_nil (n:Nat):rowOf [nilV] (n * 1)=List.replicate n nilV:=by
 have key:∀ n:Nat,(List.replicate n nilV).flatMap (fun v:Value=>[v])=List.replicate n nilV:=by
  intro n
  induction n with
  | zero=>rfl
  | succ n ih=>rw[List.replicate_succ,List.flatMap_cons,ih];rfl
 exact(rowOf_flat (fun v:Value=>[v]) nilV 1 rfl (by decide) n).trans (key n)
set_option maxRecDepth 100000 in
set_option maxHeartbeats 8000000 in
theorem IOf_spec {I:GH} {deb:List Int} (hT:Tabs I deb) {g:Gr} (hg:g.ok I) (hkb:∀ d∈g.ds,KB d.t):Spec Tryz.prog 36 [g.val] I [] fun v I' M'=>(∀ b o,I b=some o→I' b=some o) ∧
  ((mayG deb g≠0∧v=.tuple #[.slice none 0 0,.int .i64 (mayG deb g)]∧M'=[])∨(mayG deb g=0∧∃ F b l,IsFlow g.ds F∧IsFirst g.ds F l∧v=.tuple #[.slice (some ⟨b,0,none⟩) g.n g.n,.int .i64 0]∧M'=[fiRow b l])):=by
 refine spec_of_V [1,6,7] TryzEOK Tryz.func36 rfl rfl rfl ?_
 intro B h0
 have hgn:=hg.n
 have hcap:=hg.rs.cap
 refine AllocOb.mk fun b1 hb1 hbM1=>?_
 refine LoadOb.mk [.slice g.a g.n g.c] ⟨rfl,_,_,_,.inr ⟨_,.head _,rfl,rfl⟩,rfl,rfl⟩ ?_
 refine CallOb.mk [] [⟨b1,.cells #[.slice g.a g.n g.c] 24 (0,0)⟩] _ (.refl _) (FOf_spec hT hg) ?_
 rintro v I1 M1 - ⟨hI1,⟨hm,rfl,rfl⟩ | ⟨hm,bf,F,rfl,rfl,hF⟩⟩
 ·refine CondOb.mk (fun h=>?_) (fun h=>?_)
  ·exact⟨_,_,.sub (List.nil_sublist _) .refl,hI1,.inl ⟨hm,rfl,rfl⟩⟩
  ·exact absurd h (by simp[hm])
 refine CondOb.mk (fun h=>absurd h (by simp)) (fun _=>?_)
 have hM:=mayF_of hgn hm
 have hg1:=hg.mono hI1
 have hFn:=hF.len
 refine LoadOb.mk _ (blk_rd (b:=b1) (cs:=[.slice g.a g.n g.c]) (k:=0) (n:=1) (T:=24) (.tail _ (.head _)) (by simp)) ?_
 refine MakeOb.mk g.n g.n rfl rfl (Nat.le_refl _) (by show 40 * g.n≤_;omega) (by omega) ?_
 refine AllocOb.mk fun bl hbl hbMl=>?_
 refine AllocOb.mk fun b6 hb6 hbM6=>?_
 refine StoreOb.to [] _ _ _ rfl rfl rfl rfl [.slice (some ⟨bl,0,none⟩) g.n g.n] rfl ?_
 refine LoadOb.mk _ (blk_rd (b:=b1) (cs:=[.slice g.a g.n g.c]) (k:=0) (n:=1) (T:=24) (by simp) (by simp)) ?_
 refine MakeOb.mk g.n g.n rfl rfl (Nat.le_refl _) (by show 24 * g.n≤_;omega) (by omega) ?_
 refine AllocOb.mk fun bF hbF hbMF=>?_
 refine AllocOb.mk fun b7 hb7 hbM7=>?_
 refine StoreOb.to [] _ _ _ rfl rfl rfl rfl [.slice (some ⟨bF,0,none⟩) g.n g.n] rfl ?_
 refine LoadOb.mk _ (blk_rd (b:=b1) (cs:=[.slice g.a g.n g.c]) (k:=0) (n:=1) (T:=24) (by simp) (by simp)) ?_
 have e:rowOf fi0.cells (g.n * 5)=(List.replicate g.ds.length fi0).flatMap Fi.cells:=by rw[hgn];exact rowOf_fi g.n
 have e2:rowOf [nilV] (g.n * 1)=List.replicate g.n nilV:=rowOf_nil g.n
 refine LoopOb.invF (ι:=Nat×GH×List Value) (fun x=>{ fl:=[(1,.val (ptr b1)),(4,.val (.slice (some ⟨bf,0,none⟩) g.n g.n)),(6,.val (ptr b6)),(7,.val (ptr b7)),(28,.val (.slice g.a g.n g.c)),(29,.val (.int .i64 g.n)),(30,.val (.int .i64 x.1))],gi:=x.2.1,mi:=[⟨b7,.cells #[.slice (some ⟨bF,0,none⟩) g.n g.n] 134 (0,0)⟩,⟨bF,.cells x.2.2.toArray 74 (0,0)⟩,⟨b6,.cells #[.slice (some ⟨bl,0,none⟩) g.n g.n] 49 (0,0)⟩,fiRow bl (List.replicate g.ds.length fi0),flRow bf F,⟨b1,.cells #[.slice g.a g.n g.c] 24 (0,0)⟩] })
  (fun x=>x.1≤g.n∧(∀ b o,I1 b=some o→x.2.1 b=some o)∧RowsF x.2.1 (placesL g.ds) F g.ds x.1 x.2.2) (fun x=>g.n - x.1) (fun _=>?_) ?_
 ·refine⟨(0,I1,List.replicate g.n nilV),⟨Nat.zero_le _,fun _ _ h=>h,⟨by simp[hgn],fun i _ h=>by simp at h⟩⟩,?_,.cons .refl (.cons .refl (.cons .refl (.cons .refl (.cons .refl (.cons .refl (.cons .refl (.nil))))))),.nil⟩
  simp only[fiRow]
  rw[←e,←e2]
  exact .refl
 rintro⟨i,J,rows⟩ ⟨hi,hJ,hR⟩
 simp only at hi hJ hR
 have hgJ:=hg1.mono hJ
 refine CondOb.mk (fun h=>?_) (fun h=>?_)
 ·have hlt:i < g.n:=by have:(i:Int) < (g.n:Int):=of_decide_eq_true h;omega
  have hlt':i < g.ds.length:=by omega
  obtain⟨ad,had,hrd⟩:=hgJ.rs.row Df.cells_len hlt hlt'
  have hdm:=List.getElem_mem hlt'
  have hd:=hgJ.ds _ hdm
  have hr:=hM.right _ hdm
  have hno:=hM.named _ hdm
  have hRl:=hR.len
  refine IdxOb.mk ad i had rfl hlt ?_
  refine LoadOb.mk _ (hrd _) ?_
  have hTJ:=(hT.mono hI1).mono hJ
  have hnp:nodesP g F g.ds[i].t=some (nodesF (placesL g.ds) F g.ds[i].t.ns []):=by
   rw[nodesP,show decide (F.length=g.n)=true by rw[hFn];simp[hgn],hr,hno]
   rfl
  have hstep:∀ (J2:GH) (b:Nat),(∀ b o,J b=some o→J2 b=some o)→J2 b=none→RowsF (ins J2 b (flRow b (nodesF (placesL g.ds) F g.ds[i].t.ns [])).obj) (placesL g.ds) F g.ds (i+1) (rows.set i (rowV b g.ds[i].t.n)):=fun J2 b hJ2 hb=>by
   refine⟨by simpa using hRl,fun j hj hji=>?_⟩
   by_cases ej:j=i
   ·subst ej
    exact⟨b,by simp[hRl,hj],ins_self ..⟩
   ·obtain⟨bk,q1,q2⟩:=hR.row j hj (by omega)
    exact⟨bk,by rw[List.getElem?_set_ne (by omega)];exact q1,ins_le hb _ _ (hJ2 _ _ q2)⟩
  generalize g.ds[i]=d at hrd hd hr hno hnp hstep
  refine CodeOb.draw TryzEOK rfl rfl rfl ?_
  refine LoadOb.mk [.slice (some ⟨bF,0,none⟩) g.n g.n] ⟨rfl,_,_,_,.inr ⟨_,.head _,rfl,rfl⟩,rfl,rfl⟩ ?_
  refine LoadOb.mk [.slice g.a g.n g.c] ⟨rfl,_,_,_,.inr ⟨⟨b1,.cells #[.slice g.a g.n g.c] 24 (0,0)⟩,by simp,rfl,rfl⟩,rfl,rfl⟩ ?_
  have hat:FsAt J [⟨b7,.cells #[.slice (some ⟨bF,0,none⟩) g.n g.n] 134 (0,0)⟩,⟨bF,.cells rows.toArray 74 (0,0)⟩,⟨b6,.cells #[.slice (some ⟨bl,0,none⟩) g.n g.n] 49 (0,0)⟩,fiRow bl (List.replicate g.ds.length fi0),flRow bf F,⟨b1,.cells #[.slice g.a g.n g.c] 24 (0,0)⟩] (some ⟨bf,0,none⟩) g.n F:=by
   have:=flRow_at (I:=J) (M:=[⟨b7,.cells #[.slice (some ⟨bF,0,none⟩) g.n g.n] 134 (0,0)⟩,⟨bF,.cells rows.toArray 74 (0,0)⟩,⟨b6,.cells #[.slice (some ⟨bl,0,none⟩) g.n g.n] 49 (0,0)⟩,fiRow bl (List.replicate g.ds.length fi0),flRow bf F,⟨b1,.cells #[.slice g.a g.n g.c] 24 (0,0)⟩]) (b:=bf) (l:=F) (by simp)
   rwa [show F.length=g.n by omega] at this
  refine PCallOb.whole _ (FNodes_spec (lc:=g.n) hTJ hgJ hd.t hat) (fun v I' M' h x hx=>by
   rcases h.2 with ⟨-,-,rfl⟩ | ⟨r,b,-,-,rfl⟩
   ·exact hx
   ·exact .tail _ hx) ?_
  rintro v J2 M2 - ⟨hJ2,⟨hn,-,-⟩ | ⟨r,b,hn,rfl,rfl⟩⟩
  ·rw[hnp] at hn;cases hn
  rw[hnp] at hn
  obtain rfl:=Option.some.inj hn
  refine IdxOb.mk ⟨bF,0,none⟩ i rfl rfl hlt ?_
  refine StoreOb.addTo [_,_] _ rows _ rfl (by rw[Nat.ble_eq];show 0+i * 1+1≤rows.length;omega) rfl (rows.set i (rowV b d.t.n)) ?_ ?_
  ·show splice rows (0+i * 1) [rowV b d.t.n]=_
   rw[Nat.zero_add,Nat.mul_one,splice_oneI _ _ _ (by omega)]
  refine ArithOb.mk _ (next_wr (i:=i) (by omega)) ?_
  intro hfa
  have hb:=hfa.d (flRow b (nodesF (placesL g.ds) F d.t.ns [])) (.head _)
  exact⟨(i+1,ins J2 b (flRow b (nodesF (placesL g.ds) F d.t.ns [])).obj,rows.set i (rowV b d.t.n)),⟨⟨hlt,fun b o h=>ins_le hb _ _ (hJ2 _ _ (hJ _ _ h)),hstep J2 b hJ2 hb⟩,by simp only;omega⟩,.prom rfl (by simp) .refl,.cons .refl (.cons .refl (.cons .refl (.cons .refl (.cons .refl (.cons .refl (.cons .refl (.nil))))))),.nil⟩
 have hge:i=g.n:=by have:¬ (i:Int) < (g.n:Int):=of_decide_eq_false h;omega
 subst hge
 have hR':RowsF J (placesL g.ds) F g.ds g.ds.length rows:=by rw[hgn];exact hR
 refine LoopOb.inv (ι:=List Fi) (fun l=>{ fl:=[(6,.val (ptr b6)),(10,.val (.func (.func 77) #[] #[ptr b1,ptr b6,ptr b7]))],gi:=J,mi:=iM b6 bl b7 bF b1 g l rows }) (PreI g.ds F) offsI ?_ ?_
 ·refine⟨List.replicate g.ds.length fi0,PreR.start (O:=OI) _ _,.sub (.cons_cons _ (.cons_cons _ (.cons_cons _ (.cons_cons _ (.cons _ (.refl _)))))) (.perm (permI5 ..) .refl),.cons .refl (.cons .refl (.nil)),.nil⟩
 intro l hl
 refine CallOb.whole _ (IOf1_spec hgJ hkb hM hR' hl) ?_
 rintro v J3 M3 - ⟨rfl,rfl,rfl⟩
 have hgl:g.ds.length=g.n:=hgn
 obtain⟨r1,r2,-⟩:=roundR_pre bodyI_mono' g.ds.length 0 (Nat.zero_add _) hl
 rw[hgl] at r1 r2
 refine CondOb.mk (fun h=>?_) (fun h=>?_)
 ·exact⟨_,⟨by unfold PreI;rw[hgl];exact r1,offsI_lt r2 (of_decide_eq_true h)⟩,.refl,.cons .refl (.cons .refl (.nil)),.nil⟩
 ·have hf:roundR (bodyI (placesL g.ds) F g.ds) 0 g.n l=l:=by
   have:=of_decide_eq_false h
   exact Classical.not_not.1 this
  rw[hf]
  refine LoadOb.mk [.slice (some ⟨bl,0,none⟩) g.n g.n] ⟨rfl,_,_,_,.inr ⟨_,.head _,rfl,rfl⟩,rfl,rfl⟩ ?_
  refine⟨J3,[fiRow bl l],.sub (.cons _ (.cons _ (.cons_cons _ (List.nil_sublist _)))) .refl,fun b o h=>hJ _ _ (hI1 _ _ h),.inr ⟨hm,F,bl,l,hF,?_,rfl,rfl⟩⟩
  exact PreR.done bodyI_mono' hl (by rw[hgl];exact hf)
def okI (deb:List Int) (g:Gr) (l:List Fi) (t:Tr):Bool:=decide (l.length=g.n) && (decide (mayG deb g=0) && (right t && namedOk (placesL g.ds) t.ns))
set_option maxHeartbeats 4000000 in
theorem INodes_spec {I:GH} {M0:List Blk} {deb:List Int} (hT:Tabs I deb) {g:Gr} (hg:g.ok I) {t:Tr} (ht:t.ok I) (hkb:KB t) {la:Option Addr} {ln lc:Nat} {l:List Fi} (hl:IsAt I M0 la ln l) :
  Spec Tryz.prog 39 [g.val,.slice la ln lc,t.val] I M0 fun v I' M'=>(∀ b o,I b=some o→I' b=some o) ∧
   ((okI deb g l t=false∧v=.tuple #[.slice none 0 0,.bool false]∧M'=M0)∨(okI deb g l t=true∧∃ F b,IsFlow g.ds F∧v=.tuple #[.slice (some ⟨b,0,none⟩) t.n t.n,.bool true]∧M'=fiRow b (nodesI (placesL g.ds) l (nodesF (placesL g.ds) F t.ns []) t.ns [])::M0)):=by
 refine spec_of_V [] TryzEOK Tryz.func39 rfl rfl rfl ?_
 intro B h0
 have hgn:=hg.n
 have htn:=ht.n
 have hln:=hl.n
 refine CondOb.mk (fun h=>?_) (fun h=>?_)
 ·have hne:¬ (ln:Int)=(g.n:Int):=by simpa using h
  have hd:decide (l.length=g.n)=false:=decide_eq_false (by omega)
  exact⟨_,_,.refl,fun _ _ h=>h,.inl ⟨by simp[okI,hd],rfl,rfl⟩⟩
 have hln':ln=g.n:=by
  have:(ln:Int)=(g.n:Int):=by simpa using h
  omega
 have hd1:decide (l.length=g.n)=true:=decide_eq_true (by omega)
 refine CallOb.mk [] M0 _ (.refl _) (FOf_spec hT hg) ?_
 rintro v I1 M1 - ⟨hI1,⟨hm,rfl,rfl⟩ | ⟨hm,bf,F,rfl,rfl,hF⟩⟩
 ·refine CondOb.mk (fun _=>?_) (fun h=>absurd h (by simp[hm]))
  exact⟨_,_,.refl,hI1,.inl ⟨by simp[okI,hm],rfl,rfl⟩⟩
 refine CondOb.mk (fun h=>absurd h (by simp)) (fun _=>?_)
 have hFn:=hF.len
 have hg1:=hg.mono hI1
 have ht1:=ht.mono hI1
 have hat:FsAt I1 (flRow bf F::M0) (some ⟨bf,0,none⟩) g.n F:=by
  have:=flRow_at (I:=I1) (M:=flRow bf F::M0) (b:=bf) (l:=F) (.head _)
  rwa [show F.length=g.n by omega] at this
 refine CallOb.whole _ (FNodes_spec (lc:=g.n) (hT.mono hI1) hg1 ht1 hat) ?_
 have hdF:decide (F.length=g.n)=true:=decide_eq_true (by omega)
 rintro v I2 M2 - ⟨hI2,⟨hn,rfl,rfl⟩ | ⟨r,b,hn,rfl,rfl⟩⟩
 ·refine CondOb.mk (fun _=>?_) (fun h=>absurd h (by simp))
  refine⟨_,_,.sub (.cons _ (.refl _)) .refl,fun b o h=>hI2 _ _ (hI1 _ _ h),.inl ⟨?_,rfl,rfl⟩⟩
  cases hb:(right t && namedOk (placesL g.ds) t.ns) with
  | false=>simp[okI,hb]
  | true=>rw[nodesP,hdF,hb] at hn;cases hn
 refine CondOb.mk (fun h=>absurd h (by simp)) (fun _=>?_)
 have hb:(right t && namedOk (placesL g.ds) t.ns)=true:=by
  cases hb:(right t && namedOk (placesL g.ds) t.ns) with
  | false=>rw[nodesP,hdF,hb] at hn;cases hn
  | true=>rfl
 have hr:r=nodesF (placesL g.ds) F t.ns []:=by
  rw[nodesP,hdF,hb] at hn
  exact(Option.some.inj hn).symm
 subst hr
 have hb':=hb
 rw[Bool.and_eq_true] at hb'
 have hca:=called_of hb'.2
 rw[hgn,←hln'] at hca
 have hxl:=nodesF_len (placesL g.ds) F t.ns []
 simp only[List.length_nil,Nat.zero_add] at hxl
 have hxs:FsAt I2 (flRow b (nodesF (placesL g.ds) F t.ns [])::flRow bf F::M0) (some ⟨b,0,none⟩) t.n (nodesF (placesL g.ds) F t.ns []):=by
  have:=flRow_at (I:=I2) (M:=flRow b (nodesF (placesL g.ds) F t.ns [])::flRow bf F::M0) (b:=b) (l:=nodesF (placesL g.ds) F t.ns []) (.head _)
  rwa [hxl,htn] at this
 have hl2:IsAt I2 (flRow b (nodesF (placesL g.ds) F t.ns [])::flRow bf F::M0) la ln l:=((hl.mono hI1).mono hI2).sub fun x hx=>.tail _ (.tail _ hx)
 refine CallOb.whole _ (inodes_spec (lc:=lc) (xc:=t.n) (hg1.mono hI2) (ht1.mono hI2) hkb hb'.1 hl2 hca hxs) ?_
 rintro v I3 M3 - ⟨rfl,b3,rfl,rfl⟩
 exact⟨I3,fiRow b3 (nodesI (placesL g.ds) l (nodesF (placesL g.ds) F t.ns []) t.ns [])::M0,.sub (.cons_cons _ (.cons _ (.cons _ (.refl _)))) .refl,fun b o h=>hI2 _ _ (hI1 _ _ h),.inr ⟨by rw[okI,hd1,hm,hb];rfl,F,b3,hF,rfl,rfl⟩⟩
theorem ITree_spec {I:GH} {M0:List Blk} {deb:List Int} (hT:Tabs I deb) {g:Gr} (hg:g.ok I) {t:Tr} (ht:t.ok I) (hkb:KB t) {la:Option Addr} {ln lc:Nat} {l:List Fi} (hl:IsAt I M0 la ln l) :
  Spec Tryz.prog 41 [g.val,.slice la ln lc,t.val] I M0 fun v I' M'=>(∀ b o,I b=some o→I' b=some o)∧M'=M0 ∧
   ((okI deb g l t=false∧v=.tuple #[fi0.val,.bool false])∨(okI deb g l t=true∧∃ F,IsFlow g.ds F∧v=.tuple #[((nodesI (placesL g.ds) l (nodesF (placesL g.ds) F t.ns []) t.ns []).getD t.root.toNat fi0).val,.bool true])):=by
 refine spec_of_V [] TryzEOK Tryz.func41 rfl rfl rfl ?_
 intro B h0
 have htn:=ht.n
 refine CallOb.whole _ (INodes_spec (lc:=lc) hT hg ht hkb hl) ?_
 rintro v I1 M1 - ⟨hI1,⟨hn,rfl,rfl⟩ | ⟨hn,F,b,hF,rfl,rfl⟩⟩
 ·refine CondOb.mk (fun _=>?_) (fun h=>by simp at h)
  exact⟨_,_,.refl,hI1,rfl,.inl ⟨hn,rfl⟩⟩
 have hr:right t=true:=by
  simp only[okI,Bool.and_eq_true] at hn
  exact hn.2.2.1
 have hroot:=right_root hr
 have hnl:=nodesI_len (placesL g.ds) l (nodesF (placesL g.ds) F t.ns []) t.ns []
 simp only[List.length_nil,Nat.zero_add] at hnl
 refine CondOb.mk (fun h=>by simp at h) (fun _=>?_)
 have hrl':t.root.toNat < (nodesI (placesL g.ds) l (nodesF (placesL g.ds) F t.ns []) t.ns []).length:=by omega
 refine IdxOb.mk ⟨b,0,none⟩ t.root.toNat rfl (by omega) (by omega) ?_
 refine LoadOb.mk _ (fiRow_rd (.head _) hrl') ?_
 refine⟨_,M0,.sub (.cons _ (.refl _)) .refl,hI1,rfl,.inr ⟨hn,F,hF,?_⟩⟩
 simp only[List.getD_eq_getElem?_getD,List.getElem?_eq_getElem hrl',Option.getD_some]
 rfl
end Go.V
namespace Go.V
open Go
def Tr.ct (t:Tr):Tr:=⟨t.ns.map Nd.ct,none,t.n,0,t.root⟩
def Df.ct (d:Df):Df:=⟨d.name,d.t.ct⟩
def Gr.ct (g:Gr):Gr:=⟨g.ds.map Df.ct,none,g.n,0⟩
theorem nodesOk_ct:∀ (ds:List Nd) (i:Nat) (s:List Bool),nodesOk i (ds.map Nd.ct) s=nodesOk i ds s
 | [],i,s=>rfl
 | d::ds,i,s=>by
  have h:∀ s',nodesOk (i+1) (ds.map Nd.ct) s'=nodesOk (i+1) ds s':=fun s'=>nodesOk_ct ds (i+1) s'
  rw[List.map_cons,nodesOk,nodesOk]
  simp only[h]
  rfl
theorem right_ct (t:Tr):right t.ct=right t:=by
 unfold right Tr.ct
 simp only[nodesOk_ct,List.length_map]
theorem tab_ct {α:Type} {z:α} {f g:Nd→(Int→α)→α} (h:∀ d q,f d.ct q=g d q):∀ (ds:List Nd) (acc:List α),tab z f (ds.map Nd.ct) acc=tab z g ds acc
 | [],acc=>rfl
 | d::ds,acc=>by rw[List.map_cons,tab,tab,h,tab_ct h ds]
def trOf (l:List Nd):Tr:=⟨l,none,l.length,0,(l.length:Int) - 1⟩
structure TC (I:GH) (t:Tr) (l:List Nd):Prop where
 ok:t.ok I
 ct:t.ns.map Nd.ct=l
 root:t.root=(l.length:Int) - 1
theorem TC.len {I:GH} {t:Tr} {l:List Nd} (h:TC I t l):t.n=l.length:=by
 rw[←h.ok.n,←h.ct,List.length_map]
theorem TC.leaf {I:GH} {t:Tr} {d:Nd} (ht:t.ok I) (h1:t.ns=[d]) (h2:t.root=0) (hd:d.ct=d):TC I t [d]:=⟨ht,by rw[h1];simp[hd],by rw[h2];rfl⟩
def cleanL (l:List Nd):List Nd:=subC l ((l.length:Int) - 1)
end Go.V
namespace Go.V
open Go Go.Proofs
def ofL (d:Nd) (ls:List (List Nd)):List Nd:=ofNds d (ls.map cleanL)
end Go.V
namespace Go.V
open Go Go.Proofs
structure TrSmall (t:Tr):Prop where
 n:t.n < 2500
 ns:∀ nd∈t.ns,NdSmall nd
theorem TrW.ok {I:GH} {t:Tr} (h:TrW I t) (hs:TrSmall t):t.ok I:=
 ⟨h.rs.big (by have:=hs.n;omega),fun nd hnd=>(h.ns nd hnd).ok (hs.ns nd hnd),h.root⟩
def bodies (g:Gr) (L0:List Tr) (i:Nat):List Tr:=L0++(g.ds.take i).map Df.t
structure L2 (L:List Tr) (n0:Nat) (x:Nat×Nat):Prop where
 i:x.2≤L.length
 n:x.1≤6000
 ge:n0≤x.1
 small:x.1 < 2500→x.2≤x.1∧∀ j (h:j < L.length),j < x.2→TrSmall L[j]
end Go.V
namespace Go.V
open Go Go.Proofs
structure Ns11 (d:Nd):Prop where
 kn:d.kn < 400
 t:d.t.size < 8020
structure Ts11 (t:Tr):Prop where
 n:t.n < 400
 ns:∀ nd∈t.ns,Ns11 nd
structure Ds11 (d:Df):Prop where
 name:d.name.size < 8020
 t:Ts11 d.t
structure Gs11 (g:Gr):Prop where
 n:g.n < 400
 ds:∀ d∈g.ds,Ds11 d
theorem NdW.ok11 {I:GH} {d:Nd} (h:NdW I d) (hs:Ns11 d):d.ok I:=
 ⟨h.k,h.s0,h.s1,h.s2,h.s3,h.ts,h.lo,h.hi,h.rs.big (by have:=hs.kn;omega),h.kids⟩
theorem TrW.ok11 {I:GH} {t:Tr} (h:TrW I t) (hs:Ts11 t):t.ok I:=
 ⟨h.rs.big (by have:=hs.n;omega),fun nd hnd=>(h.ns nd hnd).ok11 (hs.ns nd hnd),h.root⟩
theorem GrW.ok11 {I:GH} {g:Gr} (h:GrW I g) (hs:Gs11 g):g.ok I:=
 ⟨h.rs.big (by have:=hs.n;omega),fun d hd=>⟨by have:=(hs.ds d hd).name;omega,(h.ds d hd).t.ok11 (hs.ds d hd).t⟩⟩
theorem sv_int {a b:Int} (h:a=b):SvLe (.val (.int .i64 a)) (.val (.int .i64 b)):=by
 subst h
 exact .refl
structure N1 (t:Tr) (x:Nat×Nat):Prop where
 j:x.2≤t.n
 n:x.1≤2000
 len:x.1 < 400→t.n < 400
 small:x.1 < 400→∀ i (h:i < t.ns.length),i < x.2→Ns11 t.ns[i]
structure N2 (g:Gr) (x:Nat×Nat):Prop where
 k:x.2≤g.n
 n:x.1≤2000
 small:x.1 < 400→x.2≤x.1∧∀ i (h:i < g.ds.length),i < x.2→Ds11 g.ds[i]
structure N3 (g:Gr) (t:Tr) (k:Nat) (x:Nat×Nat):Prop where
 j:x.2≤t.n
 n:x.1≤2000
 small:x.1 < 400→t.n < 400∧k+1≤x.1∧(∀ i (h:i < g.ds.length),i < k→Ds11 g.ds[i])∧(∀ h:k < g.ds.length,g.ds[k].name.size < 8020)∧∀ i (h:i < t.ns.length),i < x.2→Ns11 t.ns[i]
set_option maxRecDepth 100000 in
set_option maxHeartbeats 4000000 in
theorem large11_spec {I:GH} {g:Gr} (hg:GrW I g) {t:Tr} (ht:TrW I t) :
  Spec Tryz.prog 33 [g.val,t.val] I [] fun v I' M'=>(∃ r,v=.bool r∧(r=false→Gs11 g∧Ts11 t))∧I'=I∧M'=[]:=by
 refine spec_of_V [] TryzEOK Tryz.func33 rfl rfl rfl ?_
 intro B h0
 have hgn:=hg.n
 have htn:=ht.n
 have htc:=ht.rs.len
 refine LoopOb.inv (ι:=Nat×Nat) (fun x=>{ fl:=[(2,.ref 2 0),(3,.ref 3 0),(5,.val (.int .i64 x.1)),(6,.val (.int .i64 x.2))],cl:=[(2,[.slice g.a g.n g.c]),(3,t.cells)],gi:=I }) (N1 t) (fun x=>t.n - x.2) ?_ ?_
 ·refine⟨(min 400 t.n,0),⟨Nat.zero_le _,by simp only;omega,fun h=>by simp only at h;omega,fun _ i _ h=>by simp at h⟩,.refl,.cons .refl (.cons .refl (.cons ?_ (.cons .refl .nil))),.cons rfl (.cons rfl (.nil))⟩
  refine sv_int ?_
  omega
 rintro⟨n,j⟩ ⟨hj,hn,hl,hsm⟩
 simp only at hj hn hl hsm
 refine GuardOb.mk (fun h=>CondOb.mk (fun h2=>?body) (fun h2=>?e1)) (fun h=>?e2)
 case body=>
  have hlt:j < t.n:=by simpa using h
  have hn2:n < 400:=by have:=of_decide_eq_true h2;omega
  have hlt':j < t.ns.length:=by omega
  obtain⟨bd,hbd,hrb⟩:=ht.rs.row Nd.cells_len hlt hlt'
  have hnd:=ht.ns _ (List.getElem_mem hlt')
  have hts:=hnd.ts
  have r3:∀ M,Rd I M ((bd.add (j * 9)).add 8) 1 [.slice t.ns[j].ka t.ns[j].kn t.ns[j].kc]:=fun M=>(hrb M).part (k:=8) (m:=1) (by decide)
  have r4:∀ M,Rd I M ((bd.add (j * 9)).add 5) 1 [.string t.ns[j].t]:=fun M=>(hrb M).part (k:=5) (m:=1) (by decide)
  generalize hxx:t.ns[j]=nd at hnd hts r3 r4
  refine CodeOb.draw TryzEOK rfl rfl rfl ?_
  refine IdxOb.mk bd j hbd rfl hlt ?_
  refine LoadOb.mk _ (r3 _) ?_
  refine ArithOb.mk ((n+min 400 nd.kn:Nat):Int) (wr_eq (by omega) (by omega)) ?_
  refine IdxOb.mk bd j hbd rfl hlt ?_
  refine LoadOb.mk _ (r4 _) ?_
  refine DivOb.mk (by decide) ?_
  refine ArithOb.mk ((nd.t.size / 20:Nat):Int) (wr_eq (by rw[Int.tdiv_eq_ediv_of_nonneg (by omega)];omega) (by omega)) ?_
  refine ArithOb.mk ((n+min 400 nd.kn+min 400 (nd.t.size / 20):Nat):Int) (wr_eq (by omega) (by omega)) ?_
  refine ArithOb.mk _ (next_wr (i:=j) (by omega)) ?_
  refine⟨(_,j+1),⟨⟨by simp only;omega,by simp only;omega,fun h7=>by simp only at h7;exact hl (by omega),fun h7 i hi hi2=>?_⟩,by simp only;omega⟩,.refl,.cons .refl (.cons .refl (.cons .refl (.cons .refl (.nil)))),.cons rfl (.cons rfl (.nil))⟩
  simp only at h7 hi2
  by_cases e:i=j
  ·subst e
   rw[hxx]
   exact⟨by omega,by omega⟩
  ·exact hsm (by omega) i hi (by omega)
 case' e1=>have hx:n < 400→j=t.n:=fun hh=>by have:=of_decide_eq_false h2;omega
 case' e2=>have hx:n < 400→j=t.n:=fun hh=>by have:¬ (j:Int) < (t.n:Int):=of_decide_eq_false h;omega
 all_goals
  clear h
  have hT:n < 400→Ts11 t:=fun hh=>⟨hl hh,fun nd hnd=>by
   obtain⟨y,hy,rfl⟩:=List.getElem_of_mem hnd
   exact hsm hh y hy (by have:=hx hh;omega)⟩
  refine LoopOb.inv (ι:=Nat×Nat) (fun x=>{ fl:=[(2,.ref 2 0),(5,.val (.int .i64 x.1)),(7,.val (.int .i64 x.2))],cl:=[(2,[.slice g.a g.n g.c])],gi:=I }) (fun x=>N2 g x∧n≤x.1) (fun x=>g.n - x.2) ?_ ?_
  ·exact⟨(n,0),⟨⟨Nat.zero_le _,hn,fun _=>⟨Nat.zero_le _,fun i _ h=>by simp at h⟩⟩,Nat.le_refl _⟩,.refl,.cons .refl (.cons .refl (.cons .refl (.nil))),.cons rfl (.nil)⟩
  rintro⟨m,k⟩ ⟨⟨hk,hm,hsm2⟩,hge⟩
  simp only at hk hm hsm2 hge
  have fin:(m < 400→k=g.n)→∀ c,c=decide ((400:Int)≤(m:Int))→(c=false→Gs11 g∧Ts11 t):=fun h1 c hc hcf=>by
   rw[hc] at hcf
   have hm4:m < 400:=by have:=of_decide_eq_false hcf;omega
   obtain⟨s1,s2⟩:=hsm2 hm4
   have h3:=h1 hm4
   refine⟨⟨by omega,fun d hd=>?_⟩,hT (by omega)⟩
   obtain⟨y,hy,rfl⟩:=List.getElem_of_mem hd
   exact s2 y hy (by omega)
  refine GuardOb.mk (fun h3=>CondOb.mk (fun h4=>?_) (fun h4=>?_)) (fun h3=>?_)
  ·have hkl:k < g.n:=by simpa using h3
   have hm2:m < 400:=by have:=of_decide_eq_true h4;omega
   obtain⟨s1,s2⟩:=hsm2 hm2
   have hkl':k < g.ds.length:=by omega
   obtain⟨ad,had,hrd⟩:=hg.rs.row Df.cells_len hkl hkl'
   have hd:=hg.ds _ (List.getElem_mem hkl')
   have hnm:=hd.name
   have hW:=hd.t
   have hWn:=hW.n
   have r1:∀ M,Rd I M ((ad.add (k * 3)).add 0) 1 [.string g.ds[k].name]:=fun M=>(hrd M).part (k:=0) (m:=1) (by decide)
   have r2:∀ M,Rd I M ((ad.add (k * 3)).add 1) 2 g.ds[k].t.cells:=fun M=>(hrd M).part (k:=1) (m:=2) (by decide)
   have hname:∀ (q:Nat),q < 8020→g.ds[k].name.size=q→∀ h:k < g.ds.length,g.ds[k].name.size < 8020:=fun q hq e h=>by rw[e];exact hq
   generalize hdn:g.ds[k].name=nm at hnm r1 hname
   generalize htt:g.ds[k].t=u at hW hWn r2
   refine IdxOb.mk ad k had rfl hkl ?_
   refine LoadOb.mk _ (r2 _) ?_
   refine CodeOb.draw TryzEOK rfl rfl rfl ?_
   refine ArithOb.mk ((m+1:Nat):Int) (wr_eq (by omega) (by omega)) ?_
   refine ArithOb.mk ((m+1+min 400 u.n:Nat):Int) (wr_eq (by omega) (by omega)) ?_
   refine IdxOb.mk ad k had rfl hkl ?_
   refine LoadOb.mk _ (r1 _) ?_
   refine DivOb.mk (by decide) ?_
   refine ArithOb.mk ((nm.size / 20:Nat):Int) (wr_eq (by rw[Int.tdiv_eq_ediv_of_nonneg (by omega)];omega) (by omega)) ?_
   refine ArithOb.mk ((m+1+min 400 u.n+min 400 (nm.size / 20):Nat):Int) (wr_eq (by omega) (by omega)) ?_
   refine LoopOb.inv (ι:=Nat×Nat) (fun x=>{ fl:=[(2,.ref 2 0),(5,.val (.int .i64 x.1)),(7,.val (.int .i64 k)),(8,.ref 8 0),(9,.val (.int .i64 x.2))],cl:=[(2,[.slice g.a g.n g.c]),(8,u.cells)],gi:=I }) (fun x=>N3 g u k x∧n≤x.1) (fun x=>u.n - x.2) ?_ ?_
   ·exact⟨(_,0),⟨⟨Nat.zero_le _,by simp only;omega,fun h=>by simp only at h;exact⟨by omega,by simp only;omega,s2,fun h=>hname nm.size (by omega) rfl h,fun i _ h=>by simp at h⟩⟩,by simp only;omega⟩,.refl,.cons .refl (.cons .refl (.cons .refl (.cons .refl (.cons .refl (.nil))))),.cons rfl (.cons rfl (.nil))⟩
   rintro⟨p,q⟩ ⟨⟨hq,hp,hsm3⟩,hpe⟩
   simp only at hq hp hpe hsm3
   have out:(p < 400→q=u.n)→N2 g (p,k+1):=fun h1=>by
    refine⟨by simp only;omega,hp,fun h2=>?_⟩
    simp only at h2
    obtain⟨u1,u2,u3,u4,u5⟩:=hsm3 h2
    have u6:=h1 h2
    refine⟨u2,fun i hi hi2=>?_⟩
    by_cases e:i=k
    ·subst e
     refine⟨u4 hi,?_⟩
     rw[htt]
     exact⟨u1,fun nd hnd=>by
      obtain⟨y,hy,rfl⟩:=List.getElem_of_mem hnd
      exact u5 y hy (by omega)⟩
    ·exact u3 i hi (by simp only at hi2;omega)
   refine GuardOb.mk (fun h5=>CondOb.mk (fun h6=>?_) (fun h6=>?_)) (fun h5=>?_)
   ·have hql:q < u.n:=by simpa using h5
    have hp2:p < 400:=by have:=of_decide_eq_true h6;omega
    obtain⟨u1,u2,u3,u4,u5⟩:=hsm3 hp2
    have hql':q < u.ns.length:=by omega
    obtain⟨bd,hbd,hrb⟩:=hW.rs.row Nd.cells_len hql hql'
    have hnd:=hW.ns _ (List.getElem_mem hql')
    have hts:=hnd.ts
    have r3:∀ M,Rd I M ((bd.add (q * 9)).add 8) 1 [.slice u.ns[q].ka u.ns[q].kn u.ns[q].kc]:=fun M=>(hrb M).part (k:=8) (m:=1) (by decide)
    have r4:∀ M,Rd I M ((bd.add (q * 9)).add 5) 1 [.string u.ns[q].t]:=fun M=>(hrb M).part (k:=5) (m:=1) (by decide)
    generalize hxx:u.ns[q]=nd at hnd hts r3 r4
    refine CodeOb.draw TryzEOK rfl rfl rfl ?_
    refine IdxOb.mk bd q hbd rfl hql ?_
    refine LoadOb.mk _ (r3 _) ?_
    refine ArithOb.mk ((p+min 400 nd.kn:Nat):Int) (wr_eq (by omega) (by omega)) ?_
    refine IdxOb.mk bd q hbd rfl hql ?_
    refine LoadOb.mk _ (r4 _) ?_
    refine DivOb.mk (by decide) ?_
    refine ArithOb.mk ((nd.t.size / 20:Nat):Int) (wr_eq (by rw[Int.tdiv_eq_ediv_of_nonneg (by omega)];omega) (by omega)) ?_
    refine ArithOb.mk ((p+min 400 nd.kn+min 400 (nd.t.size / 20):Nat):Int) (wr_eq (by omega) (by omega)) ?_
    refine ArithOb.mk _ (next_wr (i:=q) (by omega)) ?_
    refine⟨(_,q+1),⟨⟨⟨by simp only;omega,by simp only;omega,fun h7=>?_⟩,by simp only;omega⟩,by simp only;omega⟩,.refl,.cons .refl (.cons .refl (.cons .refl (.cons .refl (.cons .refl (.nil))))),.cons rfl (.cons rfl (.nil))⟩
    simp only at h7 ⊢
    refine⟨u1,by omega,u3,u4,fun i hi hi2=>?_⟩
    by_cases e:i=q
    ·subst e
     rw[hxx]
     exact⟨by omega,by omega⟩
    ·exact u5 i hi (by omega)
   ·have hp2:400≤p:=by have:=of_decide_eq_false h6;omega
    refine ArithOb.mk _ (next_wr (i:=k) (by omega)) ?_
    exact⟨(p,k+1),⟨⟨out fun h=>by omega,hpe⟩,by simp only;omega⟩,.refl,.cons .refl (.cons .refl (.cons .refl (.nil))),.cons rfl (.nil)⟩
   ·have hql:u.n≤q:=by simpa using h5
    refine ArithOb.mk _ (next_wr (i:=k) (by omega)) ?_
    exact⟨(p,k+1),⟨⟨out fun h=>by omega,hpe⟩,by simp only;omega⟩,.refl,.cons .refl (.cons .refl (.cons .refl (.nil))),.cons rfl (.nil)⟩
  ·have hm2:400≤m:=by have:=of_decide_eq_false h4;omega
   exact⟨_,_,.refl,⟨_,rfl,fin (fun h=>by omega) _ rfl⟩,rfl,rfl⟩
  ·have hge2:g.n≤k:=by simpa using h3
   exact⟨_,_,.refl,⟨_,rfl,fin (fun h=>by omega) _ rfl⟩,rfl,rfl⟩
end Go.V
namespace Go.V
open Go
theorem splice_mid' (pre mid post:List Value) (k:Nat) (vs:List Value) (h:k+vs.length≤mid.length):splice (pre++(mid++post)) (pre.length+k) vs=pre++(splice mid k vs++post):=by
 unfold splice
 have h1:(pre++(mid++post)).take (pre.length+k)=pre++mid.take k:=by
  rw[List.take_append,Nat.add_sub_cancel_left,List.take_of_length_le (by omega),List.take_append_of_le_length (by omega)]
 have h2:(pre++(mid++post)).drop (pre.length+k+vs.length)=mid.drop (k+vs.length)++post:=by
  rw[Nat.add_assoc,List.drop_length_add_append,List.drop_append_of_le_length h]
 rw[h1,h2]
 simp
theorem flat_put {α:Type} (f:α→List Value) (size:Nat) (hf:∀ x,(f x).length=size) (l:List α) (i:Nat) (hi:i < l.length) (k:Nat) (vs:List Value) (hk:k+vs.length≤size) (x':α) (hx:splice (f l[i]) k vs=f x') :
  splice (l.flatMap f) (i * size+k) vs=(l.set i x').flatMap f:=by
 have e:l=l.take i++l[i]::l.drop (i+1):=by rw[←List.drop_eq_getElem_cons hi,List.take_append_drop]
 have e1:l.flatMap f=(l.take i).flatMap f++(f l[i]++(l.drop (i+1)).flatMap f):=by
  calc l.flatMap f=(l.take i++l[i]::l.drop (i+1)).flatMap f:=congrArg _ e
   _=_:=by rw[List.flatMap_append,List.flatMap_cons]
 have e2:((l.take i).flatMap f).length=i * size:=by rw[flat_len f size hf,List.length_take_of_le (by omega)]
 rw[e1,←e2,splice_mid' _ _ _ _ _ (by rw[hf];exact hk),List.set_eq_take_append_cons_drop,if_pos hi,List.flatMap_append,List.flatMap_cons,hx]
theorem take_splice' {cur:List Value} {j m:Nat} {vs:List Value} (h:j+vs.length≤m) (hm:m≤cur.length):(splice cur j vs).take m=splice (cur.take m) j vs:=by
 unfold splice
 have h1:(cur.take m).take j=cur.take j:=by rw[List.take_take,Nat.min_eq_left (by omega)]
 have h2:(cur.take m).drop (j+vs.length)=(cur.drop (j+vs.length)).take (m - (j+vs.length)):=by rw[List.drop_take]
 have h3:(cur.take j).length=j:=by rw[List.length_take];omega
 rw[h1,h2,List.append_assoc,List.append_assoc,List.take_append,h3,List.take_of_length_le (by omega),List.take_append,List.take_of_length_le (by omega:vs.length≤m - j)]
 congr 3
 omega
theorem OS.put {α:Type} (f:α→List Value) (size:Nat) (hf:∀ x,(f x).length=size) {M:List Blk} {os:OS} {l:List α} {e:Nat} (h:os.ok size (l.flatMap f)) {i:Nat} (hi:i < l.length) (k:Nat) {vs:List Value} (hk:k+vs.length≤size) (h1:allOne vs=true) (x':α) (hx:splice (f l[i]) k vs=f x')
  (pre post:List Blk) (hM:M=pre++(os.blk e++post)) {g off:Nat} (hg:os.a=some g) (hoff:off=i * size+k) {K:List Blk→Prop}
  (kk:∀ (os':OS),os'.val=os.val→os'.a=os.a→os'.n=os.n→os'.ok size ((l.set i x').flatMap f)→K (pre++(os'.blk e++post))):StoreOb M ⟨g,off,none⟩ vs K:=by
 have hl0:=h.len
 rw[flat_len f size hf] at hl0
 obtain⟨a,n,c,cur⟩:=os
 have hl:l.length * size=n * size:=hl0
 simp only at hg
 subst hg
 obtain⟨q1,q2,q3,q4⟩:=h.cap g rfl
 simp only at q1 q2 q3 q4
 have hb:n * size≤c * size:=Nat.mul_le_mul_right _ q2
 have hi2:i * size+size≤l.length * size:=by
  have:=Nat.mul_le_mul_right size (show i+1≤l.length from hi)
  rwa [Nat.add_mul,Nat.one_mul] at this
 subst hM
 subst hoff
 refine StoreOb.mk pre post cur.toArray e rfl rfl ?_ h1 ?_
 ·simp only[List.size_toArray]
  omega
 ·have:=kk ⟨some g,n,c,splice cur (i * size+k) vs⟩ rfl rfl rfl ⟨?_,(fun h=>by cases h),fun g' hg=>?_⟩
  ·simpa[OS.blk] using this
  ·rw[flat_len f size hf,List.length_set]
   exact hl
  ·cases hg
   refine⟨?_,q2,q3,?_⟩
   ·simp only[splice,List.length_append,List.length_take,List.length_drop]
    omega
   ·simp only
    rw[take_splice' (by omega) (by omega),q4,flat_put f size hf l i hi k vs hk x' hx]
theorem OS.putP {α:Type} (f:α→List Value) (size:Nat) (hf:∀ x,(f x).length=size) {M:List Blk} {os:OS} {l:List α} {e:Nat} (h:os.ok size (l.flatMap f)) {i:Nat} (hi:i < l.length) (k:Nat) {vs:List Value} (hk:k+vs.length≤size) (h1:allOne vs=true) (x':α) (hx:splice (f l[i]) k vs=f x')
  (pre post:List Blk) (hM:M=pre++(os.blk e++post)) {ad:Addr} (had:(os.a.map fun g=>(⟨g,0,none⟩:Addr))=some ad) {K:List Blk→Prop}
  (kk:∀ (os':OS),os'.val=os.val→os'.a=os.a→os'.n=os.n→os'.ok size ((l.set i x').flatMap f)→K (pre++(os'.blk e++post))):StoreOb M ((ad.add (i * size)).add k) vs K:=by
 obtain⟨g,hg,rfl⟩:∃ g,os.a=some g∧ad=⟨g,0,none⟩:=by
  cases ha:os.a with
  | none=>rw[ha] at had;cases had
  | some g=>rw[ha] at had;cases had;exact⟨g,rfl,rfl⟩
 rw[addr_add (⟨g,0,none⟩:Addr) rfl,addr_add _ rfl]
 exact OS.put f size hf h hi k hk h1 x' hx pre post hM hg (by simp) kk
end Go.V
namespace Go.V
open Go Go.Proofs
theorem IsW.mono {I I':GH} {x:IA} (h:IsW I x) (hI:∀ b o,I b=some o→I' b=some o):IsW I' x:=⟨h.at'.mono hI,h.n⟩
end Go.V
namespace Go.V
open Go Go.Proofs
section
variable {H:Type} {enc:TypeId×Value→H}
set_option maxRecDepth 100000 in
theorem arg_tree1 {W:World} {base:Nat} {v:Value} {d:DataW H} {p:List MemPlace} (h:DataW.Trod enc Tryz.prog W 0 (fun _=>true) true 43 v d p) (hv:Value.okWide Tryz.prog W .any base 43 v):∃ t:Tr,v=t.val∧TrW (ghost W) t:=by
 obtain⟨fs,ht,-⟩:=struct_fields (P:=Tryz.prog) (t:=43) (l:=[(41,0),(3,1)]) (by kernel_rfl)
 obtain⟨cs,rfl⟩:=agg_of ht hv
 obtain⟨fuel,hf⟩:=h
 obtain⟨g,e,hg⟩:=open_tree hf
 refine⟨g,?_,hg⟩
 have e':cs.toList=g.cells:=e
 cases cs
 simp only at e'
 subst e'
 rfl
end
end Go.V
namespace Go.V
open Go
def Ws.has (w:Ws) (n:Nat):Bool:=(w.at (n / 64)).getLsbD (n % 64)
theorem Ws.at0 (w:Ws):w.at 0=w.a:=rfl
theorem Ws.at1 (w:Ws):w.at 1=w.b:=rfl
theorem Ws.at2 (w:Ws):w.at 2=w.c:=rfl
theorem Ws.at3 (w:Ws):w.at 3=w.d:=rfl
theorem Ws.ext_has {x y:Ws} (h:∀ n,n < 256→x.has n=y.has n):x=y:=by
 have key:∀ j,j < 4→x.at j=y.at j:=fun j hj=>by
  apply BitVec.eq_of_getLsbD_eq
  intro i hi
  have:=h (j * 64+i) (by omega)
  unfold Ws.has at this
  rwa [show (j * 64+i) / 64=j by omega,show (j * 64+i) % 64=i by omega] at this
 exact Ws.ext' (key 0 (by decide)) (key 1 (by decide)) (key 2 (by decide)) (key 3 (by decide))
theorem Ws.at_or (x y:Ws) (j:Nat):(x.or y).at j=x.at j ||| y.at j:=by
 unfold Ws.at
 cases decide (j=0)<;>cases decide (j=1)<;>cases decide (j=2)<;>rfl
theorem Ws.has_or (x y:Ws) (n:Nat):(x.or y).has n=(x.has n || y.has n):=by
 unfold Ws.has
 rw[Ws.at_or,BitVec.getLsbD_or]
theorem Ws.has_zero (n:Nat):Ws.zero.has n=false:=by
 unfold Ws.has Ws.at Ws.zero
 cases decide (n / 64=0)<;>cases decide (n / 64=1)<;>cases decide (n / 64=2)<;>simp
theorem Ws.at_one {i:Nat} (x:BitVec 64) {j:Nat} (hj:j < 4):(Ws.one i x).at j=if j=i then x else 0:=by
 unfold Ws.at Ws.one
 rcases(by omega:j=0∨j=1∨j=2∨j=3) with rfl | rfl | rfl | rfl
 ·by_cases h:i=0<;>simp[h];omega
 ·by_cases h:i=1<;>simp[h];omega
 ·by_cases h:i=2<;>simp[h];omega
 ·by_cases h:i=3<;>simp[h];omega
theorem one_shl (k i:Nat) (hk:k < 64) (hi:i < 64):(1#64 <<< k).getLsbD i=decide (i=k):=by
 rw[BitVec.getLsbD_shiftLeft,Bool.eq_iff_iff]
 simp only[hi,decide_true,Bool.true_and,Bool.and_eq_true,Bool.not_eq_true',decide_eq_false_iff_not,decide_eq_true_eq,BitVec.getLsbD_one]
 omega
theorem has_byte (b:UInt8) {n:Nat} (h:n < 256):(byteW b).has n=decide (n=b.toNat):=by
 have hb:=b.toNat_lt
 unfold Ws.has byteW
 rw[Ws.at_one _ (by omega)]
 by_cases e:n / 64=b.toNat / 64
 ·rw[if_pos e,one_shl _ _ (by omega) (by omega),Bool.eq_iff_iff,decide_eq_true_eq,decide_eq_true_eq]
  omega
 ·rw[if_neg e]
  have:¬ n=b.toNat:=fun h=>e (by rw[h])
  simp[this]
end Go.V
namespace Go.V
open Go Go.Proofs
theorem RPower_spec {I:GH} (n:Nat) (hn:n < 64):Spec Tryz.prog 180 [.int .i64 n] I [] fun v I' M'=>v=.int .u64 ((2 ^ n:Nat):Int)∧I'=I∧M'=[]:=by
 refine spec_of_V [] TryzEOK Tryz.func180 rfl rfl rfl ?_
 intro B h0
 refine LoopOb.inv (ι:=Nat) (fun i=>{ fl:=[(0,.val (.int .i64 n)),(3,.val (.int .u64 ((2 ^ i:Nat):Int))),(4,.val (.int .i64 i))],gi:=I }) (fun i=>i≤n) (fun i=>n - i) ?_ ?_
 ·exact⟨0,Nat.zero_le _,.refl,.cons .refl (.cons .refl (.cons .refl .nil)),.nil⟩
 intro i hi
 refine CondOb.mk (fun h=>?_) (fun h=>?_)
 ·have hlt:i < n:=by simpa using h
  have hp:2 ^ (i+1)≤2 ^ 63:=Nat.pow_le_pow_right (by omega) (by omega)
  have e:((2 ^ i:Nat):Int) * 2=((2 ^ (i+1):Nat):Int):=by rw[Nat.pow_succ];simp
  refine ArithOb.mk ((2 ^ (i+1):Nat):Int) (by rw[e];exact wrap_u64_id ⟨Int.natCast_nonneg _,by omega⟩) ?_
  refine ArithOb.mk _ (next_wr (i:=i) (by omega)) ?_
  exact⟨i+1,⟨hlt,by omega⟩,.refl,.cons .refl (.cons .refl (.cons .refl .nil)),.nil⟩
 ·have:i=n:=by simp at h;omega
  subst this
  exact⟨_,_,.refl,rfl,rfl,rfl⟩
def hasR (ws:List Int) (n:Nat):Bool:=(ws.getD (n / 64) 0).toNat.testBit (n % 64)
theorem hasR_eq {w:Int} (hw:u64ok w) (k:Nat):decide ((w.tdiv ((2 ^ k:Nat):Int)).tmod 2=1)=w.toNat.testBit k:=by
 obtain⟨n,rfl⟩:=Int.eq_ofNat_of_zero_le hw.1
 rw[Nat.testBit_eq_decide_div_mod_eq]
 have e:((n:Int).tdiv ((2 ^ k:Nat):Int)).tmod 2=((n / 2 ^ k % 2:Nat):Int):=rfl
 rw[e,Int.toNat_natCast]
 congr 1
 simp only[eq_iff_iff]
 omega
set_option maxHeartbeats 1000000 in
theorem RHas_spec {I:GH} {a b c d:Int} (hws:∀ x∈[a,b,c,d],u64ok x) (x:UInt8):Spec Tryz.prog 126 [.agg #[.int .u64 a,.int .u64 b,.int .u64 c,.int .u64 d],.int .u8 x.toNat] I [] fun v I' M'=>v=.bool (hasR [a,b,c,d] x.toNat)∧I'=I∧M'=[]:=by
 have hx:=x.toNat_lt
 have key:∀ (w:Int) (j:Nat),x.toNat / 64=j→[a,b,c,d].getD j 0=w→u64ok w→decide ((w.tdiv ((2 ^ (x.toNat % 64):Nat):Int)).tmod 2=1)=hasR [a,b,c,d] x.toNat:=fun w j hj hw hu=>by
  rw[hasR_eq hu,hasR,hj,hw]
 have hpw:=RPower_spec (I:=I) (x.toNat % 64) (by omega)
 have hp0:(0:Int) < ((2 ^ (x.toNat % 64):Nat):Int):=by have:=Nat.two_pow_pos (x.toNat % 64);omega
 have em:((x.toNat:Int)).tmod 64=((x.toNat % 64:Nat):Int):=rfl
 have ed:((x.toNat:Int)).tdiv 64=((x.toNat / 64:Nat):Int):=rfl
 have hdiv:∀ w:Int,u64ok w→IntKind.u64.wrap (w.tdiv ((2 ^ (x.toNat % 64):Nat):Int))=w.tdiv ((2 ^ (x.toNat % 64):Nat):Int):=fun w hw=>by
  obtain⟨n,rfl⟩:=Int.eq_ofNat_of_zero_le hw.1
  have e:(n:Int).tdiv ((2 ^ (x.toNat % 64):Nat):Int)=((n / 2 ^ (x.toNat % 64):Nat):Int):=rfl
  rw[e]
  have h1:=Nat.div_le_self n (2 ^ (x.toNat % 64))
  have h2:=hw.2
  generalize n / 2 ^ (x.toNat % 64)=q at *
  exact wrap_u64_id ⟨by omega,by omega⟩
 refine spec_of_V [] TryzEOK Tryz.func126 rfl rfl rfl ?_
 intro B h0
 refine CodeOb.draw TryzEOK rfl rfl rfl ?_
 refine ArithOb.mk (x.toNat:Int) (wrap_i64 ⟨by omega,by omega⟩) ?_
 refine DivOb.mk (by decide) ?_
 rcases(by omega:x.toNat / 64=0∨x.toNat / 64=1∨x.toNat / 64=2∨x.toNat / 64=3) with hj | hj | hj | hj
 ·refine ArithOb.mk 0 (by rw[ed,hj];decide) ?_
  refine ArrOb.mk 0 rfl (by decide) ?_
  refine ArithOb.mk (x.toNat:Int) (wrap_i64 ⟨by omega,by omega⟩) ?_
  refine DivOb.mk (by decide) ?_
  refine PCallOb.mk _ hpw ?_
  rintro v J N - ⟨rfl,rfl,rfl⟩
  refine DivOb.mk (by omega) ?_
  refine ArithOb.mk _ (hdiv a (hws a (by simp))) ?_
  refine DivOb.mk (by decide) ?_
  exact⟨_,_,.refl,congrArg Value.bool (key a 0 hj rfl (hws a (by simp))),rfl,rfl⟩
 ·refine ArithOb.mk 1 (by rw[ed,hj];decide) ?_
  refine ArrOb.mk 1 rfl (by decide) ?_
  refine ArithOb.mk (x.toNat:Int) (wrap_i64 ⟨by omega,by omega⟩) ?_
  refine DivOb.mk (by decide) ?_
  refine PCallOb.mk _ hpw ?_
  rintro v J N - ⟨rfl,rfl,rfl⟩
  refine DivOb.mk (by omega) ?_
  refine ArithOb.mk _ (hdiv b (hws b (by simp))) ?_
  refine DivOb.mk (by decide) ?_
  exact⟨_,_,.refl,congrArg Value.bool (key b 1 hj rfl (hws b (by simp))),rfl,rfl⟩
 ·refine ArithOb.mk 2 (by rw[ed,hj];decide) ?_
  refine ArrOb.mk 2 rfl (by decide) ?_
  refine ArithOb.mk (x.toNat:Int) (wrap_i64 ⟨by omega,by omega⟩) ?_
  refine DivOb.mk (by decide) ?_
  refine PCallOb.mk _ hpw ?_
  rintro v J N - ⟨rfl,rfl,rfl⟩
  refine DivOb.mk (by omega) ?_
  refine ArithOb.mk _ (hdiv c (hws c (by simp))) ?_
  refine DivOb.mk (by decide) ?_
  exact⟨_,_,.refl,congrArg Value.bool (key c 2 hj rfl (hws c (by simp))),rfl,rfl⟩
 ·refine ArithOb.mk 3 (by rw[ed,hj];decide) ?_
  refine ArrOb.mk 3 rfl (by decide) ?_
  refine ArithOb.mk (x.toNat:Int) (wrap_i64 ⟨by omega,by omega⟩) ?_
  refine DivOb.mk (by decide) ?_
  refine PCallOb.mk _ hpw ?_
  rintro v J N - ⟨rfl,rfl,rfl⟩
  refine DivOb.mk (by omega) ?_
  refine ArithOb.mk _ (hdiv d (hws d (by simp))) ?_
  refine DivOb.mk (by decide) ?_
  exact⟨_,_,.refl,congrArg Value.bool (key d 3 hj rfl (hws d (by simp))),rfl,rfl⟩
def endR (p:Nat→Bool):Nat→Nat→Nat
 | 0,t=>t
 | f+1,t=>bif p (t+1) then endR p f (t+1) else t
def startR (p:Nat→Bool) (i:Nat):Bool:=p i && (decide (i=0) || !p (i - 1))
def runsR (p:Nat→Bool) (n:Nat):List (UInt8×UInt8):=((List.range n).filter (startR p)).map fun i=>(UInt8.ofNat i,UInt8.ofNat (endR p (255 - i) i))
theorem runsR_succ (p:Nat→Bool) (n:Nat):runsR p (n+1)=runsR p n++(bif startR p n then [(UInt8.ofNat n,UInt8.ofNat (endR p (255 - n) n))] else []):=by
 unfold runsR
 rw[List.range_succ,List.filter_append,List.map_append]
 cases h:startR p n<;>simp[h]
theorem runsR_len (p:Nat→Bool) (n:Nat):(runsR p n).length≤n:=by
 have:=List.length_filter_le (startR p) (List.range n)
 simpa[runsR] using this
theorem app_okP {os:OS} {rs:List (UInt8×UInt8)} {x:UInt8×UInt8} (hos:os.ok 2 (pairV rs)) {g c:Nat} {cur:List Value} (h1:cur.length=c * 2) (h2:os.n+1≤c) (h3:c≤maxLen) (h4:cur.take ((os.n+1) * 2)=pairV rs++pairC x) :
  OS.ok ⟨some g,os.n+1,c,cur⟩ 2 (pairV (rs++[x])):=by
 have hpx:pairV (rs++[x])=pairV rs++pairC x:=by simp[pairV]
 have hl:=hos.len
 refine⟨?_,(fun h=>by cases h),fun g3 hg3=>⟨h1,h2,h3,by rw[hpx];exact h4⟩⟩
 rw[hpx,List.length_append,hl]
 simp[pairC]
 omega
theorem u8nat {n:Nat} (h:n < 256):(UInt8.ofNat n).toNat=n:=by
 rw[UInt8.toNat_ofNat']
 omega
theorem u8wr {n:Nat} (h:n < 256):IntKind.u8.wrap (n:Int)=((UInt8.ofNat n).toNat:Int):=by
 rw[u8nat h]
 simp[IntKind.wrap,IntKind.signed,IntKind.bits]
 omega
theorem RHas_n {I:GH} {a b c d:Int} (hws:∀ x∈[a,b,c,d],u64ok x) {n:Nat} (hn:n < 256):Spec Tryz.prog 126 [.agg #[.int .u64 a,.int .u64 b,.int .u64 c,.int .u64 d],.int .u8 (UInt8.ofNat n).toNat] I [] fun v I' M'=>v=.bool (hasR [a,b,c,d] n)∧I'=I∧M'=[]:=by
 have h:=RHas_spec (I:=I) hws (UInt8.ofNat n)
 rwa [show hasR [a,b,c,d] (UInt8.ofNat n).toNat=hasR [a,b,c,d] n from by rw[u8nat hn]] at h
set_option maxHeartbeats 4000000 in
theorem RRuns_spec {I:GH} {a b c d:Int} (hws:∀ x∈[a,b,c,d],u64ok x):Spec Tryz.prog 225 [.agg #[.int .u64 a,.int .u64 b,.int .u64 c,.int .u64 d]] I [] fun v I' M'=>I'=I∧∃ os:OS,v=os.val∧os.ok 2 (pairV (runsR (hasR [a,b,c,d]) 256))∧M'=os.blk 270:=by
 refine spec_of_V [] TryzEOK Tryz.func225 rfl rfl rfl ?_
 intro B h0
 generalize hp:hasR [a,b,c,d]=p
 have hH:∀ {n:Nat},n < 256→Spec Tryz.prog 126 [.agg #[.int .u64 a,.int .u64 b,.int .u64 c,.int .u64 d],.int .u8 (UInt8.ofNat n).toNat] I [] fun v I' M'=>v=.bool (p n)∧I'=I∧M'=[]:=fun hn=>by
  rw[←hp]
  exact RHas_n hws hn
 refine LoopOb.inv (ι:=Nat×OS) (fun x=>{ fl:=[(1,.ref 1 0),(3,.val x.2.val),(4,.val (.int .i64 x.1))],cl:=[(1,setV a b c d)],gi:=I,mi:=x.2.blk 270 }) (fun x=>x.1≤256∧x.2.ok 2 (pairV (runsR p x.1))) (fun x=>256 - x.1) ?_ ?_
 ·exact⟨(0,OS0),⟨by simp,OS0_ok 2⟩,.refl,.cons .refl (.cons .refl (.cons .refl .nil)),.cons rfl .nil⟩
 rintro⟨n,os⟩ ⟨hn,hos⟩
 simp only at hn hos
 have hol:os.n≤256:=by
  have h1:=hos.len
  have h2:=runsR_len p n
  rw[pairV_len] at h1
  omega
 have hsu:=runsR_succ p n
 refine CondOb.mk (fun h=>?_) (fun h=>?_)
 ·have hlt:n < 256:=by simp at h;omega
  refine ArithOb.mk _ (u8wr hlt) ?_
  refine CallOb.mk [] (os.blk 270) _ (.refl _) (hH hlt) ?_
  rintro v J N - ⟨rfl,hJ,rfl⟩
  subst J
  refine GuardOb.mk (fun h1=>?_) (fun h1=>?_)
  ·have hpn:p n=true:=by simpa using h1
   refine GuardOb.mk (fun h2=>?_) (fun h2=>?_)
   ·have hpos:0 < n:=by simpa using h2
    refine ArithOb.mk ((n - 1:Nat):Int) (by rw[wrap_i64 ⟨by omega,by omega⟩];omega) ?_
    refine ArithOb.mk _ (u8wr (n:=n - 1) (by omega)) ?_
    refine CallOb.mk [] (os.blk 270) _ (.refl _) (hH (n:=n - 1) (by omega)) ?_
    rintro v J N - ⟨rfl,hJ,rfl⟩
    subst J
    refine CondOb.mk (fun h3=>?_) (fun h3=>?_)
    ·refine ArithOb.mk _ (next_wr (i:=n) (by omega)) ?_
     refine⟨(n+1,os),⟨⟨by simp only;omega,?_⟩,by simp only;omega⟩,.refl,.cons .refl (.cons .refl (.cons .refl .nil)),.cons rfl .nil⟩
     simp only
     have hst:startR p n=false:=by
      have e:decide (n=0)=false:=by simp;omega
      rw[startR,hpn,h3,e]
      rfl
     rw[hsu,hst,cond_false,List.append_nil]
     exact hos
    have hst:startR p n=true:=by rw[startR,hpn,h3];simp
    refine LoopOb.inv (ι:=Nat) (fun t=>{ fl:=[(1,.ref 1 0),(3,.val os.val),(4,.val (.int .i64 n)),(5,.val (.int .i64 t))],cl:=[(1,setV a b c d)],gi:=I,mi:=os.blk 270 }) (fun t=>n≤t∧t≤255∧endR p (255 - n) n=endR p (255 - t) t) (fun t=>255 - t) ?_ ?_
    ·exact⟨n,⟨Nat.le_refl _,by omega,rfl⟩,.refl,.cons .refl (.cons .refl (.cons .refl (.cons .refl .nil))),.cons rfl .nil⟩
    intro t ⟨ht1,ht2,ht3⟩
    refine GuardOb.mk (fun h4=>?_) (fun h4=>?_)
    ·have hlt4:t < 255:=by simp at h4;omega
     have hstep:endR p (255 - t) t=bif p (t+1) then endR p (255 - (t+1)) (t+1) else t:=by
      rw[show 255 - t=(255 - (t+1))+1 from by omega,endR]
     refine ArithOb.mk _ (next_wr (i:=t) (by omega)) ?_
     refine ArithOb.mk _ (u8wr (n:=t+1) (by omega)) ?_
     refine CallOb.mk [] (os.blk 270) _ (.refl _) (hH (n:=t+1) (by omega)) ?_
     rintro v J N - ⟨rfl,hJ,rfl⟩
     subst J
     refine CondOb.mk (fun h5=>?_) (fun h5=>?_)
     ·refine ArithOb.mk _ (next_wr (i:=t) (by omega)) ?_
      exact⟨t+1,⟨⟨by omega,by omega,by rw[ht3,hstep,h5,cond_true]⟩,by omega⟩,.refl,.cons .refl (.cons .refl (.cons .refl (.cons .refl .nil))),.cons rfl .nil⟩
     ·have hend:endR p (255 - n) n=t:=by rw[ht3,hstep,h5,cond_false]
      refine ArithOb.mk _ (u8wr (n:=n) (by omega)) ?_
      refine ArithOb.mk _ (u8wr (n:=t) (by omega)) ?_
      refine AllocOb.mk fun b9 hb9 hbM9=>?_
      refine OtherOb.appendN TryzEOK rfl (by simp) (e:=270) rfl rfl rfl os hos rfl (m:=1) rfl (news:=pairC (UInt8.ofNat n,UInt8.ofNat t)) (by decide) (blk_rd (b:=b9) (cs:=pairC (UInt8.ofNat n,UInt8.ofNat t)) (k:=0) (n:=2) (T:=270) (.head _) (Nat.le_refl 2)) rfl (Mr:=[⟨b9,.cells (pairC (UInt8.ofNat n,UInt8.ofNat t)).toArray 270 (0,0)⟩]) (List.perm_append_comm (l₁:=[_])) (by simp only[maxLen];omega) (by show (os.n+1) * 2≤_;omega) ?_
      intro g' c' cur' q0 q1 q2 q3 q4
      refine ArithOb.mk _ (next_wr (i:=n) (by omega)) ?_
      refine⟨(n+1,⟨some g',os.n+1,c',cur'⟩),⟨⟨by simp only;omega,?_⟩,by simp only;omega⟩,.sub (List.Sublist.cons_cons _ (List.nil_sublist _)) .refl,.cons .refl (.cons .refl (.cons .refl .nil)),.cons rfl .nil⟩
      simp only
      rw[hsu,hst,cond_true,hend]
      exact app_okP hos q1 q2 q3 q4
    ·have ht5:t=255:=by simp at h4;omega
     have hend:endR p (255 - n) n=t:=by
      rw[ht3,ht5]
      rfl
     refine ArithOb.mk _ (u8wr (n:=n) (by omega)) ?_
     refine ArithOb.mk _ (u8wr (n:=t) (by omega)) ?_
     refine AllocOb.mk fun b9 hb9 hbM9=>?_
     refine OtherOb.appendN TryzEOK rfl (by simp) (e:=270) rfl rfl rfl os hos rfl (m:=1) rfl (news:=pairC (UInt8.ofNat n,UInt8.ofNat t)) (by decide) (blk_rd (b:=b9) (cs:=pairC (UInt8.ofNat n,UInt8.ofNat t)) (k:=0) (n:=2) (T:=270) (.head _) (Nat.le_refl 2)) rfl (Mr:=[⟨b9,.cells (pairC (UInt8.ofNat n,UInt8.ofNat t)).toArray 270 (0,0)⟩]) (List.perm_append_comm (l₁:=[_])) (by simp only[maxLen];omega) (by show (os.n+1) * 2≤_;omega) ?_
     intro g' c' cur' q0 q1 q2 q3 q4
     refine ArithOb.mk _ (next_wr (i:=n) (by omega)) ?_
     refine⟨(n+1,⟨some g',os.n+1,c',cur'⟩),⟨⟨by simp only;omega,?_⟩,by simp only;omega⟩,.sub (List.Sublist.cons_cons _ (List.nil_sublist _)) .refl,.cons .refl (.cons .refl (.cons .refl .nil)),.cons rfl .nil⟩
     simp only
     rw[hsu,hst,cond_true,hend]
     exact app_okP hos q1 q2 q3 q4
   ·have hst:startR p n=true:=by
     have e:n=0:=by simp at h2;omega
     rw[startR,hpn,e]
     rfl
    refine LoopOb.inv (ι:=Nat) (fun t=>{ fl:=[(1,.ref 1 0),(3,.val os.val),(4,.val (.int .i64 n)),(5,.val (.int .i64 t))],cl:=[(1,setV a b c d)],gi:=I,mi:=os.blk 270 }) (fun t=>n≤t∧t≤255∧endR p (255 - n) n=endR p (255 - t) t) (fun t=>255 - t) ?_ ?_
    ·exact⟨n,⟨Nat.le_refl _,by omega,rfl⟩,.refl,.cons .refl (.cons .refl (.cons .refl (.cons .refl .nil))),.cons rfl .nil⟩
    intro t ⟨ht1,ht2,ht3⟩
    refine GuardOb.mk (fun h4=>?_) (fun h4=>?_)
    ·have hlt4:t < 255:=by simp at h4;omega
     have hstep:endR p (255 - t) t=bif p (t+1) then endR p (255 - (t+1)) (t+1) else t:=by
      rw[show 255 - t=(255 - (t+1))+1 from by omega,endR]
     refine ArithOb.mk _ (next_wr (i:=t) (by omega)) ?_
     refine ArithOb.mk _ (u8wr (n:=t+1) (by omega)) ?_
     refine CallOb.mk [] (os.blk 270) _ (.refl _) (hH (n:=t+1) (by omega)) ?_
     rintro v J N - ⟨rfl,hJ,rfl⟩
     subst J
     refine CondOb.mk (fun h5=>?_) (fun h5=>?_)
     ·refine ArithOb.mk _ (next_wr (i:=t) (by omega)) ?_
      exact⟨t+1,⟨⟨by omega,by omega,by rw[ht3,hstep,h5,cond_true]⟩,by omega⟩,.refl,.cons .refl (.cons .refl (.cons .refl (.cons .refl .nil))),.cons rfl .nil⟩
     ·have hend:endR p (255 - n) n=t:=by rw[ht3,hstep,h5,cond_false]
      refine ArithOb.mk _ (u8wr (n:=n) (by omega)) ?_
      refine ArithOb.mk _ (u8wr (n:=t) (by omega)) ?_
      refine AllocOb.mk fun b9 hb9 hbM9=>?_
      refine OtherOb.appendN TryzEOK rfl (by simp) (e:=270) rfl rfl rfl os hos rfl (m:=1) rfl (news:=pairC (UInt8.ofNat n,UInt8.ofNat t)) (by decide) (blk_rd (b:=b9) (cs:=pairC (UInt8.ofNat n,UInt8.ofNat t)) (k:=0) (n:=2) (T:=270) (.head _) (Nat.le_refl 2)) rfl (Mr:=[⟨b9,.cells (pairC (UInt8.ofNat n,UInt8.ofNat t)).toArray 270 (0,0)⟩]) (List.perm_append_comm (l₁:=[_])) (by simp only[maxLen];omega) (by show (os.n+1) * 2≤_;omega) ?_
      intro g' c' cur' q0 q1 q2 q3 q4
      refine ArithOb.mk _ (next_wr (i:=n) (by omega)) ?_
      refine⟨(n+1,⟨some g',os.n+1,c',cur'⟩),⟨⟨by simp only;omega,?_⟩,by simp only;omega⟩,.sub (List.Sublist.cons_cons _ (List.nil_sublist _)) .refl,.cons .refl (.cons .refl (.cons .refl .nil)),.cons rfl .nil⟩
      simp only
      rw[hsu,hst,cond_true,hend]
      exact app_okP hos q1 q2 q3 q4
    ·have ht5:t=255:=by simp at h4;omega
     have hend:endR p (255 - n) n=t:=by
      rw[ht3,ht5]
      rfl
     refine ArithOb.mk _ (u8wr (n:=n) (by omega)) ?_
     refine ArithOb.mk _ (u8wr (n:=t) (by omega)) ?_
     refine AllocOb.mk fun b9 hb9 hbM9=>?_
     refine OtherOb.appendN TryzEOK rfl (by simp) (e:=270) rfl rfl rfl os hos rfl (m:=1) rfl (news:=pairC (UInt8.ofNat n,UInt8.ofNat t)) (by decide) (blk_rd (b:=b9) (cs:=pairC (UInt8.ofNat n,UInt8.ofNat t)) (k:=0) (n:=2) (T:=270) (.head _) (Nat.le_refl 2)) rfl (Mr:=[⟨b9,.cells (pairC (UInt8.ofNat n,UInt8.ofNat t)).toArray 270 (0,0)⟩]) (List.perm_append_comm (l₁:=[_])) (by simp only[maxLen];omega) (by show (os.n+1) * 2≤_;omega) ?_
     intro g' c' cur' q0 q1 q2 q3 q4
     refine ArithOb.mk _ (next_wr (i:=n) (by omega)) ?_
     refine⟨(n+1,⟨some g',os.n+1,c',cur'⟩),⟨⟨by simp only;omega,?_⟩,by simp only;omega⟩,.sub (List.Sublist.cons_cons _ (List.nil_sublist _)) .refl,.cons .refl (.cons .refl (.cons .refl .nil)),.cons rfl .nil⟩
     simp only
     rw[hsu,hst,cond_true,hend]
     exact app_okP hos q1 q2 q3 q4
  ·have hpn:p n=false:=by simpa using h1
   refine ArithOb.mk _ (next_wr (i:=n) (by omega)) ?_
   refine⟨(n+1,os),⟨⟨by simp only;omega,?_⟩,by simp only;omega⟩,.refl,.cons .refl (.cons .refl (.cons .refl .nil)),.cons rfl .nil⟩
   simp only
   rw[hsu,startR,hpn,Bool.false_and,cond_false,List.append_nil]
   exact hos
 ·have:n=256:=by simp at h;omega
  subst this
  exact⟨_,_,.refl,rfl,os,rfl,hos,rfl⟩
end Go.V
namespace Go.V
open Go Go.Proofs
theorem Ws.ints (w:Ws):∀ x∈[(w.a.toNat:Int),(w.b.toNat:Int),(w.c.toNat:Int),(w.d.toNat:Int)],u64ok x:=by
 have h1:=w.a.isLt
 have h2:=w.b.isLt
 have h3:=w.c.isLt
 have h4:=w.d.isLt
 intro x hx
 simp only[List.mem_cons,List.not_mem_nil,or_false] at hx
 unfold u64ok
 rcases hx with rfl | rfl | rfl | rfl<;>omega
theorem hasR_ws (w:Ws) {n:Nat} (h:n < 256):hasR [(w.a.toNat:Int),(w.b.toNat:Int),(w.c.toNat:Int),(w.d.toNat:Int)] n=w.has n:=by
 unfold hasR Ws.has
 rcases(by omega:n / 64=0∨n / 64=1∨n / 64=2∨n / 64=3) with hj | hj | hj | hj<;>rw[hj]
 ·rw[Ws.at0];rfl
 ·rw[Ws.at1];rfl
 ·rw[Ws.at2];rfl
 ·rw[Ws.at3];rfl
theorem Ws.or_in {w:Ws} {b:UInt8} (h:w.has b.toNat=true):w.or (byteW b)=w:=by
 refine Ws.ext_has fun n hn=>?_
 rw[Ws.has_or,has_byte b hn]
 by_cases e:n=b.toNat
 ·subst e
  simp[h]
 ·simp[e]
def fromP (p:Nat→Bool):Nat→Ws
 | 0=>.zero
 | n+1=>bif p n then (fromP p n).or (byteW (UInt8.ofNat n)) else fromP p n
theorem fromP_has (p:Nat→Bool) {m:Nat} (hm:m < 256):∀ n,n≤256→(fromP p n).has m=(decide (m < n) && p m)
 | 0,_=>by rw[fromP,Ws.has_zero];simp
 | n+1,hn=>by
  have ih:=fromP_has p hm n (by omega)
  rw[fromP]
  cases hp:p n with
  | false=>
   simp only[cond_false,ih]
   by_cases e:m=n
   ·subst e
    simp[hp]
   ·congr 1
    rw[Bool.eq_iff_iff,decide_eq_true_eq,decide_eq_true_eq]
    omega
  | true=>
   simp only[cond_true,Ws.has_or,ih,has_byte _ hm,u8nat (show n < 256 by omega)]
   by_cases e:m=n
   ·subst e
    simp[hp]
   ·have h1:decide (m=n)=false:=decide_eq_false e
    rw[h1,Bool.or_false]
    congr 1
    rw[Bool.eq_iff_iff,decide_eq_true_eq,decide_eq_true_eq]
    omega
theorem fromP_eq {p:Nat→Bool} {w:Ws} (h:∀ n,n < 256→p n=w.has n):fromP p 256=w:=Ws.ext_has fun n hn=>by
 rw[fromP_has p hn 256 (Nat.le_refl _),h n hn,decide_eq_true hn,Bool.true_and]
theorem RHas_w {I:GH} (w:Ws) (b:UInt8):Spec Tryz.prog 126 [w.val,.int .u8 b.toNat] I [] fun v I' M'=>v=.bool (w.has b.toNat)∧I'=I∧M'=[]:=by
 have h:=RHas_spec (I:=I) w.ints b
 rwa [hasR_ws w b.toNat_lt] at h
theorem add_bit {w:BitVec 64} {k:Nat} (hk:k < 64) (h:w.getLsbD k=false):IntKind.u64.wrap ((w.toNat:Int)+((2 ^ k:Nat):Int))=((w ||| (1#64 <<< k)).toNat:Int):=by
 have hz:w &&& (1#64 <<< k)=0#64:=by
  apply BitVec.eq_of_getLsbD_eq
  intro i hi
  rw[BitVec.getLsbD_and,one_shl k i hk hi]
  by_cases e:i=k
  ·subst e
   simp[h]
  ·simp[e]
 have h1:(1#64 <<< k).toNat=2 ^ k:=by
  rw[BitVec.toNat_shiftLeft,Nat.shiftLeft_eq]
  have:2 ^ k < 2 ^ 64:=Nat.pow_lt_pow_right (by decide) hk
  simp only[BitVec.toNat_ofNat]
  rw[Nat.mod_eq_of_lt (by decide:1 < 2 ^ 64),Nat.one_mul]
  exact Nat.mod_eq_of_lt this
 rw[←BitVec.add_eq_or_of_and_eq_zero _ _ hz,BitVec.toNat_add,h1]
 unfold IntKind.wrap
 simp only[IntKind.bits,IntKind.signed]
 simp
set_option maxHeartbeats 1000000 in
theorem RWith_spec {I:GH} (w:Ws) (b:UInt8):Spec Tryz.prog 127 [w.val,.int .u8 b.toNat] I [] fun v I' M'=>v=(w.or (byteW b)).val∧I'=I∧M'=[]:=by
 have hx:=b.toNat_lt
 have hpw:=RPower_spec (I:=I) (b.toNat % 64) (by omega)
 have em:((b.toNat:Int)).tmod 64=((b.toNat % 64:Nat):Int):=rfl
 have ed:((b.toNat:Int)).tdiv 64=((b.toNat / 64:Nat):Int):=rfl
 refine spec_of_V [] TryzEOK Tryz.func127 rfl rfl rfl ?_
 intro B h0
 refine CallOb.mk [] [] _ (.refl _) (RHas_w w b) ?_
 rintro v I' M' - ⟨rfl,rfl,rfl⟩
 refine CondOb.mk (fun h=>?_) (fun h=>?_)
 rotate_left
 ·have hh:w.has b.toNat=true:=by simpa using h
  rw[Ws.or_in hh]
  exact⟨_,_,.refl,rfl,rfl,rfl⟩
 have hh:w.has b.toNat=false:=by simpa using h
 have hk:∀ j,b.toNat / 64=j→(w.at j).getLsbD (b.toNat % 64)=false:=fun j hj=>by rw[←hj];exact hh
 refine CodeOb.draw TryzEOK rfl rfl rfl ?_
 refine ArithOb.mk (b.toNat:Int) (wrap_i64 ⟨by omega,by omega⟩) ?_
 refine DivOb.mk (by decide) ?_
 rcases(by omega:b.toNat / 64=0∨b.toNat / 64=1∨b.toNat / 64=2∨b.toNat / 64=3) with hj | hj | hj | hj
 ·refine ArithOb.mk 0 (by rw[ed,hj];decide) ?_
  refine ArithOb.mk (b.toNat:Int) (wrap_i64 ⟨by omega,by omega⟩) ?_
  refine DivOb.mk (by decide) ?_
  refine ArithOb.mk 0 (by rw[ed,hj];decide) ?_
  refine ArrOb.mk 0 rfl (by decide) ?_
  refine ArithOb.mk (b.toNat:Int) (wrap_i64 ⟨by omega,by omega⟩) ?_
  refine DivOb.mk (by decide) ?_
  refine PCallOb.mk _ hpw ?_
  rintro v J N - ⟨rfl,rfl,rfl⟩
  refine ArithOb.mk _ (add_bit (w:=w.a) (by omega) (hk 0 hj)) ?_
  refine ArrOb.mk 0 rfl (by decide) ?_
  refine⟨_,_,.refl,?_,rfl,rfl⟩
  rw[show byteW b=Ws.one 0 (1#64 <<< (b.toNat % 64)) by rw[byteW,hj]]
  simp[Ws.val,Ws.or,Ws.one]
  try rfl
 ·refine ArithOb.mk 1 (by rw[ed,hj];decide) ?_
  refine ArithOb.mk (b.toNat:Int) (wrap_i64 ⟨by omega,by omega⟩) ?_
  refine DivOb.mk (by decide) ?_
  refine ArithOb.mk 1 (by rw[ed,hj];decide) ?_
  refine ArrOb.mk 1 rfl (by decide) ?_
  refine ArithOb.mk (b.toNat:Int) (wrap_i64 ⟨by omega,by omega⟩) ?_
  refine DivOb.mk (by decide) ?_
  refine PCallOb.mk _ hpw ?_
  rintro v J N - ⟨rfl,rfl,rfl⟩
  refine ArithOb.mk _ (add_bit (w:=w.b) (by omega) (hk 1 hj)) ?_
  refine ArrOb.mk 1 rfl (by decide) ?_
  refine⟨_,_,.refl,?_,rfl,rfl⟩
  rw[show byteW b=Ws.one 1 (1#64 <<< (b.toNat % 64)) by rw[byteW,hj]]
  simp[Ws.val,Ws.or,Ws.one]
  try rfl
 ·refine ArithOb.mk 2 (by rw[ed,hj];decide) ?_
  refine ArithOb.mk (b.toNat:Int) (wrap_i64 ⟨by omega,by omega⟩) ?_
  refine DivOb.mk (by decide) ?_
  refine ArithOb.mk 2 (by rw[ed,hj];decide) ?_
  refine ArrOb.mk 2 rfl (by decide) ?_
  refine ArithOb.mk (b.toNat:Int) (wrap_i64 ⟨by omega,by omega⟩) ?_
  refine DivOb.mk (by decide) ?_
  refine PCallOb.mk _ hpw ?_
  rintro v J N - ⟨rfl,rfl,rfl⟩
  refine ArithOb.mk _ (add_bit (w:=w.c) (by omega) (hk 2 hj)) ?_
  refine ArrOb.mk 2 rfl (by decide) ?_
  refine⟨_,_,.refl,?_,rfl,rfl⟩
  rw[show byteW b=Ws.one 2 (1#64 <<< (b.toNat % 64)) by rw[byteW,hj]]
  simp[Ws.val,Ws.or,Ws.one]
  try rfl
 ·refine ArithOb.mk 3 (by rw[ed,hj];decide) ?_
  refine ArithOb.mk (b.toNat:Int) (wrap_i64 ⟨by omega,by omega⟩) ?_
  refine DivOb.mk (by decide) ?_
  refine ArithOb.mk 3 (by rw[ed,hj];decide) ?_
  refine ArrOb.mk 3 rfl (by decide) ?_
  refine ArithOb.mk (b.toNat:Int) (wrap_i64 ⟨by omega,by omega⟩) ?_
  refine DivOb.mk (by decide) ?_
  refine PCallOb.mk _ hpw ?_
  rintro v J N - ⟨rfl,rfl,rfl⟩
  refine ArithOb.mk _ (add_bit (w:=w.d) (by omega) (hk 3 hj)) ?_
  refine ArrOb.mk 3 rfl (by decide) ?_
  refine⟨_,_,.refl,?_,rfl,rfl⟩
  rw[show byteW b=Ws.one 3 (1#64 <<< (b.toNat % 64)) by rw[byteW,hj]]
  simp[Ws.val,Ws.or,Ws.one]
  try rfl
set_option maxHeartbeats 1000000 in
theorem ROr0_spec {I:GH} (x y:Ws):Spec Tryz.prog 89 [x.val,y.val] I [] fun v I' M'=>v=(fromP (fun n=>x.has n || y.has n) 256).val∧I'=I∧M'=[]:=by
 refine spec_of_V [] TryzEOK Tryz.func89 rfl rfl rfl ?_
 intro B h0
 refine LoopOb.inv (ι:=Nat) (fun i=>{ fl:=[(2,.ref 2 0),(3,.ref 3 0),(4,.ref 4 0),(5,.ref 5 0),(6,.val (.int .i64 i))],cl:=[(2,x.cells),(3,y.cells),(4,Ws.zero.cells),(5,(fromP (fun n=>x.has n || y.has n) i).cells)],gi:=I }) (fun i=>i≤256) (fun i=>256 - i) ?_ ?_
 ·exact⟨0,by simp,.refl,.cons .refl (.cons .refl (.cons .refl (.cons .refl (.cons .refl (.nil))))),.cons rfl (.cons rfl (.cons rfl (.cons rfl (.nil))))⟩
 intro i hi
 refine CondOb.mk (fun h=>?_) (fun h=>?_)
 rotate_left
 ·have:i=256:=by have:¬ (i:Int) < 256:=of_decide_eq_false h;omega
  subst this
  exact⟨_,_,.refl,rfl,rfl,rfl⟩
 have hlt:i < 256:=by have:(i:Int) < 256:=of_decide_eq_true h;omega
 have e8:=u8wr hlt
 have hb:(UInt8.ofNat i).toNat=i:=u8nat hlt
 have hx:=RHas_w (I:=I) x (UInt8.ofNat i)
 have hy:=RHas_w (I:=I) y (UInt8.ofNat i)
 rw[hb] at hx hy
 refine ArithOb.mk (i:Int) (by rw[e8,hb]) ?_
 refine CallOb.mk [] [] _ (.refl _) hx ?_
 rintro v I1 M1 - ⟨rfl,rfl,rfl⟩
 refine GuardOb.mk (fun h1=>?_) (fun h1=>?_)
 ·have h1':x.has i=false:=h1
  refine ArithOb.mk (i:Int) (by rw[e8,hb]) ?_
  refine CallOb.mk [] [] _ (.refl _) hy ?_
  rintro v I1 M1 - ⟨rfl,rfl,rfl⟩
  refine CondOb.mk (fun h2=>?_) (fun h2=>?_)
  ·have h2':y.has i=true:=h2
   exact(by
   refine ArithOb.mk (i:Int) (by rw[e8,hb]) ?_
   have hw:=RWith_spec (I:=I1) (fromP (fun n=>x.has n || y.has n) i) (UInt8.ofNat i)
   rw[hb] at hw
   refine CallOb.mk [] [] _ (.refl _) hw ?_
   rintro v I2 M2 - ⟨rfl,rfl,rfl⟩
   refine ArithOb.mk _ (next_wr (i:=i) (by omega)) ?_
   refine⟨i+1,⟨by omega,by omega⟩,.refl,.cons .refl (.cons .refl (.cons .refl (.cons .refl (.cons .refl (.nil))))),.cons rfl (.cons rfl (.cons rfl (.cons ?_ .nil)))⟩
   have e:(x.has i || y.has i)=true:=by rw[h1',h2'];rfl
   simp only[fromP,e,cond_true]
   rfl)
  ·have h2':y.has i=false:=h2
   exact(by
   refine ArithOb.mk _ (next_wr (i:=i) (by omega)) ?_
   refine⟨i+1,⟨by omega,by omega⟩,.refl,.cons .refl (.cons .refl (.cons .refl (.cons .refl (.cons .refl (.nil))))),.cons rfl (.cons rfl (.cons rfl (.cons ?_ .nil)))⟩
   have e:(x.has i || y.has i)=false:=by rw[h1',h2'];rfl
   simp only[fromP,e,cond_false]
   rfl)
 ·have h1':x.has i=true:=h1
  exact(by
   refine ArithOb.mk (i:Int) (by rw[e8,hb]) ?_
   have hw:=RWith_spec (I:=I1) (fromP (fun n=>x.has n || y.has n) i) (UInt8.ofNat i)
   rw[hb] at hw
   refine CallOb.mk [] [] _ (.refl _) hw ?_
   rintro v I2 M2 - ⟨rfl,rfl,rfl⟩
   refine ArithOb.mk _ (next_wr (i:=i) (by omega)) ?_
   refine⟨i+1,⟨by omega,by omega⟩,.refl,.cons .refl (.cons .refl (.cons .refl (.cons .refl (.cons .refl (.nil))))),.cons rfl (.cons rfl (.cons rfl (.cons ?_ .nil)))⟩
   have e:(x.has i || y.has i)=true:=by rw[h1'];rfl
   simp only[fromP,e,cond_true]
   rfl)
theorem ROr_spec {I:GH} (x y:Ws):Spec Tryz.prog 89 [x.val,y.val] I [] fun v I' M'=>v=(x.or y).val∧I'=I∧M'=[]:=by
 have h:=ROr0_spec (I:=I) x y
 rwa [fromP_eq (w:=x.or y) (fun n _=>(Ws.has_or x y n).symm)] at h
end Go.V
