/-
  Part 4 of what the proofs of this seat share: the executor, data in memory, walks.
-/
import Derived.Test.YtmijfbjkkllhlaaGreatDoorK3
import Derived.Test.YtmijfbjkkllhlaaGreatDoorK2
import Derived.Laws.IdiomStrings
set_option linter.all false
namespace Go.V
open Go Go.Proofs
def szOf (ns:List Nd):Int→Nat:=tabOf 0 (fun d g=>1+sumOf g d.kids) ns
theorem szOf_eq {t:Tr} (hr:right t=true) {j:Nat} (hj:j < t.ns.length):szOf t.ns j=1+sumOf (szOf t.ns) t.ns[j].kids:=
 tabOf_eq (fun d g g' h=>by rw[sumOf_congr h]) hr hj
theorem sz_root {t:Tr} (hr:right t=true):szOf t.ns t.root≤t.ns.length:=by
 have:=right_sum hr (g:=szOf t.ns) (c:=fun _=>1) fun j hj=>by rw[szOf_eq hr hj];exact Nat.le_refl _
 rwa [sum_const,Nat.one_mul] at this
theorem kidsOk_mark {i:Nat}:∀ {ks:List Int} {s s':List Bool},kidsOk i ks s=some s'→∀ j,s'.getD j false=true→s.getD j false=true∨((j:Int)∈ks∧j < i)
 | [],s,s',h,j,hj=>by
  simp only[kidsOk,Option.some.injEq] at h
  subst h
  exact .inl hj
 | k::ks,s,s',h,j,hj=>by
  unfold kidsOk at h
  cases hb:decide (k < 0) || (decide ((i:Int)≤k) || s.getD k.toNat false) with
  | true=>rw[hb] at h;cases h
  | false=>
   rw[hb] at h
   simp only[cond_false] at h
   simp only[Bool.or_eq_false_iff,decide_eq_false_iff_not] at hb
   rcases kidsOk_mark h j hj with h1 | h1
   ·by_cases e:k.toNat=j
    ·right
     refine⟨?_,by omega⟩
     have:(j:Int)=k:=by omega
     rw[this]
     exact .head _
    ·left
     simp only[List.getD_eq_getElem?_getD,List.getElem?_set] at h1 ⊢
     rwa [if_neg e] at h1
   ·exact .inr ⟨.tail _ h1.1,h1.2⟩
theorem nodesOk_mark:∀ {ds:List Nd} {i:Nat} {s s':List Bool},nodesOk i ds s=some s'→∀ j,s'.getD j false=true→s.getD j false=true∨∃ q,∃ h:q < ds.length,(j:Int)∈ds[q].kids∧j < i+q
 | [],i,s,s',h,j,hj=>by
  simp only[nodesOk,Option.some.injEq] at h
  subst h
  exact .inl hj
 | d::ds,i,s,s',h,j,hj=>by
  unfold nodesOk at h
  cases hf:fits d d.kids.length with
  | false=>rw[hf] at h;cases h
  | true=>
   rw[hf] at h
   simp only[cond_true] at h
   split at h
   ·rename_i s1 hs1
    rcases nodesOk_mark h j hj with h1 | ⟨q,hq,h1,h2⟩
    ·rcases kidsOk_mark hs1 j h1 with h3 | ⟨h3,h4⟩
     ·exact .inl h3
     ·exact .inr ⟨0,by simp,h3,by omega⟩
    ·exact .inr ⟨q+1,by simpa using hq,by simpa using h1,by omega⟩
   ·cases h
theorem right_parent {t:Tr} (hr:right t=true) {j:Nat} (hj:j < t.ns.length) (hne:(j:Int)≠t.root):∃ p,∃ h:p < t.ns.length,(j:Int)∈t.ns[p].kids∧j < p:=by
 unfold right at hr
 simp only[Bool.and_eq_true] at hr
 obtain⟨_,_,hr⟩:=hr
 split at hr
 ·rename_i s hs
  have hsl:=(free_nodes (g:=fun _=>0) (c:=fun _=>0) hs (by simp) (fun j hj=>by simp)).1
  have hm:s.getD j false=true:=by
   cases hb:s.getD j false with
   | true=>rfl
   | false=>
    have:=rootOk_false (root:=t.root) (s:=s) (i:=0) (j:=j) (by rw[hsl];simpa using hj) (by rw[hb,Nat.zero_add];simp[hne])
    rw[this] at hr
    cases hr
  rcases nodesOk_mark hs j hm with h1 | ⟨q,hq,h1,h2⟩
  ·simp[List.getD_eq_getElem?_getD,hj] at h1
  ·exact⟨q,hq,h1,by omega⟩
 ·cases hr
theorem sumOf_mem {g:Int→Nat}:∀ {ks:List Int} {k:Int},k∈ks→g k≤sumOf g ks
 | a::ks,k,h=>by
  simp only[sumOf,List.map_cons,List.sum_cons]
  rcases List.mem_cons.1 h with rfl | h
  ·omega
  ·have:=sumOf_mem (g:=g) h
   simp only[sumOf] at this
   omega
theorem sz_le {t:Tr} (hr:right t=true):∀ (m j:Nat),j < t.ns.length→t.ns.length - j≤m→szOf t.ns j≤t.ns.length
 | 0,j,hj,hm=>by omega
 | m+1,j,hj,hm=>by
  by_cases e:(j:Int)=t.root
  ·rw[e]
   exact sz_root hr
  ·obtain⟨p,hp,hk,hlt⟩:=right_parent hr hj e
   have h1:=sz_le hr m p hp (by omega)
   rw[szOf_eq hr hp] at h1
   have:=sumOf_mem (g:=szOf t.ns) hk
   omega
theorem sumOf_append (g:Int→Nat) (a b:List Int):sumOf g (a++b)=sumOf g a+sumOf g b:=by
 simp[sumOf]
theorem len_le_sum {t:Tr} (hr:right t=true):∀ {l:List Int},valid t.ns.length l→l.length≤sumOf (szOf t.ns) l
 | [],_=>by simp
 | a::l,hv=>by
  have h1:=len_le_sum hr (l:=l) fun k hk=>hv k (.tail _ hk)
  have h2:=hv a (.head _)
  obtain⟨a,rfl⟩:=Int.eq_ofNat_of_zero_le h2.1
  have h3:=szOf_eq hr (j:=a) (by omega)
  simp only[sumOf,List.map_cons,List.sum_cons,List.length_cons] at h1 ⊢
  have h4:szOf t.ns (Int.ofNat a)=szOf t.ns a:=rfl
  omega
def backGo (ns:List Nd):Nat→List Int→List Int→List Int
 | 0,_,b=>b
 | f+1,todo,b=>match todo.getLast? with
  | none=>b
  | some n=>backGo ns f (todo.dropLast++(nodeAt ns n.toNat).kids) (b++[n])
def backOf (ns:List Nd) (node:Int):List Int:=backGo ns (ns.length+1) [node] []
theorem backGo_nil (ns:List Nd) (f:Nat) (b:List Int):backGo ns f [] b=b:=by cases f<;>rfl
theorem backGo_snoc (ns:List Nd) (f:Nat) (todo:List Int) (n:Int) (b:List Int):backGo ns (f+1) (todo++[n]) b=backGo ns f (todo++(nodeAt ns n.toNat).kids) (b++[n]):=by
 rw[backGo]
 simp only[List.getLast?_concat,List.dropLast_concat]
def Nd.ct (d:Nd):Nd:=⟨d.k,d.s0,d.s1,d.s2,d.s3,d.t,d.lo,d.hi,none,0,0,d.kids⟩
def Nd.withKids (d:Nd) (l:List Int):Nd:=⟨d.k,d.s0,d.s1,d.s2,d.s3,d.t,d.lo,d.hi,none,0,0,l⟩
def subStep (ns:List Nd) (st:List Int×List Nd) (b:Int):List Int×List Nd:=
 (st.1.set b.toNat st.2.length,st.2++[(nodeAt ns b.toNat).withKids ((nodeAt ns b.toNat).kids.map fun k=>(st.1.set b.toNat st.2.length).getD k.toNat 0)])
def subC (ns:List Nd) (node:Int):List Nd:=((backOf ns node).reverse.foldl (subStep ns) (List.replicate ns.length 0,[])).2
theorem OS.pop {os:OS} {xs:List Value} {x:Value} (h:os.ok 1 (xs++[x])):OS.ok ⟨os.a,os.n - 1,os.c,os.cur⟩ 1 xs:=by
 have hl:=h.len
 simp only[List.length_append,List.length_cons,List.length_nil,Nat.mul_one] at hl
 refine⟨by simp only;omega,fun ha=>?_,fun g hg=>?_⟩
 ·have:=h.nil ha
  simp only
  omega
 ·obtain⟨h1,h2,h3,h4⟩:=h.cap g hg
  refine⟨h1,by simp only;omega,h3,?_⟩
  simp only
  have e:os.n * 1=xs.length+1:=by omega
  rw[e] at h4
  have:os.cur.take xs.length=(os.cur.take (xs.length+1)).take xs.length:=by rw[List.take_take];congr 1;omega
  rw[show (os.n - 1) * 1=xs.length by omega,this,h4,List.take_left]
theorem appm_ok {os:OS} {xs ys:List Value} {size m:Nat} (hos:os.ok size xs) {g c:Nat} {cur:List Value} (hy:ys.length=m * size) (h1:cur.length=c * size) (h2:os.n+m≤c) (h3:c≤maxLen) (h4:cur.take ((os.n+m) * size)=xs++ys) :
  OS.ok ⟨some g,os.n+m,c,cur⟩ size (xs++ys):=by
 have hl:=hos.len
 refine⟨?_,(fun h=>by cases h),fun g3 hg3=>⟨h1,h2,h3,h4⟩⟩
 rw[List.length_append,hl,hy]
 simp only
 rw[Nat.add_mul]
structure BackInv (t:Tr) (node:Int) (x:OS×List Int×OS×List Int×Nat):Prop where
 todo:x.1.ok 1 (x.2.1.map (.int .i64 ·))
 back:x.2.2.1.ok 1 (x.2.2.2.1.map (.int .i64 ·))
 vt:valid t.ns.length x.2.1
 vb:valid t.ns.length x.2.2.2.1
 sum:sumOf (szOf t.ns) x.2.1+x.2.2.2.1.length=szOf t.ns node
 fuel:sumOf (szOf t.ns) x.2.1+1≤x.2.2.2.2
 eq:backOf t.ns node=backGo t.ns x.2.2.2.2 x.2.1 x.2.2.2.1
structure SubInv (I:GH) (t:Tr) (rb:List Int) (x:Nat×List Int×OS×List Nd×GH):Prop where
 j:x.1≤rb.length
 len:x.2.1.length=t.ns.length
 out:x.2.2.1.ok 9 (x.2.2.2.1.flatMap Nd.cells)
 on:x.2.2.2.1.length=x.1
 eq:(rb.take x.1).foldl (subStep t.ns) (List.replicate t.ns.length 0,[])=(x.2.1,x.2.2.2.1.map Nd.ct)
 ok:∀ d∈x.2.2.2.1,d.ok x.2.2.2.2
 le:∀ b o,I b=some o→x.2.2.2.2 b=some o
 bd:∀ c∈x.2.1,0≤c∧c≤rb.length
 kb:∀ d∈x.2.2.2.1,∀ k∈d.kids,0≤k∧k≤rb.length
set_option maxRecDepth 100000 in
set_option maxHeartbeats 8000000 in
theorem RSub_gen {I:GH} {t:Tr} (ht:t.ok I) (hr:right t=true) (W:Nat) (hW:∀ d∈t.ns,d.kn≤W) (hb:t.n * W≤1152921504606846976) (hn:t.n≤1099511627776) {node:Nat} (hnode:node < t.n) :
  Spec Tryz.prog 80 [t.val,.int .i64 node] I [] fun v I' M'=>(∀ b o,I b=some o→I' b=some o)∧M'=[]∧∃ t':Tr,v=.tuple #[t'.val,.bool true]∧t'.ok I'∧t'.ns.map Nd.ct=subC t.ns node∧t'.root=(t'.ns.length:Int) - 1∧t'.ns.length≤t.n∧∀ d∈t'.ns,∀ k∈d.kids,0≤k∧k≤t.n:=by
 refine spec_of_VF [] TryzEOK Tryz.func80 rfl rfl rfl ?_
 intro B h0
 have htn:=ht.n
 have hcap:=ht.rs.cap
 have hszn:szOf t.ns node≤t.ns.length:=sz_le hr t.ns.length node (by omega) (by omega)
 refine CallOb.mk [] [] _ (.refl _) (RRight_gen ht W hW hb) ?_
 rintro v I' M' - ⟨rfl,rfl,rfl⟩
 rw[hr]
 refine GuardOb.mk (fun _=>?_) (fun h=>by simp at h)
 refine GuardOb.mk (fun _=>?_) (fun h=>?_)
 rotate_left
 ·have:((node:Nat):Int) < 0:=of_decide_eq_true h
  omega
 refine CondOb.mk (fun h=>?_) (fun _=>?_)
 ·have:((t.n:Nat):Int)≤((node:Nat):Int):=of_decide_eq_true h
  omega
 refine AllocOb.mk fun b1 hb1 hbM1=>?_
 refine LoopOb.inv (ι:=OS×List Int×OS×List Int×Nat) (fun x=>{ fl:=[(2,.ref 2 0),(4,.ref 4 0),(6,.val x.2.2.1.val),(7,.val x.1.val)],cl:=[(2,t.cells),(4,[.slice none 0 0,.int .i64 0])],gi:=I',mi:=x.2.2.1.blk 3++x.1.blk 3 })
  (BackInv t node) (fun x=>sumOf (szOf t.ns) x.2.1) ?_ ?_
 ·refine⟨(⟨some b1,1,1,[.int .i64 node]⟩,[(node:Int)],OS0,[],t.ns.length+1),⟨⟨rfl,(fun h=>by cases h),fun g' hg'=>⟨rfl,Nat.le_refl _,by simp[maxLen],rfl⟩⟩,OS0_ok 1,fun k hk=>?_,(fun k hk=>by cases hk),?_,?_,rfl⟩,.refl,aF4,.cons rfl (.cons rfl .nil)⟩
  ·simp only[List.mem_singleton] at hk
   omega
  ·simp[sumOf]
  ·simp only[sumOf,List.map_cons,List.map_nil,List.sum_cons,List.sum_nil]
   omega
 rintro⟨todo,tl,back,bl,f⟩ ⟨htodo,hback,hvt,hvb,hsum,hfuel,heq⟩
 simp only at htodo hback hvt hvb hsum hfuel heq
 have hbl:=hback.len1
 have htl:=htodo.len1
 refine CondOb.mk (fun h=>?_) (fun h=>?_)
 ·have h0t:0 < todo.n:=by
   have:(0:Int) < (todo.n:Int):=of_decide_eq_true h
   omega
  obtain⟨tl',m,rfl⟩:∃ tl' m,tl=tl'++[m]:=by
   rcases List.eq_nil_or_concat tl with h1 | ⟨r,p,h1⟩
   ·subst h1
    simp at htl
    omega
   ·exact⟨r,p,by simpa using h1⟩
  have hm:=hvt m (by simp)
  obtain⟨m,rfl⟩:=Int.eq_ofNat_of_zero_le hm.1
  have hml:m < t.n:=by omega
  have hml':m < t.ns.length:=by omega
  have htl':todo.n=tl'.length+1:=by simpa using htl
  have hszm:=szOf_eq hr hml'
  rw[sumOf_append] at hsum hfuel
  have hs1:sumOf (szOf t.ns) [(m:Int)]=szOf t.ns m:=by simp[sumOf]
  rw[hs1,hszm] at hsum hfuel
  have htlen:tl'.length≤sumOf (szOf t.ns) tl':=len_le_sum hr fun k hk=>hvt k (by simp[hk])
  have hklen:t.ns[m].kids.length≤sumOf (szOf t.ns) t.ns[m].kids:=len_le_sum hr fun k hk=>by
   have:=right_kids hr m hml' k hk
   omega
  have htot:tl'.length+t.ns[m].kids.length≤t.ns.length:=by omega
  obtain⟨ad,had,hrd⟩:=OS.rdI (I:=I') (e:=3) (M:=back.blk 3++todo.blk 3) htodo (fun x hx=>by simp[hx]) (j:=tl'.length) (by simp)
  rw[List.getElem_concat_length rfl] at hrd
  have hpop:=htodo
  rw[List.map_append] at hpop
  have hpop:=OS.pop hpop
  refine ArithOb.mk ((tl'.length:Nat):Int) (wr_eq (by simp only[OS.val];omega) (by omega)) ?_
  refine IdxOb.mk ad tl'.length had rfl (show tl'.length < todo.n by omega) ?_
  refine LoadOb.mk _ hrd ?_
  refine ArithOb.mk ((tl'.length:Nat):Int) (wr_eq (by simp only[OS.val];omega) (by omega)) ?_
  refine SliceOb.mk 0 tl'.length rfl rfl (Nat.zero_le _) ?_ ?_
  ·have:=htodo.cap
   obtain⟨oa,on,oc,ocur⟩:=todo
   cases oa with
   | none=>have:=(htodo.nil rfl).1;simp only at this htl';omega
   | some gg=>
    obtain⟨-,h2,-,-⟩:=htodo.cap gg rfl
    simp only at h2 htl' ⊢
    omega
  refine AllocOb.mk fun b2 hb2 hbM2=>?_
  refine OtherOb.append TryzEOK rfl (by simp) (e:=3) rfl rfl rfl back hback rfl (m:=1) rfl (news:=[.int .i64 m]) (by decide) (blk_rd (b:=b2) (cs:=[.int .i64 m]) (k:=0) (n:=1) (T:=3) (.head _) (by simp)) rfl (Mr:=⟨b2,.cells #[.int .i64 m] 3 (0,0)⟩::todo.blk 3) List.perm_middle.symm (by simp only[maxLen];omega) (by show (back.n+1) * 8≤_;omega) ?_
  intro g1 c1 cur1 q1 q2 q3 q4
  have hback':OS.ok ⟨some g1,back.n+1,c1,cur1⟩ 1 ((bl++[(m:Int)]).map (.int .i64 ·)):=by
   rw[List.map_append]
   exact app1_ok hback q1 q2 q3 q4
  obtain⟨an,han,hrn⟩:=ht.rs.row Nd.cells_len hml hml'
  have hd:=ht.ns _ (List.getElem_mem hml')
  have hkn:=hd.kn
  have hkc:=hd.rs.cap
  have hkv:=right_kids hr m hml'
  have hvt':valid t.ns.length (tl'++t.ns[m].kids):=fun k hk=>by
   rcases List.mem_append.1 hk with hk | hk
   ·exact hvt k (by simp[hk])
   ·have:=hkv k hk
    omega
  have hvb':valid t.ns.length (bl++[(m:Int)]):=fun k hk=>by
   rcases List.mem_append.1 hk with hk | hk
   ·exact hvb k hk
   ·simp only[List.mem_singleton] at hk
    omega
  have heq':∀ f',f=f'+1→backOf t.ns node=backGo t.ns f' (tl'++t.ns[m].kids) (bl++[(m:Int)]):=fun f' hf'=>by
   rw[heq,hf',backGo_snoc,Int.toNat_natCast,nodeAt_eq hml']
  have hinv:∀ td:OS,td.ok 1 ((tl'++t.ns[m].kids).map (.int .i64 ·))→BackInv t node (td,tl'++t.ns[m].kids,⟨some g1,back.n+1,c1,cur1⟩,bl++[(m:Int)],f - 1):=fun td htd=>by
   refine⟨htd,hback',hvt',hvb',?_,?_,heq' (f - 1) (by omega)⟩
   ·simp only[sumOf_append,List.length_append,List.length_cons,List.length_nil]
    omega
   ·simp only[sumOf_append]
    omega
  have hmu:sumOf (szOf t.ns) (tl'++t.ns[m].kids) < sumOf (szOf t.ns) (tl'++[(m:Int)]):=by
   rw[sumOf_append,sumOf_append,hs1,hszm]
   omega
  refine IdxOb.mk an m han rfl hml ?_
  refine LoadOb.mk _ ((hrn _).part (k:=8) (m:=1) (by decide)) ?_
  generalize hdd:t.ns[m]=d at hd hkn hkc hrn hinv hmu htot
  by_cases hk0:d.kn=0
  ·have hnil:d.kids=[]:=List.eq_nil_of_length_eq_zero (by omega)
   rw[hnil,List.append_nil] at hinv hmu
   refine OtherOb.append0 TryzEOK rfl (by simp) (e:=3) (sa:=todo.a.map fun g=>⟨g,0,none⟩) (n:=tl'.length) (c:=todo.c) rfl rfl rfl (by simp) rfl rfl ?_ rfl (.inl ⟨d.ka,d.kc,by rw[←hk0];rfl⟩) ?_
   ·obtain⟨oa,on,oc,ocur⟩:=todo
    cases oa with
    | none=>have:=(htodo.nil rfl).1;simp only at this htl';omega
    | some gg=>
     obtain⟨-,h2,-,-⟩:=htodo.cap gg rfl
     simp only at h2 htl' ⊢
     omega
   have he:todo.n - 1=tl'.length:=by omega
   refine⟨_,⟨hinv _ hpop,hmu⟩,.sub (M1:=⟨g1,.cells cur1.toArray 3 (0,0)⟩::todo.blk 3) (.cons_cons _ (.cons _ (.refl _))) .refl,.cons .refl (.cons .refl (.cons .refl (.cons ?_ .nil))),.cons rfl (.cons rfl .nil)⟩
   simp only[OS.val,he]
   exact .refl
  ·obtain⟨ak,hak,hsp,cs,T,fr,hI,hv⟩:=hd.rs.rd.resolve_left hk0
   have hpop':OS.ok ⟨todo.a,tl'.length,todo.c,todo.cur⟩ 1 (tl'.map (.int .i64 ·)):=by
    have he:todo.n - 1=tl'.length:=by omega
    rw[←he]
    exact hpop
   refine OtherOb.append TryzEOK rfl (by simp) (e:=3) rfl rfl rfl ⟨todo.a,tl'.length,todo.c,todo.cur⟩ hpop' rfl (ad:=ak) (m:=d.kn) (c':=d.kc) (by rw[←hak];rfl) (news:=d.kids.map (.int .i64 ·)) (by omega) ⟨hsp,cs,T,fr,.inl hI,hv,by simp[hkn]⟩ ?_ (Mr:=[⟨g1,.cells cur1.toArray 3 (0,0)⟩,⟨b2,.cells #[.int .i64 m] 3 (0,0)⟩]) (List.perm_append_comm (l₁:=[_,_])) (by simp only[maxLen];omega) (by show (tl'.length+d.kn) * 8≤_;omega) ?_
   ·simp[allOne,Value.oneCell']
   intro g2 c2 cur2 r1 r2 r3 r4
   refine⟨(⟨some g2,tl'.length+d.kn,c2,cur2⟩,_,_,_,_),⟨hinv _ ?_,hmu⟩,.sub (M1:=[⟨g2,.cells cur2.toArray 3 (0,0)⟩,⟨g1,.cells cur1.toArray 3 (0,0)⟩]) (.cons_cons _ (.cons_cons _ (List.nil_sublist _))) (.perm (List.Perm.swap _ _ _) .refl),aF4,.cons rfl (.cons rfl .nil)⟩
   rw[List.map_append]
   exact appm_ok hpop' (by simp[hkn]) r1 r2 r3 r4
 have htl0:tl=[]:=by
  have:¬ (0:Int) < (todo.n:Int):=of_decide_eq_false h
  exact List.eq_nil_of_length_eq_zero (by omega)
 subst htl0
 rw[backGo_nil] at heq
 simp only[sumOf,List.map_nil,List.sum_nil,Nat.zero_add] at hsum
 clear hfuel htodo hvt h
 refine MakeOb.mk t.n t.n rfl rfl (Nat.le_refl _) (by show 8 * t.n≤_;omega) (by omega) ?_
 refine AllocOb.mk fun b9 hb9 hbM9=>?_
 refine ArithOb.mk ((bl.length:Int) - 1) (wr_eq (by simp only[OS.val];omega) (by omega)) ?_
 refine LoopOb.invF (ι:=Nat×List Int×OS×List Nd×GH) (fun x=>{ fl:=[(2,.ref 2 0),(4,.ref 4 0),(6,.val back.val),(9,.val (.slice (some ⟨b9,0,none⟩) t.n t.n)),(10,.val x.2.2.1.val),(11,.val (.int .i64 ((bl.length:Int) - 1 - x.1)))],cl:=[(2,t.cells),(4,[.slice none 0 0,.int .i64 0])],gi:=x.2.2.2.2,mi:=intRow b9 x.2.1::(x.2.2.1.blk 82++back.blk 3) })
  (SubInv I' t bl.reverse) (fun x=>bl.length - x.1) ?_ ?_
 ·intro _
  refine⟨(0,List.replicate t.n 0,OS0,[],I'),⟨Nat.zero_le _,by simp[htn],OS0_ok 9,rfl,(by rw[htn];rfl),(fun d hd=>by cases hd),fun _ _ h=>h,(fun c hc=>by have:=List.eq_of_mem_replicate hc;omega),(fun d hd=>by cases hd)⟩,?_,.cons .refl (.cons .refl (.cons .refl (.cons .refl (.cons .refl (.cons ?_ .nil))))),.cons rfl (.cons rfl .nil)⟩
  ·simp only[rowOf_one,intRow,List.map_replicate,Nat.mul_one]
   exact .sub (M1:=⟨b9,.cells (List.replicate t.n (Value.int .i64 0)).toArray 3 (0,0)⟩::(OS0.blk 82++back.blk 3)) (.cons_cons _ (List.sublist_append_left _ _)) .refl
  ·simp only[Int.ofNat_zero,Int.sub_zero]
   exact .refl
 rintro⟨j,P,out,outN,J⟩ ⟨hj,hPl,hout,hon,hfold,hJok,hJ,hPb,hkb⟩
 simp only at hj hPl hout hon hfold hJok hJ hPb hkb
 rw[List.length_reverse] at hj hPb hkb
 have hol:out.n=j:=by
  have:=hout.len
  rw[flat_len _ 9 Nd.cells_len,hon] at this
  omega
 subst hol
 refine CondOb.mk (fun h=>?_) (fun h=>?_)
 ·have hjl:out.n < bl.length:=by
   have:(0:Int)≤(bl.length:Int) - 1 - (out.n:Int):=of_decide_eq_true h
   omega
  have hjr:out.n < bl.reverse.length:=by simpa using hjl
  have hbi:bl.length - 1 - out.n < bl.length:=by omega
  have hrev:bl.reverse[out.n]=bl[bl.length - 1 - out.n]:=by rw[List.getElem_reverse]
  have hm:=hvb _ (List.getElem_mem hbi)
  obtain⟨m,hmm⟩:=Int.eq_ofNat_of_zero_le hm.1
  rw[hmm] at hm
  have hml:m < t.n:=by omega
  have hml':m < t.ns.length:=by omega
  have hidx:((bl.length:Int) - 1 - (out.n:Int))=((bl.length - 1 - out.n:Nat):Int):=by omega
  have hbrd:∀ {M:List Blk},(∀ x∈back.blk 3,x∈M)→∃ ad,(back.a.map fun g=>(⟨g,0,none⟩:Addr))=some ad∧Rd J M (ad.add ((bl.length - 1 - out.n) * 1)) 1 [.int .i64 m]:=fun hM=>by
   obtain⟨ad,h1,h2⟩:=OS.rdI (I:=J) (e:=3) hback hM hbi
   rw[hmm] at h2
   exact⟨ad,h1,h2⟩
  obtain⟨an,han,hrn⟩:=(ht.rs.mono hJ).row Nd.cells_len hml hml'
  have hd:=(ht.ns _ (List.getElem_mem hml')).mono hJ
  have hkn:=hd.kn
  have hkc:=hd.rs.cap
  have hkv:=right_kids hr m hml'
  have hna:nodeAt t.ns m=t.ns[m]:=nodeAt_eq hml'
  generalize hdd:t.ns[m]=d at hd hkn hkc hkv hrn hna
  obtain⟨ad,had,hrdb⟩:=hbrd (M:=intRow b9 P::(out.blk 82++back.blk 3)) (fun x hx=>by simp[hx])
  refine CodeOb.draw TryzEOK rfl rfl rfl ?_
  refine IdxOb.mk ad (bl.length - 1 - out.n) had hidx (show _ < back.n by omega) ?_
  refine LoadOb.mk _ hrdb ?_
  refine IdxOb.mk an m han rfl hml ?_
  refine LoadOb.mk _ (hrn _) ?_
  refine AllocOb.mk fun b12 hb12 hbM12=>?_
  refine StoreOb.mk [] _ _ _ rfl rfl (Nat.le_of_ble_eq_true rfl) rfl ?_
  obtain⟨ad2,had2,hrdb2⟩:=hbrd (M:=⟨b12,.cells d.cells.toArray 82 (0,0)⟩::intRow b9 P::(out.blk 82++back.blk 3)) (fun x hx=>by simp[hx])
  refine IdxOb.mk ad2 (bl.length - 1 - out.n) had2 hidx (show _ < back.n by omega) ?_
  refine LoadOb.mk _ hrdb2 ?_
  refine IdxOb.mk ⟨b9,0,none⟩ m rfl rfl hml ?_
  refine StoreOb.add [⟨b12,.cells d.cells.toArray 82 (0,0)⟩] (out.blk 82++back.blk 3) _ _ rfl ?_ rfl ?_
  ·simp only[List.size_toArray,List.length_map]
   show 0+m * 1+1≤_
   omega
  have hset:=intRow_set P m (by omega) (out.n:Int)
  generalize hP':P.set m (out.n:Int)=P' at hset
  have hPl':P'.length=t.ns.length:=by rw[←hP'];simpa using hPl
  have hPb':∀ c∈P',0≤c∧c≤bl.length:=fun c hc=>by
   rw[←hP'] at hc
   rcases List.mem_or_eq_of_mem_set hc with hc | rfl
   ·exact hPb c hc
   ·omega
  have b12rd:∀ {M:List Blk} {cs:List Value} (k n:Nat),(⟨b12,.cells cs.toArray 82 (0,0)⟩:Blk)∈M→k+n≤cs.length→Rd J M ((⟨b12,0,none⟩:Addr).add k) n ((cs.drop k).take n):=fun k n hM hl=>blk_rd hM hl
  refine LoopOb.inv (ι:=Nat×OS×List Int) (fun y=>{ fl:=[(2,.ref 2 0),(4,.ref 4 0),(6,.val back.val),(9,.val (.slice (some ⟨b9,0,none⟩) t.n t.n)),(10,.val out.val),(11,.val (.int .i64 ((bl.length:Int) - 1 - out.n))),(12,.val (ptr b12)),(13,.val y.2.1.val),(14,.val (.int .i64 y.1))],cl:=[(2,t.cells),(4,[.slice none 0 0,.int .i64 0])],gi:=J,mi:=y.2.1.blk 3++(⟨b12,.cells d.cells.toArray 82 (0,0)⟩::intRow b9 P'::(out.blk 82++back.blk 3)) })
   (fun y=>y.1≤d.kn∧y.2.1.ok 1 (y.2.2.map (.int .i64 ·))∧y.2.2=(d.kids.take y.1).map fun k=>P'.getD k.toNat 0) (fun y=>d.kn - y.1) ?_ ?_
  ·refine⟨(0,OS0,[]),⟨Nat.zero_le _,OS0_ok 1,by simp⟩,?_,aF9,.cons rfl (.cons rfl .nil)⟩
   simp only[intRow]
   rw[←hset]
   simp only[Nat.zero_add,Nat.mul_one]
   exact .refl
  rintro⟨k,ko,kl⟩ ⟨hk,hko,hkl⟩
  simp only at hk hko hkl
  have hkon:=hko.len1
  have hmem:(⟨b12,.cells d.cells.toArray 82 (0,0)⟩:Blk)∈ko.blk 3++(⟨b12,.cells d.cells.toArray 82 (0,0)⟩::intRow b9 P'::(out.blk 82++back.blk 3)):=by simp
  have hmemP:intRow b9 P'∈ko.blk 3++(⟨b12,.cells d.cells.toArray 82 (0,0)⟩::intRow b9 P'::(out.blk 82++back.blk 3)):=by simp
  have hsl:kl.length≤d.kn:=by
   rw[hkl,List.length_map]
   exact Nat.le_trans (List.length_take_le _ _) hk
  have hsk:kl.length≤k:=by
   rw[hkl,List.length_map]
   exact List.length_take_le _ _
  refine LoadOb.mk [.slice d.ka d.kn d.kc] (b12rd 8 1 hmem (by rw[Nd.cells_len];decide)) ?_
  refine CondOb.mk (fun h2=>?_) (fun h2=>?_)
  ·have hkk:k < d.kn:=by have:(k:Int) < (d.kn:Int):=of_decide_eq_true h2;omega
   have hkk':k < d.kids.length:=by omega
   obtain⟨ak,hak,hrk⟩:=hd.rs.one hkk hkk'
   have hv:=hkv _ (List.getElem_mem hkk')
   have hkP:d.kids[k].toNat < P'.length:=by omega
   have hPg:P'.getD d.kids[k].toNat 0=P'[d.kids[k].toNat]:=by simp[List.getD_eq_getElem?_getD,hkP]
   refine LoadOb.mk [.slice d.ka d.kn d.kc] (b12rd 8 1 hmem (by rw[Nd.cells_len];decide)) ?_
   refine IdxOb.mk ak k hak rfl hkk ?_
   refine LoadOb.mk _ (hrk _) ?_
   refine IdxOb.mk ⟨b9,0,none⟩ d.kids[k].toNat rfl (by omega) (by omega) ?_
   refine LoadOb.mk _ (intRow_rd hmemP hkP) ?_
   refine AllocOb.mk fun b13 hb13 hbM13=>?_
   refine OtherOb.append TryzEOK rfl (by simp) (e:=3) rfl rfl rfl ko hko rfl (m:=1) rfl (news:=[.int .i64 P'[d.kids[k].toNat]]) (by decide) (blk_rd (b:=b13) (cs:=[.int .i64 P'[d.kids[k].toNat]]) (k:=0) (n:=1) (T:=3) (.head _) (by simp)) rfl (Mr:=⟨b13,.cells #[.int .i64 P'[d.kids[k].toNat]] 3 (0,0)⟩::(⟨b12,.cells d.cells.toArray 82 (0,0)⟩::intRow b9 P'::(out.blk 82++back.blk 3))) List.perm_middle.symm (by simp only[maxLen];omega) (by show (ko.n+1) * 8≤_;omega) ?_
   intro g2 c2 cur2 r1 r2 r3 r4
   refine ArithOb.mk _ (next_wr (i:=k) (by omega)) ?_
   refine⟨(k+1,⟨some g2,ko.n+1,c2,cur2⟩,kl++[P'[d.kids[k].toNat]]),⟨⟨by simp only;omega,?_,?_⟩,by simp only;omega⟩,.sub (.cons_cons _ (.cons _ (.refl _))) .refl,aF9,.cons rfl (.cons rfl .nil)⟩
   ·simp only
    rw[List.map_append]
    exact app1_ok hko r1 r2 r3 r4
   ·simp only
    rw[List.take_succ_eq_append_getElem hkk',List.map_append,←hkl,List.map_cons,List.map_nil,hPg]
  have hge:d.kn≤k:=by have:¬ (k:Int) < (d.kn:Int):=of_decide_eq_false h2;omega
  rw[List.take_of_length_le (by omega)] at hkl
  have hnd:∃ nd:Nd,nd=⟨d.k,d.s0,d.s1,d.s2,d.s3,d.t,d.lo,d.hi,ko.a.map fun g=>⟨g,0,none⟩,ko.n,ko.c,kl⟩:=⟨_,rfl⟩
  obtain⟨nd,hnd⟩:=hnd
  have hndc:splice d.cells (0+8) [ko.val]=nd.cells:=by rw[hnd];rfl
  refine StoreOb.addTo (ko.blk 3) (intRow b9 P'::(out.blk 82++back.blk 3)) d.cells _ rfl rfl rfl nd.cells hndc ?_
  have hmem2:(⟨b12,.cells nd.cells.toArray 82 (0,0)⟩:Blk)∈ko.blk 3++(⟨b12,.cells nd.cells.toArray 82 (0,0)⟩::intRow b9 P'::(out.blk 82++back.blk 3)):=by simp
  refine LoadOb.mk nd.cells (b12rd 0 9 hmem2 (by rw[Nd.cells_len];decide)) ?_
  refine AllocOb.mk fun b15 hb15 hbM15=>?_
  have hperm15:(⟨b15,.cells nd.cells.toArray 82 (0,0)⟩::(ko.blk 3++(⟨b12,.cells nd.cells.toArray 82 (0,0)⟩::intRow b9 P'::(out.blk 82++back.blk 3)))).Perm (out.blk 82++(⟨b15,.cells nd.cells.toArray 82 (0,0)⟩::(ko.blk 3++(⟨b12,.cells nd.cells.toArray 82 (0,0)⟩::intRow b9 P'::back.blk 3)))):=by
   simpa using List.perm_append_comm_assoc (⟨b15,.cells nd.cells.toArray 82 (0,0)⟩::(ko.blk 3++[⟨b12,.cells nd.cells.toArray 82 (0,0)⟩,intRow b9 P'])) (out.blk 82) (back.blk 3)
  refine OtherOb.append TryzEOK rfl (by simp) (e:=82) rfl rfl rfl out hout rfl (m:=1) rfl (news:=nd.cells) (by decide) (blk_rd (b:=b15) (cs:=nd.cells) (k:=0) (n:=9) (T:=82) (.head _) (by rw[Nd.cells_len];decide)) rfl
   (Mr:=⟨b15,.cells nd.cells.toArray 82 (0,0)⟩::(ko.blk 3++(⟨b12,.cells nd.cells.toArray 82 (0,0)⟩::intRow b9 P'::back.blk 3))) ?_ (by simp only[maxLen];omega) (by show (out.n+1) * 96≤_;omega) ?_
  ·exact hperm15
  intro g3 c3 cur3 u1 u2 u3 u4
  refine ArithOb.mk ((bl.length:Int) - 1 - (out.n+1:Nat)) (wr_eq (by omega) (by omega)) ?_
  have hklb:∀ c∈kl,0≤c∧c≤bl.length:=fun c hc=>by
   rw[hkl] at hc
   obtain⟨q,hq,rfl⟩:=List.mem_map.1 hc
   have hq':=hkv q hq
   have hqP:q.toNat < P'.length:=by omega
   exact hPb' (P'.getD q.toNat 0) (by simp only[List.getD_eq_getElem?_getD,List.getElem?_eq_getElem hqP,Option.getD_some];exact List.getElem_mem _)
  intro hfa
  obtain⟨J',hw,hle,hrs⟩:=OS.give (I:=J) (b:=8) (e:=3) hko (by omega) (fun g hg=>hfa.d ⟨g,.cells ko.cur.toArray 3 (0,0)⟩ (by simp[OS.blk,hg])) (intRow b9 P'::([⟨g3,.cells cur3.toArray 82 (0,0)⟩]++back.blk 3))
  refine⟨(out.n+1,P',⟨some g3,out.n+1,c3,cur3⟩,outN++[nd],J'),⟨⟨by simp only;omega,hPl',?_,by simp[hon],?_,?_,fun b o h=>hle _ _ (hJ _ _ h),?_,?_⟩,by simp only;omega⟩,?_,aF6,.cons rfl (.cons rfl .nil)⟩
  ·simp only
   rw[List.flatMap_append]
   have:([nd].flatMap Nd.cells)=nd.cells:=by simp
   rw[this]
   exact appk_ok hout (Nd.cells_len _) u1 u2 u3 u4
  ·simp only
   rw[List.take_succ_eq_append_getElem hjr,List.foldl_append,hfold,List.foldl_cons,List.foldl_nil,hrev,hmm]
   show (P.set m ((outN.map Nd.ct).length:Int),outN.map Nd.ct++[(nodeAt t.ns m).withKids ((nodeAt t.ns m).kids.map fun k=>(P.set m ((outN.map Nd.ct).length:Int)).getD k.toNat 0)])=_
   rw[List.length_map,hon,hP',hna,←hkl,List.map_append,hnd]
   rfl
  ·simp only
   intro x hx
   rcases List.mem_append.1 hx with hx | hx
   ·exact(hJok x hx).mono hle
   ·simp only[List.mem_singleton] at hx
    rw[hx,hnd]
    refine⟨hd.k,hd.s0,hd.s1,hd.s2,hd.s3,hd.t,hd.lo,hd.hi,hrs,fun c hc=>?_⟩
    have:=hklb c hc
    exact⟨by omega,by omega⟩
  ·simp only[List.length_reverse]
   exact hPb'
  ·simp only[List.length_reverse]
   intro x hx
   rcases List.mem_append.1 hx with hx | hx
   ·exact hkb x hx
   ·simp only[List.mem_singleton] at hx
    rw[hx,hnd]
    exact hklb
  ·simp only
   refine .sub (M1:=⟨g3,.cells cur3.toArray 82 (0,0)⟩::(ko.blk 3++(intRow b9 P'::back.blk 3))) (.cons_cons _ (.cons _ (List.Sublist.append (.refl _) (.cons _ (.refl _))))) ?_
   refine .perm (M1:=ko.blk 3++(intRow b9 P'::([(⟨g3,.cells cur3.toArray 82 (0,0)⟩:Blk)]++back.blk 3))) ?_ hw
   exact List.perm_middle.symm.trans (List.Perm.append_left _ (List.Perm.swap _ _ _))
 have hge:out.n=bl.length:=by
  have:¬ (0:Int)≤(bl.length:Int) - 1 - (out.n:Int):=of_decide_eq_false h
  omega
 refine ArithOb.mk ((outN.length:Int) - 1) (wr_eq (by simp only[OS.val];omega) (by omega)) ?_
 intro hfa
 obtain⟨J',hw,hle,hrs⟩:=OS.give (I:=J) (b:=96) (e:=82) hout (by omega) (fun g hg=>hfa.d ⟨g,.cells out.cur.toArray 82 (0,0)⟩ (by simp[OS.blk,hg])) []
 refine⟨J',[],.sub (M1:=out.blk 82++[]) (by rw[List.append_nil];exact .cons _ (List.sublist_append_left _ _)) hw,fun b o h=>hle _ _ (hJ _ _ h),rfl,⟨outN,out.a.map fun g=>⟨g,0,none⟩,out.n,out.c,(outN.length:Int) - 1⟩,rfl,⟨hrs,fun d hd=>(hJok d hd).mono hle,⟨by simp only;omega,by simp only;omega⟩⟩,?_,rfl,by simp only;omega,fun d hd k hk=>by have:=hkb d hd k hk;omega⟩
 rw[List.take_of_length_le (by rw[List.length_reverse];omega)] at hfold
 rw[subC,heq,hfold]
structure Fl where
 z:Bool
 s:Bool
 f:Bool
 deriving DecidableEq
def Fl.cells (x:Fl):List Value:=[.bool x.z,.bool x.s,.bool x.f]
def Fl.val (x:Fl):Value:=.agg #[.bool x.z,.bool x.s,.bool x.f]
theorem Fl.cells_len (x:Fl):x.cells.length=3:=rfl
def Fl.suc (x:Fl):Bool:=x.z || x.s
theorem neB3_run (x y:Fl) (p q:Operand) (w:World):(do eqGuard .neq 80 p q x.val y.val;binOp .neq 80 x.val y.val:Sem Value).run Tryz.prog w=.ok (.bool (!decide (x=y))) w:=by
 obtain⟨a,b,c⟩:=x
 obtain⟨d,e,f⟩:=y
 cases a<;>cases b<;>cases c<;>cases d<;>cases e<;>cases f<;>kernel_rfl
theorem BinOb.neF {x y:Operand} {p q:Fl} {V:Value→Prop} {other:Prop} (h:V (.bool (!decide (p=q)))):BinOb Tryz.prog .neq 80 x y (.val (.agg #[.bool p.z,.bool p.s,.bool p.f])) (.val (.agg #[.bool q.z,.bool q.s,.bool q.f])) V other:=
 .mk _ _ _ rfl rfl (fun w=>neB3_run p q x y w) h
theorem fl_eq {z s f:Bool} {x:Fl} (h1:z=x.z) (h2:s=x.s) (h3:f=x.f):Value.agg #[.bool z,.bool s,.bool f]=x.val:=by
 subst h1 h2 h3
 rfl
theorem fl_cells {z s f:Bool} {x:Fl} (h1:z=x.z) (h2:s=x.s) (h3:f=x.f):[Value.bool z,Value.bool s,Value.bool f]=x.cells:=by
 subst h1 h2 h3
 rfl
theorem sv_bool {a b:Bool} (h:a=b):SvLe (.val (.bool a)) (.val (.bool b)):=by
 subst h
 exact .refl
theorem sv_lit {a b:Bool} (h:a=b):SvLe (.lit a) (.val (.bool b)):=by
 subst h
 exact .lit
theorem perm_nil {M:List Blk}:M.Perm (M++[]):=by simp
theorem BinOb.ne4 {P:Program} {E:Env} (hE:EOK P E) {t e:Nat} {ti ei:TI} {x y:Operand} (ht:E t=some ti) (hts:ti.sh=.array 4 e) (he:E e=some ei) {k:IntKind} (hes:ei.sh=.int k)
  (hg:P.eqGuardType P.depth t=false) {a0 a1 a2 a3 b0 b1 b2 b3:Int} {V:Value→Prop} {other:Prop}
  (h:V (.bool (!(a0 == b0 && (a1 == b1 && (a2 == b2 && a3 == b3)))))):BinOb P .neq t x y (.val (.agg #[.int k a0,.int k a1,.int k a2,.int k a3])) (.val (.agg #[.int k b0,.int k b1,.int k b2,.int k b3])) V other:=by
 obtain⟨d,hud,hdd⟩:=(hE _ _ ht).und
 obtain⟨de,hue,hde⟩:=(hE _ _ he).und
 obtain⟨inf,z,hi,hi1,_⟩:=(hE _ _ he).inf
 have h1:d=.array 4 e:=by rw[hts] at hdd;cases d<;>simp_all[shOf]
 have h2:de=.int k:=by rw[hes] at hde;cases de<;>simp_all[shOf]
 subst h1
 subst h2
 have hs1:inf.size=1:=by rw[hi1];exact(hE _ _ he).sz1 (by rw[hes];rfl)
 refine .mk _ _ _ rfl rfl (fun w=>?_) h
 simp only[Sem.run_bind,run_eqGuard_agg (hm:=hg),Result.andThen_ok,binOp,eq4_run hud hue hi hs1,Sem.run_pure]
theorem Suc_spec {I:GH} {M:List Blk} (x:Fl):Spec Tryz.prog 45 [x.val] I M fun v I' M'=>v=.bool x.suc∧I'=I∧M'=M:=by
 obtain⟨a,b,c⟩:=x
 refine spec_of_V [] TryzEOK Tryz.func45 rfl rfl rfl ?_
 intro B h0
 refine GuardOb.mk (fun h=>?_) (fun h=>?_)
 ·exact⟨_,_,.refl,by rw[show a=false from h];rfl,rfl,rfl⟩
 ·exact⟨_,_,.refl,by rw[show a=true from h];rfl,rfl,rfl⟩
structure FsAt (I:GH) (M:List Blk) (a:Option Addr) (n:Nat) (ks:List Fl):Prop where
 n:ks.length=n
 rd:∀ j (h:j < ks.length),∃ ad,a=some ad∧Rd I M (ad.add (j * 3)) 3 ks[j].cells
def seqStep (st:Fl×Bool) (k:Fl):Fl×Bool:=(⟨st.1.z && k.z,st.1.s || k.s,st.1.f || (st.2 && k.f)⟩,st.2 && k.suc)
def seqGo (ks:List Fl):Fl×Bool:=ks.foldl seqStep (⟨true,false,false⟩,true)
def seqFl (ks:List Fl):Fl:=⟨(seqGo ks).1.z,(seqGo ks).1.s && (seqGo ks).2,(seqGo ks).1.f⟩
def chStep (f k:Fl):Fl:=⟨f.z || (f.f && k.z),f.s || (f.f && k.s),f.f && k.f⟩
def chFl (ks:List Fl):Fl:=ks.foldl chStep ⟨false,false,true⟩
def fl0:Fl:=⟨false,false,false⟩
def repFl (d:Nd) (k:Fl):Fl:=bif decide (d.hi=0) then ⟨true,false,false⟩ else ⟨k.z || (decide (d.lo=0) && k.f),k.s,decide (0 < d.lo) && k.f⟩
def comeFl (d:Nd) (ks:List Fl):Fl:=
 bif decide (d.k=0) then ⟨true,false,false⟩ else
 bif decide (d.k=1) then ⟨false,!d.setZ,true⟩ else
 bif decide (d.k=2) then ⟨false,true,true⟩ else
 bif decide (d.k=3) then ks.headD fl0 else
 bif decide (d.k=4) then seqFl ks else
 bif decide (d.k=5) then chFl ks else
 bif decide (d.k=6) then repFl d (ks.headD fl0) else
 bif decide (d.k=7) then ⟨(ks.headD fl0).suc,false,(ks.headD fl0).f⟩ else
 bif decide (d.k=8) then ⟨(ks.headD fl0).f,false,(ks.headD fl0).suc⟩ else ks.headD fl0
section
variable {I:GH} {M:List Blk} {d:Nd} {a:Option Addr} {n c:Nat} {ks:List Fl}
theorem FsAt.head (hk:FsAt I M a n ks) (h0:0 < n):∃ ad,a=some ad∧Rd I M (ad.add (0 * 3)) 3 (ks.headD fl0).cells:=by
 have h1:0 < ks.length:=by rw[hk.n];exact h0
 obtain⟨ad,h2,h3⟩:=hk.rd 0 h1
 refine⟨ad,h2,?_⟩
 cases ks with
 | nil=>simp at h1
 | cons k ks=>exact h3
theorem fEmpty_spec:Spec Tryz.prog 164 [d.val,.slice a n c] I M fun v I' M'=>v=Fl.val ⟨true,false,false⟩∧I'=I∧M'=M:=by
 refine spec_of_V [] TryzEOK Tryz.func164 rfl rfl rfl ?_
 intro B h0
 exact⟨_,_,.refl,rfl,rfl,rfl⟩
theorem fText_spec:Spec Tryz.prog 166 [d.val,.slice a n c] I M fun v I' M'=>v=Fl.val ⟨false,true,true⟩∧I'=I∧M'=M:=by
 refine spec_of_V [] TryzEOK Tryz.func166 rfl rfl rfl ?_
 intro B h0
 exact⟨_,_,.refl,rfl,rfl,rfl⟩
theorem fItself_spec (hk:FsAt I M a n ks) (h0:0 < n):Spec Tryz.prog 167 [d.val,.slice a n c] I M fun v I' M'=>v=(ks.headD fl0).val∧I'=I∧M'=M:=by
 refine spec_of_V [] TryzEOK Tryz.func167 rfl rfl rfl ?_
 intro B h0'
 obtain⟨ad,had,hrd⟩:=hk.head h0
 refine IdxOb.mk ad 0 had rfl h0 ?_
 refine LoadOb.mk _ hrd ?_
 exact⟨_,_,.refl,rfl,rfl,rfl⟩
theorem fAnd_spec (hk:FsAt I M a n ks) (h0:0 < n):Spec Tryz.prog 171 [d.val,.slice a n c] I M fun v I' M'=>v=Fl.val ⟨(ks.headD fl0).suc,false,(ks.headD fl0).f⟩∧I'=I∧M'=M:=by
 refine spec_of_V [] TryzEOK Tryz.func171 rfl rfl rfl ?_
 intro B h0'
 obtain⟨ad,had,hrd⟩:=hk.head h0
 refine CodeOb.draw TryzEOK rfl rfl rfl ?_
 refine IdxOb.mk ad 0 had rfl h0 ?_
 refine LoadOb.mk _ hrd ?_
 refine IdxOb.mk ad 0 had rfl h0 ?_
 refine LoadOb.mk _ (hrd.part (k:=2) (m:=1) (by decide)) ?_
 refine PCallOb.mkR M [] _ perm_nil (Suc_spec (ks.headD fl0)) (fun v I' M' h x hx=>by rw[h.2.2];exact hx) ?_
 rintro v I' M' - ⟨rfl,rfl,rfl⟩
 rw[List.append_nil]
 exact⟨_,_,.refl,rfl,rfl,rfl⟩
theorem fNot_spec (hk:FsAt I M a n ks) (h0:0 < n):Spec Tryz.prog 172 [d.val,.slice a n c] I M fun v I' M'=>v=Fl.val ⟨(ks.headD fl0).f,false,(ks.headD fl0).suc⟩∧I'=I∧M'=M:=by
 refine spec_of_V [] TryzEOK Tryz.func172 rfl rfl rfl ?_
 intro B h0'
 obtain⟨ad,had,hrd⟩:=hk.head h0
 refine CodeOb.draw TryzEOK rfl rfl rfl ?_
 refine IdxOb.mk ad 0 had rfl h0 ?_
 refine LoadOb.mk _ (hrd.part (k:=2) (m:=1) (by decide)) ?_
 refine IdxOb.mk ad 0 had rfl h0 ?_
 refine LoadOb.mk _ hrd ?_
 refine PCallOb.mkR M [] _ perm_nil (Suc_spec (ks.headD fl0)) (fun v I' M' h x hx=>by rw[h.2.2];exact hx) ?_
 rintro v I' M' - ⟨rfl,rfl,rfl⟩
 rw[List.append_nil]
 exact⟨_,_,.refl,rfl,rfl,rfl⟩
theorem fSet_spec:Spec Tryz.prog 165 [d.val,.slice a n c] I M fun v I' M'=>v=Fl.val ⟨false,!d.setZ,true⟩∧I'=I∧M'=M:=by
 refine spec_of_V [] TryzEOK Tryz.func165 rfl rfl rfl ?_
 intro B h0
 refine BinOb.ne4 TryzEOK (e:=63) rfl rfl rfl rfl (by kernel_rfl) ?_
 exact⟨_,_,.refl,rfl,rfl,rfl⟩
theorem fRep_spec (hk:FsAt I M a n ks) (h0:0 < n):Spec Tryz.prog 170 [d.val,.slice a n c] I M fun v I' M'=>v=(repFl d (ks.headD fl0)).val∧I'=I∧M'=M:=by
 refine spec_of_V [] TryzEOK Tryz.func170 rfl rfl rfl ?_
 intro B h0'
 obtain⟨ad,had,hrd⟩:=hk.head h0
 generalize ks.headD fl0=k at hrd
 obtain⟨kz,kss,kf⟩:=k
 refine CondOb.mk (fun h=>?_) (fun h=>?_)
 ·refine⟨_,_,.refl,fl_eq ?_ ?_ ?_,rfl,rfl⟩<;>simp[repFl,h]
 refine IdxOb.mk ad 0 had rfl h0 ?_
 refine LoadOb.mk _ hrd ?_
 repeat' refine GuardOb.mk (fun h=>?_) (fun h=>?_)
 all_goals refine⟨_,_,.refl,fl_eq ?_ ?_ ?_,rfl,rfl⟩
 all_goals first | (simp_all[repFl];done) | (simp_all[repFl];intros;omega)
theorem fChoice_spec (hk:FsAt I M a n ks) (hn:n≤140737488355328):Spec Tryz.prog 169 [d.val,.slice a n c] I M fun v I' M'=>v=(chFl ks).val∧I'=I∧M'=M:=by
 refine spec_of_V [] TryzEOK Tryz.func169 rfl rfl rfl ?_
 intro B h0'
 have hkn:=hk.n
 refine LoopOb.inv (ι:=Nat×Fl) (fun x=>{ fl:=[(4,.ref 4 0),(5,.ref 5 0),(9,.val (.slice a n c)),(10,.val (.int .i64 n)),(11,.val (.int .i64 x.1))],cl:=[(4,fl0.cells),(5,x.2.cells)],gi:=I,mi:=M })
  (fun x=>x.1≤n∧x.2=(ks.take x.1).foldl chStep ⟨false,false,true⟩) (fun x=>n - x.1) ?_ ?_
 ·exact⟨(0,⟨false,false,true⟩),⟨Nat.zero_le _,rfl⟩,.refl,aF5,.cons rfl (.cons rfl .nil)⟩
 rintro⟨i,f⟩ ⟨hi,hf⟩
 simp only at hi hf
 refine CondOb.mk (fun h=>?_) (fun h=>?_)
 rotate_left
 ·have hge:n≤i:=by have:=of_decide_eq_false h;omega
  refine⟨_,_,.refl,?_,rfl,rfl⟩
  rw[List.take_of_length_le (by omega)] at hf
  rw[chFl,←hf]
  rfl
 have hlt:i < n:=by have:=of_decide_eq_true h;omega
 obtain⟨ad,had,hrd⟩:=hk.rd i (by omega)
 have hst:∀ g:Fl,g=chStep f (ks[i]'(by omega))→g=(ks.take (i+1)).foldl chStep ⟨false,false,true⟩:=fun g hg=>by
  rw[List.take_succ_eq_append_getElem (by omega),List.foldl_append,←hf,hg]
  rfl
 generalize ks[i]'(by omega)=k at hrd hst
 obtain⟨kz,kss,kf⟩:=k
 obtain⟨z,s,ff⟩:=f
 refine IdxOb.mk ad i had rfl hlt ?_
 refine LoadOb.mk _ hrd ?_
 repeat' refine GuardOb.mk (fun h=>?_) (fun h=>?_)
 all_goals refine ArithOb.mk _ (next_wr (i:=i) (by omega)) ?_
 all_goals refine⟨(i+1,_),⟨⟨by simp only;omega,hst _ rfl⟩,by simp only;omega⟩,.refl,aF5,.cons rfl (.cons ?_ .nil)⟩
 all_goals clear hst hf hrd
 all_goals (refine congrArg some (fl_cells ?_ ?_ ?_)<;>simp_all[chStep])
theorem seqGo_snoc (l:List Fl) (k:Fl):seqGo (l++[k])=seqStep (seqGo l) k:=by simp[seqGo]
set_option maxHeartbeats 4000000 in
theorem fSeq_spec (hk:FsAt I M a n ks) (hn:n≤140737488355328):Spec Tryz.prog 168 [d.val,.slice a n c] I M fun v I' M'=>v=(seqFl ks).val∧I'=I∧M'=M:=by
 refine spec_of_V [] TryzEOK Tryz.func168 rfl rfl rfl ?_
 intro B h0'
 have hkn:=hk.n
 refine LoopOb.inv (ι:=Nat×Fl×Bool) (fun x=>{ fl:=[(4,.ref 4 0),(5,.ref 5 0),(6,.val (.bool x.2.2)),(10,.val (.slice a n c)),(11,.val (.int .i64 n)),(12,.val (.int .i64 x.1))],cl:=[(4,fl0.cells),(5,x.2.1.cells)],gi:=I,mi:=M })
  (fun x=>x.1≤n∧x.2=seqGo (ks.take x.1)) (fun x=>n - x.1) ?_ ?_
 ·exact⟨(0,⟨true,false,false⟩,true),⟨Nat.zero_le _,rfl⟩,.refl,.cons .refl (.cons .refl (.cons .lit (aF3))),.cons rfl (.cons rfl .nil)⟩
 rintro⟨i,f,sc⟩ ⟨hi,hf⟩
 simp only at hi hf
 refine CondOb.mk (fun h=>?_) (fun h=>?_)
 rotate_left
 ·have hge:n≤i:=by have:=of_decide_eq_false h;omega
  rw[List.take_of_length_le (by omega)] at hf
  obtain⟨z,s,ff⟩:=f
  have e1:(seqGo ks).1=⟨z,s,ff⟩:=by rw[←hf]
  have e2:(seqGo ks).2=sc:=by rw[←hf]
  refine GuardOb.mk (fun h2=>?_) (fun h2=>?_)
  all_goals refine⟨_,_,.refl,fl_eq ?_ ?_ ?_,rfl,rfl⟩
  all_goals simp_all[seqFl]
 have hlt:i < n:=by have:=of_decide_eq_true h;omega
 obtain⟨ad,had,hrd⟩:=hk.rd i (by omega)
 have hst:∀ g:Fl×Bool,g=seqStep (f,sc) (ks[i]'(by omega))→g=seqGo (ks.take (i+1)):=fun g hg=>by
  rw[List.take_succ_eq_append_getElem (by omega),seqGo_snoc,←hf,hg]
 generalize ks[i]'(by omega)=k at hrd hst
 obtain⟨kz,kss,kf⟩:=k
 obtain⟨z,s,ff⟩:=f
 refine IdxOb.mk ad i had rfl hlt ?_
 refine LoadOb.mk _ hrd ?_
 repeat' first
  | refine GuardOb.mk (fun h=>?_) (fun h=>?_)
  |(refine CallOb.mk M [] _ perm_nil (Suc_spec ⟨kz,kss,kf⟩) ?_;rintro v I' M' - ⟨rfl,rfl,rfl⟩;rw[List.append_nil])
 all_goals refine ArithOb.mk _ (next_wr (i:=i) (by omega)) ?_
 all_goals refine⟨(i+1,_),⟨⟨by simp only;omega,hst _ rfl⟩,by simp only;omega⟩,.refl,.cons .refl (.cons .refl (.cons ?_ (aF3))),.cons rfl (.cons ?_ .nil)⟩
 all_goals clear hst hf hrd
 all_goals first
  |(refine congrArg some (fl_cells ?_ ?_ ?_)<;>simp_all[seqStep])
  |(refine sv_bool ?_;simp_all[seqStep])
  |(refine sv_lit ?_;simp_all[seqStep])
end
structure Fit (t:Tr) (W:Nat):Prop where
 w:∀ d∈t.ns,d.kn≤W
 b:t.n * W≤1152921504606846976
 n:t.n≤1099511627776
theorem Rd.mono {I I':GH} {M:List Blk} {a:Addr} {n:Nat} {vs:List Value} (h:Rd I M a n vs) (hI:∀ b o,I b=some o→I' b=some o):Rd I' M a n vs:=by
 obtain⟨h1,cs,T,fr,h2,h3⟩:=h
 exact⟨h1,cs,T,fr,h2.imp (hI _ _) id,h3⟩
theorem Rd.sub {I:GH} {M M':List Blk} {a:Addr} {n:Nat} {vs:List Value} (h:Rd I M a n vs) (hM:∀ x∈M,x∈M'):Rd I M' a n vs:=by
 obtain⟨h1,cs,T,fr,h2,h3⟩:=h
 refine⟨h1,cs,T,fr,h2.imp id ?_,h3⟩
 rintro⟨x,hx,e1,e2⟩
 exact⟨x,hM x hx,e1,e2⟩
def ofStep (st:List Nd×List Int) (l:List Nd):List Nd×List Int:=
 (st.1++l.map (fun x=>x.withKids (x.kids.map fun k=>(st.1.length:Int)+k)),st.2++[((st.1.length+l.length:Nat):Int) - 1])
def ofNds (d:Nd) (ls:List (List Nd)):List Nd:=(ls.foldl ofStep ([],[])).1++[d.withKids (ls.foldl ofStep ([],[])).2]
section
variable {X:Ctx} {β:Nat→Nat} {a:Act} {w:World} {F:Fr} {C:Bx} {I:GH} {M:List Blk} {o:Oper} {Q:Exit→Act→World→Prop} {K:KS}
theorem lookup_runs (hE:EOK X.P X.E) {t:Nat} {ti tk:TI} {k e:Nat} (ht:X.E t=some ti) (hts:ti.sh=.map k e) (hk:X.E k=some tk) (hks:tk.sh=.string)
  (hz:∀ w,(zeroValue e).run X.P w=.ok (.int .i64 0) w) {g:Nat} {l:List (ByteArray×Int)} {s:ByteArray} (hg:w.heap[g]?=some (mapO l)) (ok:Bool) :
  (Instr.lookup t (.map (some g)) (.string s) ok).run X.P w=.ok (bif ok then .tuple #[.int .i64 ((lookM s l).getD 0),.bool (lookM s l).isSome] else .int .i64 ((lookM s l).getD 0)) w:=by
 obtain⟨d,hud,hdd⟩:=(hE _ _ ht).und
 have h1:d=.map k e:=by rw[hts] at hdd;cases d<;>simp_all[shOf]
 subst h1
 obtain⟨dk,huk,hdk⟩:=(hE _ _ hk).und
 have h2:dk=.string:=by rw[hks] at hdk;cases dk<;>simp_all[shOf]
 subst h2
 have hg:w.heap[g]?=some (.map (ents l 0).toArray l.length):=hg
 obtain⟨r,hf1,hf2⟩:=findNow_ents s l 0 0
 have hc:(Instr.checkKey (ents l 0).toArray.isEmpty 10000 k (.string s)).run X.P w=.ok () w:=MapKept.run_checkKey (k:=.string s) huk (by simp[MapKept.IsKey]) _ 9999
 have hfk:(Instr.findKey k (.string s) (ents l 0)).run X.P w=.ok r w:=MapKept.run_findKey huk hf1
 unfold Instr.lookup
 simp only[Sem.run_bind,run_underlying hud,Result.andThen_ok,MapKept.run_getObj_map hg,Sem.run_pure,hc,hfk]
 cases r with
 | none=>
  cases hl:lookM s l with
  | none=>cases ok<;>simp[hz]
  | some v=>rw[hl] at hf2;simp at hf2
 | some p=>
  cases hl:lookM s l with
  | none=>rw[hl] at hf2;simp at hf2
  | some v=>
   rw[hl] at hf2
   simp only[Option.map_some,Option.some.injEq] at hf2
   cases ok<;>simp[hf2]
theorem OtherOb.lookupT (hE:EOK X.P X.E) {t:Nat} {x y:Operand} (ho:o.op=.lookup t x y true) (hd:∀ d,o.dst=some d→d < X.n) {ti tk:TI} {k e:Nat} (ht:X.E t=some ti) (hts:ti.sh=.map k e) (hk:X.E k=some tk) (hks:tk.sh=.string)
  (hz:∀ w,(zeroValue e).run X.P w=.ok (.int .i64 0) w) {g:Nat} {l:List (ByteArray×Int)} {s:ByteArray} (hx:ev F x=.val (.map (some g))) (hy:ev F y=.val (.string s)) (hM:Kn I M g (mapO l))
  (h:K (put o.dst (.val (.tuple #[.int .i64 ((lookM s l).getD 0),.bool (lookM s l).isSome])) F) C I M):OtherOb X o F C I M K:=by
 refine⟨fun a w Q ⟨β,hR⟩=>?_⟩
 have hrun:=lookup_runs hE ht hts hk hks hz (hM.heap hR.holds) (s:=s) true
 have ex:=eval_of_ev hR.fr hx
 have ey:=eval_of_ev hR.fr hy
 refine done_vv hR hd (by rw[ho];simp) ?_ h
 unfold execOp
 simp only[ho,ex,ey,Sem.run_bind,hrun,Result.andThen_ok,Sem.run_pure,cond_true]
theorem OtherOb.lookupF (hE:EOK X.P X.E) {t:Nat} {x y:Operand} (ho:o.op=.lookup t x y false) (hd:∀ d,o.dst=some d→d < X.n) {ti tk:TI} {k e:Nat} (ht:X.E t=some ti) (hts:ti.sh=.map k e) (hk:X.E k=some tk) (hks:tk.sh=.string)
  (hz:∀ w,(zeroValue e).run X.P w=.ok (.int .i64 0) w) {g:Nat} {l:List (ByteArray×Int)} {s:ByteArray} (hx:ev F x=.val (.map (some g))) (hy:ev F y=.val (.string s)) (hM:Kn I M g (mapO l))
  (h:K (put o.dst (.val (.int .i64 ((lookM s l).getD 0))) F) C I M):OtherOb X o F C I M K:=by
 refine⟨fun a w Q ⟨β,hR⟩=>?_⟩
 have hrun:=lookup_runs hE ht hts hk hks hz (hM.heap hR.holds) (s:=s) false
 have ex:=eval_of_ev hR.fr hx
 have ey:=eval_of_ev hR.fr hy
 refine done_vv hR hd (by rw[ho];simp) ?_ h
 unfold execOp
 simp only[ho,ex,ey,Sem.run_bind,hrun,Result.andThen_ok,Sem.run_pure,cond_false]
end
def placesGo:List (ByteArray×Int)→Nat→List Df→List (ByteArray×Int)
 | acc,_,[]=>acc
 | acc,i,d::ds=>placesGo (bif (lookM d.name acc).isSome then acc else acc++[(d.name,(i:Int))]) (i+1) ds
def placesL (ds:List Df):List (ByteArray×Int):=placesGo [] 0 ds
set_option maxHeartbeats 1000000 in
theorem places_spec {I:GH} {g:Gr} (hg:g.ok I):Spec Tryz.prog 81 [g.val] I [] fun v I' M'=>(∀ b o,I b=some o→I' b=some o)∧M'=[]∧∃ gm,v=.map (some gm)∧I' gm=some (mapO (placesL g.ds)):=by
 refine spec_of_VF [] TryzEOK Tryz.func81 rfl rfl rfl ?_
 intro B h0
 have hgn:=hg.n
 have hcap:=hg.rs.cap
 refine OtherOb.makeMap TryzEOK rfl (by simp) rfl rfl rfl fun bm=>?_
 refine LoopOb.inv (ι:=Nat×List (ByteArray×Int)) (fun x=>{ fl:=[(1,.ref 1 0),(3,.val (.map (some bm))),(13,.val (.slice g.a g.n g.c)),(14,.val (.int .i64 g.n)),(15,.val (.int .i64 x.1))],cl:=[(1,[.slice g.a g.n g.c])],gi:=I,mi:=[⟨bm,mapO x.2⟩] })
  (fun x=>x.1≤g.n∧placesL g.ds=placesGo x.2 x.1 (g.ds.drop x.1)) (fun x=>g.n - x.1) ?_ ?_
 ·exact⟨(0,[]),⟨Nat.zero_le _,rfl⟩,.refl,aF5,.cons rfl .nil⟩
 rintro⟨i,acc⟩ ⟨hi,hp⟩
 simp only at hi hp
 refine CondOb.mk (fun h=>?_) (fun h=>?_)
 ·have hlt:i < g.n:=by have:(i:Int) < (g.n:Int):=of_decide_eq_true h;omega
  have hlt':i < g.ds.length:=by omega
  obtain⟨ad,had,hrd⟩:=hg.rs.row Df.cells_len hlt hlt'
  rw[List.drop_eq_getElem_cons hlt',placesGo] at hp
  refine IdxOb.mk ad i had rfl hlt ?_
  refine LoadOb.mk _ (hrd _) ?_
  refine OtherOb.lookupT TryzEOK rfl (by simp) rfl rfl rfl rfl (fun w=>zero_int w) (l:=acc) (g:=bm) rfl rfl (.inr ⟨_,.head _,rfl,rfl⟩) ?_
  refine CondOb.mk (fun h3=>?_) (fun h3=>?_)
  ·have hn:(lookM g.ds[i].name acc).isSome=false:=by simpa using h3
   have hl:lookM g.ds[i].name acc=none:=by simpa using hn
   rw[hn,cond_false] at hp
   refine OtherOb.mapNew TryzEOK rfl rfl rfl rfl rfl rfl rfl rfl rfl hl (Mr:=[]) (.refl _) ?_
   refine ArithOb.mk _ (next_wr (i:=i) (by omega)) ?_
   exact⟨(i+1,_),⟨⟨by simp only;omega,hp⟩,by simp only;omega⟩,.refl,aF5,.cons rfl .nil⟩
  ·have hn:(lookM g.ds[i].name acc).isSome=true:=by simpa using h3
   rw[hn,cond_true] at hp
   refine ArithOb.mk _ (next_wr (i:=i) (by omega)) ?_
   exact⟨(i+1,_),⟨⟨by simp only;omega,hp⟩,by simp only;omega⟩,.refl,aF5,.cons rfl .nil⟩
 have hge:g.n≤i:=by have:¬ (i:Int) < (g.n:Int):=of_decide_eq_false h;omega
 rw[List.drop_eq_nil_of_le (by omega),placesGo] at hp
 intro hfa
 have hb:=hfa.d ⟨bm,mapO acc⟩ (.head _)
 exact⟨_,_,.prom rfl (by simp) .refl,ins_le hb,rfl,bm,rfl,by rw[hp];exact ins_self ..⟩
def comeFs:List Nat:=[164,165,166,167,168,169,170,171,172,167]
def comeVs:List Value:=[.func (.func 164) #[] #[],.func (.func 165) #[] #[],.func (.func 166) #[] #[],.func (.func 167) #[] #[],.func (.func 168) #[] #[],.func (.func 169) #[] #[],.func (.func 170) #[] #[],.func (.func 171) #[] #[],.func (.func 172) #[] #[],.func (.func 167) #[] #[]]
theorem comes_spec {I:GH}:Spec Tryz.prog 122 [] I [] fun v I' M'=>v=.agg comeVs.toArray∧I'=I∧M'=[]:=by
 refine spec_of_V [] TryzEOK Tryz.func122 rfl rfl rfl ?_
 intro B h0
 exact⟨_,_,.refl,rfl,rfl,rfl⟩
theorem come_at {I:GH} {M:List Blk} {d:Nd} {a:Option Addr} {n c:Nat} {ks:List Fl} (hk:FsAt I M a n ks) (hn:n≤140737488355328) (j:Nat) (hj:j < 10) (hd:d.k=j) (h0:(j=3∨6≤j)→0 < n) :
  Spec Tryz.prog (comeFs.getD j 0) [d.val,.slice a n c] I M fun v I' M'=>v=(comeFl d ks).val∧I'=I∧M'=M:=by
 match j,hj,hd,h0 with
 | 0,_,hd,_=>rw[show comeFl d ks=⟨true,false,false⟩ by simp[comeFl,hd]];exact fEmpty_spec (I:=I) (M:=M) (d:=d) (a:=a) (n:=n) (c:=c)
 | 1,_,hd,_=>rw[show comeFl d ks=⟨false,!d.setZ,true⟩ by simp[comeFl,hd]];exact fSet_spec (I:=I) (M:=M) (d:=d) (a:=a) (n:=n) (c:=c)
 | 2,_,hd,_=>rw[show comeFl d ks=⟨false,true,true⟩ by simp[comeFl,hd]];exact fText_spec (I:=I) (M:=M) (d:=d) (a:=a) (n:=n) (c:=c)
 | 3,_,hd,h0=>rw[show comeFl d ks=ks.headD fl0 by simp[comeFl,hd]];exact fItself_spec (d:=d) (c:=c) hk (h0 (by omega))
 | 4,_,hd,_=>rw[show comeFl d ks=seqFl ks by simp[comeFl,hd]];exact fSeq_spec (d:=d) (c:=c) hk hn
 | 5,_,hd,_=>rw[show comeFl d ks=chFl ks by simp[comeFl,hd]];exact fChoice_spec (d:=d) (c:=c) hk hn
 | 6,_,hd,h0=>rw[show comeFl d ks=repFl d (ks.headD fl0) by simp[comeFl,hd]];exact fRep_spec (d:=d) (c:=c) hk (h0 (by omega))
 | 7,_,hd,h0=>rw[show comeFl d ks=⟨(ks.headD fl0).suc,false,(ks.headD fl0).f⟩ by simp[comeFl,hd]];exact fAnd_spec (d:=d) (c:=c) hk (h0 (by omega))
 | 8,_,hd,h0=>rw[show comeFl d ks=⟨(ks.headD fl0).f,false,(ks.headD fl0).suc⟩ by simp[comeFl,hd]];exact fNot_spec (d:=d) (c:=c) hk (h0 (by omega))
 | 9,_,hd,h0=>rw[show comeFl d ks=ks.headD fl0 by simp[comeFl,hd]];exact fItself_spec (d:=d) (c:=c) hk (h0 (by omega))
def flRow (b:Nat) (l:List Fl):Blk:=⟨b,.cells (l.flatMap Fl.cells).toArray 80 (0,0)⟩
theorem fl_len (l:List Fl):(l.flatMap Fl.cells).length=l.length * 3:=flat_len _ 3 Fl.cells_len l
theorem flRow_rd {I:GH} {M:List Blk} {b:Nat} {l:List Fl} (hM:flRow b l∈M) {j:Nat} (hj:j < l.length):Rd I M ((⟨b,0,none⟩:Addr).add (j * 3)) 3 l[j].cells:=by
 have h:=blk_rd (I:=I) (cs:=l.flatMap Fl.cells) (k:=j * 3) (n:=3) hM (by rw[fl_len];omega)
 rwa [flat_at Fl.cells 3 Fl.cells_len l j hj] at h
theorem flRow_set (l:List Fl) (j:Nat) (hj:j < l.length) (x:Fl):splice (l.flatMap Fl.cells) (j * 3) x.cells=(l.set j x).flatMap Fl.cells:=by
 have e:l.flatMap Fl.cells=(l.take j).flatMap Fl.cells++(l[j].cells++(l.drop (j+1)).flatMap Fl.cells):=by
  have h1:l=l.take j++(l[j]::l.drop (j+1)):=by rw[←List.drop_eq_getElem_cons hj,List.take_append_drop]
  have h2:=congrArg (fun q:List Fl=>q.flatMap Fl.cells) h1
  simp only[List.flatMap_append,List.flatMap_cons] at h2
  exact h2
 have hl:((l.take j).flatMap Fl.cells).length=j * 3:=by rw[fl_len,List.length_take];congr 1;omega
 unfold splice
 rw[List.set_eq_take_append_cons_drop,if_pos hj,List.flatMap_append,List.flatMap_cons,e,List.append_assoc]
 congr 1
 ·rw[←hl,List.take_left]
 ·congr 1
  rw[Fl.cells_len,←hl,←List.append_assoc,List.drop_left' (by rw[List.length_append,Fl.cells_len])]
theorem flat_snoc (l:List Fl) (x:Fl):(l++[x]).flatMap Fl.cells=l.flatMap Fl.cells++x.cells:=by simp
theorem OS.zero {os:OS} {size:Nat} {xs:List Value} (h:os.ok size xs):OS.ok ⟨os.a,0,os.c,os.cur⟩ size []:=by
 refine⟨by simp,fun ha=>⟨rfl,(h.nil ha).2⟩,fun g hg=>?_⟩
 obtain⟨h1,h2,h3,h4⟩:=h.cap g hg
 exact⟨h1,Nat.zero_le _,h3,by simp⟩
theorem OS.fsAt {I:GH} {M:List Blk} {os:OS} {l:List Fl} {e:Nat} (h:os.ok 3 (l.flatMap Fl.cells)) (hM:∀ x∈os.blk e,x∈M):FsAt I M (os.a.map fun g=>⟨g,0,none⟩) os.n l:=by
 have hl:=h.len
 rw[fl_len] at hl
 refine⟨by omega,fun j hj=>?_⟩
 obtain⟨a,n,c,cur⟩:=os
 simp only at hl
 cases a with
 | none=>have:=(h.nil rfl).1;simp only at this;omega
 | some g=>
  obtain⟨h1,h2,h3,h4⟩:=h.cap g rfl
  simp only at h1 h2 h4
  refine⟨⟨g,0,none⟩,rfl,?_⟩
  have hm:(⟨g,.cells cur.toArray e (0,0)⟩:Blk)∈M:=hM _ (by simp[OS.blk])
  have hr:=blk_rd (I:=I) (cs:=cur) (k:=j * 3) (n:=3) hm (by omega)
  have e1:(cur.drop (j * 3)).take 3=((cur.take (n * 3)).drop (j * 3)).take 3:=by
   rw[List.drop_take,List.take_take]
   congr 1
   omega
  rw[e1,h4,flat_at Fl.cells 3 Fl.cells_len l j hj] at hr
  exact hr
def kidsF (pl:List (ByteArray×Int)) (fl acc:List Fl) (d:Nd):List Fl:=
 d.kids.map (fun k=>acc.getD k.toNat fl0)++bif decide (d.k=3) then [fl.getD ((lookM d.t pl).getD 0).toNat fl0] else []
def nodesF (pl:List (ByteArray×Int)) (fl:List Fl):List Nd→List Fl→List Fl
 | [],acc=>acc
 | d::ds,acc=>nodesF pl fl ds (acc++[comeFl d (kidsF pl fl acc d)])
theorem nodesF_len (pl:List (ByteArray×Int)) (fl:List Fl):∀ (ds:List Nd) (acc:List Fl),(nodesF pl fl ds acc).length=acc.length+ds.length
 | [],acc=>rfl
 | d::ds,acc=>by
  rw[nodesF,nodesF_len]
  simp
  omega
def Called (pl:List (ByteArray×Int)) (n:Nat) (ns:List Nd):Prop:=∀ d∈ns,d.k=3→∃ i:Nat,lookM d.t pl=some (i:Int)∧i < n
theorem fits_k {d:Nd} {n:Int} (h:fits d n=true):d.k < 10:=by
 apply Int.lt_of_not_ge
 intro hge
 have:(10:Int)≤d.k:=hge
 simp[fits,this] at h
theorem fits_kid {d:Nd} {n:Int} (h0:0≤d.k) (h:fits d n=true) (hk:6≤d.k):0 < n:=by
 have h10:=fits_k h
 have hcases:d.k=6∨d.k=7∨d.k=8∨d.k=9:=by omega
 rcases hcases with e | e | e | e<;>(simp[fits,e,cntLo,cntHi,countsL] at h;omega)
theorem rep_at (acc:List Fl) (n i:Nat) (hl:acc.length=i) (hi:i < n) (x:Fl):(acc++List.replicate (n - i) fl0).set i x=(acc++[x])++List.replicate (n - (i+1)) fl0:=by
 subst hl
 rw[List.set_append_right _ _ (Nat.le_refl _),Nat.sub_self,show n - acc.length=(n - (acc.length+1))+1 by omega,List.replicate_succ,List.set_cons_zero]
 simp
theorem rowOf_fl:∀ n:Nat,rowOf fl0.cells (n * 3)=(List.replicate n fl0).flatMap Fl.cells:=fun n=>by
 apply List.ext_getElem
 ·rw[fl_len,List.length_replicate]
  simp[rowOf_eq,madeCells]
 intro i h1 h2
 have h3:∀ x∈(List.replicate n fl0).flatMap Fl.cells,x=Value.bool false:=fun x hx=>by
  obtain⟨y,hy,hx⟩:=List.mem_flatMap.1 hx
  have:=List.eq_of_mem_replicate hy
  subst this
  simpa[Fl.cells,fl0] using hx
 rw[h3 _ (List.getElem_mem h2)]
 have hz:∀ j,j < 3→fl0.cells[j]! = Value.bool false:=fun j hj=>by
  match j,hj with
  | 0,_=>rfl
  | 1,_=>rfl
  | 2,_=>rfl
 simp only[rowOf,List.getElem_map,List.getElem_range]
 exact hz _ (Nat.mod_lt _ (by decide))
theorem ble_fl {acc:List Fl} {n i:Nat} (hacc:acc.length=i) (hlt:i < n) (x:Fl):Nat.ble (0+i * 3+x.cells.length) ((acc++List.replicate (n - i) fl0).flatMap Fl.cells).length=true:=by
 rw[Nat.ble_eq,fl_len,Fl.cells_len,List.length_append,List.length_replicate]
 omega
set_option maxRecDepth 100000 in
set_option maxHeartbeats 16000000 in
theorem fnodes_spec {I:GH} {M0:List Blk} {t:Tr} (ht:t.ok I) (hr:right t=true) {gm:Nat} {pl:List (ByteArray×Int)} (hm:I gm=some (mapO pl)) {la:Option Addr} {ln lc:Nat} {fl:List Fl} (hfl:FsAt I M0 la ln fl) (hc:Called pl ln t.ns) :
  Spec Tryz.prog 83 [.map (some gm),.slice la ln lc,t.val] I M0 fun v I' M'=>I'=I∧∃ b,v=.slice (some ⟨b,0,none⟩) t.n t.n∧M'=flRow b (nodesF pl fl t.ns [])::M0:=by
 refine spec_of_V [] TryzEOK Tryz.func83 rfl rfl rfl ?_
 intro B h0
 have htn:=ht.n
 have hcap:=ht.rs.cap
 refine CallOb.mk [] M0 _ (.refl _) comes_spec ?_
 rintro v I1 M1 - ⟨rfl,rfl,rfl⟩
 refine MakeOb.mk t.n t.n rfl rfl (Nat.le_refl _) (by show 3 * t.n≤_;omega) (by omega) ?_
 refine AllocOb.mk fun b8 hb8 hbM8=>?_
 refine LoopOb.inv (ι:=Nat×List Fl×OS) (fun x=>{ fl:=[(0,.val (.map (some gm))),(1,.val (.slice la ln lc)),(5,.ref 5 0),(7,.ref 7 0),(8,.val (.slice (some ⟨b8,0,none⟩) t.n t.n)),(9,.val x.2.2.val),(20,.val (.slice t.a t.n t.c)),(21,.val (.int .i64 t.n)),(22,.val (.int .i64 x.1))],cl:=[(5,t.cells),(7,comeVs)],gi:=I1,mi:=flRow b8 (x.2.1++List.replicate (t.n - x.1) fl0)::(x.2.2.blk 80++M0) })
  (fun x=>x.1≤t.n∧x.2.1.length=x.1∧nodesF pl fl t.ns []=nodesF pl fl (t.ns.drop x.1) x.2.1∧∃ ks,x.2.2.ok 3 ks) (fun x=>t.n - x.1) ?_ ?_
 ·refine⟨(0,[],OS0),⟨Nat.zero_le _,rfl,rfl,[],OS0_ok 3⟩,?_,aF9,.cons rfl (.cons rfl .nil)⟩
  have e:rowOf fl0.cells (t.n * 3)=(List.replicate t.n fl0).flatMap Fl.cells:=rowOf_fl t.n
  simp only[flRow,List.nil_append,Nat.sub_zero]
  rw[←e]
  exact .refl
 rintro⟨i,acc,ko⟩ ⟨hi,hacc,hnf,kx,hko⟩
 simp only at hi hacc hnf hko
 refine CondOb.mk (fun h=>?_) (fun h=>?_)
 rotate_left
 ·have hge:i=t.n:=by have:¬ (i:Int) < (t.n:Int):=of_decide_eq_false h;omega
  subst hge
  rw[List.drop_eq_nil_of_le (by omega),nodesF] at hnf
  refine⟨I1,flRow b8 (acc++List.replicate (t.n - t.n) fl0)::M0,.sub (.cons_cons _ (List.sublist_append_right _ _)) .refl,rfl,b8,rfl,?_⟩
  rw[hnf,Nat.sub_self,List.replicate_zero,List.append_nil]
 have hlt:i < t.n:=by have:(i:Int) < (t.n:Int):=of_decide_eq_true h;omega
 have hlt':i < t.ns.length:=by omega
 obtain⟨ad,had,hrd⟩:=ht.rs.row Nd.cells_len hlt hlt'
 have hdm:=List.getElem_mem hlt'
 have hd:=ht.ns _ hdm
 have hkn:=hd.kn
 have hkc:=hd.rs.cap
 have hkv:=right_kids hr i hlt'
 have hft:=right_fits hr hlt'
 have hcd:=hc _ hdm
 have hnf':nodesF pl fl t.ns []=nodesF pl fl (t.ns.drop (i+1)) (acc++[comeFl t.ns[i] (kidsF pl fl acc t.ns[i])]):=by
  rw[hnf,List.drop_eq_getElem_cons hlt',nodesF]
 generalize t.ns[i]=d at hrd hd hkn hkc hkv hft hcd hnf'
 have hk0:=hd.k.1
 have hk10:=fits_k hft
 have hrow:∀ {M:List Blk} {q:Int},flRow b8 (acc++List.replicate (t.n - i) fl0)∈M→q∈d.kids→Rd I1 M ((⟨b8,0,none⟩:Addr).add (q.toNat * 3)) 3 (acc.getD q.toNat fl0).cells:=fun {M q} hM hq=>by
  have hq':=hkv q hq
  have hql:q.toNat < acc.length:=by omega
  have:=flRow_rd (I:=I1) hM (j:=q.toNat) (by rw[List.length_append];omega)
  rw[List.getElem_append_left hql] at this
  simpa[List.getD_eq_getElem?_getD,hql] using this
 refine IdxOb.mk ad i had rfl hlt ?_
 refine LoadOb.mk _ (hrd _) ?_
 refine SliceOb.mk 0 0 rfl rfl (Nat.le_refl _) (Nat.zero_le _) ?_
 refine LoopOb.inv (ι:=Nat×OS×List Fl) (fun x=>{ fl:=[(0,.val (.map (some gm))),(1,.val (.slice la ln lc)),(5,.ref 5 0),(7,.ref 7 0),(8,.val (.slice (some ⟨b8,0,none⟩) t.n t.n)),(9,.val x.2.1.val),(10,.val (.int .i64 i)),(11,.ref 11 0),(20,.val (.slice t.a t.n t.c)),(21,.val (.int .i64 t.n)),(22,.val (.int .i64 i)),(30,.val (.slice d.ka d.kn d.kc)),(31,.val (.int .i64 d.kn)),(32,.val (.int .i64 x.1))],cl:=[(5,t.cells),(7,comeVs),(11,d.cells)],gi:=I1,mi:=flRow b8 (acc++List.replicate (t.n - i) fl0)::(x.2.1.blk 80++M0) })
  (fun x=>x.1≤d.kn∧x.2.1.ok 3 (x.2.2.flatMap Fl.cells)∧x.2.2=(d.kids.take x.1).map fun k=>acc.getD k.toNat fl0) (fun x=>d.kn - x.1) ?_ ?_
 ·exact⟨(0,⟨ko.a,0,ko.c,ko.cur⟩,[]),⟨Nat.zero_le _,OS.zero hko,rfl⟩,.refl,aF14,.cons rfl (.cons rfl (.cons rfl .nil))⟩
 rintro⟨k,k2,kl⟩ ⟨hk,hk2,hkl⟩
 simp only at hk hk2 hkl
 have hk2n:k2.n=kl.length:=by have:=hk2.len;rw[fl_len] at this;omega
 have hkll:kl.length≤k:=by rw[hkl,List.length_map];exact List.length_take_le _ _
 refine CondOb.mk (fun h=>?_) (fun h=>?_)
 ·have hkk:k < d.kn:=by have:(k:Int) < (d.kn:Int):=of_decide_eq_true h;omega
  have hkk':k < d.kids.length:=by omega
  obtain⟨ak,hak,hrk⟩:=hd.rs.one hkk hkk'
  have hq:=hkv _ (List.getElem_mem hkk')
  refine IdxOb.mk ak k hak rfl hkk ?_
  refine LoadOb.mk _ (hrk _) ?_
  refine IdxOb.mk ⟨b8,0,none⟩ d.kids[k].toNat rfl (by omega) (by omega) ?_
  refine LoadOb.mk _ (hrow (.head _) (List.getElem_mem hkk')) ?_
  refine AllocOb.mk fun b9 hb9 hbM9=>?_
  refine OtherOb.append TryzEOK rfl (by simp) (e:=80) rfl rfl rfl k2 hk2 rfl (m:=1) rfl (news:=(acc.getD d.kids[k].toNat fl0).cells) (by decide) (blk_rd (b:=b9) (cs:=(acc.getD d.kids[k].toNat fl0).cells) (k:=0) (n:=3) (T:=80) (.head _) (Nat.le_of_ble_eq_true rfl)) rfl (Mr:=⟨b9,.cells (acc.getD d.kids[k].toNat fl0).cells.toArray 80 (0,0)⟩::flRow b8 (acc++List.replicate (t.n - i) fl0)::M0) (by
   have:=List.perm_append_comm_assoc [(⟨b9,.cells (acc.getD d.kids[k].toNat fl0).cells.toArray 80 (0,0)⟩:Blk),flRow b8 (acc++List.replicate (t.n - i) fl0)] (k2.blk 80) M0
   exact this) (by simp only[maxLen];omega) (by show (k2.n+1) * 3≤_;omega) ?_
  intro g2 c2 cur2 r1 r2 r3 r4
  refine ArithOb.mk _ (next_wr (i:=k) (by omega)) ?_
  refine⟨(k+1,⟨some g2,k2.n+1,c2,cur2⟩,kl++[acc.getD d.kids[k].toNat fl0]),⟨⟨by simp only;omega,?_,?_⟩,by simp only;omega⟩,.sub (M1:=[(⟨g2,.cells cur2.toArray 80 (0,0)⟩:Blk),flRow b8 (acc++List.replicate (t.n - i) fl0)]++M0) (.cons_cons _ (.cons _ (.refl _))) (.perm (List.Perm.swap _ _ _) .refl),aF14,.cons rfl (.cons rfl (.cons rfl .nil))⟩
  ·simp only
   rw[flat_snoc]
   exact appk_ok hk2 (Fl.cells_len _) r1 r2 r3 r4
  ·simp only
   rw[List.take_succ_eq_append_getElem hkk',List.map_append,←hkl]
   rfl
 have hge:d.kn≤k:=by have:¬ (k:Int) < (d.kn:Int):=of_decide_eq_false h;omega
 rw[List.take_of_length_le (by omega)] at hkl
 have hkln:kl.length=d.kids.length:=by rw[hkl,List.length_map]
 have hb2:k2.n+1≤140737488355328:=by omega
 clear h hk hkll
 have hset:∀ x:Fl,splice ((acc++List.replicate (t.n - i) fl0).flatMap Fl.cells) (0+i * 3) x.cells=((acc++[x])++List.replicate (t.n - (i+1)) fl0).flatMap Fl.cells:=fun x=>by
  rw[Nat.zero_add,flRow_set _ _ (by simp;omega),rep_at acc t.n i hacc hlt]
 have hinv:∀ (ko2:OS) (ks2:List Value),ko2.ok 3 ks2→((i+1≤t.n∧(acc++[comeFl d (kidsF pl fl acc d)]).length=i+1∧nodesF pl fl t.ns []=nodesF pl fl (t.ns.drop (i+1)) (acc++[comeFl d (kidsF pl fl acc d)])∧∃ ks,ko2.ok 3 ks)∧t.n - (i+1) < t.n - i):=fun ko2 ks2 h2=>
  ⟨⟨hlt,by simp[hacc],hnf',ks2,h2⟩,by omega⟩
 by_cases h3:d.k=3
 ·refine CondOb.mk (fun _=>?_) (fun h=>absurd h (by simp[h3]))
  obtain⟨q,hq1,hq2⟩:=hcd h3
  have hkf:kidsF pl fl acc d=kl++[fl.getD q fl0]:=by
   rw[kidsF,←hkl,hq1,h3]
   rfl
  have hql:q < fl.length:=by rw[hfl.n];exact hq2
  obtain⟨al,hal,hrl⟩:=hfl.rd q hql
  have hgq:fl.getD q fl0=fl[q]:=by simp[List.getD_eq_getElem?_getD,hql]
  refine OtherOb.lookupF TryzEOK rfl (by simp) rfl rfl rfl rfl (fun w=>zero_int w) (l:=pl) (g:=gm) rfl rfl (.inl hm) ?_
  rw[hq1]
  refine IdxOb.mk al q hal rfl hq2 ?_
  refine LoadOb.mk _ (hrl.sub fun x hx=>by simp[hx]) ?_
  refine AllocOb.mk fun b9 hb9 hbM9=>?_
  refine OtherOb.append TryzEOK rfl (by simp) (e:=80) rfl rfl rfl k2 hk2 rfl (m:=1) rfl (news:=fl[q].cells) (by decide) (blk_rd (b:=b9) (cs:=fl[q].cells) (k:=0) (n:=3) (T:=80) (.head _) (Nat.le_of_ble_eq_true rfl)) rfl (Mr:=⟨b9,.cells fl[q].cells.toArray 80 (0,0)⟩::flRow b8 (acc++List.replicate (t.n - i) fl0)::M0) (by
   have:=List.perm_append_comm_assoc [(⟨b9,.cells fl[q].cells.toArray 80 (0,0)⟩:Blk),flRow b8 (acc++List.replicate (t.n - i) fl0)] (k2.blk 80) M0
   exact this) (by simp only[maxLen];omega) (by show (k2.n+1) * 3≤_;omega) ?_
  intro g2 c2 cur2 r1 r2 r3 r4
  have hok2:=appk_ok (g:=g2) hk2 (Fl.cells_len fl[q]) r1 r2 r3 r4
  rw[←flat_snoc,←hgq,←hkf] at hok2
  have hks:=OS.fsAt (I:=I1) (M:=⟨g2,.cells cur2.toArray 80 (0,0)⟩::⟨b9,.cells fl[q].cells.toArray 80 (0,0)⟩::flRow b8 (acc++List.replicate (t.n - i) fl0)::M0) (e:=80) hok2 (fun x hx=>by
   simp only[OS.blk,List.mem_singleton] at hx
   subst hx
   exact .head _)
  refine CodeOb.draw TryzEOK rfl rfl rfl ?_
  obtain⟨dk,s0,s1,s2,s3,dt,lo,hi',dka,dkn,dkc,dkids⟩:=d
  simp only at h3
  subst h3
  refine ArrOb.mk 3 rfl (by decide) ?_
  refine PCallOb.mkR _ [] _ perm_nil (come_at (d:=⟨3,s0,s1,s2,s3,dt,lo,hi',dka,dkn,dkc,dkids⟩) hks hb2 3 (by decide) rfl (fun _=>Nat.succ_pos _)) (fun v I' M' h x hx=>by rw[h.2.2];exact hx) ?_
  rintro v I2 M2 - ⟨rfl,rfl,rfl⟩
  rw[List.append_nil]
  refine IdxOb.mk ⟨b8,0,none⟩ i rfl rfl hlt ?_
  refine StoreOb.addTo [(⟨g2,.cells cur2.toArray 80 (0,0)⟩:Blk),⟨b9,.cells fl[q].cells.toArray 80 (0,0)⟩] M0 ((acc++List.replicate (t.n - i) fl0).flatMap Fl.cells) _ rfl (ble_fl hacc hlt _) rfl _ (hset _) ?_
  refine ArithOb.mk _ (next_wr (i:=i) (by omega)) ?_
  exact⟨(i+1,_,⟨some g2,k2.n+1,c2,cur2⟩),hinv _ _ hok2,.sub (M1:=[(⟨g2,.cells cur2.toArray 80 (0,0)⟩:Blk),flRow b8 _]++M0) (.cons_cons _ (.cons _ (.refl _))) (.perm (List.Perm.swap _ _ _) .refl),aF9,.cons rfl (.cons rfl .nil)⟩
 refine CondOb.mk (fun h=>absurd (of_decide_eq_true h) h3) (fun _=>?_)
 have hkf:kidsF pl fl acc d=kl:=by
  rw[kidsF,←hkl,decide_eq_false h3]
  simp
 rw[hkf] at hinv
 have hks:=OS.fsAt (I:=I1) (M:=flRow b8 (acc++List.replicate (t.n - i) fl0)::(k2.blk 80++M0)) (e:=80) hk2 (fun x hx=>by simp[hx])
 have hpos:6≤d.k→0 < k2.n:=fun h6=>by
  have:=fits_kid hk0 hft h6
  omega
 have hcases:d.k=0∨d.k=1∨d.k=2∨d.k=4∨d.k=5∨d.k=6∨d.k=7∨d.k=8∨d.k=9:=by omega
 obtain⟨dk,s0,s1,s2,s3,dt,lo,hi',dka,dkn,dkc,dkids⟩:=d
 simp only at hcases hpos h3
 refine CodeOb.draw TryzEOK rfl rfl rfl ?_
 rcases hcases with rfl | rfl | rfl | rfl | rfl | rfl | rfl | rfl | rfl
 ·refine ArrOb.mk 0 rfl (by decide) ?_
  refine PCallOb.mkR _ [] _ perm_nil (come_at (d:=⟨0,s0,s1,s2,s3,dt,lo,hi',dka,dkn,dkc,dkids⟩) hks (Nat.le_of_succ_le hb2) 0 (by decide) rfl (fun h=>by omega)) (fun v I' M' h x hx=>by rw[h.2.2];exact hx) ?_
  rintro v I2 M2 - ⟨rfl,rfl,rfl⟩
  rw[List.append_nil]
  refine IdxOb.mk ⟨b8,0,none⟩ i rfl rfl hlt ?_
  refine StoreOb.addTo [] (k2.blk 80++M0) ((acc++List.replicate (t.n - i) fl0).flatMap Fl.cells) _ rfl (ble_fl hacc hlt _) rfl _ (hset _) ?_
  refine ArithOb.mk _ (next_wr (i:=i) (by omega)) ?_
  exact⟨(i+1,_,k2),hinv _ _ hk2,.refl,aF9,.cons rfl (.cons rfl .nil)⟩
 ·refine ArrOb.mk 1 rfl (by decide) ?_
  refine PCallOb.mkR _ [] _ perm_nil (come_at (d:=⟨1,s0,s1,s2,s3,dt,lo,hi',dka,dkn,dkc,dkids⟩) hks (Nat.le_of_succ_le hb2) 1 (by decide) rfl (fun h=>by omega)) (fun v I' M' h x hx=>by rw[h.2.2];exact hx) ?_
  rintro v I2 M2 - ⟨rfl,rfl,rfl⟩
  rw[List.append_nil]
  refine IdxOb.mk ⟨b8,0,none⟩ i rfl rfl hlt ?_
  refine StoreOb.addTo [] (k2.blk 80++M0) ((acc++List.replicate (t.n - i) fl0).flatMap Fl.cells) _ rfl (ble_fl hacc hlt _) rfl _ (hset _) ?_
  refine ArithOb.mk _ (next_wr (i:=i) (by omega)) ?_
  exact⟨(i+1,_,k2),hinv _ _ hk2,.refl,aF9,.cons rfl (.cons rfl .nil)⟩
 ·refine ArrOb.mk 2 rfl (by decide) ?_
  refine PCallOb.mkR _ [] _ perm_nil (come_at (d:=⟨2,s0,s1,s2,s3,dt,lo,hi',dka,dkn,dkc,dkids⟩) hks (Nat.le_of_succ_le hb2) 2 (by decide) rfl (fun h=>by omega)) (fun v I' M' h x hx=>by rw[h.2.2];exact hx) ?_
  rintro v I2 M2 - ⟨rfl,rfl,rfl⟩
  rw[List.append_nil]
  refine IdxOb.mk ⟨b8,0,none⟩ i rfl rfl hlt ?_
  refine StoreOb.addTo [] (k2.blk 80++M0) ((acc++List.replicate (t.n - i) fl0).flatMap Fl.cells) _ rfl (ble_fl hacc hlt _) rfl _ (hset _) ?_
  refine ArithOb.mk _ (next_wr (i:=i) (by omega)) ?_
  exact⟨(i+1,_,k2),hinv _ _ hk2,.refl,aF9,.cons rfl (.cons rfl .nil)⟩
 ·refine ArrOb.mk 4 rfl (by decide) ?_
  refine PCallOb.mkR _ [] _ perm_nil (come_at (d:=⟨4,s0,s1,s2,s3,dt,lo,hi',dka,dkn,dkc,dkids⟩) hks (Nat.le_of_succ_le hb2) 4 (by decide) rfl (fun h=>by omega)) (fun v I' M' h x hx=>by rw[h.2.2];exact hx) ?_
  rintro v I2 M2 - ⟨rfl,rfl,rfl⟩
  rw[List.append_nil]
  refine IdxOb.mk ⟨b8,0,none⟩ i rfl rfl hlt ?_
  refine StoreOb.addTo [] (k2.blk 80++M0) ((acc++List.replicate (t.n - i) fl0).flatMap Fl.cells) _ rfl (ble_fl hacc hlt _) rfl _ (hset _) ?_
  refine ArithOb.mk _ (next_wr (i:=i) (by omega)) ?_
  exact⟨(i+1,_,k2),hinv _ _ hk2,.refl,aF9,.cons rfl (.cons rfl .nil)⟩
 ·refine ArrOb.mk 5 rfl (by decide) ?_
  refine PCallOb.mkR _ [] _ perm_nil (come_at (d:=⟨5,s0,s1,s2,s3,dt,lo,hi',dka,dkn,dkc,dkids⟩) hks (Nat.le_of_succ_le hb2) 5 (by decide) rfl (fun h=>by omega)) (fun v I' M' h x hx=>by rw[h.2.2];exact hx) ?_
  rintro v I2 M2 - ⟨rfl,rfl,rfl⟩
  rw[List.append_nil]
  refine IdxOb.mk ⟨b8,0,none⟩ i rfl rfl hlt ?_
  refine StoreOb.addTo [] (k2.blk 80++M0) ((acc++List.replicate (t.n - i) fl0).flatMap Fl.cells) _ rfl (ble_fl hacc hlt _) rfl _ (hset _) ?_
  refine ArithOb.mk _ (next_wr (i:=i) (by omega)) ?_
  exact⟨(i+1,_,k2),hinv _ _ hk2,.refl,aF9,.cons rfl (.cons rfl .nil)⟩
 ·refine ArrOb.mk 6 rfl (by decide) ?_
  refine PCallOb.mkR _ [] _ perm_nil (come_at (d:=⟨6,s0,s1,s2,s3,dt,lo,hi',dka,dkn,dkc,dkids⟩) hks (Nat.le_of_succ_le hb2) 6 (by decide) rfl (fun _=>hpos (by decide))) (fun v I' M' h x hx=>by rw[h.2.2];exact hx) ?_
  rintro v I2 M2 - ⟨rfl,rfl,rfl⟩
  rw[List.append_nil]
  refine IdxOb.mk ⟨b8,0,none⟩ i rfl rfl hlt ?_
  refine StoreOb.addTo [] (k2.blk 80++M0) ((acc++List.replicate (t.n - i) fl0).flatMap Fl.cells) _ rfl (ble_fl hacc hlt _) rfl _ (hset _) ?_
  refine ArithOb.mk _ (next_wr (i:=i) (by omega)) ?_
  exact⟨(i+1,_,k2),hinv _ _ hk2,.refl,aF9,.cons rfl (.cons rfl .nil)⟩
 ·refine ArrOb.mk 7 rfl (by decide) ?_
  refine PCallOb.mkR _ [] _ perm_nil (come_at (d:=⟨7,s0,s1,s2,s3,dt,lo,hi',dka,dkn,dkc,dkids⟩) hks (Nat.le_of_succ_le hb2) 7 (by decide) rfl (fun _=>hpos (by decide))) (fun v I' M' h x hx=>by rw[h.2.2];exact hx) ?_
  rintro v I2 M2 - ⟨rfl,rfl,rfl⟩
  rw[List.append_nil]
  refine IdxOb.mk ⟨b8,0,none⟩ i rfl rfl hlt ?_
  refine StoreOb.addTo [] (k2.blk 80++M0) ((acc++List.replicate (t.n - i) fl0).flatMap Fl.cells) _ rfl (ble_fl hacc hlt _) rfl _ (hset _) ?_
  refine ArithOb.mk _ (next_wr (i:=i) (by omega)) ?_
  exact⟨(i+1,_,k2),hinv _ _ hk2,.refl,aF9,.cons rfl (.cons rfl .nil)⟩
 ·refine ArrOb.mk 8 rfl (by decide) ?_
  refine PCallOb.mkR _ [] _ perm_nil (come_at (d:=⟨8,s0,s1,s2,s3,dt,lo,hi',dka,dkn,dkc,dkids⟩) hks (Nat.le_of_succ_le hb2) 8 (by decide) rfl (fun _=>hpos (by decide))) (fun v I' M' h x hx=>by rw[h.2.2];exact hx) ?_
  rintro v I2 M2 - ⟨rfl,rfl,rfl⟩
  rw[List.append_nil]
  refine IdxOb.mk ⟨b8,0,none⟩ i rfl rfl hlt ?_
  refine StoreOb.addTo [] (k2.blk 80++M0) ((acc++List.replicate (t.n - i) fl0).flatMap Fl.cells) _ rfl (ble_fl hacc hlt _) rfl _ (hset _) ?_
  refine ArithOb.mk _ (next_wr (i:=i) (by omega)) ?_
  exact⟨(i+1,_,k2),hinv _ _ hk2,.refl,aF9,.cons rfl (.cons rfl .nil)⟩
 ·refine ArrOb.mk 9 rfl (by decide) ?_
  refine PCallOb.mkR _ [] _ perm_nil (come_at (d:=⟨9,s0,s1,s2,s3,dt,lo,hi',dka,dkn,dkc,dkids⟩) hks (Nat.le_of_succ_le hb2) 9 (by decide) rfl (fun _=>hpos (by decide))) (fun v I' M' h x hx=>by rw[h.2.2];exact hx) ?_
  rintro v I2 M2 - ⟨rfl,rfl,rfl⟩
  rw[List.append_nil]
  refine IdxOb.mk ⟨b8,0,none⟩ i rfl rfl hlt ?_
  refine StoreOb.addTo [] (k2.blk 80++M0) ((acc++List.replicate (t.n - i) fl0).flatMap Fl.cells) _ rfl (ble_fl hacc hlt _) rfl _ (hset _) ?_
  refine ArithOb.mk _ (next_wr (i:=i) (by omega)) ?_
  exact⟨(i+1,_,k2),hinv _ _ hk2,.refl,aF9,.cons rfl (.cons rfl .nil)⟩
structure Fl.le (a b:Fl):Prop where
 z:a.z=true→b.z=true
 s:a.s=true→b.s=true
 f:a.f=true→b.f=true
theorem Fl.le_refl (a:Fl):a.le a:=⟨id,id,id⟩
theorem Fl.le.trans {a b c:Fl} (h:a.le b) (h':b.le c):a.le c:=⟨fun x=>h'.z (h.z x),fun x=>h'.s (h.s x),fun x=>h'.f (h.f x)⟩
theorem Fl.le.antisymm {a b:Fl} (h:a.le b) (h':b.le a):a=b:=by
 obtain⟨a1,a2,a3⟩:=a
 obtain⟨b1,b2,b3⟩:=b
 have e:∀ {x y:Bool},(x=true→y=true)→(y=true→x=true)→x=y:=fun {x y} h h'=>by cases x<;>cases y<;>simp_all
 have e1:a1=b1:=e h.z h'.z
 have e2:a2=b2:=e h.s h'.s
 have e3:a3=b3:=e h.f h'.f
 subst e1 e2 e3
 rfl
theorem Fl.bot (a:Fl):fl0.le a:=⟨(fun h=>by cases h),(fun h=>by cases h),(fun h=>by cases h)⟩
def within (a b:Fl):Bool:=(!a.z || b.z) && ((!a.s || b.s) && (!a.f || b.f))
theorem Fl.suc_mono {a b:Fl} (h:a.le b):a.suc=true→b.suc=true:=by
 intro hs
 simp only[Fl.suc,Bool.or_eq_true] at hs ⊢
 exact hs.imp h.z h.s
inductive LeL:List Fl→List Fl→Prop
 | nil:LeL [] []
 | cons {a b l m} (h:Fl.le a b) (t:LeL l m):LeL (a::l) (b::m)
theorem LeL.refl:∀ l,LeL l l
 | []=>.nil
 | a::l=>.cons a.le_refl (LeL.refl l)
theorem LeL.trans:∀ {a b c},LeL a b→LeL b c→LeL a c
 | _,_,_,.nil,.nil=>.nil
 | _,_,_,.cons h t,.cons h' t'=>.cons (h.trans h') (t.trans t')
theorem LeL.antisymm:∀ {a b},LeL a b→LeL b a→a=b
 | _,_,.nil,_=>rfl
 | _,_,.cons h t,.cons h' t'=>by rw[h.antisymm h',t.antisymm t']
theorem LeL.len:∀ {a b},LeL a b→a.length=b.length
 | _,_,.nil=>rfl
 | _,_,.cons h t=>by simp[t.len]
theorem LeL.append:∀ {a b c d},LeL a b→LeL c d→LeL (a++c) (b++d)
 | _,_,_,_,.nil,h=>h
 | _,_,_,_,.cons h t,h'=>.cons h (t.append h')
theorem LeL.getD:∀ {a b},LeL a b→∀ i,(a.getD i fl0).le (b.getD i fl0)
 | _,_,.nil,i=>by simp;exact Fl.le_refl _
 | _,_,.cons h t,0=>h
 | _,_,.cons h t,i+1=>by simpa using t.getD i
theorem LeL.of:∀ {a b:List Fl},a.length=b.length→(∀ i,i < a.length→(a.getD i fl0).le (b.getD i fl0))→LeL a b
 | [],[],_,_=>.nil
 | x::a,y::b,hl,h=>.cons (by simpa using h 0 (by simp)) (LeL.of (by simpa using hl) fun i hi=>by simpa using h (i+1) (by simpa using hi))
theorem LeL.map {α:Type} {f g:α→Fl}:∀ {l:List α},(∀ x∈l,(f x).le (g x))→LeL (l.map f) (l.map g)
 | [],_=>.nil
 | x::l,h=>.cons (h x (.head _)) (LeL.map fun y hy=>h y (.tail _ hy))
theorem LeL.head {a b:List Fl} (h:LeL a b):(a.headD fl0).le (b.headD fl0):=by
 cases h with
 | nil=>exact Fl.le_refl _
 | cons h _=>exact h
theorem LeL.bot:∀ l:List Fl,LeL (List.replicate l.length fl0) l
 | []=>.nil
 | a::l=>.cons a.bot (LeL.bot l)
theorem seq_mono:∀ {a b:List Fl},LeL a b→∀ {x y:Fl×Bool},x.1.le y.1→(x.2=true→y.2=true)→(a.foldl seqStep x).1.le (b.foldl seqStep y).1∧((a.foldl seqStep x).2=true→(b.foldl seqStep y).2=true)
 | _,_,.nil,_,_,h1,h2=>⟨h1,h2⟩
 | _,_,.cons h t,x,y,h1,h2=>by
  refine seq_mono t ⟨?_,?_,?_⟩ ?_
  ·simp only[seqStep,Bool.and_eq_true]
   exact fun g=>⟨h1.z g.1,h.z g.2⟩
  ·simp only[seqStep,Bool.or_eq_true]
   exact fun g=>g.imp h1.s h.s
  ·simp only[seqStep,Bool.or_eq_true,Bool.and_eq_true]
   exact fun g=>g.imp h1.f fun g=>⟨h2 g.1,h.f g.2⟩
  ·simp only[seqStep,Bool.and_eq_true]
   exact fun g=>⟨h2 g.1,Fl.suc_mono h g.2⟩
theorem ch_mono:∀ {a b:List Fl},LeL a b→∀ {x y:Fl},x.le y→(a.foldl chStep x).le (b.foldl chStep y)
 | _,_,.nil,_,_,h1=>h1
 | _,_,.cons h t,x,y,h1=>by
  refine ch_mono t ⟨?_,?_,?_⟩
  ·simp only[chStep,Bool.or_eq_true,Bool.and_eq_true]
   exact fun g=>g.imp h1.z fun g=>⟨h1.f g.1,h.z g.2⟩
  ·simp only[chStep,Bool.or_eq_true,Bool.and_eq_true]
   exact fun g=>g.imp h1.s fun g=>⟨h1.f g.1,h.s g.2⟩
  ·simp only[chStep,Bool.and_eq_true]
   exact fun g=>⟨h1.f g.1,h.f g.2⟩
theorem rep_mono (d:Nd) {a b:Fl} (h:a.le b):(repFl d a).le (repFl d b):=by
 unfold repFl
 cases decide (d.hi=0) with
 | true=>exact Fl.le_refl _
 | false=>
  refine⟨?_,h.s,?_⟩
  ·simp only[cond_false,Bool.or_eq_true,Bool.and_eq_true]
   exact fun g=>g.imp h.z fun g=>⟨g.1,h.f g.2⟩
  ·simp only[cond_false,Bool.and_eq_true]
   exact fun g=>⟨g.1,h.f g.2⟩
theorem come_mono (d:Nd) {a b:List Fl} (h:LeL a b):(comeFl d a).le (comeFl d b):=by
 have hh:=h.head
 unfold comeFl
 cases decide (d.k=0) with
 | true=>exact Fl.le_refl _
 | false=>
 cases decide (d.k=1) with
 | true=>exact Fl.le_refl _
 | false=>
 cases decide (d.k=2) with
 | true=>exact Fl.le_refl _
 | false=>
 cases decide (d.k=3) with
 | true=>exact hh
 | false=>
 cases decide (d.k=4) with
 | true=>
  have hs:=seq_mono h (x:=(⟨true,false,false⟩,true)) (y:=(⟨true,false,false⟩,true)) (Fl.le_refl _) id
  refine⟨hs.1.z,?_,hs.1.f⟩
  simp only[cond_true,cond_false,seqFl,seqGo,Bool.and_eq_true]
  exact fun g=>⟨hs.1.s g.1,hs.2 g.2⟩
 | false=>
 cases decide (d.k=5) with
 | true=>exact ch_mono h (Fl.le_refl _)
 | false=>
 cases decide (d.k=6) with
 | true=>exact rep_mono d hh
 | false=>
 cases decide (d.k=7) with
 | true=>exact⟨Fl.suc_mono hh,id,hh.f⟩
 | false=>
 cases decide (d.k=8) with
 | true=>exact⟨hh.f,id,Fl.suc_mono hh⟩
 | false=>exact hh
theorem kids_mono {pl:List (ByteArray×Int)} {fl fl' acc acc':List Fl} (h:LeL fl fl') (ha:LeL acc acc') (d:Nd):LeL (kidsF pl fl acc d) (kidsF pl fl' acc' d):=by
 unfold kidsF
 refine(LeL.map fun k _=>ha.getD _).append ?_
 cases decide (d.k=3) with
 | true=>exact .cons (h.getD _) .nil
 | false=>exact .nil
theorem nodes_mono {pl:List (ByteArray×Int)} {fl fl':List Fl} (h:LeL fl fl'):∀ (ds:List Nd) {acc acc':List Fl},LeL acc acc'→LeL (nodesF pl fl ds acc) (nodesF pl fl' ds acc')
 | [],_,_,ha=>ha
 | d::ds,_,_,ha=>nodes_mono h ds (ha.append (.cons (come_mono d (kids_mono h ha d)) .nil))
def bodyF (pl:List (ByteArray×Int)) (fl:List Fl) (d:Df):Fl:=(nodesF pl fl d.t.ns []).getD d.t.root.toNat fl0
theorem body_mono {pl:List (ByteArray×Int)} {fl fl':List Fl} (h:LeL fl fl') (d:Df):(bodyF pl fl d).le (bodyF pl fl' d):=(nodes_mono h d.t.ns .nil).getD _
def roundGo (pl:List (ByteArray×Int)):Nat→List Df→List Fl→List Fl
 | _,[],l=>l
 | i,d::ds,l=>roundGo pl (i+1) ds (l.set i (bodyF pl l d))
structure PreF (ds:List Df) (l:List Fl):Prop where
 len:l.length=ds.length
 up:∀ i (h:i < ds.length),(l.getD i fl0).le (bodyF (placesL ds) l ds[i])
 least:∀ m:List Fl,m.length=ds.length→(∀ i (h:i < ds.length),(bodyF (placesL ds) m ds[i]).le (m.getD i fl0))→LeL l m
theorem set_getD (l:List Fl) (i j:Nat) (x:Fl) (hi:i < l.length):(l.set i x).getD j fl0=if i=j then x else l.getD j fl0:=by
 simp only[List.getD_eq_getElem?_getD,List.getElem?_set]
 by_cases e:i=j
 ·subst e
  simp[hi]
 ·rw[if_neg e,if_neg e]
theorem PreF.start (ds:List Df):PreF ds (List.replicate ds.length fl0):=by
 refine⟨by simp,fun i h=>?_,fun m hm _=>by rw[←hm];exact LeL.bot m⟩
 have:(List.replicate ds.length fl0).getD i fl0=fl0:=by simp[List.getD_eq_getElem?_getD,h]
 rw[this]
 exact Fl.bot _
theorem PreF.step {ds:List Df} {l:List Fl} (h:PreF ds l) {i:Nat} (hi:i < ds.length):PreF ds (l.set i (bodyF (placesL ds) l ds[i]))∧LeL l (l.set i (bodyF (placesL ds) l ds[i])):=by
 have hil:i < l.length:=by rw[h.len];exact hi
 have hle:LeL l (l.set i (bodyF (placesL ds) l ds[i])):=LeL.of (by simp) fun j hj=>by
  rw[set_getD _ _ _ _ hil]
  by_cases e:i=j
  ·subst e
   rw[if_pos rfl]
   exact h.up i hi
  ·rw[if_neg e]
   exact Fl.le_refl _
 refine⟨⟨by simpa using h.len,fun j hj=>?_,fun m hm hc=>?_⟩,hle⟩
 ·rw[set_getD _ _ _ _ hil]
  by_cases e:i=j
  ·subst e
   rw[if_pos rfl]
   exact body_mono hle _
  ·rw[if_neg e]
   exact(h.up j hj).trans (body_mono hle _)
 ·have hlm:=h.least m hm hc
  refine LeL.of (by simp[h.len,hm]) fun j hj=>?_
  rw[set_getD _ _ _ _ hil]
  by_cases e:i=j
  ·subst e
   rw[if_pos rfl]
   exact(body_mono hlm _).trans (hc i hi)
  ·rw[if_neg e]
   exact hlm.getD j
theorem roundGo_pre {ds:List Df}:∀ (rest pre:List Df) {l:List Fl},ds=pre++rest→PreF ds l→PreF ds (roundGo (placesL ds) pre.length rest l)∧LeL l (roundGo (placesL ds) pre.length rest l) ∧
  (roundGo (placesL ds) pre.length rest l=l→∀ i (h:i < ds.length),pre.length≤i→l.getD i fl0=bodyF (placesL ds) l ds[i])
 | [],pre,l,hds,h=>⟨h,LeL.refl l,fun _ i hi hge=>by
  rw[hds,List.append_nil] at hi
  omega⟩
 | d::rest,pre,l,hds,h=>by
  have hi:pre.length < ds.length:=by rw[hds];simp
  have hd:ds[pre.length]=d:=by simp[hds]
  have hil:pre.length < l.length:=by rw[h.len];exact hi
  obtain⟨s1,s2⟩:=h.step hi
  rw[hd] at s1 s2
  obtain⟨r1,r2,r3⟩:=roundGo_pre rest (pre++[d]) (by rw[hds];simp) s1
  rw[List.length_append,List.length_cons,List.length_nil,Nat.zero_add] at r1 r2 r3
  refine⟨r1,s2.trans r2,fun e i hi2 hge=>?_⟩
  have e1:l.set pre.length (bodyF (placesL ds) l d)=l:=by
   refine LeL.antisymm ?_ s2
   have:roundGo (placesL ds) pre.length (d::rest) l=roundGo (placesL ds) (pre.length+1) rest (l.set pre.length (bodyF (placesL ds) l d)):=rfl
   rw[this] at e
   rw[e] at r2
   exact r2
  have e2:roundGo (placesL ds) (pre.length+1) rest l=l:=by
   have:roundGo (placesL ds) pre.length (d::rest) l=roundGo (placesL ds) (pre.length+1) rest (l.set pre.length (bodyF (placesL ds) l d)):=rfl
   rw[this,e1] at e
   exact e
  rw[e1] at r3
  by_cases hp:i=pre.length
  ·subst hp
   have h4:=set_getD l pre.length pre.length (bodyF (placesL ds) l d) hil
   rw[e1,if_pos rfl] at h4
   rw[h4,hd]
  ·exact r3 e2 i hi2 (by omega)
structure IsFlow (ds:List Df) (l:List Fl):Prop where
 len:l.length=ds.length
 fix:∀ i (h:i < ds.length),l.getD i fl0=bodyF (placesL ds) l ds[i]
 least:∀ m:List Fl,m.length=ds.length→(∀ i (h:i < ds.length),(bodyF (placesL ds) m ds[i]).le (m.getD i fl0))→LeL l m
theorem PreF.done {ds:List Df} {l:List Fl} (h:PreF ds l) (hf:roundGo (placesL ds) 0 ds l=l):IsFlow ds l:=
 ⟨h.len,fun i hi=>(roundGo_pre ds [] rfl h).2.2 hf i hi (Nat.zero_le _),h.least⟩
theorem IsFlow.unique {ds:List Df} {l l':List Fl} (h:IsFlow ds l) (h':IsFlow ds l'):l=l':=
 LeL.antisymm (h.least l' h'.len fun i hi=>by rw[←h'.fix i hi];exact Fl.le_refl _) (h'.least l h.len fun i hi=>by rw[←h.fix i hi];exact Fl.le_refl _)
def offF (x:Fl):Nat:=(bif x.z then 0 else 1)+((bif x.s then 0 else 1)+(bif x.f then 0 else 1))
def offs (l:List Fl):Nat:=(l.map offF).sum
theorem offF_le {a b:Fl} (h:a.le b):offF b≤offF a∧(offF a≤offF b→a=b):=by
 obtain⟨a1,a2,a3⟩:=a
 obtain⟨b1,b2,b3⟩:=b
 obtain⟨h1,h2,h3⟩:=h
 cases a1<;>cases b1<;>cases a2<;>cases b2<;>cases a3<;>cases b3<;>simp_all[offF]
theorem offs_le:∀ {l m:List Fl},LeL l m→offs m≤offs l∧(offs l≤offs m→l=m)
 | _,_,.nil=>⟨Nat.le_refl _,fun _=>rfl⟩
 | _,_,.cons h t=>by
  obtain⟨h1,h2⟩:=offF_le h
  obtain⟨t1,t2⟩:=offs_le t
  simp only[offs,List.map_cons,List.sum_cons] at t1 t2 ⊢
  refine⟨by omega,fun h=>?_⟩
  rw[h2 (by omega),t2 (by omega)]
theorem offs_lt {l m:List Fl} (h:LeL l m) (hne:m≠l):offs m < offs l:=by
 obtain⟨h1,h2⟩:=offs_le h
 apply Nat.lt_of_le_of_ne h1
 intro e
 exact hne (h2 (by omega)).symm
def firstAt (nm:ByteArray):List Df→Nat→Option Int
 | [],_=>none
 | d::ds,i=>bif decide (nm=d.name) then some (i:Int) else firstAt nm ds (i+1)
theorem lookM_snoc (s n:ByteArray) (v:Int):∀ l:List (ByteArray×Int),lookM s (l++[(n,v)])=match lookM s l with
  | some x=>some x
  | none=>bif decide (s=n) then some v else none
 | []=>rfl
 | p::l=>by
  have ih:=lookM_snoc s n v l
  simp only[List.cons_append,lookM]
  cases decide (s=p.1) with
  | true=>rfl
  | false=>simpa using ih
theorem places_look:∀ (ds:List Df) (acc:List (ByteArray×Int)) (i:Nat) (nm:ByteArray),lookM nm (placesGo acc i ds)=match lookM nm acc with
  | some x=>some x
  | none=>firstAt nm ds i
 | [],acc,i,nm=>by
  rw[placesGo,firstAt]
  cases lookM nm acc<;>rfl
 | d::ds,acc,i,nm=>by
  rw[placesGo,places_look ds,firstAt]
  cases hd:(lookM d.name acc).isSome with
  | true=>
   simp only[cond_true]
   cases hl:lookM nm acc with
   | some x=>rfl
   | none=>
    have:decide (nm=d.name)=false:=by
     rw[decide_eq_false_iff_not]
     intro e
     rw[←e,hl] at hd
     cases hd
    rw[this]
    rfl
  | false=>
   simp only[cond_false,lookM_snoc]
   cases hl:lookM nm acc with
   | some x=>rfl
   | none=>cases decide (nm=d.name)<;>rfl
theorem places_first (ds:List Df) (nm:ByteArray):lookM nm (placesL ds)=firstAt nm ds 0:=places_look ds [] 0 nm
theorem firstAt_lt:∀ {ds:List Df} {i:Nat} {nm:ByteArray} {v:Int},firstAt nm ds i=some v→∃ j:Nat,v=((i+j:Nat):Int)∧j < ds.length
 | d::ds,i,nm,v,h=>by
  unfold firstAt at h
  cases hd:decide (nm=d.name) with
  | true=>
   rw[hd] at h
   simp only[cond_true,Option.some.injEq] at h
   exact⟨0,by rw[←h];rfl,by simp⟩
  | false=>
   rw[hd] at h
   obtain⟨j,h1,h2⟩:=firstAt_lt h
   exact⟨j+1,by rw[h1];congr 1;omega,by simpa using h2⟩
def namedOk (pl:List (ByteArray×Int)) (ns:List Nd):Bool:=ns.all fun d=>!decide (d.k=3) || (lookM d.t pl).isSome
theorem called_of {ds:List Df} {ns:List Nd} (h:namedOk (placesL ds) ns=true):Called (placesL ds) ds.length ns:=by
 intro d hd hk
 have:=List.all_eq_true.1 h d hd
 simp only[hk,decide_true,Bool.not_true,Bool.false_or] at this
 obtain⟨v,hv⟩:=Option.isSome_iff_exists.1 this
 have hv':=hv
 rw[places_first] at hv'
 obtain⟨j,h1,h2⟩:=firstAt_lt hv'
 rw[Nat.zero_add] at h1
 exact⟨j,by rw[hv,h1],h2⟩
theorem dups_places:∀ (ds:List Df) {acc r:List (ByteArray×Int)} {i:Nat},dups acc i ds=some r→placesGo acc i ds=r
 | [],acc,r,i,h=>by
  simp only[dups,Option.some.injEq] at h
  exact h
 | d::ds,acc,r,i,h=>by
  unfold dups at h
  cases hd:(lookM d.name acc).isSome with
  | true=>rw[hd] at h;cases h
  | false=>
   rw[hd] at h
   rw[placesGo,hd]
   exact dups_places ds h
theorem pairs_mem {d:Df} {nd:Nd} (hn:nd∈d.t.ns):∀ (ds:List Df) (i:Nat),d∈ds→∃ j,(j,nd)∈nodePairs i ds:=by
 intro ds
 induction ds with
 | nil=>intro i hd;cases hd
 | cons x ds ih=>
  intro i hd
  rcases List.mem_cons.1 hd with e | hd
  ·subst e
   exact⟨i,List.mem_append.2 (.inl (List.mem_map.2 ⟨nd,hn,rfl⟩))⟩
  ·obtain⟨j,hj⟩:=ih (i+1) hd
   exact⟨j,List.mem_append.2 (.inr hj)⟩
theorem may_named {deb:List Int} {g:Gr} (h:mayG deb g=0):∀ d∈g.ds,namedOk (placesL g.ds) d.t.ns=true:=by
 unfold mayG at h
 cases h1:decide ((g.n:Int)=0) with
 | true=>rw[h1] at h;cases h
 | false=>
 cases h2:okDefs g.ds with
 | false=>rw[h1,h2] at h;cases h
 | true=>
 cases h3:largeG deb g with
 | true=>rw[h1,h2,h3] at h;cases h
 | false=>
 rw[h1,h2,h3] at h
 simp only[cond_false,Bool.not_true] at h
 split at h
 ·cases h
 ·rename_i acc hacc
  have hp:placesL g.ds=acc:=dups_places g.ds hacc
  cases h4:allNamed acc g.ds with
  | false=>rw[h4] at h;cases h
  | true=>
   intro d hd
   rw[hp,namedOk,List.all_eq_true]
   intro nd hnd
   obtain⟨j,hj⟩:=pairs_mem hnd g.ds 0 hd
   exact List.all_eq_true.1 h4 _ hj
theorem may_ok {deb:List Int} {g:Gr} (h:mayG deb g=0):okDefs g.ds=true:=by
 unfold mayG at h
 cases h1:decide ((g.n:Int)=0) with
 | true=>rw[h1] at h;cases h
 | false=>
 cases h2:okDefs g.ds with
 | false=>rw[h1,h2] at h;cases h
 | true=>rfl
theorem FsAt.mono {I I':GH} {M:List Blk} {a:Option Addr} {n:Nat} {ks:List Fl} (h:FsAt I M a n ks) (hI:∀ b o,I b=some o→I' b=some o):FsAt I' M a n ks:=
 ⟨h.n,fun j hj=>by
  obtain⟨ad,h1,h2⟩:=h.rd j hj
  exact⟨ad,h1,h2.mono hI⟩⟩
theorem FsAt.sub {I:GH} {M M':List Blk} {a:Option Addr} {n:Nat} {ks:List Fl} (h:FsAt I M a n ks) (hM:∀ x∈M,x∈M'):FsAt I M' a n ks:=
 ⟨h.n,fun j hj=>by
  obtain⟨ad,h1,h2⟩:=h.rd j hj
  exact⟨ad,h1,h2.sub hM⟩⟩
theorem flRow_at {I:GH} {M:List Blk} {b:Nat} {l:List Fl} (hM:flRow b l∈M):FsAt I M (some ⟨b,0,none⟩) l.length l:=
 ⟨rfl,fun j hj=>⟨_,rfl,flRow_rd hM hj⟩⟩
def nodesP (g:Gr) (fl:List Fl) (t:Tr):Option (List Fl):=bif decide (fl.length=g.n) && (right t && namedOk (placesL g.ds) t.ns) then some (nodesF (placesL g.ds) fl t.ns []) else none
set_option maxHeartbeats 4000000 in
theorem FNodes_spec {I:GH} {M0:List Blk} {deb:List Int} (hT:Tabs I deb) {g:Gr} (hg:g.ok I) {t:Tr} (ht:t.ok I) {la:Option Addr} {ln lc:Nat} {fl:List Fl} (hfl:FsAt I M0 la ln fl) :
  Spec Tryz.prog 44 [g.val,.slice la ln lc,t.val] I M0 fun v I' M'=>(∀ b o,I b=some o→I' b=some o) ∧
   ((nodesP g fl t=none∧v=.tuple #[.slice none 0 0,.bool false]∧M'=M0)∨∃ r b,nodesP g fl t=some r∧v=.tuple #[.slice (some ⟨b,0,none⟩) t.n t.n,.bool true]∧M'=flRow b r::M0):=by
 refine spec_of_V [] TryzEOK Tryz.func44 rfl rfl rfl ?_
 intro B h0
 have hgn:=hg.n
 have htn:=ht.n
 have hcap:=ht.rs.cap
 have hfn:=hfl.n
 refine GuardOb.mk (fun h=>?_) (fun h=>?_)
 rotate_left
 ·refine⟨_,_,.refl,fun _ _ h=>h,.inl ⟨?_,rfl,rfl⟩⟩
  have hne:¬ (ln:Int)=(g.n:Int):=by simpa using h
  have:decide (fl.length=g.n)=false:=decide_eq_false (by omega)
  simp[nodesP,this]
 have hln:ln=g.n:=by
  have:(ln:Int)=(g.n:Int):=by simpa using h
  omega
 have hd1:decide (fl.length=g.n)=true:=decide_eq_true (by omega)
 refine CallOb.mk [] M0 _ (.refl _) (Right_spec hT.c ht) ?_
 rintro v I1 M1 - ⟨rfl,rfl,rfl⟩
 refine CondOb.mk (fun h=>?_) (fun h=>?_)
 ·refine⟨_,_,.refl,fun _ _ h=>h,.inl ⟨?_,rfl,rfl⟩⟩
  have:right t=false:=by simpa using h
  simp[nodesP,this]
 have hr:right t=true:=by simpa using h
 refine CallOb.mk [] M0 _ (.refl _) (places_spec hg) ?_
 rintro v I2 M2 - ⟨hI2,rfl,gm,rfl,hgm⟩
 have ht2:=ht.mono hI2
 refine LoopOb.inv (ι:=Nat) (fun x=>{ fl:=[(1,.val (.slice la ln lc)),(3,.ref 3 0),(5,.ref 5 0),(8,.val (.map (some gm))),(27,.val (.slice t.a t.n t.c)),(28,.val (.int .i64 t.n)),(29,.val (.int .i64 x))],cl:=[(3,[.slice g.a g.n g.c]),(5,t.cells)],gi:=I2,mi:=M0 })
  (fun x=>x≤t.n∧∀ d∈t.ns.take x,(!decide (d.k=3) || (lookM d.t (placesL g.ds)).isSome)=true) (fun x=>t.n - x) ?_ ?_
 ·exact⟨0,⟨Nat.zero_le _,fun d hd=>by simp at hd⟩,.refl,aF7,.cons rfl (.cons rfl .nil)⟩
 rintro i ⟨hi,hnm⟩
 refine CondOb.mk (fun h=>?_) (fun h=>?_)
 ·have hlt:i < t.n:=by have:(i:Int) < (t.n:Int):=of_decide_eq_true h;omega
  have hlt':i < t.ns.length:=by omega
  obtain⟨ad,had,hrd⟩:=ht2.rs.row Nd.cells_len hlt hlt'
  have htk:t.ns.take (i+1)=t.ns.take i++[t.ns[i]]:=List.take_succ_eq_append_getElem hlt'
  have hmem:=List.getElem_mem hlt'
  have next:(!decide (t.ns[i].k=3) || (lookM t.ns[i].t (placesL g.ds)).isSome)=true→∀ d∈t.ns.take (i+1),(!decide (d.k=3) || (lookM d.t (placesL g.ds)).isSome)=true:=fun h d hd=>by
   rw[htk] at hd
   rcases List.mem_append.1 hd with hd | hd
   ·exact hnm d hd
   ·simp only[List.mem_singleton] at hd
    rw[hd]
    exact h
  refine IdxOb.mk ad i had rfl hlt ?_
  refine LoadOb.mk _ (hrd _) ?_
  refine CondOb.mk (fun h3=>?_) (fun h3=>?_)
  ·refine ArithOb.mk _ (next_wr (i:=i) (by omega)) ?_
   refine⟨i+1,⟨⟨by omega,next ?_⟩,by omega⟩,.refl,aF7,.cons rfl (.cons rfl .nil)⟩
   rw[show (!decide (t.ns[i].k=3))=true from h3]
   rfl
  ·refine OtherOb.lookupT TryzEOK rfl (by simp) rfl rfl rfl rfl (fun w=>zero_int w) (l:=placesL g.ds) (g:=gm) rfl rfl (.inl hgm) ?_
   refine CondOb.mk (fun h4=>?_) (fun h4=>?_)
   ·refine⟨_,_,.refl,hI2,.inl ⟨?_,rfl,rfl⟩⟩
    have h5:namedOk (placesL g.ds) t.ns=false:=by
     rw[namedOk,List.all_eq_false]
     refine⟨_,hmem,?_⟩
     have h6:(lookM t.ns[i].t (placesL g.ds)).isSome=false:=by simpa using h4
     rw[h6,show (!decide (t.ns[i].k=3))=false from h3]
     simp
    simp[nodesP,h5]
   ·refine ArithOb.mk _ (next_wr (i:=i) (by omega)) ?_
    refine⟨i+1,⟨⟨by omega,next ?_⟩,by omega⟩,.refl,aF7,.cons rfl (.cons rfl .nil)⟩
    have h6:(lookM t.ns[i].t (placesL g.ds)).isSome=true:=by simpa using h4
    rw[h6]
    simp
 have hge:i=t.n:=by have:¬ (i:Int) < (t.n:Int):=of_decide_eq_false h;omega
 rw[List.take_of_length_le (by omega)] at hnm
 have hno:namedOk (placesL g.ds) t.ns=true:=List.all_eq_true.2 hnm
 have hca:=called_of hno
 rw[hgn,←hln] at hca
 refine CallOb.mk M0 [] _ perm_nil (fnodes_spec ht2 hr hgm (hfl.mono hI2) hca) ?_
 rintro v I3 M3 - ⟨rfl,b,rfl,rfl⟩
 rw[List.append_nil]
 exact⟨_,_,.refl,hI2,.inr ⟨_,b,by rw[nodesP,hd1,hr,hno];rfl,rfl,rfl⟩⟩
def treeP (g:Gr) (fl:List Fl) (t:Tr):Option Fl:=(nodesP g fl t).map fun r=>r.getD t.root.toNat fl0
theorem nodesP_len {g:Gr} {fl:List Fl} {t:Tr} {r:List Fl} (h:nodesP g fl t=some r):right t=true∧r.length=t.ns.length:=by
 unfold nodesP at h
 cases hb:decide (fl.length=g.n) && (right t && namedOk (placesL g.ds) t.ns) with
 | false=>rw[hb] at h;cases h
 | true=>
  rw[hb] at h
  simp only[cond_true,Option.some.injEq] at h
  simp only[Bool.and_eq_true] at hb
  refine⟨hb.2.1,?_⟩
  rw[←h,nodesF_len]
  simp
structure MayF (g:Gr):Prop where
 n:g.ds.length=g.n
 right:∀ d∈g.ds,right d.t=true
 named:∀ d∈g.ds,namedOk (placesL g.ds) d.t.ns=true
theorem mayF_of {deb:List Int} {g:Gr} (hn:g.ds.length=g.n) (h:mayG deb g=0):MayF g:=by
 refine⟨hn,fun d hd=>?_,may_named h⟩
 have:=List.all_eq_true.1 (may_ok h) d hd
 simp only[normal,Bool.and_eq_true] at this
 exact this.2.1
def ofM (b6 gm b5 bl b1:Nat) (g:Gr) (l:List Fl):List Blk:=[⟨b6,.cells #[.map (some gm)] 119 (0,0)⟩,⟨b5,.cells #[.slice (some ⟨bl,0,none⟩) g.n g.n] 74 (0,0)⟩,flRow bl l,⟨b1,.cells #[.slice g.a g.n g.c] 24 (0,0)⟩]
theorem perm_at2 {α:Type} (a b c d:α):[a,b,c,d].Perm ([c]++[a,b,d]):=List.perm_middle (l₁:=[a,b]) (l₂:=[d])
theorem perm_at3 {α:Type} (x a b c d:α):[x,a,b,c,d].Perm ([c]++[x,a,b,d]):=List.perm_middle (l₁:=[x,a,b]) (l₂:=[d])
theorem blk_rd0 {I:GH} {M:List Blk} {b:Nat} {f:Fl} (hM:(⟨b,.cells f.cells.toArray 80 (0,0)⟩:Blk)∈M):Rd I M (⟨b,0,none⟩:Addr) 3 f.cells:=⟨rfl,_,_,_,.inr ⟨_,hM,rfl,rfl⟩,rfl,rfl⟩
theorem ble_row {l:List Fl} {i:Nat} (hi:i < l.length) {x:Fl}:Nat.ble (0+i * 3+x.cells.length) (l.flatMap Fl.cells).length=true:=by
 rw[Nat.ble_eq,fl_len,Fl.cells_len]
 omega
theorem StoreOb.to {M:List Blk} {a:Addr} {vs:List Value} {K:List Blk→Prop} (pre post:List Blk) (cs:Array Value) (T:Nat) (hM:M=pre++⟨a.block,.cells cs T (0,0)⟩::post) (hs:a.spot=none) (hb:Nat.ble (a.off+vs.length) cs.size=true) (h1:allOne vs=true)
  (cs':List Value) (he:splice cs.toList a.off vs=cs') (k:K (pre++⟨a.block,.cells cs'.toArray T (0,0)⟩::post)):StoreOb M a vs K:=
 ⟨pre,post,cs,T,hM,hs,Nat.le_of_ble_eq_true hb,h1,by rw[he];exact k⟩
set_option maxRecDepth 100000 in
set_option maxHeartbeats 8000000 in
theorem Of1_spec {I:GH} {g:Gr} (hg:g.ok I) (hm:MayF g) {b6 gm b5 bl b1:Nat} (hgm:I gm=some (mapO (placesL g.ds))) {l0:List Fl} (hl0:PreF g.ds l0) :
  Spec Tryz.prog 82 [ptr b1,ptr b6,ptr b5] I (ofM b6 gm b5 bl b1 g l0) fun v I' M'=>v=.bool (decide (roundGo (placesL g.ds) 0 g.ds l0≠l0))∧I'=I∧M'=ofM b6 gm b5 bl b1 g (roundGo (placesL g.ds) 0 g.ds l0):=by
 refine spec_of_V [] TryzEOK Tryz.func82 rfl rfl rfl ?_
 intro B h0
 have hgn:=hg.n
 have hcap:=hg.rs.cap
 have rd1:∀ {M:List Blk},(⟨b1,.cells #[.slice g.a g.n g.c] 24 (0,0)⟩:Blk)∈M→Rd I M ((⟨b1,0,none⟩:Addr).add 0) 1 [.slice g.a g.n g.c]:=fun hM=>blk_rd (cs:=[.slice g.a g.n g.c]) (k:=0) (n:=1) hM (by simp)
 have rd6:∀ {M:List Blk},(⟨b6,.cells #[.map (some gm)] 119 (0,0)⟩:Blk)∈M→Rd I M (⟨b6,0,none⟩:Addr) 1 [.map (some gm)]:=fun hM=>⟨rfl,_,_,_,.inr ⟨_,hM,rfl,rfl⟩,rfl,rfl⟩
 have rd5:∀ {M:List Blk},(⟨b5,.cells #[.slice (some ⟨bl,0,none⟩) g.n g.n] 74 (0,0)⟩:Blk)∈M→Rd I M (⟨b5,0,none⟩:Addr) 1 [.slice (some ⟨bl,0,none⟩) g.n g.n]:=fun hM=>⟨rfl,_,_,_,.inr ⟨_,hM,rfl,rfl⟩,rfl,rfl⟩
 refine LoadOb.mk _ (rd1 (by simp[ofM])) ?_
 refine LoopOb.inv (ι:=Nat×List Fl) (fun x=>{ fl:=[(0,.val (ptr b1)),(1,.val (ptr b6)),(2,.val (ptr b5)),(4,.val (.bool (decide (x.2≠l0)))),(9,.val (.slice g.a g.n g.c)),(10,.val (.int .i64 g.n)),(11,.val (.int .i64 x.1))],gi:=I,mi:=ofM b6 gm b5 bl b1 g x.2 })
  (fun x=>x.1≤g.n∧PreF g.ds x.2∧LeL l0 x.2∧roundGo (placesL g.ds) 0 g.ds l0=roundGo (placesL g.ds) x.1 (g.ds.drop x.1) x.2) (fun x=>g.n - x.1) ?_ ?_
 ·refine⟨(0,l0),⟨Nat.zero_le _,hl0,LeL.refl _,rfl⟩,.refl,.cons .refl (.cons .refl (.cons .refl (.cons ?_ (aF3)))),.nil⟩
  exact sv_lit (by simp)
 rintro⟨i,l⟩ ⟨hi,hP,hle,hgo⟩
 simp only at hi hP hle hgo
 have hll:=hP.len
 refine CondOb.mk (fun h=>?_) (fun h=>?_)
 rotate_left
 ·have hge:i=g.n:=by have:¬ (i:Int) < (g.n:Int):=of_decide_eq_false h;omega
  rw[List.drop_eq_nil_of_le (by omega),roundGo] at hgo
  exact⟨_,_,.refl,by rw[hgo],rfl,by rw[hgo]⟩
 have hlt:i < g.n:=by have:(i:Int) < (g.n:Int):=of_decide_eq_true h;omega
 have hlt':i < g.ds.length:=by omega
 have hil:i < l.length:=by omega
 obtain⟨ad,had,hrd⟩:=hg.rs.row Df.cells_len hlt hlt'
 have hdm:=List.getElem_mem hlt'
 have hd:=hg.ds _ hdm
 have hr:=hm.right _ hdm
 have hca:=called_of (hm.named _ hdm)
 rw[show g.ds.length=l.length from hll.symm] at hca
 obtain⟨hP',hle'⟩:=hP.step hlt'
 have hgo':roundGo (placesL g.ds) 0 g.ds l0=roundGo (placesL g.ds) (i+1) (g.ds.drop (i+1)) (l.set i (bodyF (placesL g.ds) l g.ds[i])):=by
  rw[hgo,List.drop_eq_getElem_cons hlt',roundGo]
 have hbody:bodyF (placesL g.ds) l g.ds[i]=(nodesF (placesL g.ds) l g.ds[i].t.ns []).getD g.ds[i].t.root.toNat fl0:=rfl
 generalize bodyF (placesL g.ds) l g.ds[i]=f at hP' hle' hgo' hbody
 generalize g.ds[i]=d at hrd hd hr hca hbody
 have hroot:=right_root hr
 have htn:=hd.t.n
 have hnl:=nodesF_len (placesL g.ds) l d.t.ns []
 simp only[List.length_nil,Nat.zero_add] at hnl
 have hrl:d.t.root.toNat < (nodesF (placesL g.ds) l d.t.ns []).length:=by omega
 have hfe:(nodesF (placesL g.ds) l d.t.ns [])[d.t.root.toNat]=f:=by
  rw[hbody]
  simp[List.getD_eq_getElem?_getD,hrl]
 have hspec:=fnodes_spec (M0:=[flRow bl l]) (ln:=l.length) (lc:=g.n) hd.t hr hgm (flRow_at (I:=I) (List.mem_singleton.2 rfl)) hca
 rw[show l.length=g.n by omega] at hspec
 refine IdxOb.mk ad i had rfl hlt ?_
 refine LoadOb.mk _ (hrd _) ?_
 have hlf:l.getD i fl0=l[i]:=by simp[List.getD_eq_getElem?_getD,hil]
 have more:(!decide (f=l[i]))=true→decide (l.set i f≠l0)=true:=fun h=>by
  have hne:f≠l[i]:=by simpa using h
  rw[decide_eq_true_eq]
  intro e
  have e2:l.set i f=l:=by
   refine LeL.antisymm ?_ hle'
   rw[e]
   exact hle
  have h3:=set_getD l i i f hil
  rw[e2,if_pos rfl,hlf] at h3
  exact hne h3.symm
 have same:(!decide (f=l[i]))=false→l.set i f=l:=fun h=>by
  have he:f=l[i]:=by simpa using h
  rw[he]
  exact List.set_getElem_self hil
 refine CodeOb.draw TryzEOK rfl rfl rfl ?_
 refine LoadOb.mk _ (rd6 (by simp[ofM])) ?_
 refine LoadOb.mk _ (rd5 (by simp[ofM])) ?_
 refine⟨?_,?_⟩
 ·refine PCallOb.mkR [flRow bl l] [⟨b6,.cells #[.map (some gm)] 119 (0,0)⟩,⟨b5,.cells #[.slice (some ⟨bl,0,none⟩) g.n g.n] 74 (0,0)⟩,⟨b1,.cells #[.slice g.a g.n g.c] 24 (0,0)⟩] _ (perm_at2 ..) hspec (fun v I' M' h x hx=>by obtain⟨-,b,-,rfl⟩:=h;exact .tail _ hx) ?_
  rintro v I2 M2 - ⟨rfl,b,rfl,rfl⟩
  refine IdxOb.mk ⟨b,0,none⟩ d.t.root.toNat rfl (by omega) (by omega) ?_
  refine LoadOb.mk _ (flRow_rd (.head _) hrl) ?_
  rw[hfe]
  refine AllocOb.mk fun b7 hb7 hbM7=>?_
  refine StoreOb.to [] [flRow b (nodesF (placesL g.ds) l d.t.ns []),flRow bl l,⟨b6,.cells #[.map (some gm)] 119 (0,0)⟩,⟨b5,.cells #[.slice (some ⟨bl,0,none⟩) g.n g.n] 74 (0,0)⟩,⟨b1,.cells #[.slice g.a g.n g.c] 24 (0,0)⟩] _ _ rfl rfl rfl rfl f.cells rfl ?_
  refine CodeOb.draw TryzEOK rfl rfl rfl ?_
  refine LoadOb.mk f.cells (blk_rd0 (by simp)) ?_
  refine LoadOb.mk _ (rd5 (by simp)) ?_
  refine IdxOb.mk ⟨bl,0,none⟩ i rfl rfl hlt ?_
  refine LoadOb.mk _ (flRow_rd (by simp) hil) ?_
  refine BinOb.neF (p:=f) (q:=l[i]) ?_
  refine CondOb.mk (fun h=>?_) (fun h=>?_)
  ·refine LoadOb.mk _ (rd5 (by simp)) ?_
   refine LoadOb.mk f.cells (blk_rd0 (by simp)) ?_
   refine IdxOb.mk ⟨bl,0,none⟩ i rfl rfl hlt ?_
   refine StoreOb.addTo [(⟨b7,.cells f.cells.toArray 80 (0,0)⟩:Blk),flRow b (nodesF (placesL g.ds) l d.t.ns [])] [⟨b6,.cells #[.map (some gm)] 119 (0,0)⟩,⟨b5,.cells #[.slice (some ⟨bl,0,none⟩) g.n g.n] 74 (0,0)⟩,⟨b1,.cells #[.slice g.a g.n g.c] 24 (0,0)⟩] (l.flatMap Fl.cells) _ rfl (ble_row hil) rfl ((l.set i f).flatMap Fl.cells) (by rw[Nat.zero_add];exact flRow_set l i hil f) ?_
   refine ArithOb.mk _ (next_wr (i:=i) (by omega)) ?_
   refine⟨(i+1,l.set i f),⟨⟨by simp only;omega,hP',hle.trans hle',hgo'⟩,by simp only;omega⟩,.sub (M1:=[flRow bl (l.set i f),⟨b6,.cells #[.map (some gm)] 119 (0,0)⟩,⟨b5,.cells #[.slice (some ⟨bl,0,none⟩) g.n g.n] 74 (0,0)⟩,⟨b1,.cells #[.slice g.a g.n g.c] 24 (0,0)⟩]) (by exact .cons _ (.cons _ (.refl _))) (.perm (perm_at2 ..).symm .refl),.cons .refl (.cons .refl (.cons .refl (.cons (sv_lit (more h).symm) (aF3)))),.nil⟩
  ·have he:l.set i f=l:=same h
   rw[he] at hgo'
   refine ArithOb.mk _ (next_wr (i:=i) (by omega)) ?_
   exact⟨(i+1,l),⟨⟨by simp only;omega,hP,hle,hgo'⟩,by simp only;omega⟩,.sub (M1:=[flRow bl l,⟨b6,.cells #[.map (some gm)] 119 (0,0)⟩,⟨b5,.cells #[.slice (some ⟨bl,0,none⟩) g.n g.n] 74 (0,0)⟩,⟨b1,.cells #[.slice g.a g.n g.c] 24 (0,0)⟩]) (by exact .cons _ (.cons _ (.refl _))) (.perm (perm_at2 ..).symm .refl),aF7,.nil⟩
 ·refine AllocOb.mk fun b7 hb7 hbM7=>?_
  refine PCallOb.mkR [flRow bl l] [(⟨b7,.cells fl0.cells.toArray 80 (0,0)⟩:Blk),⟨b6,.cells #[.map (some gm)] 119 (0,0)⟩,⟨b5,.cells #[.slice (some ⟨bl,0,none⟩) g.n g.n] 74 (0,0)⟩,⟨b1,.cells #[.slice g.a g.n g.c] 24 (0,0)⟩] _ (perm_at3 ..) hspec (fun v I' M' h x hx=>by obtain⟨-,b,-,rfl⟩:=h;exact .tail _ hx) ?_
  rintro v I2 M2 - ⟨rfl,b,rfl,rfl⟩
  refine IdxOb.mk ⟨b,0,none⟩ d.t.root.toNat rfl (by omega) (by omega) ?_
  refine LoadOb.mk _ (flRow_rd (.head _) hrl) ?_
  rw[hfe]
  refine StoreOb.to [flRow b (nodesF (placesL g.ds) l d.t.ns []),flRow bl l] [⟨b6,.cells #[.map (some gm)] 119 (0,0)⟩,⟨b5,.cells #[.slice (some ⟨bl,0,none⟩) g.n g.n] 74 (0,0)⟩,⟨b1,.cells #[.slice g.a g.n g.c] 24 (0,0)⟩] _ _ rfl rfl rfl rfl f.cells rfl ?_
  refine CodeOb.draw TryzEOK rfl rfl rfl ?_
  refine LoadOb.mk f.cells (blk_rd0 (by simp)) ?_
  refine LoadOb.mk _ (rd5 (by simp)) ?_
  refine IdxOb.mk ⟨bl,0,none⟩ i rfl rfl hlt ?_
  refine LoadOb.mk _ (flRow_rd (by simp) hil) ?_
  refine BinOb.neF (p:=f) (q:=l[i]) ?_
  refine CondOb.mk (fun h=>?_) (fun h=>?_)
  ·refine LoadOb.mk _ (rd5 (by simp)) ?_
   refine LoadOb.mk f.cells (blk_rd0 (by simp)) ?_
   refine IdxOb.mk ⟨bl,0,none⟩ i rfl rfl hlt ?_
   refine StoreOb.addTo [flRow b (nodesF (placesL g.ds) l d.t.ns [])] [(⟨b7,.cells f.cells.toArray 80 (0,0)⟩:Blk),⟨b6,.cells #[.map (some gm)] 119 (0,0)⟩,⟨b5,.cells #[.slice (some ⟨bl,0,none⟩) g.n g.n] 74 (0,0)⟩,⟨b1,.cells #[.slice g.a g.n g.c] 24 (0,0)⟩] (l.flatMap Fl.cells) _ rfl (ble_row hil) rfl ((l.set i f).flatMap Fl.cells) (by rw[Nat.zero_add];exact flRow_set l i hil f) ?_
   refine ArithOb.mk _ (next_wr (i:=i) (by omega)) ?_
   refine⟨(i+1,l.set i f),⟨⟨by simp only;omega,hP',hle.trans hle',hgo'⟩,by simp only;omega⟩,.sub (M1:=[flRow bl (l.set i f),⟨b6,.cells #[.map (some gm)] 119 (0,0)⟩,⟨b5,.cells #[.slice (some ⟨bl,0,none⟩) g.n g.n] 74 (0,0)⟩,⟨b1,.cells #[.slice g.a g.n g.c] 24 (0,0)⟩]) (by exact .cons _ (.cons_cons _ (.cons _ (.refl _)))) (.perm (perm_at2 ..).symm .refl),.cons .refl (.cons .refl (.cons .refl (.cons (sv_lit (more h).symm) (aF3)))),.nil⟩
  ·have he:l.set i f=l:=same h
   rw[he] at hgo'
   refine ArithOb.mk _ (next_wr (i:=i) (by omega)) ?_
   exact⟨(i+1,l),⟨⟨by simp only;omega,hP,hle,hgo'⟩,by simp only;omega⟩,.sub (M1:=[flRow bl l,⟨b6,.cells #[.map (some gm)] 119 (0,0)⟩,⟨b5,.cells #[.slice (some ⟨bl,0,none⟩) g.n g.n] 74 (0,0)⟩,⟨b1,.cells #[.slice g.a g.n g.c] 24 (0,0)⟩]) (by exact .cons _ (.cons_cons _ (.cons _ (.refl _)))) (.perm (perm_at2 ..).symm .refl),aF7,.nil⟩
set_option maxHeartbeats 4000000 in
theorem FOf_spec {I:GH} {deb:List Int} (hT:Tabs I deb) {g:Gr} (hg:g.ok I):Spec Tryz.prog 43 [g.val] I [] fun v I' M'=>(∀ b o,I b=some o→I' b=some o) ∧
  ((mayG deb g≠0∧v=.tuple #[.slice none 0 0,.int .i64 (mayG deb g)]∧M'=[])∨(mayG deb g=0∧∃ b l,v=.tuple #[.slice (some ⟨b,0,none⟩) g.n g.n,.int .i64 0]∧M'=[flRow b l]∧IsFlow g.ds l)):=by
 refine spec_of_V [1,5,6] TryzEOK Tryz.func43 rfl rfl rfl ?_
 intro B h0
 have hgn:=hg.n
 have hcap:=hg.rs.cap
 refine AllocOb.mk fun b1 hb1 hbM1=>?_
 refine LoadOb.mk [.slice g.a g.n g.c] ⟨rfl,_,_,_,.inr ⟨_,.head _,rfl,rfl⟩,rfl,rfl⟩ ?_
 refine CallOb.mk [] [⟨b1,.cells #[.slice g.a g.n g.c] 24 (0,0)⟩] _ (.refl _) (May_spec hT hg) ?_
 rintro v I1 M1 - ⟨rfl,hI1,rfl⟩
 refine CondOb.mk (fun h=>?_) (fun h=>?_)
 ·have hm:mayG deb g≠0:=by simpa using h
  exact⟨_,_,.sub (List.nil_sublist _) .refl,hI1,.inl ⟨hm,rfl,rfl⟩⟩
 have hm:mayG deb g=0:=by simpa using h
 have hM:=mayF_of hgn hm
 refine LoadOb.mk _ (blk_rd (b:=b1) (cs:=[.slice g.a g.n g.c]) (k:=0) (n:=1) (T:=24) (.head _) (by simp)) ?_
 refine MakeOb.mk g.n g.n rfl rfl (Nat.le_refl _) (by show 3 * g.n≤_;omega) (by omega) ?_
 refine AllocOb.mk fun bl hbl hbMl=>?_
 have e:rowOf fl0.cells (g.n * 3)=(List.replicate g.ds.length fl0).flatMap Fl.cells:=by rw[hgn];exact rowOf_fl g.n
 refine AllocOb.mk fun b5 hb5 hbM5=>?_
 refine StoreOb.to [] _ _ _ rfl rfl rfl rfl [.slice (some ⟨bl,0,none⟩) g.n g.n] rfl ?_
 refine LoadOb.mk [.slice g.a g.n g.c] ⟨rfl,_,_,_,.inr ⟨_,.tail _ (.tail _ (.head _)),rfl,rfl⟩,rfl,rfl⟩ ?_
 refine CallOb.mk [] _ _ (.refl _) (places_spec (hg.mono hI1)) ?_
 rintro v I2 M2 - ⟨hI2,rfl,gm,rfl,hgm⟩
 refine AllocOb.mk fun b6 hb6 hbM6=>?_
 refine StoreOb.to [] _ _ _ rfl rfl rfl rfl [.map (some gm)] rfl ?_
 refine LoopOb.inv (ι:=List Fl) (fun l=>{ fl:=[(5,.val (ptr b5)),(7,.val (.func (.func 82) #[] #[ptr b1,ptr b6,ptr b5]))],gi:=I2,mi:=ofM b6 gm b5 bl b1 g l }) (PreF g.ds) offs ?_ ?_
 ·refine⟨List.replicate g.ds.length fl0,.start g.ds,?_,aF2,.nil⟩
  simp only[ofM,flRow]
  rw[←e]
  exact .refl
 intro l hl
 refine CallOb.mk (ofM b6 gm b5 bl b1 g l) [] _ (.refl _) (Of1_spec ((hg.mono hI1).mono hI2) hM hgm hl) ?_
 rintro v I3 M3 - ⟨rfl,rfl,rfl⟩
 obtain⟨r1,r2,-⟩:=roundGo_pre g.ds [] rfl hl
 refine CondOb.mk (fun h=>?_) (fun h=>?_)
 ·exact⟨_,⟨r1,offs_lt r2 (of_decide_eq_true h)⟩,.refl,aF2,.nil⟩
 ·have hf:roundGo (placesL g.ds) 0 g.ds l=l:=by
   have:=of_decide_eq_false h
   exact Classical.not_not.1 this
  rw[hf]
  refine LoadOb.mk [.slice (some ⟨bl,0,none⟩) g.n g.n] ⟨rfl,_,_,_,.inr ⟨_,.tail _ (.head _),rfl,rfl⟩,rfl,rfl⟩ ?_
  refine⟨I3,[flRow bl l],.sub (.cons _ (.cons _ (.cons_cons _ (List.nil_sublist _)))) .refl,fun b o h=>hI2 _ _ (hI1 _ _ h),.inr ⟨hm,bl,l,rfl,rfl,hl.done hf⟩⟩
def Tr.ct (t:Tr):Tr:=⟨t.ns.map Nd.ct,none,t.n,0,t.root⟩
def Df.ct (d:Df):Df:=⟨d.name,d.t.ct⟩
def Gr.ct (g:Gr):Gr:=⟨g.ds.map Df.ct,none,g.n,0⟩
theorem nodesOk_ct:∀ (ds:List Nd) (i:Nat) (s:List Bool),nodesOk i (ds.map Nd.ct) s=nodesOk i ds s
 | [],i,s=>rfl
 | d::ds,i,s=>by
  have h:∀ s',nodesOk (i+1) (ds.map Nd.ct) s'=nodesOk (i+1) ds s':=fun s'=>nodesOk_ct ds (i+1) s'
  rw[List.map_cons,nodesOk,nodesOk]
  simp only[h]
  rfl
theorem right_ct (t:Tr):right t.ct=right t:=by
 unfold right Tr.ct
 simp only[nodesOk_ct,List.length_map]
theorem kindAt_ct (ns:List Nd) (k:Int):kindAt (ns.map Nd.ct) k=kindAt ns k:=by
 unfold kindAt
 rw[List.map_map]
 rfl
theorem normKids_ct (ns:List Nd) (kind:Int):∀ ks,normKids (ns.map Nd.ct) kind ks=normKids ns kind ks
 | []=>rfl
 | k::ks=>by rw[normKids,normKids,kindAt_ct,normKids_ct ns kind ks]
theorem normNodes_ct (ns:List Nd):∀ ds:List Nd,normNodes (ns.map Nd.ct) (ds.map Nd.ct)=normNodes ns ds
 | []=>rfl
 | d::ds=>by
  have h:=normKids_ct ns d.k d.kids
  rw[List.map_cons,normNodes,normNodes,normNodes_ct ns ds]
  show (bif !decide (d.k=4) && !decide (d.k=5) then normNodes ns ds else bif normKids (ns.map Nd.ct) d.k d.kids then normNodes ns ds else false)=_
  rw[h]
theorem normal_ct (t:Tr):normal t.ct=normal t:=by
 unfold normal
 rw[right_ct]
 congr 1
 exact normNodes_ct t.ns t.ns
theorem depthsFrom_ct:∀ (ds:List Nd) (i:Nat) (dp:List Int),depthsFrom i (ds.map Nd.ct) dp=depthsFrom i ds dp
 | [],i,dp=>rfl
 | d::ds,i,dp=>by
  rw[List.map_cons,depthsFrom,depthsFrom,depthsFrom_ct ds]
  rfl
theorem depth_ct (t:Tr):depth t.ct=depth t:=by
 unfold depth
 rw[right_ct]
 simp only[Tr.ct,depthsFrom_ct,List.length_map]
theorem mayTree_ct (t:Tr):mayTree t.ct=mayTree t:=by
 unfold mayTree
 rw[right_ct,depth_ct]
 rfl
theorem tab_ct {α:Type} {z:α} {f g:Nd→(Int→α)→α} (h:∀ d q,f d.ct q=g d q):∀ (ds:List Nd) (acc:List α),tab z f (ds.map Nd.ct) acc=tab z g ds acc
 | [],acc=>rfl
 | d::ds,acc=>by rw[List.map_cons,tab,tab,h,tab_ct h ds]
theorem textOf_ct (deb:List Int) (ns:List Nd) (k:Int):textOf deb (ns.map Nd.ct) k=textOf deb ns k:=by
 unfold textOf tabOf
 rw[tab_ct (g:=nodeT deb ns) (fun d q=>?_)]
 show aheadB deb d++(kidsT (sepOf d) (fun k=>paren (wrapsV d.k (kindAt (ns.map Nd.ct) k)) (q k)) false d.kids++behindB d)=_
 simp only[kindAt_ct]
 rfl
theorem treeB_ct (deb:List Int) (t:Tr):treeB deb t.ct=treeB deb t:=by
 unfold treeB
 rw[right_ct]
 have:textOf deb t.ct.ns t.ct.root=textOf deb t.ns t.root:=textOf_ct deb t.ns t.root
 rw[this]
theorem defB_ct (deb:List Int) (d:Df):defB deb d.ct=defB deb d:=by
 unfold defB
 have:treeB deb d.ct.t=treeB deb d.t:=treeB_ct deb d.t
 rw[this]
 rfl
theorem gramB_ct (deb:List Int):∀ (ds:List Df) (acc:List UInt8),gramB deb (ds.map Df.ct) acc=gramB deb ds acc
 | [],acc=>rfl
 | d::ds,acc=>by rw[List.map_cons,gramB,gramB,defB_ct,gramB_ct deb ds]
theorem nodesG_ct (g:Gr):nodesG g.ct=nodesG g:=by
 unfold nodesG Gr.ct
 rw[List.map_map]
 congr 1
 refine List.map_congr_left fun d _=>?_
 show sizeT d.t.ct=sizeT d.t
 unfold sizeT
 rw[right_ct]
 rfl
theorem all_ct {q:Df→Bool} (h:∀ d,q d.ct=q d) (ds:List Df):(ds.map Df.ct).all q=ds.all q:=by
 rw[List.all_map]
 congr 1
 funext d
 exact h d
theorem largeG_ct (deb:List Int) (g:Gr):largeG deb g.ct=largeG deb g:=by
 unfold largeG
 rw[nodesG_ct]
 have h1:(g.ct.ds.all fun d=>mayTree d.t)=g.ds.all fun d=>mayTree d.t:=all_ct (fun d=>mayTree_ct d.t) g.ds
 have h2:gramB deb g.ct.ds []=gramB deb g.ds []:=gramB_ct deb g.ds []
 rw[h1,h2]
 rfl
theorem okDefs_ct (ds:List Df):okDefs (ds.map Df.ct)=okDefs ds:=all_ct (q:=fun d=>mayName d.name && normal d.t) (fun d=>by
 show (mayName d.name && normal d.t.ct)=_
 rw[normal_ct]) ds
theorem dups_ct:∀ (ds:List Df) (acc:List (ByteArray×Int)) (i:Nat),dups acc i (ds.map Df.ct)=dups acc i ds
 | [],acc,i=>rfl
 | d::ds,acc,i=>by
  rw[List.map_cons,dups,dups]
  show (bif (lookM d.name acc).isSome then none else dups (acc++[(d.name,(i:Int))]) (i+1) (ds.map Df.ct))=_
  rw[dups_ct ds]
theorem pairs_ct:∀ (ds:List Df) (i:Nat),nodePairs i (ds.map Df.ct)=(nodePairs i ds).map fun p=>(p.1,p.2.ct)
 | [],i=>rfl
 | d::ds,i=>by
  rw[List.map_cons,nodePairs,nodePairs,pairs_ct ds,List.map_append,List.map_map]
  show (d.t.ns.map Nd.ct).map (fun n=>(i,n))++_=_
  rw[List.map_map]
  rfl
theorem allNamed_ct (acc:List (ByteArray×Int)) (ds:List Df):allNamed acc (ds.map Df.ct)=allNamed acc ds:=by
 unfold allNamed
 rw[pairs_ct,List.all_map]
 rfl
theorem mayG_ct (deb:List Int) (g:Gr):mayG deb g.ct=mayG deb g:=by
 unfold mayG
 rw[largeG_ct]
 have h1:okDefs g.ct.ds=okDefs g.ds:=okDefs_ct g.ds
 have h2:dups [] 0 g.ct.ds=dups [] 0 g.ds:=dups_ct g.ds [] 0
 have h3:∀ acc,allNamed acc g.ct.ds=allNamed acc g.ds:=fun acc=>allNamed_ct acc g.ds
 rw[h1,h2]
 simp only[h3]
 rfl
theorem nodesF_ct (pl:List (ByteArray×Int)) (fl:List Fl):∀ (ds:List Nd) (acc:List Fl),nodesF pl fl (ds.map Nd.ct) acc=nodesF pl fl ds acc
 | [],acc=>rfl
 | d::ds,acc=>by
  rw[List.map_cons,nodesF,nodesF,nodesF_ct pl fl ds]
  rfl
theorem placesGo_ct:∀ (ds:List Df) (acc:List (ByteArray×Int)) (i:Nat),placesGo acc i (ds.map Df.ct)=placesGo acc i ds
 | [],acc,i=>rfl
 | d::ds,acc,i=>by
  rw[List.map_cons,placesGo,placesGo,placesGo_ct ds]
  rfl
theorem placesL_ct (ds:List Df):placesL (ds.map Df.ct)=placesL ds:=placesGo_ct ds [] 0
theorem bodyF_ct (pl:List (ByteArray×Int)) (fl:List Fl) (d:Df):bodyF pl fl d.ct=bodyF pl fl d:=by
 unfold bodyF
 have:nodesF pl fl d.ct.t.ns []=nodesF pl fl d.t.ns []:=nodesF_ct pl fl d.t.ns []
 rw[this]
 rfl
def trOf (l:List Nd):Tr:=⟨l,none,l.length,0,(l.length:Int) - 1⟩
structure TC (I:GH) (t:Tr) (l:List Nd):Prop where
 ok:t.ok I
 ct:t.ns.map Nd.ct=l
 root:t.root=(l.length:Int) - 1
theorem TC.mono {I I':GH} {t:Tr} {l:List Nd} (h:TC I t l) (hI:∀ b o,I b=some o→I' b=some o):TC I' t l:=⟨h.ok.mono hI,h.ct,h.root⟩
theorem TC.len {I:GH} {t:Tr} {l:List Nd} (h:TC I t l):t.n=l.length:=by
 rw[←h.ok.n,←h.ct,List.length_map]
theorem TC.leaf {I:GH} {t:Tr} {d:Nd} (ht:t.ok I) (h1:t.ns=[d]) (h2:t.root=0) (hd:d.ct=d):TC I t [d]:=⟨ht,by rw[h1];simp[hd],by rw[h2];rfl⟩
def cleanL (l:List Nd):List Nd:=subC l ((l.length:Int) - 1)
def allKids (ns:List Nd):List Int:=ns.flatMap (·.kids)
def DiffL (l:List Int):Prop:=l.Pairwise (·≠·)
def MarksAre (s:List Bool) (l:List Int):Prop:=∀ j,s.getD j false=true ↔ ((j:Int)∈l∧j < s.length)
theorem kidsOk_iff {i:Nat}:∀ {ks seen:List Int} {s:List Bool},i≤s.length→MarksAre s seen→DiffL seen →
  ((∃ s',kidsOk i ks s=some s') ↔ ((∀ k∈ks,0≤k∧k < i)∧DiffL (seen++ks)))∧∀ s',kidsOk i ks s=some s'→s'.length=s.length∧MarksAre s' (seen++ks)
 | [],seen,s,hi,hm,hd=>by
  refine⟨⟨fun _=>⟨fun k hk=>by (cases hk),by simpa using hd⟩,fun _=>⟨s,rfl⟩⟩,fun s' h=>?_⟩
  simp only[kidsOk,Option.some.injEq] at h
  subst h
  exact⟨rfl,by simpa using hm⟩
 | k::ks,seen,s,hi,hm,hd=>by
  unfold kidsOk
  cases hb:decide (k < 0) || (decide ((i:Int)≤k) || s.getD k.toNat false) with
  | true=>
   refine⟨⟨fun ⟨s',h⟩=>(by cases h),fun ⟨h1,h2⟩=>?_⟩,fun s' h=>by cases h⟩
   exfalso
   have h3:=h1 k (.head _)
   simp only[Bool.or_eq_true,decide_eq_true_eq] at hb
   rcases hb with hb | hb | hb
   ·omega
   ·omega
   ·have:=(hm _).1 hb
    rw[Int.toNat_of_nonneg h3.1] at this
    exact(List.pairwise_append.1 h2).2.2 k this.1 k (.head _) rfl
  | false=>
   simp only[Bool.or_eq_false_iff,decide_eq_false_iff_not] at hb
   obtain⟨b1,b2,b3⟩:=hb
   have hk:k.toNat < s.length:=by omega
   have hks:k ∉ seen:=fun h=>by
    have:=(hm k.toNat).2 ⟨by rw[Int.toNat_of_nonneg (by omega)];exact h,hk⟩
    rw[b3] at this
    cases this
   have hm':MarksAre (s.set k.toNat true) (seen++[k]):=fun j=>by
    have:=hm j
    simp only[List.getD_eq_getElem?_getD,List.getElem?_set,List.length_set,List.mem_append,List.mem_singleton] at this ⊢
    by_cases e:k.toNat=j
    ·subst e
     rw[if_pos rfl,if_pos hk]
     simp only[Option.getD_some,true_iff]
     exact⟨.inr (by omega),hk⟩
    ·rw[if_neg e,this]
     constructor
     ·rintro⟨h1,h2⟩
      exact⟨.inl h1,h2⟩
     ·rintro⟨h1 | h1,h2⟩
      ·exact⟨h1,h2⟩
      ·omega
   have hd':DiffL (seen++[k]):=List.pairwise_append.2 ⟨hd,by simp,fun a ha b hb e=>by
    simp only[List.mem_singleton] at hb
    subst hb
    subst e
    exact hks ha⟩
   have ih:=kidsOk_iff (i:=i) (ks:=ks) (seen:=seen++[k]) (s:=s.set k.toNat true) (by simpa using hi) hm' hd'
   simp only[cond_false]
   rw[List.append_assoc,List.singleton_append] at ih
   refine⟨ih.1.trans ⟨fun ⟨h1,h2⟩=>⟨fun x hx=>?_,h2⟩,fun ⟨h1,h2⟩=>⟨fun x hx=>h1 x (.tail _ hx),h2⟩⟩,fun s' h=>?_⟩
   ·rcases List.mem_cons.1 hx with rfl | hx
    ·omega
    ·exact h1 x hx
   ·have:=ih.2 s' h
    simpa using this
theorem nodesOk_iff:∀ {ds:List Nd} {i:Nat} {seen:List Int} {s:List Bool},i+ds.length≤s.length→MarksAre s seen→DiffL seen →
  ((∃ s',nodesOk i ds s=some s') ↔ ((∀ j (h:j < ds.length),fits ds[j] ds[j].kids.length=true∧∀ k∈ds[j].kids,0≤k∧k < i+j)∧DiffL (seen++allKids ds)))∧∀ s',nodesOk i ds s=some s'→s'.length=s.length∧MarksAre s' (seen++allKids ds)
 | [],i,seen,s,hi,hm,hd=>by
  refine⟨⟨fun _=>⟨fun j hj=>by simp at hj,by simpa[allKids] using hd⟩,fun _=>⟨s,rfl⟩⟩,fun s' h=>?_⟩
  simp only[nodesOk,Option.some.injEq] at h
  subst h
  exact⟨rfl,by simpa[allKids] using hm⟩
 | d::ds,i,seen,s,hi,hm,hd=>by
  unfold nodesOk
  have hk:=kidsOk_iff (i:=i) (ks:=d.kids) (by simp at hi;omega) hm hd
  have hall:allKids (d::ds)=d.kids++allKids ds:=rfl
  cases hf:fits d d.kids.length with
  | false=>
   refine⟨⟨fun ⟨s',h⟩=>(by cases h),fun ⟨h1,h2⟩=>?_⟩,fun s' h=>by cases h⟩
   have:=(h1 0 (by simp)).1
   simp only[List.getElem_cons_zero] at this
   rw[hf] at this
   cases this
  | true=>
   simp only[cond_true]
   cases hq:kidsOk i d.kids s with
   | none=>
    refine⟨⟨fun ⟨s',h⟩=>(by cases h),fun ⟨h1,h2⟩=>?_⟩,fun s' h=>by cases h⟩
    exfalso
    have:∃ s',kidsOk i d.kids s=some s':=hk.1.2 ⟨fun k hk=>by
     have:=(h1 0 (by simp)).2 k hk
     omega,by
     rw[hall,←List.append_assoc] at h2
     exact(List.pairwise_append.1 h2).1⟩
    obtain⟨s',h⟩:=this
    rw[hq] at h
    cases h
   | some s1=>
    obtain⟨l1,m1⟩:=hk.2 s1 hq
    obtain⟨r1,d1⟩:=hk.1.1 ⟨s1,hq⟩
    have ih:=nodesOk_iff (ds:=ds) (i:=i+1) (seen:=seen++d.kids) (s:=s1) (by simp at hi;omega) m1 d1
    rw[List.append_assoc,←hall] at ih
    simp only
    refine⟨ih.1.trans ⟨fun ⟨h1,h2⟩=>⟨fun j hj=>?_,h2⟩,fun ⟨h1,h2⟩=>⟨fun j hj=>?_,h2⟩⟩,fun s' h=>?_⟩
    ·cases j with
     | zero=>exact⟨hf,fun k hk=>by have:=r1 k hk;omega⟩
     | succ j=>
      have:=h1 j (by simpa using hj)
      refine⟨this.1,fun k hk=>?_⟩
      have:=this.2 k hk
      omega
    ·have:=h1 (j+1) (by simpa using hj)
     refine⟨this.1,fun k hk=>?_⟩
     have:=this.2 k hk
     omega
    ·have:=ih.2 s' h
     exact⟨this.1.trans l1,this.2⟩
theorem marks_none (n:Nat):MarksAre (List.replicate n false) []:=fun j=>by
 by_cases h:j < n<;>simp[List.getD_eq_getElem?_getD,List.getElem?_replicate,h]
structure Right (t:Tr):Prop where
 root:0≤t.root∧t.root < t.ns.length
 fits:∀ j (h:j < t.ns.length),fits t.ns[j] t.ns[j].kids.length=true
 kids:∀ j (h:j < t.ns.length),∀ k∈t.ns[j].kids,0≤k∧k < j
 diff:DiffL (allKids t.ns)
 all:∀ j:Nat,j < t.ns.length→((j:Int)∈allKids t.ns ↔ (j:Int)≠t.root)
theorem right_iff {t:Tr}:right t=true ↔ Right t:=by
 have h:=nodesOk_iff (ds:=t.ns) (i:=0) (seen:=[]) (s:=List.replicate t.ns.length false) (by simp) (marks_none _) (by simp[DiffL])
 simp only[List.nil_append,Nat.zero_add,List.length_replicate] at h
 unfold right
 constructor
 ·intro hr
  simp only[Bool.and_eq_true,decide_eq_true_eq] at hr
  obtain⟨r1,r2,r3⟩:=hr
  split at r3
  ·rename_i s hs
   obtain⟨q1,q2⟩:=h.1.1 ⟨s,hs⟩
   obtain⟨m1,m2⟩:=h.2 s hs
   refine⟨⟨r1,r2⟩,fun j hj=>(q1 j hj).1,fun j hj k hk=>(by have:=(q1 j hj).2 k hk;omega),q2,fun j hj=>?_⟩
   have hb:(s.getD j false == decide (((0+j:Nat):Int)=t.root))=false:=by
    cases hb:(s.getD j false == decide (((0+j:Nat):Int)=t.root)) with
    | false=>rfl
    | true=>
     have:=rootOk_false (by omega) hb
     rw[this] at r3
     cases r3
   rw[Nat.zero_add] at hb
   have hm:=m2 j
   constructor
   ·intro hx e
    have:=hm.2 ⟨hx,by omega⟩
    rw[this,decide_eq_true e] at hb
    cases hb
   ·intro hne
    rw[decide_eq_false hne] at hb
    have:s.getD j false=true:=by
     revert hb
     cases s.getD j false<;>simp
    exact(hm.1 this).1
  ·cases r3
 ·intro hr
  obtain⟨s,hs⟩:=h.1.2 ⟨fun j hj=>⟨hr.fits j hj,fun k hk=>by have:=hr.kids j hj k hk;omega⟩,hr.diff⟩
  obtain⟨m1,m2⟩:=h.2 s hs
  rw[hs]
  simp only[Bool.and_eq_true,decide_eq_true_eq]
  refine⟨hr.root.1,hr.root.2,rootOk_true fun j hj=>?_⟩
  rw[Nat.zero_add]
  have ha:=hr.all j (by omega)
  have hm:=m2 j
  by_cases e:(j:Int)=t.root
  ·have hf:s.getD j false=false:=by
    cases hb:s.getD j false with
    | false=>rfl
    | true=>exact absurd e (ha.1 (hm.1 hb).1)
   rw[hf,decide_eq_true e]
   rfl
  ·have:=hm.2 ⟨ha.2 e,by omega⟩
   rw[this,decide_eq_false e]
   rfl
theorem Right.node {t:Tr} (hr:Right t) {j:Nat} (hj:j < t.ns.length) {k:Int} (hk:k∈(nodeAt t.ns j).kids):0≤k∧k < j:=by
 rw[nodeAt_eq hj] at hk
 exact hr.kids j hj k hk
theorem Right.two {t:Tr} (hr:Right t) {i j:Nat} (hi:i < t.ns.length) (hj:j < t.ns.length) (hne:i≠j) {k:Int} (h1:k∈(nodeAt t.ns i).kids) (h2:k∈(nodeAt t.ns j).kids):False:=by
 rw[nodeAt_eq hi] at h1
 rw[nodeAt_eq hj] at h2
 have:=(List.pairwise_flatMap.1 hr.diff).2
 rw[List.pairwise_iff_getElem] at this
 rcases Nat.lt_or_gt_of_ne hne with h | h
 ·exact this i j hi hj h k h1 k h2 rfl
 ·exact this j i hj hi h k h2 k h1 rfl
theorem Right.kdiff {t:Tr} (hr:Right t) {j:Nat} (hj:j < t.ns.length):DiffL (nodeAt t.ns j).kids:=by
 rw[nodeAt_eq hj]
 exact(List.pairwise_flatMap.1 hr.diff).1 _ (List.getElem_mem hj)
def postN (ns:List Nd):Nat→Int→List Int
 | 0,_=>[]
 | f+1,n=>(nodeAt ns n.toNat).kids.flatMap (postN ns f)++[n]
def postO (ns:List Nd) (n:Int):List Int:=postN ns (n.toNat+1) n
theorem flatMap_congr' {α β:Type} {f g:α→List β}:∀ {l:List α},(∀ x∈l,f x=g x)→l.flatMap f=l.flatMap g
 | [],_=>rfl
 | a::l,h=>by rw[List.flatMap_cons,List.flatMap_cons,h a (.head _),flatMap_congr' fun x hx=>h x (.tail _ hx)]
section
variable {t:Tr} (hr:Right t)
include hr
theorem postN_fuel:∀ (f j:Nat),j < t.ns.length→j < f→postN t.ns f j=postO t.ns j:=by
 intro f
 induction f using Nat.strongRecOn with
 | _ f ih=>
  intro j hj hf
  match f,hf,ih with
  | f+1,hf,ih=>
   unfold postO
   rw[postN,postN]
   congr 1
   refine flatMap_congr' fun k hk=>?_
   obtain⟨h0,h1⟩:=hr.node hj hk
   obtain⟨k,rfl⟩:=Int.eq_ofNat_of_zero_le h0
   have e1:=ih f (by omega) k (by omega) (by omega)
   have e2:=ih j (by omega) k (by omega) (by omega)
   exact e1.trans e2.symm
theorem post_eq {j:Nat} (hj:j < t.ns.length):postO t.ns j=(nodeAt t.ns j).kids.flatMap (postO t.ns)++[(j:Int)]:=by
 unfold postO
 rw[postN]
 congr 1
 refine flatMap_congr' fun k hk=>?_
 obtain⟨h0,h1⟩:=hr.node hj hk
 obtain⟨k,rfl⟩:=Int.eq_ofNat_of_zero_le h0
 exact postN_fuel hr _ k (by omega) (by omega)
theorem post_mem:∀ (j:Nat),j < t.ns.length→∀ x∈postO t.ns j,(0≤x∧x≤j)∧(x=j∨∃ y:Nat,(y:Int)∈postO t.ns j∧y < t.ns.length∧x∈(nodeAt t.ns y).kids):=by
 intro j
 induction j using Nat.strongRecOn with
 | _ j ih=>
  intro hj x hx
  rw[post_eq hr hj] at hx
  rcases List.mem_append.1 hx with hx | hx
  ·obtain⟨k,hk,hx⟩:=List.mem_flatMap.1 hx
   obtain⟨h0,h1⟩:=hr.node hj hk
   obtain⟨k,rfl⟩:=Int.eq_ofNat_of_zero_le h0
   obtain⟨b,c⟩:=ih k (by omega) (by omega) x hx
   refine⟨by omega,.inr ?_⟩
   rcases c with rfl | ⟨y,hy,hyl,hyx⟩
   ·exact⟨j,by rw[post_eq hr hj];simp,hj,hk⟩
   ·exact⟨y,by rw[post_eq hr hj];exact List.mem_append.2 (.inl (List.mem_flatMap.2 ⟨k,hk,hy⟩)),hyl,hyx⟩
  ·simp only[List.mem_singleton] at hx
   subst hx
   exact⟨by omega,.inl rfl⟩
theorem post_two {j:Nat} (hj:j < t.ns.length) {a b:Nat} (ha:(a:Int)∈(nodeAt t.ns j).kids) (hb:(b:Int)∈(nodeAt t.ns j).kids) (hne:a≠b):∀ (m:Nat) (x:Int),x∈postO t.ns a→x∈postO t.ns b→t.ns.length - x.toNat≤m→False:=by
 have h1:=hr.node hj ha
 have h2:=hr.node hj hb
 intro m
 induction m with
 | zero=>
  intro x hxa hxb hm
  have:=(post_mem hr a (by omega) x hxa).1
  omega
 | succ m ih=>
  intro x hxa hxb hm
  obtain⟨ba,ca⟩:=post_mem hr a (by omega) x hxa
  obtain⟨bb,cb⟩:=post_mem hr b (by omega) x hxb
  rcases ca with ea | ⟨ya,hya,hyal,hyax⟩
  ·rcases cb with eb | ⟨yb,hyb,hybl,hybx⟩
   ·omega
   ·have:=(post_mem hr b (by omega) yb hyb).1
    subst ea
    exact hr.two hj hybl (by omega) ha hybx
  ·rcases cb with eb | ⟨yb,hyb,hybl,hybx⟩
   ·have:=(post_mem hr a (by omega) ya hya).1
    subst eb
    exact hr.two hj hyal (by omega) hb hyax
   ·by_cases e:ya=yb
    ·subst e
     have:=hr.node hyal hyax
     exact ih ya hya hyb (by omega)
    ·exact hr.two hyal hybl e hyax hybx
theorem post_diff:∀ (j:Nat),j < t.ns.length→DiffL (postO t.ns j):=by
 intro j
 induction j using Nat.strongRecOn with
 | _ j ih=>
  intro hj
  rw[post_eq hr hj]
  have kd:=hr.kdiff hj
  refine List.pairwise_append.2 ⟨List.pairwise_flatMap.2 ⟨fun k hk=>?_,?_⟩,by simp,fun x hx y hy=>?_⟩
  ·obtain⟨h0,h1⟩:=hr.node hj hk
   obtain⟨k,rfl⟩:=Int.eq_ofNat_of_zero_le h0
   exact ih k (by omega) (by omega)
  ·refine kd.imp_of_mem ?_
   intro a b ha hb hne x hx y hy e
   subst e
   obtain⟨h0,h1⟩:=hr.node hj ha
   obtain⟨h2,h3⟩:=hr.node hj hb
   obtain⟨a,rfl⟩:=Int.eq_ofNat_of_zero_le h0
   obtain⟨b,rfl⟩:=Int.eq_ofNat_of_zero_le h2
   exact post_two hr hj ha hb (by intro e;subst e;exact hne rfl) _ x hx hy (Nat.le_refl _)
  ·simp only[List.mem_singleton] at hy
   subst hy
   obtain⟨k,hk,hx⟩:=List.mem_flatMap.1 hx
   obtain⟨h0,h1⟩:=hr.node hj hk
   obtain⟨k,rfl⟩:=Int.eq_ofNat_of_zero_le h0
   have:=(post_mem hr k (by omega) x hx).1
   omega
def PreO (ns:List Nd) (l:List Int):Prop:=∀ i (h:i < l.length),∀ k∈(nodeAt ns (l[i]).toNat).kids,k∈l.take i
omit hr in
theorem PreO.append {ns:List Nd} {l m:List Int} (h:PreO ns l) (h':PreO ns m):PreO ns (l++m):=by
 intro i hi k hk
 by_cases hl:i < l.length
 ·rw[List.getElem_append_left hl] at hk
  rw[List.take_append_of_le_length (by omega)]
  exact h i hl k hk
 ·rw[List.getElem_append_right (by omega)] at hk
  have:=h' (i - l.length) (by simp at hi;omega) k hk
  rw[List.take_append,List.take_of_length_le (by omega)]
  exact List.mem_append.2 (.inr this)
omit hr in
theorem PreO.flat {ns:List Nd} {f:Int→List Int}:∀ {ks:List Int},(∀ k∈ks,PreO ns (f k))→PreO ns (ks.flatMap f)
 | [],_=>fun i h=>by simp at h
 | k::ks,h=>by
  rw[List.flatMap_cons]
  exact(h k (.head _)).append (PreO.flat fun x hx=>h x (.tail _ hx))
theorem post_self {j:Nat} (hj:j < t.ns.length):(j:Int)∈postO t.ns j:=by rw[post_eq hr hj];simp
theorem post_pre:∀ (j:Nat),j < t.ns.length→PreO t.ns (postO t.ns j):=by
 intro j
 induction j using Nat.strongRecOn with
 | _ j ih=>
  intro hj
  have hk:∀ k∈(nodeAt t.ns j).kids,∃ q:Nat,k=q∧q < j:=fun k hk=>by
   obtain⟨h0,h1⟩:=hr.node hj hk
   exact⟨k.toNat,by omega,by omega⟩
  have h1:PreO t.ns ((nodeAt t.ns j).kids.flatMap (postO t.ns)):=PreO.flat fun k hk'=>by
   obtain⟨q,rfl,hq⟩:=hk k hk'
   exact ih q hq (by omega)
  rw[post_eq hr hj]
  intro i hi k hki
  by_cases hl:i < ((nodeAt t.ns j).kids.flatMap (postO t.ns)).length
  ·rw[List.getElem_append_left hl] at hki
   rw[List.take_append_of_le_length (by omega)]
   exact h1 i hl k hki
  ·rw[List.getElem_append_right (by omega)] at hki
   have e:i - ((nodeAt t.ns j).kids.flatMap (postO t.ns)).length=0:=by simp only[List.length_append,List.length_cons,List.length_nil] at hi;omega
   simp only[e,List.getElem_cons_zero,Int.toNat_natCast] at hki
   rw[List.take_append,List.take_of_length_le (by omega)]
   refine List.mem_append.2 (.inl (List.mem_flatMap.2 ⟨k,hki,?_⟩))
   obtain⟨q,rfl,hq⟩:=hk k hki
   exact post_self hr (by omega)
theorem post_last {j:Nat} (hj:j < t.ns.length):(postO t.ns j).getLast?=some (j:Int):=by rw[post_eq hr hj];simp
theorem post_len:∀ (j:Nat),j < t.ns.length→(postO t.ns j).length=szOf t.ns j:=by
 intro j
 induction j using Nat.strongRecOn with
 | _ j ih=>
  intro hj
  rw[post_eq hr hj,szOf_eq (right_iff.2 hr) hj,←nodeAt_eq hj]
  simp only[List.length_append,List.length_flatMap,List.length_cons,List.length_nil,sumOf]
  have:(nodeAt t.ns j).kids.map (fun a=>(postO t.ns a).length)=(nodeAt t.ns j).kids.map (szOf t.ns):=List.map_congr_left fun k hk=>by
   obtain⟨h0,h1⟩:=hr.node hj hk
   obtain⟨k,rfl⟩:=Int.eq_ofNat_of_zero_le h0
   exact ih k (by omega) (by omega)
  rw[this]
  omega
theorem back_post:∀ (f:Nat) (todo b:List Int),(∀ k∈todo,0≤k∧k < t.ns.length)→(todo.map fun n=>(postO t.ns n).length).sum≤f→backGo t.ns f todo b=b++todo.reverse.flatMap (fun n=>(postO t.ns n).reverse)
 | 0,todo,b,hv,hf=>by
  rcases List.eq_nil_or_concat todo with h | ⟨r,p,h⟩
  ·subst h
   simp[backGo]
  ·subst h
   obtain⟨h0,h1⟩:=hv p (by simp)
   obtain⟨p,rfl⟩:=Int.eq_ofNat_of_zero_le h0
   have:=congrArg List.length (post_eq hr (j:=p) (by omega))
   simp at hf this
   have h2:(postO t.ns (p:Int)).length=0:=by rw[hf.2];rfl
   omega
 | f+1,todo,b,hv,hf=>by
  rcases List.eq_nil_or_concat todo with h | ⟨r,p,h⟩
  ·subst h
   rw[backGo_nil]
   simp
  ·rw[List.concat_eq_append] at h
   subst h
   obtain⟨h0,h1⟩:=hv p (by simp)
   obtain⟨p,rfl⟩:=Int.eq_ofNat_of_zero_le h0
   have hp:p < t.ns.length:=by omega
   have he:=post_eq hr hp
   have hl:=congrArg List.length he
   simp only[List.length_append,List.length_flatMap,List.length_cons,List.length_nil] at hl
   have hv':∀ k∈r++(nodeAt t.ns p).kids,0≤k∧k < t.ns.length:=fun k hk=>by
    rcases List.mem_append.1 hk with hk | hk
    ·exact hv k (by simp[hk])
    ·have:=hr.node hp hk
     omega
   have hf':((r++(nodeAt t.ns p).kids).map fun n=>(postO t.ns n).length).sum≤f:=by
    simp only[List.map_append,List.sum_append,List.map_cons,List.map_nil,List.sum_cons,List.sum_nil] at hf ⊢
    omega
   rw[backGo_snoc,Int.toNat_natCast,back_post f _ _ hv' hf']
   rw[List.reverse_append,List.reverse_append,List.flatMap_append,List.flatMap_append,List.reverse_singleton,List.flatMap_singleton,he,List.reverse_append,List.append_assoc]
   congr 1
   rw[←List.append_assoc]
   congr 1
   simp[List.reverse_flatMap]
   rfl
theorem backOf_post {j:Nat} (hj:j < t.ns.length):(backOf t.ns j).reverse=postO t.ns j:=by
 unfold backOf
 have h1:=post_len hr j hj
 have h2:=sz_le (right_iff.2 hr) t.ns.length j hj (by omega)
 rw[back_post hr _ _ _ (fun k hk=>by simp only[List.mem_singleton] at hk;omega) (by simp;omega)]
 simp
def posn (rb:List Int) (k:Int):Int:=(rb.idxOf k:Nat)
def subN (ns:List Nd) (rb:List Int) (b:Int):Nd:=(nodeAt ns b.toNat).withKids ((nodeAt ns b.toNat).kids.map (posn rb))
omit hr in
theorem DiffL.idx {l:List Int} (h:DiffL l) {i:Nat} (hi:i < l.length):l.idxOf l[i]=i:=by
 have h1:=List.idxOf_lt_length_of_mem (List.getElem_mem hi)
 have h2:=List.getElem_idxOf h1
 have h3:=List.pairwise_iff_getElem.1 h
 rcases Nat.lt_trichotomy (l.idxOf l[i]) i with h4 | h4 | h4
 ·exact absurd h2 (h3 _ _ h1 hi h4)
 ·exact h4
 ·exact absurd h2.symm (h3 _ _ hi h1 h4)
omit hr in
theorem DiffL.nodup {l:List Int} (h:DiffL l) {i j:Nat} (hi:i < l.length) (hj:j < l.length) (e:l[i]=l[j]):i=j:=by
 rw[←h.idx hi,←h.idx hj,e]
omit hr in
theorem sub_fold {rb:List Int} (hd:DiffL rb) (hp:PreO t.ns rb) (hv:∀ k∈rb,0≤k∧k < t.ns.length):∀ i,i≤rb.length→∃ P:List Int,(rb.take i).foldl (subStep t.ns) (List.replicate t.ns.length 0,[])=(P,(rb.take i).map (subN t.ns rb))∧P.length=t.ns.length∧∀ q (h:q < rb.length),q < i→P.getD rb[q].toNat 0=(q:Int)
 | 0,_=>⟨List.replicate t.ns.length 0,rfl,by simp,fun q h hq=>by omega⟩
 | i+1,hi=>by
  obtain⟨P,h1,h2,h3⟩:=sub_fold hd hp hv i (by omega)
  have hil:i < rb.length:=by omega
  have hvi:=hv _ (List.getElem_mem hil)
  have key:∀ q (h:q < rb.length),q < i+1→(P.set rb[i].toNat (i:Nat)).getD rb[q].toNat 0=(q:Int):=fun q h hq=>by
   have hvq:=hv _ (List.getElem_mem h)
   by_cases e:q=i
   ·subst e
    simp[List.getD_eq_getElem?_getD,List.getElem?_set,show rb[q].toNat < P.length by omega]
   ·have hne:rb[i].toNat≠rb[q].toNat:=fun e'=>e (hd.nodup h hil (by omega))
    have:=h3 q h (by omega)
    simp only[List.getD_eq_getElem?_getD,List.getElem?_set] at this ⊢
    rw[if_neg hne]
    exact this
  refine⟨P.set rb[i].toNat (i:Nat),?_,by simpa using h2,key⟩
  rw[List.take_succ_eq_append_getElem hil,List.foldl_append,h1,List.map_append]
  simp only[List.foldl_cons,List.foldl_nil,subStep,List.length_map,List.length_take,Nat.min_eq_left (Nat.le_of_lt hil),List.map_cons,List.map_nil]
  have:subN t.ns rb rb[i]=(nodeAt t.ns rb[i].toNat).withKids ((nodeAt t.ns rb[i].toNat).kids.map fun k=>(P.set rb[i].toNat (i:Nat)).getD k.toNat 0):=by
   unfold subN
   congr 1
   refine List.map_congr_left fun k hk=>?_
   have hm:=hp i hil k hk
   obtain⟨q,hq,e⟩:=List.getElem_of_mem hm
   rw[List.length_take] at hq
   rw[List.getElem_take] at e
   rw[←e,key q (by omega) (by omega)]
   unfold posn
   rw[hd.idx]
  rw[this]
theorem subC_eq {j:Nat} (hj:j < t.ns.length):subC t.ns j=(postO t.ns j).map (subN t.ns (postO t.ns j)):=by
 obtain⟨P,h1,-,-⟩:=sub_fold (post_diff hr j hj) (post_pre hr j hj) (fun k hk=>by have:=(post_mem hr j hj k hk).1;omega) (postO t.ns j).length (Nat.le_refl _)
 rw[List.take_length] at h1
 unfold subC
 rw[backOf_post hr hj,h1]
theorem sub_right {j:Nat} (hj:j < t.ns.length):Right (trOf (subC t.ns j)):=by
 have hd:=post_diff hr j hj
 have hp:=post_pre hr j hj
 have hm:=post_mem hr j hj
 have hla:=post_last hr hj
 rw[subC_eq hr hj]
 generalize postO t.ns j=rb at *
 have hlen:0 < rb.length:=by
  cases rb with
  | nil=>simp at hla
  | cons a l=>simp
 have hlast:rb[rb.length - 1]=(j:Int):=by
  rw[List.getLast?_eq_getElem?,List.getElem?_eq_getElem (by omega)] at hla
  exact Option.some.inj hla
 have hn:∀ i (h:i < rb.length),rb[i].toNat < t.ns.length:=fun i h=>by have:=(hm _ (List.getElem_mem h)).1;omega
 have hpos:∀ i (h:i < rb.length),∀ k∈(nodeAt t.ns rb[i].toNat).kids,k∈rb∧rb.idxOf k < i:=fun i h k hk=>by
  have:=hp i h k hk
  refine⟨List.mem_of_mem_take this,?_⟩
  obtain⟨q,hq,e⟩:=List.getElem_of_mem this
  rw[List.length_take] at hq
  rw[List.getElem_take] at e
  rw[←e,hd.idx]
  omega
 have hinj:∀ a∈rb,∀ b∈rb,posn rb a=posn rb b→a=b:=fun a ha b hb e=>by
  unfold posn at e
  have e':rb.idxOf a=rb.idxOf b:=by omega
  rw[←List.getElem_idxOf (List.idxOf_lt_length_of_mem ha),←List.getElem_idxOf (List.idxOf_lt_length_of_mem hb)]
  simp only[e']
 have hall:allKids (rb.map (subN t.ns rb))=rb.flatMap fun b=>(nodeAt t.ns b.toNat).kids.map (posn rb):=by
  unfold allKids
  rw[List.flatMap_map]
  rfl
 have hin:∀ b∈rb,∀ k∈(nodeAt t.ns b.toNat).kids,k∈rb:=fun b hb k hk=>by
  obtain⟨i,hi,rfl⟩:=List.getElem_of_mem hb
  exact(hpos i hi k hk).1
 refine⟨by simp[trOf];omega,fun i hi=>?_,fun i hi k hk=>?_,?_,fun i hi=>?_⟩
 ·have hi':i < rb.length:=by simpa[trOf] using hi
  have hf:=hr.fits _ (hn i hi')
  rw[←nodeAt_eq (hn i hi')] at hf
  simp only[trOf,List.getElem_map]
  have e:(subN t.ns rb rb[i]).kids.length=(nodeAt t.ns rb[i].toNat).kids.length:=by
   show ((nodeAt t.ns rb[i].toNat).kids.map (posn rb)).length=_
   rw[List.length_map]
  rw[e]
  exact hf
 ·have hi':i < rb.length:=by simpa[trOf] using hi
  simp only[trOf,List.getElem_map] at hk
  obtain⟨q,hq,rfl⟩:=List.mem_map.1 hk
  have:=(hpos i hi' q hq).2
  unfold posn
  omega
 ·show DiffL (allKids (rb.map (subN t.ns rb)))
  rw[hall]
  refine List.pairwise_flatMap.2 ⟨fun b hb=>?_,?_⟩
  ·have hb':=(hm b hb).1
   refine List.pairwise_map.2 ((hr.kdiff (j:=b.toNat) (by omega)).imp_of_mem ?_)
   intro x y hx hy hne e
   exact hne (hinj x (hin b hb x hx) y (hin b hb y hy) e)
  ·refine hd.imp_of_mem ?_
   intro a b ha hb hne x hx y hy e
   obtain⟨p,hp',rfl⟩:=List.mem_map.1 hx
   obtain⟨q,hq',rfl⟩:=List.mem_map.1 hy
   have e1:=hinj p (hin a ha p hp') q (hin b hb q hq') e
   subst e1
   have ha':=(hm a ha).1
   have hb':=(hm b hb).1
   exact hr.two (i:=a.toNat) (j:=b.toNat) (by omega) (by omega) (by omega) hp' hq'
 ·have hi':i < rb.length:=by simpa[trOf] using hi
  show (i:Int)∈allKids (rb.map (subN t.ns rb)) ↔ (i:Int)≠((rb.map (subN t.ns rb)).length:Int) - 1
  rw[hall,List.length_map]
  constructor
  ·intro h e
   obtain⟨b,hb,h⟩:=List.mem_flatMap.1 h
   obtain⟨k,hk,e2⟩:=List.mem_map.1 h
   have hkr:=hin b hb k hk
   have e3:k=rb[i]:=by
    rw[←List.getElem_idxOf (List.idxOf_lt_length_of_mem hkr)]
    unfold posn at e2
    have:rb.idxOf k=i:=by omega
    simp only[this]
   have e4:i=rb.length - 1:=by omega
   subst e4
   rw[hlast] at e3
   have hb':=(hm b hb).1
   have:=hr.node (j:=b.toNat) (by omega) hk
   omega
  ·intro h
   obtain⟨hb,hc⟩:=hm _ (List.getElem_mem hi')
   rcases hc with e | ⟨y,hy,hyl,hyk⟩
   ·have:=hd.nodup hi' (show rb.length - 1 < rb.length by omega) (e.trans hlast.symm)
    omega
   ·refine List.mem_flatMap.2 ⟨y,hy,List.mem_map.2 ⟨rb[i],by simpa using hyk,?_⟩⟩
    unfold posn
    rw[hd.idx]
theorem sub_tab {α:Type} {z:α} {F:Nd→List α→α} (hF:∀ d l,F (d.withKids l)=F d) {j:Nat} (hj:j < t.ns.length):tabOf z (fun d g=>F d (d.kids.map g)) (subC t.ns j) ((subC t.ns j).length - 1:Int)=tabOf z (fun d g=>F d (d.kids.map g)) t.ns j:=by
 have hR:=sub_right hr hj
 have hd:=post_diff hr j hj
 have hp:=post_pre hr j hj
 have hm:=post_mem hr j hj
 have hla:=post_last hr hj
 rw[subC_eq hr hj] at hR ⊢
 generalize postO t.ns j=rb at *
 have hlen:0 < rb.length:=by
  cases rb with
  | nil=>simp at hla
  | cons a l=>simp
 have hlast:rb[rb.length - 1]=(j:Int):=by
  rw[List.getLast?_eq_getElem?,List.getElem?_eq_getElem (by omega)] at hla
  exact Option.some.inj hla
 have hcong:∀ (d:Nd) (g g':Int→α),(∀ k∈d.kids,g k=g' k)→F d (d.kids.map g)=F d (d.kids.map g'):=fun d g g' h=>by rw[List.map_congr_left h]
 have key:∀ i (h:i < rb.length),tabOf z (fun d g=>F d (d.kids.map g)) (rb.map (subN t.ns rb)) i=tabOf z (fun d g=>F d (d.kids.map g)) t.ns rb[i]:=by
  intro i
  induction i using Nat.strongRecOn with
  | _ i ih=>
   intro h
   have hb:=(hm _ (List.getElem_mem h)).1
   have e1:=tabOf_eq (z:=z) (f:=fun d g=>F d (d.kids.map g)) hcong (right_iff.2 hR) (j:=i) (by simpa[trOf] using h)
   have e2:=tabOf_eq (z:=z) (f:=fun d g=>F d (d.kids.map g)) hcong (right_iff.2 hr) (j:=rb[i].toNat) (by omega)
   have e3:((rb[i].toNat:Nat):Int)=rb[i]:=by omega
   rw[e3] at e2
   rw[e2,←nodeAt_eq (show rb[i].toNat < t.ns.length by omega)]
   refine e1.trans ?_
   simp only[trOf,List.getElem_map]
   show F (subN t.ns rb rb[i]) (((nodeAt t.ns rb[i].toNat).kids.map (posn rb)).map _)=_
   unfold subN
   rw[hF,List.map_map]
   congr 1
   refine List.map_congr_left fun k hk=>?_
   have hm':=hp i h k hk
   obtain⟨q,hq,e⟩:=List.getElem_of_mem hm'
   rw[List.length_take] at hq
   rw[List.getElem_take] at e
   have:=ih q (by omega) (by omega)
   simp only[Function.comp]
   rw[←e]
   unfold posn
   rw[hd.idx]
   exact this
 rw[List.length_map]
 have:=key (rb.length - 1) (by omega)
 rw[hlast] at this
 rw[←this]
 congr 1
 omega
end
structure Ws where
 a:BitVec 64
 b:BitVec 64
 c:BitVec 64
 d:BitVec 64
 deriving DecidableEq
def Ws.zero:Ws:=⟨0,0,0,0⟩
def Ws.or (x y:Ws):Ws:=⟨x.a ||| y.a,x.b ||| y.b,x.c ||| y.c,x.d ||| y.d⟩
def Ws.and (x y:Ws):Ws:=⟨x.a &&& y.a,x.b &&& y.b,x.c &&& y.c,x.d &&& y.d⟩
def Ws.sub (x y:Ws):Bool:=decide (x.and y=x)
def Ws.cells (x:Ws):List Value:=[.int .u64 x.a.toNat,.int .u64 x.b.toNat,.int .u64 x.c.toNat,.int .u64 x.d.toNat]
def Ws.val (x:Ws):Value:=.agg #[.int .u64 x.a.toNat,.int .u64 x.b.toNat,.int .u64 x.c.toNat,.int .u64 x.d.toNat]
structure Fi where
 w:Ws
 f:Bool
 deriving DecidableEq
def Fi.cells (x:Fi):List Value:=[.int .u64 x.w.a.toNat,.int .u64 x.w.b.toNat,.int .u64 x.w.c.toNat,.int .u64 x.w.d.toNat,.bool x.f]
def Fi.val (x:Fi):Value:=.agg #[.int .u64 x.w.a.toNat,.int .u64 x.w.b.toNat,.int .u64 x.w.c.toNat,.int .u64 x.w.d.toNat,.bool x.f]
theorem Fi.cells_len (x:Fi):x.cells.length=5:=rfl
def fi0:Fi:=⟨.zero,false⟩
def fiT:Fi:=⟨.zero,true⟩
def Fi.seq (a b:Fi):Fi:=bif a.f then ⟨a.w.or b.w,b.f⟩ else a
def Fi.choice (a b:Fi):Fi:=⟨a.w.or b.w,a.f || b.f⟩
theorem Ws.ext' {x y:Ws} (h1:x.a=y.a) (h2:x.b=y.b) (h3:x.c=y.c) (h4:x.d=y.d):x=y:=by
 obtain⟨a,b,c,d⟩:=x
 obtain⟨a',b',c',d'⟩:=y
 simp only at h1 h2 h3 h4
 subst h1 h2 h3 h4
 rfl
theorem Ws.or_assoc (x y z:Ws):(x.or y).or z=x.or (y.or z):=by simp only[Ws.or,BitVec.or_assoc]
theorem Ws.or_comm (x y:Ws):x.or y=y.or x:=by simp only[Ws.or,BitVec.or_comm]
theorem Ws.or_self (x:Ws):x.or x=x:=by simp[Ws.or]
theorem Ws.zero_or (x:Ws):Ws.zero.or x=x:=by simp[Ws.or,Ws.zero]
theorem bv_or_of {x y:BitVec 64}:x &&& y=x ↔ x ||| y=y:=by
 constructor
 ·intro h
  apply BitVec.eq_of_getElem_eq
  intro i hi
  have:=congrArg (fun w:BitVec 64=>w[i]) h
  simp only[BitVec.getElem_and,BitVec.getElem_or] at this ⊢
  revert this
  cases x[i]<;>cases y[i]<;>simp
 ·intro h
  apply BitVec.eq_of_getElem_eq
  intro i hi
  have:=congrArg (fun w:BitVec 64=>w[i]) h
  simp only[BitVec.getElem_and,BitVec.getElem_or] at this ⊢
  revert this
  cases x[i]<;>cases y[i]<;>simp
theorem Ws.sub_iff {x y:Ws}:x.sub y=true ↔ x.or y=y:=by
 unfold Ws.sub
 rw[decide_eq_true_eq]
 constructor
 ·intro h
  have h1:=congrArg Ws.a h
  have h2:=congrArg Ws.b h
  have h3:=congrArg Ws.c h
  have h4:=congrArg Ws.d h
  exact Ws.ext' (bv_or_of.1 h1) (bv_or_of.1 h2) (bv_or_of.1 h3) (bv_or_of.1 h4)
 ·intro h
  have h1:=congrArg Ws.a h
  have h2:=congrArg Ws.b h
  have h3:=congrArg Ws.c h
  have h4:=congrArg Ws.d h
  exact Ws.ext' (bv_or_of.2 h1) (bv_or_of.2 h2) (bv_or_of.2 h3) (bv_or_of.2 h4)
theorem Ws.sub_refl (x:Ws):x.sub x=true:=Ws.sub_iff.2 x.or_self
theorem Ws.sub_trans {x y z:Ws} (h:x.sub y=true) (h':y.sub z=true):x.sub z=true:=by
 rw[Ws.sub_iff] at h h' ⊢
 rw[←h',←Ws.or_assoc,h]
theorem Ws.sub_antisymm {x y:Ws} (h:x.sub y=true) (h':y.sub x=true):x=y:=by
 rw[Ws.sub_iff] at h h'
 exact h'.symm.trans ((Ws.or_comm y x).trans h)
theorem Ws.sub_or (x y:Ws):x.sub (x.or y)=true:=by
 rw[Ws.sub_iff,←Ws.or_assoc,Ws.or_self]
theorem Ws.zero_sub (x:Ws):Ws.zero.sub x=true:=by rw[Ws.sub_iff,Ws.zero_or]
structure IsAt (I:GH) (M:List Blk) (a:Option Addr) (n:Nat) (ks:List Fi):Prop where
 n:ks.length=n
 rd:∀ j (h:j < ks.length),∃ ad,a=some ad∧Rd I M (ad.add (j * 5)) 5 ks[j].cells
structure Fi.le (a b:Fi):Prop where
 w:a.w.sub b.w=true
 f:a.f=true→b.f=true
theorem Fi.le_refl (a:Fi):a.le a:=⟨Ws.sub_refl _,id⟩
theorem Fi.le.trans {a b c:Fi} (h:a.le b) (h':b.le c):a.le c:=⟨Ws.sub_trans h.w h'.w,fun x=>h'.f (h.f x)⟩
theorem Fi.le.antisymm {a b:Fi} (h:a.le b) (h':b.le a):a=b:=by
 have h1:=Ws.sub_antisymm h.w h'.w
 obtain⟨aw,af⟩:=a
 obtain⟨bw,bf⟩:=b
 simp only at h1
 subst h1
 have hf:=h.f
 have hf':=h'.f
 cases af<;>cases bf<;>simp_all
theorem Fi.bot (a:Fi):fi0.le a:=⟨Ws.zero_sub _,fun h=>by cases h⟩
theorem bv_ofInt (x:BitVec 64):BitVec.ofInt 64 (x.toNat:Int)=x:=by
 rw[BitVec.ofInt_natCast,BitVec.ofNat_toNat,BitVec.setWidth_eq]
theorem wrap_bv (x:BitVec 64):IntKind.u64.wrap (x.toNat:Int)=(x.toNat:Int):=by
 have:=x.isLt
 unfold IntKind.wrap
 simp only[IntKind.bits,IntKind.signed]
 simp
 omega
theorem bv_nat_inj {x y:BitVec 64}:((x.toNat:Int) == (y.toNat:Int))=decide (x=y):=by
 rw[Bool.eq_iff_iff]
 simp[BitVec.toNat_eq]
 omega
structure OrdB (α:Type) where
 le:α→α→Prop
 bot:α
 refl:∀ a,le a a
 trans:∀ {a b c},le a b→le b c→le a c
 anti:∀ {a b},le a b→le b a→a=b
 low:∀ a,le bot a
structure LeR {α:Type} (O:OrdB α) (l m:List α):Prop where
 len:l.length=m.length
 at':∀ i,O.le (l.getD i O.bot) (m.getD i O.bot)
section
variable {α:Type} {O:OrdB α}
theorem LeR.refl (l:List α):LeR O l l:=⟨rfl,fun _=>O.refl _⟩
theorem LeR.trans {a b c:List α} (h:LeR O a b) (h':LeR O b c):LeR O a c:=⟨h.len.trans h'.len,fun i=>O.trans (h.at' i) (h'.at' i)⟩
theorem LeR.of {a b:List α} (hl:a.length=b.length) (h:∀ i,i < a.length→O.le (a.getD i O.bot) (b.getD i O.bot)):LeR O a b:=⟨hl,fun i=>by
 by_cases hi:i < a.length
 ·exact h i hi
 ·have e:a.getD i O.bot=O.bot:=by simp[List.getD_eq_getElem?_getD,List.getElem?_eq_none (Nat.le_of_not_lt hi)]
  rw[e]
  exact O.low _⟩
theorem set_getR (l:List α) (b:α) (i j:Nat) (x:α) (hi:i < l.length):(l.set i x).getD j b=if i=j then x else l.getD j b:=by
 simp only[List.getD_eq_getElem?_getD,List.getElem?_set]
 by_cases e:i=j
 ·subst e
  simp[hi]
 ·rw[if_neg e,if_neg e]
structure PreR (O:OrdB α) (n:Nat) (body:List α→Nat→α) (l:List α):Prop where
 len:l.length=n
 up:∀ i,i < n→O.le (l.getD i O.bot) (body l i)
 least:∀ m:List α,m.length=n→(∀ i,i < n→O.le (body m i) (m.getD i O.bot))→LeR O l m
structure IsR (O:OrdB α) (n:Nat) (body:List α→Nat→α) (l:List α):Prop where
 len:l.length=n
 fix:∀ i,i < n→l.getD i O.bot=body l i
 least:∀ m:List α,m.length=n→(∀ i,i < n→O.le (body m i) (m.getD i O.bot))→LeR O l m
section
variable {n:Nat} {body:List α→Nat→α} (hmono:∀ {l m:List α},LeR O l m→∀ i,i < n→O.le (body l i) (body m i))
include hmono
theorem PreR.step {l:List α} (h:PreR O n body l) {i:Nat} (hi:i < n):PreR O n body (l.set i (body l i))∧LeR O l (l.set i (body l i)):=by
 have hil:i < l.length:=by rw[h.len];exact hi
 have hle:LeR O l (l.set i (body l i)):=.of (by simp) fun j hj=>by
  rw[set_getR _ _ _ _ _ hil]
  by_cases e:i=j
  ·subst e
   rw[if_pos rfl]
   exact h.up i hi
  ·rw[if_neg e]
   exact O.refl _
 refine⟨⟨by simpa using h.len,fun j hj=>?_,fun m hm hc=>?_⟩,hle⟩
 ·rw[set_getR _ _ _ _ _ hil]
  by_cases e:i=j
  ·subst e
   rw[if_pos rfl]
   exact hmono hle _ hi
  ·rw[if_neg e]
   exact O.trans (h.up j hj) (hmono hle _ hj)
 ·have hlm:=h.least m hm hc
  refine .of (by simp[h.len,hm]) fun j hj=>?_
  rw[set_getR _ _ _ _ _ hil]
  by_cases e:i=j
  ·subst e
   rw[if_pos rfl]
   exact O.trans (hmono hlm _ hi) (hc i hi)
  ·rw[if_neg e]
   exact hlm.at' j
end
end
theorem countP_eq_of {α:Type} {p q:α→Bool}:∀ {l:List α},(∀ x∈l,p x=true→q x=true)→l.countP q≤l.countP p→∀ x∈l,q x=true→p x=true
 | [],_,_,x,hx,_=>by cases hx
 | y::l,h,hle,x,hx,hq=>by
  have hm:=List.countP_mono_left (p:=p) (q:=q) (l:=l) (fun x hx=>h x (.tail _ hx))
  rw[List.countP_cons,List.countP_cons] at hle
  have hy:=h y (.head _)
  have key:(q y=true→p y=true)∧l.countP q≤l.countP p:=by
   cases hp:p y<;>cases hqy:q y<;>simp_all<;>omega
  rcases List.mem_cons.1 hx with rfl | hx
  ·exact key.1 hq
  ·exact countP_eq_of (fun x hx=>h x (.tail _ hx)) key.2 x hx hq
def offW (x:BitVec 64):Nat:=(List.range 64).countP fun i=>!x.getLsbD i
theorem offW_le {x y:BitVec 64} (h:x &&& y=x):offW y≤offW x∧(offW x≤offW y→x=y):=by
 have hb:∀ i,x.getLsbD i=true→y.getLsbD i=true:=fun i hx=>by
  have:=congrArg (fun w:BitVec 64=>w.getLsbD i) h
  simp only[BitVec.getLsbD_and,hx,Bool.true_and] at this
  exact this
 have hp:∀ i∈List.range 64,(!y.getLsbD i)=true→(!x.getLsbD i)=true:=fun i _ hi=>by
  have h1:=hb i
  cases hx:x.getLsbD i with
  | false=>rfl
  | true=>rw[h1 hx] at hi;cases hi
 refine⟨List.countP_mono_left hp,fun hle=>?_⟩
 have:=countP_eq_of hp hle
 apply BitVec.eq_of_getLsbD_eq
 intro i hi
 have h1:=hb i
 have h2:=this i (List.mem_range.2 hi)
 cases hx:x.getLsbD i<;>cases hy:y.getLsbD i<;>simp_all
def OI:OrdB Fi:=⟨Fi.le,fi0,Fi.le_refl,fun h h'=>h.trans h',fun h h'=>h.antisymm h',Fi.bot⟩
def Ws.at (w:Ws) (i:Nat):BitVec 64:=bif decide (i=0) then w.a else bif decide (i=1) then w.b else bif decide (i=2) then w.c else w.d
def Ws.one (i:Nat) (x:BitVec 64):Ws:=⟨bif decide (i=0) then x else 0,bif decide (i=1) then x else 0,bif decide (i=2) then x else 0,bif decide (i=3) then x else 0⟩
def byteW (b:UInt8):Ws:=.one (b.toNat / 64) (1#64 <<< (b.toNat % 64))
def ofW (l:List UInt8):Ws:=l.foldl (fun w b=>w.or (byteW b)) .zero
def Nd.ws (d:Nd):Ws:=⟨BitVec.ofInt 64 d.s0,BitVec.ofInt 64 d.s1,BitVec.ofInt 64 d.s2,BitVec.ofInt 64 d.s3⟩
def repFi (d:Nd) (k:Fi):Fi:=bif decide (d.hi=0) then fiT else ⟨k.w,k.f || decide (d.lo=0)⟩
def seqFi (ks:List Fi):Fi:=ks.foldl Fi.seq fiT
def chFi (ks:List Fi):Fi:=ks.foldl Fi.choice fi0
def textFi (t:ByteArray):Fi:=⟨ofW (t.data.toList.take 1),false⟩
def comeFi (d:Nd) (x:Fl) (ks:List Fi):Fi:=
 bif decide (d.k=0) then ⟨.zero,x.suc⟩ else
 bif decide (d.k=1) then ⟨d.ws,false⟩ else
 bif decide (d.k=2) then textFi d.t else
 bif decide (d.k=3) then ks.headD fi0 else
 bif decide (d.k=4) then seqFi ks else
 bif decide (d.k=5) then chFi ks else
 bif decide (d.k=6) then repFi d (ks.headD fi0) else
 bif decide (d.k=7) then ⟨.zero,x.suc⟩ else
 bif decide (d.k=8) then ⟨.zero,x.suc⟩ else ks.headD fi0
def kidsI (pl:List (ByteArray×Int)) (fl acc:List Fi) (d:Nd):List Fi:=
 d.kids.map (fun k=>acc.getD k.toNat fi0)++bif decide (d.k=3) then [fl.getD ((lookM d.t pl).getD 0).toNat fi0] else []
def nodesI (pl:List (ByteArray×Int)) (fl:List Fi) (xs:List Fl):List Nd→List Fi→List Fi
 | [],acc=>acc
 | d::ds,acc=>nodesI pl fl xs ds (acc++[comeFi d (xs.getD acc.length fl0) (kidsI pl fl acc d)])
theorem nodesI_len (pl:List (ByteArray×Int)) (fl:List Fi) (xs:List Fl):∀ (ds:List Nd) (acc:List Fi),(nodesI pl fl xs ds acc).length=acc.length+ds.length
 | [],acc=>rfl
 | d::ds,acc=>by
  rw[nodesI,nodesI_len]
  simp
  omega
theorem LeI.map {α:Type} {f g:α→Fi} {l:List α} (h:∀ x∈l,(f x).le (g x)):LeR OI (l.map f) (l.map g):=.of (by simp) fun i hi=>by
 have hi':i < l.length:=by simpa using hi
 have:=h _ (List.getElem_mem hi')
 simpa[List.getD_eq_getElem?_getD,hi'] using (show OI.le _ _ from this)
def bodyI (pl:List (ByteArray×Int)) (F:List Fl) (ds:List Df) (l:List Fi) (i:Nat):Fi:=match ds[i]? with
 | some d=>(nodesI pl l (nodesF pl F d.t.ns []) d.t.ns []).getD d.t.root.toNat fi0
 | none=>fi0
def IsFirst (ds:List Df) (F:List Fl) (l:List Fi):Prop:=IsR OI ds.length (bodyI (placesL ds) F ds) l
def Ws.has (w:Ws) (n:Nat):Bool:=(w.at (n / 64)).getLsbD (n % 64)
structure FR2 (x:Fl) (k:Fi):Prop where
 z:x.z=true→k.f=true
 s:x.s=true→k.w≠.zero
theorem FR2.none (k:Fi):FR2 fl0 k:=⟨fun h=>(by cases h),fun h=>(by cases h)⟩
theorem FR2.suc {x:Fl} {k:Fi} (h:FR2 x k) (hs:x.suc=true):k.f=true∨k.w≠.zero:=by
 simp only[Fl.suc,Bool.or_eq_true] at hs
 exact hs.imp h.z h.s
inductive FR2s:List Fl→List Fi→Prop
 | nil:FR2s [] []
 | cons {x k l m} (h:FR2 x k) (t:FR2s l m):FR2s (x::l) (k::m)
theorem FR2s.getD:∀ {l:List Fl} {m:List Fi},FR2s l m→∀ i,FR2 (l.getD i fl0) (m.getD i fi0)
 | _,_,.nil,i=>by simpa using FR2.none fi0
 | _,_,.cons h t,0=>h
 | _,_,.cons h t,i+1=>by simpa using t.getD i
theorem FR2s.len:∀ {l:List Fl} {m:List Fi},FR2s l m→l.length=m.length
 | _,_,.nil=>rfl
 | _,_,.cons h t=>by simp[t.len]
theorem FR2s.of:∀ {l:List Fl} {m:List Fi},l.length=m.length→(∀ i,i < l.length→FR2 (l.getD i fl0) (m.getD i fi0))→FR2s l m
 | [],[],_,_=>.nil
 | x::l,k::m,hl,h=>.cons (by simpa using h 0 (by simp)) (FR2s.of (by simpa using hl) fun i hi=>by simpa using h (i+1) (by simpa using hi))
theorem FR2s.head {l:List Fl} {m:List Fi} (h:FR2s l m):FR2 (l.headD fl0) (m.headD fi0):=by
 cases h with
 | nil=>exact FR2.none _
 | cons h t=>exact h
theorem FR2s.map {α:Type} {f:α→Fl} {g:α→Fi}:∀ {l:List α},(∀ x∈l,FR2 (f x) (g x))→FR2s (l.map f) (l.map g)
 | [],_=>.nil
 | x::l,h=>.cons (h x (.head _)) (FR2s.map fun y hy=>h y (.tail _ hy))
theorem or_ne {x y:Ws} (h:x≠.zero∨y≠.zero):x.or y≠.zero:=by
 intro e
 have hx:x=.zero:=Ws.sub_antisymm (by rw[←e];exact Ws.sub_or x y) (Ws.zero_sub _)
 have hy:y=.zero:=Ws.sub_antisymm (by rw[←e,Ws.or_comm];exact Ws.sub_or y x) (Ws.zero_sub _)
 rcases h with h | h
 ·exact h hx
 ·exact h hy
structure SqR (p:Fl×Bool) (k:Fi):Prop where
 z:p.1.z=true→k.f=true
 s:p.1.s=true→p.2=true→k.w≠.zero
 c:p.2=true→k.f=true∨k.w≠.zero
theorem SqR.step {p:Fl×Bool} {k:Fi} {x:Fl} {y:Fi} (h:SqR p k) (hx:FR2 x y):SqR (seqStep p x) (k.seq y):=by
 obtain⟨⟨pz,ps,pf⟩,pc⟩:=p
 obtain⟨h1,h2,h3⟩:=h
 obtain⟨xz,xs,xf⟩:=x
 have hs:=hx.suc
 obtain⟨g1,g2⟩:=hx
 obtain⟨kw,kf⟩:=k
 obtain⟨yw,yf⟩:=y
 simp only[seqStep,Fl.suc] at *
 cases kf with
 | false=>
  simp only[Fi.seq,cond_false]
  refine⟨?_,?_,?_⟩
  ·intro h
   simp only[Bool.and_eq_true] at h
   exact h1 h.1
  ·intro _ h
   simp only[Bool.and_eq_true] at h
   exact(h3 h.1).resolve_left (by simp)
  ·intro h
   simp only[Bool.and_eq_true] at h
   exact .inr ((h3 h.1).resolve_left (by simp))
 | true=>
  simp only[Fi.seq,cond_true]
  refine⟨?_,?_,?_⟩
  ·intro h
   simp only[Bool.and_eq_true] at h
   exact g1 h.2
  ·intro h h'
   simp only[Bool.or_eq_true,Bool.and_eq_true] at h h'
   rcases h with h | h
   ·exact or_ne (.inl (h2 h h'.1))
   ·exact or_ne (.inr (g2 h))
  ·intro h
   simp only[Bool.and_eq_true] at h
   rcases hs h.2 with e | e
   ·exact .inl e
   ·exact .inr (or_ne (.inr e))
structure SubAt (t:Tr) (k:Int) (t':Tr):Prop where
 ct:t'.ns.map Nd.ct=subC t.ns k
 root:t'.root=(t'.ns.length:Int) - 1
theorem subAt_right {t:Tr} (hr:right t=true) {j:Nat} (hj:j < t.ns.length) {t':Tr} (h:SubAt t j t'):right t'=true:=by
 have h1:=right_iff.2 (sub_right (right_iff.1 hr) hj)
 have hl:=congrArg List.length h.ct
 rw[List.length_map] at hl
 have h2:right t'.ct=right (trOf (subC t.ns j)):=by
  unfold right Tr.ct trOf
  simp only[h.ct,h.root,hl]
 rw[right_ct] at h2
 rw[h2,h1]
theorem subAt_len {t:Tr} (hr:right t=true) {j:Nat} (hj:j < t.ns.length) {t':Tr} (h:SubAt t j t'):t'.ns.length=szOf t.ns j:=by
 have hl:=congrArg List.length h.ct
 rw[List.length_map,subC_eq (right_iff.1 hr) hj,List.length_map,post_len (right_iff.1 hr) j hj] at hl
 exact hl
theorem subAt_node {t:Tr} (hr:right t=true) {j:Nat} (hj:j < t.ns.length) {t':Tr} (h:SubAt t j t'):∀ d∈t'.ns,∃ d0∈t.ns,∃ ks:List Int,d.ct=d0.withKids ks∧ks.length=d0.kids.length:=fun d hd=>by
 have h1:d.ct∈t'.ns.map Nd.ct:=List.mem_map.2 ⟨d,hd,rfl⟩
 rw[h.ct,subC_eq (right_iff.1 hr) hj] at h1
 obtain⟨b,hb,e⟩:=List.mem_map.1 h1
 have hm:=(post_mem (right_iff.1 hr) j hj b hb).1
 refine⟨t.ns[b.toNat]'(by omega),List.getElem_mem _,(t.ns[b.toNat]'(by omega)).kids.map (posn (postO t.ns j)),?_,List.length_map _⟩
 rw[←e,subN,nodeAt_eq (by omega)]
def takeZ:List (Fl×List Nat)→List Nat
 | []=>[]
 | x::xs=>x.2++bif x.1.z then takeZ xs else []
def leftsD (pl:List (ByteArray×Int)) (d:Nd) (xs:List (Fl×List Nat)):List Nat:=
 bif decide (d.k=3) then [((lookM d.t pl).getD 0).toNat] else
 bif decide (d.k=4) then takeZ xs else
 bif decide (d.k=6) && decide (d.hi=0) then [] else xs.flatMap (·.2)
def leftF (pl:List (ByteArray×Int)) (F:List Fl) (d:Nd) (xs:List (Fl×List Nat)):Fl×List Nat:=
 (comeFl d (xs.map (·.1)++bif decide (d.k=3) then [F.getD ((lookM d.t pl).getD 0).toNat fl0] else []),leftsD pl d xs)
def leftAt (pl:List (ByteArray×Int)) (F:List Fl) (ns:List Nd) (j:Int):Fl×List Nat:=tabOf (fl0,[]) (fun d g=>leftF pl F d (d.kids.map g)) ns j
theorem leftF_kids (pl:List (ByteArray×Int)) (F:List Fl) (d:Nd) (ks:List Int):leftF pl F (d.withKids ks)=leftF pl F d:=rfl
theorem left_eq {pl:List (ByteArray×Int)} {F:List Fl} {t:Tr} (hr:right t=true) {j:Nat} (hj:j < t.ns.length):leftAt pl F t.ns j=leftF pl F t.ns[j] (t.ns[j].kids.map (leftAt pl F t.ns)):=
 tabOf_eq (fun d g g' h=>by rw[List.map_congr_left h]) hr hj
theorem left_ct (pl:List (ByteArray×Int)) (F:List Fl) (ns:List Nd) (j:Int):leftAt pl F (ns.map Nd.ct) j=leftAt pl F ns j:=by
 unfold leftAt tabOf
 rw[tab_ct (f:=fun d g=>leftF pl F d (d.kids.map g)) (g:=fun d g=>leftF pl F d (d.kids.map g)) (fun d q=>rfl)]
theorem subAt_left {pl:List (ByteArray×Int)} {F:List Fl} {t:Tr} (hr:right t=true) {j:Nat} (hj:j < t.ns.length) {t':Tr} (h:SubAt t j t'):leftAt pl F t'.ns t'.root=leftAt pl F t.ns j:=by
 have hl:=congrArg List.length h.ct
 rw[List.length_map] at hl
 rw[←left_ct,h.ct,h.root,hl]
 exact sub_tab (right_iff.1 hr) (F:=leftF pl F) (fun d ks=>leftF_kids pl F d ks) hj
theorem getD_fstL (acc:List (Fl×List Nat)) (i:Nat):(acc.getD i (fl0,[])).1=(acc.map (·.1)).getD i fl0:=by
 simp only[List.getD_eq_getElem?_getD,List.getElem?_map]
 cases acc[i]?<;>rfl
theorem tab_left (pl:List (ByteArray×Int)) (F:List Fl):∀ (ds:List Nd) (acc:List (Fl×List Nat)),
  (tab (fl0,[]) (fun d g=>leftF pl F d (d.kids.map g)) ds acc).map (·.1)=nodesF pl F ds (acc.map (·.1))
 | [],acc=>rfl
 | d::ds,acc=>by
  have e1:(leftF pl F d (d.kids.map fun k=>acc.getD k.toNat (fl0,[]))).1=comeFl d (kidsF pl F (acc.map (·.1)) d):=by
   unfold leftF kidsF
   simp only[List.map_map,Function.comp_def,getD_fstL]
  have h1:=tab_left pl F ds (acc++[leftF pl F d (d.kids.map fun k=>acc.getD k.toNat (fl0,[]))])
  rw[List.map_append,List.map_cons,List.map_nil,e1] at h1
  rw[tab,h1,nodesF]
theorem left_flow (pl:List (ByteArray×Int)) (F:List Fl) (ns:List Nd) (j:Int):(leftAt pl F ns j).1=(nodesF pl F ns []).getD j.toNat fl0:=by
 have h:=tab_left pl F ns []
 unfold leftAt tabOf
 rw[getD_fstL,h]
 rfl
abbrev W64:=BitVec 64
def bitW (k:Nat):W64:=1#64 <<< k
theorem bitW_get {k i:Nat} (hi:i < 64):(bitW k).getLsbD i=decide (i=k):=by
 unfold bitW
 rw[BitVec.getLsbD_shiftLeft]
 simp only[hi,decide_true,Bool.true_and]
 by_cases h:i < k
 ·have hne:¬ i=k:=by omega
  simp[h,hne]
 ·simp only[h,decide_false,Bool.not_false,Bool.true_and]
  by_cases e:i=k
  ·subst e
   simp
  ·rw[decide_eq_false e]
   have h2:0 < i - k:=by omega
   rw[BitVec.getLsbD_one]
   simp
   omega
theorem foldl_bits (l:List Nat):∀ (w:W64) {i:Nat},i < 64→(l.foldl (fun w k=>w ||| bitW k) w).getLsbD i=(w.getLsbD i || l.contains i):=by
 induction l with
 | nil=>intro w i hi;simp
 | cons k l ih=>
  intro w i hi
  rw[List.foldl_cons,ih _ hi,BitVec.getLsbD_or,bitW_get hi,List.contains_cons,Bool.or_assoc]
  rfl
def wrowGo (m:List W64):Nat→Nat→W64→W64
 | _,0,w=>w
 | k,f+1,w=>wrowGo m (k+1) f (bif w.getLsbD k then w ||| m.getD k 0 else w)
def nextM (m:List W64):List W64:=(List.range 64).map fun i=>wrowGo m 0 64 (m.getD i 0)
inductive ComesM (m:List W64):Nat→Nat→Prop
 | one {i k} (hk:k < 64) (h:(m.getD i 0).getLsbD k=true):ComesM m i k
 | step {i j k} (h:(m.getD i 0).getLsbD j=true) (hj:j < 64) (t:ComesM m j k):ComesM m i k
theorem ComesM.trans {m:List W64} {i j k:Nat} (h:ComesM m i j) (h':ComesM m j k):ComesM m i k:=by
 induction h with
 | one hk h=>exact .step h hk h'
 | step h hj t ih=>exact .step h hj (ih h')
def SubW (x y:W64):Prop:=∀ i,i < 64→x.getLsbD i=true→y.getLsbD i=true
theorem SubW.refl (x:W64):SubW x x:=fun _ _ h=>h
theorem SubW.trans {x y z:W64} (h:SubW x y) (h':SubW y z):SubW x z:=fun i hi hx=>h' i hi (h i hi hx)
theorem SubW.or (x y:W64):SubW x (x ||| y):=fun i hi h=>by rw[BitVec.getLsbD_or,h];rfl
theorem SubW.or' (x y:W64):SubW y (x ||| y):=fun i hi h=>by rw[BitVec.getLsbD_or,h,Bool.or_true]
theorem SubW.anti {x y:W64} (h:SubW x y) (h':SubW y x):x=y:=BitVec.eq_of_getLsbD_eq fun i hi=>by
 have h1:=h i hi
 have h2:=h' i hi
 cases hx:x.getLsbD i<;>cases hy:y.getLsbD i<;>simp_all
theorem SubW.and {x y:W64} (h:SubW x y):x &&& y=x:=BitVec.eq_of_getLsbD_eq fun i hi=>by
 have h1:=h i hi
 rw[BitVec.getLsbD_and]
 cases hx:x.getLsbD i<;>simp_all
theorem wrowGo_le (m:List W64):∀ (f k:Nat) (w:W64),SubW w (wrowGo m k f w)
 | 0,k,w=>SubW.refl w
 | f+1,k,w=>by
  rw[wrowGo]
  cases w.getLsbD k with
  | true=>exact(SubW.or _ _).trans (wrowGo_le m f (k+1) _)
  | false=>exact wrowGo_le m f (k+1) _
theorem wrowGo_sound {m:List W64} {P:Nat→Prop} (hm:∀ j,P j→∀ x,x < 64→(m.getD j 0).getLsbD x=true→P x):∀ (f k:Nat) (w:W64),k+f≤64→(∀ x,x < 64→w.getLsbD x=true→P x)→∀ x,x < 64→(wrowGo m k f w).getLsbD x=true→P x
 | 0,k,w,_,hw=>hw
 | f+1,k,w,hk,hw=>by
  rw[wrowGo]
  cases hb:w.getLsbD k with
  | true=>
   refine wrowGo_sound hm f (k+1) _ (by omega) fun x hx h=>?_
   rw[cond_true,BitVec.getLsbD_or,Bool.or_eq_true] at h
   rcases h with h | h
   ·exact hw x hx h
   ·exact hm k (hw k (by omega) hb) x hx h
  | false=>exact wrowGo_sound hm f (k+1) _ (by omega) hw
theorem wrowGo_fix {m:List W64}:∀ (f k:Nat) {w:W64},wrowGo m k f w=w→∀ j,k≤j→j < k+f→w.getLsbD j=true→SubW (m.getD j 0) w
 | 0,k,w,_,j,h1,h2,_=>by omega
 | f+1,k,w,h,j,h1,h2,hj=>by
  rw[wrowGo] at h
  cases hb:w.getLsbD k with
  | true=>
   rw[hb,cond_true] at h
   have e:w ||| m.getD k 0=w:=by
    refine SubW.anti ?_ (SubW.or _ _)
    have:=wrowGo_le m f (k+1) (w ||| m.getD k 0)
    rwa [h] at this
   by_cases ek:j=k
   ·subst ek
    have:=SubW.or' w (m.getD j 0)
    rwa [e] at this
   ·rw[e] at h
    exact wrowGo_fix f (k+1) h j (by omega) (by omega) hj
  | false=>
   rw[hb,cond_false] at h
   by_cases ek:j=k
   ·subst ek
    rw[hb] at hj
    cases hj
   ·exact wrowGo_fix f (k+1) h j (by omega) (by omega) hj
theorem nextM_len (m:List W64):(nextM m).length=64:=by simp[nextM]
theorem nextM_get (m:List W64) {i:Nat} (h:i < 64):(nextM m).getD i 0=wrowGo m 0 64 (m.getD i 0):=by simp[nextM,List.getD_eq_getElem?_getD,h]
structure OnM (m0 m:List W64):Prop where
 len:m.length=64
 le:∀ i,i < 64→SubW (m0.getD i 0) (m.getD i 0)
 ok:∀ i,i < 64→∀ k,k < 64→(m.getD i 0).getLsbD k=true→ComesM m0 i k
theorem OnM.start {m0:List W64} (h:m0.length=64):OnM m0 m0:=⟨h,fun i _=>SubW.refl _,fun i _ k hk hb=>.one hk hb⟩
theorem OnM.next {m0 m:List W64} (h:OnM m0 m):OnM m0 (nextM m):=by
 refine⟨nextM_len m,fun i hi=>?_,fun i hi k hk hb=>?_⟩
 ·rw[nextM_get m hi]
  exact(h.le i hi).trans (wrowGo_le m 64 0 _)
 ·rw[nextM_get m hi] at hb
  refine wrowGo_sound (P:=fun x=>x < 64∧ComesM m0 i x) (fun j hj x hx hb=>⟨hx,hj.2.trans (h.ok j hj.1 x hx hb)⟩) 64 0 _ (Nat.le_refl _) (fun x hx hb=>⟨hx,h.ok i hi x hx hb⟩) k hk hb |>.2
theorem OnM.done {m0 m:List W64} (h:OnM m0 m) (hf:nextM m=m) {i k:Nat} (hi:i < 64) (hk:k < 64):(m.getD i 0).getLsbD k=true ↔ ComesM m0 i k:=by
 refine⟨h.ok i hi k hk,fun hc=>?_⟩
 have hcl:∀ i,i < 64→∀ j,j < 64→(m.getD i 0).getLsbD j=true→SubW (m.getD j 0) (m.getD i 0):=fun i hi j hj hb=>by
  have:=nextM_get m hi
  rw[hf] at this
  exact wrowGo_fix 64 0 this.symm j (Nat.zero_le _) (by omega) hb
 revert hi
 induction hc with
 | one hk' hb=>exact fun hi=>h.le _ hi _ hk' hb
 | step hb hj t ih=>exact fun hi=>hcl _ hi _ hj (h.le _ hi _ hj hb) _ hk (ih hk hj)
def offM (m:List W64):Nat:=(m.map offW).sum
theorem offM_lt:∀ {m n:List W64},m.length=n.length→(∀ i,i < m.length→SubW (m.getD i 0) (n.getD i 0))→offM n≤offM m∧(offM m≤offM n→m=n)
 | [],[],_,_=>⟨Nat.le_refl _,fun _=>rfl⟩
 | [],_::_,h,_=>by simp at h
 | _::_,[],h,_=>by simp at h
 | a::m,b::n,h,hs=>by
  have h0:SubW a b:=by simpa using hs 0 (by simp)
  obtain⟨h1,h2⟩:=offW_le h0.and
  obtain⟨t1,t2⟩:=offM_lt (m:=m) (n:=n) (by simpa using h) fun i hi=>by simpa using hs (i+1) (by simpa using hi)
  simp only[offM,List.map_cons,List.sum_cons] at t1 t2 ⊢
  refine⟨by omega,fun hle=>?_⟩
  rw[h2 (by omega),t2 (by omega)]
theorem offM_next {m:List W64} (hl:m.length=64) (h:nextM m≠m):offM (nextM m) < offM m:=by
 have hs:=offM_lt (m:=m) (n:=nextM m) (by rw[hl,nextM_len]) fun i hi=>by
  rw[nextM_get m (by omega)]
  exact wrowGo_le m 64 0 _
 refine Nat.lt_of_le_of_ne hs.1 fun e=>h (hs.2 (by omega)).symm
def backW (m:List W64):W64:=(List.range 64).foldl (fun w i=>w ||| ((m.getD i 0) &&& bitW i)) 0
theorem back_fold (m:List W64):∀ (l:List Nat) (w:W64) {i:Nat},i < 64→(∀ k∈l,k < 64)→(l.foldl (fun w i=>w ||| ((m.getD i 0) &&& bitW i)) w).getLsbD i=(w.getLsbD i || (l.contains i && (m.getD i 0).getLsbD i))
 | [],w,i,hi,_=>by simp
 | k::l,w,i,hi,hl=>by
  rw[List.foldl_cons,back_fold m l _ hi fun k hk=>hl k (.tail _ hk),BitVec.getLsbD_or,BitVec.getLsbD_and,bitW_get hi,List.contains_cons]
  by_cases e:i=k
  ·subst e
   simp
   cases w.getLsbD i<;>cases (m.getD i 0).getLsbD i<;>simp
  ·have e':(i == k)=false:=by simpa using e
   rw[decide_eq_false e,e']
   simp
theorem backW_get (m:List W64) {i:Nat} (hi:i < 64):(backW m).getLsbD i=(m.getD i 0).getLsbD i:=by
 unfold backW
 rw[back_fold m _ _ hi fun k hk=>List.mem_range.1 hk]
 have:(List.range 64).contains i=true:=by simpa using hi
 rw[this]
 simp
def bitsOf (w:W64) (n:Nat):List Nat:=(List.range n).filter fun i=>w.getLsbD i
theorem bitsOf_succ (w:W64) (n:Nat):bitsOf w (n+1)=bitsOf w n++(bif w.getLsbD n then [n] else []):=by
 unfold bitsOf
 rw[List.range_succ,List.filter_append]
 cases h:w.getLsbD n<;>simp[h]
theorem bitsOf_len (w:W64) (n:Nat):(bitsOf w n).length≤n:=by
 unfold bitsOf
 have:=List.length_filter_le (fun i=>w.getLsbD i) (List.range n)
 simpa using this
section
variable {X:Ctx} {o:Oper} {F:Fr} {C:Bx} {I:GH} {M:List Blk} {K:KS}
theorem OtherOb.bytesS (hE:EOK X.P X.E) {x:Operand} {src dst e:Nat} (ho:o.op=.convert src dst x) (hd:∀ d,o.dst=some d→d < X.n)
  {ti ei di:TI} (ht:X.E src=some ti) (hts:ti.sh=.slice e) (he:X.E e=some ei) (hes:ei.sh=.int .u8) (hdt:X.E dst=some di) (hds:di.sh=.string)
  {ad:Addr} {n c:Nat} {l:List UInt8} (hx:ev F x=.val (.slice (some ad) n c)) (hn:l.length=n) (hrd:Rd I M ad n (l.map fun b=>.int .u8 b.toNat))
  (h:K (put o.dst (.val (.string ⟨l.toArray⟩)) F) C I M):OtherOb X o F C I M K:=by
 subst hn
 refine⟨fun a w Q ⟨β,hR⟩=>?_⟩
 obtain⟨hs,cs,T,fr,hk,hv,hl⟩:=hrd
 have hg:=hk.heap hR.holds
 obtain⟨d,hud,hdd⟩:=(hE _ _ ht).und
 have h1:d=.slice e:=by rw[hts] at hdd;cases d<;>simp_all[shOf]
 subst h1
 obtain⟨d2,hu2,hd2⟩:=(hE _ _ he).und
 have h2:d2=.int .u8:=by rw[hes] at hd2;cases d2<;>simp_all[shOf]
 subst h2
 obtain⟨d3,hu3,hd3⟩:=(hE _ _ hdt).und
 have h3:d3=.string:=by rw[hds] at hd3;cases d3<;>simp_all[shOf]
 subst h3
 have hc:∀ j (hj:j < l.length),w.cell? (ad.add j)=some (.int .u8 (l[j].toNat:Int)):=by
  intro j hj
  rw[addr_add ad hs,cell_of_block hg]
  have hj':(l.map fun b=>Value.int .u8 b.toNat)[j]?=some (.int .u8 (l[j].toNat:Int)):=by simp[hj]
  rw[←hv,List.getElem?_take,if_pos hj,List.getElem?_drop] at hj'
  simpa using hj'
 have ex:=eval_of_ev hR.fr hx
 refine done_vv hR hd (by rw[ho];simp) ?_ h
 unfold execOp
 simp only[ho,Sem.run_bind,Sem.run_pure,ex,run_convert_bytes_back w src dst e ad c l hud hu2 hu3 hc,Result.andThen_ok]
theorem eq2_run {P:Program} {t e:Nat} (ht:P.underlying t=some (.array 2 e)) {k:IntKind} (he:P.underlying e=some (.int k)) {inf:TypeInfo} (hi:P.info? e=some inf) (hs:inf.size=1) (a0 a1 b0 b1:Int) (w:World) :
  (Op.equal t (.agg #[.int k a0,.int k a1]) (.agg #[.int k b0,.int k b1])).run P w=.ok (a0 == b0 && a1 == b1) w:=by
 have hpart:∀ (xs:Array Value) (i:Nat) (v:Value) (w:World),xs[i]?=some v→(part e xs i).run P w=.ok v w:=fun xs i v w h=>by
  have hagg:(isAgg e).run P w=.ok false w:=by
   unfold isAgg
   simp[run_underlying he]
  unfold part
  simp[hagg,sizeOf,typeInfo,hi,hs,h]
 have hint:∀ (d:Nat) (x y:Int) (w:World),(Op.equalIn (d+1) e (.int k x) (.int k y)).run P w=.ok (x == y) w:=fun d x y w=>by
  simp[Op.equalIn,run_underlying he]
 have key:∀ m,(∀ (x y:Int) (w:World),(Op.equalIn m e (.int k x) (.int k y)).run P w=.ok (x == y) w)→(Op.equalIn (m+1) t (.agg #[.int k a0,.int k a1]) (.agg #[.int k b0,.int k b1])).run P w=.ok (a0 == b0 && a1 == b1) w:=fun m hint=>by
  rw[Op.equalIn]
  simp only[Sem.run_bind,run_underlying ht,Result.andThen_ok,sizeOf,typeInfo,hi,run_program,Sem.run_pure,hs]
  simp only[Std.Legacy.Range.forIn_eq_forIn_range']
  have hr:List.range' 0 ([:2]:Std.Legacy.Range).size=[0,1]:=by decide
  rw[hr]
  have pa:=fun (i:Nat) (v:Value) (w:World)=>hpart #[.int k a0,.int k a1] i v w
  have pb:=fun (i:Nat) (v:Value) (w:World)=>hpart #[.int k b0,.int k b1] i v w
  simp only[List.forIn_cons,List.forIn_nil,Sem.run_bind]
  rw[pa (0 * 1) (.int k a0) w rfl]
  simp only[Result.andThen_ok,Sem.run_bind]
  rw[pb (0 * 1) (.int k b0) w rfl]
  simp only[Result.andThen_ok,Sem.run_bind]
  rw[hint]
  simp only[Result.andThen_ok]
  cases (a0 == b0)
  ·simp
  simp only[Bool.not_true,Bool.false_eq_true,if_false,Sem.run_pure,Result.andThen_ok,Sem.run_bind]
  rw[pa (1 * 1) (.int k a1) w rfl]
  simp only[Result.andThen_ok,Sem.run_bind]
  rw[pb (1 * 1) (.int k b1) w rfl]
  simp only[Result.andThen_ok,Sem.run_bind]
  rw[hint]
  simp only[Result.andThen_ok]
  cases (a1 == b1)
  ·simp
  simp
 exact key 9999 (hint 9998)
theorem BinOb.eq2 {P:Program} {E:Env} (hE:EOK P E) {t e:Nat} {ti ei:TI} {x y:Operand} (ht:E t=some ti) (hts:ti.sh=.array 2 e) (he:E e=some ei) {k:IntKind} (hes:ei.sh=.int k)
  (hg:P.eqGuardType P.depth t=false) {a0 a1 b0 b1:Int} {V:Value→Prop} {other:Prop}
  (h:V (.bool (a0 == b0 && a1 == b1))):BinOb P .eql t x y (.val (.agg #[.int k a0,.int k a1])) (.val (.agg #[.int k b0,.int k b1])) V other:=by
 obtain⟨d,hud,hdd⟩:=(hE _ _ ht).und
 obtain⟨de,hue,hde⟩:=(hE _ _ he).und
 obtain⟨inf,z,hi,hi1,_⟩:=(hE _ _ he).inf
 have h1:d=.array 2 e:=by rw[hts] at hdd;cases d<;>simp_all[shOf]
 have h2:de=.int k:=by rw[hes] at hde;cases de<;>simp_all[shOf]
 subst h1
 subst h2
 have hs1:inf.size=1:=by rw[hi1];exact(hE _ _ he).sz1 (by rw[hes];rfl)
 refine .mk _ _ _ rfl rfl (fun w=>?_) h
 simp only[Sem.run_bind,run_eqGuard_agg (hm:=hg),Result.andThen_ok,binOp,eq2_run hud hue hi hs1,Sem.run_pure]
end
section
variable {X:Ctx} {F:Fr} {C:Bx} {I:GH} {M:List Blk} {o:Oper} {K:KS}
theorem OtherOb.bytesN (hE:EOK X.P X.E) {x:Operand} {src dst e:Nat} (ho:o.op=.convert src dst x) (hd:∀ d,o.dst=some d→d < X.n)
  {ti ei di:TI} (ht:X.E src=some ti) (hts:ti.sh=.slice e) (he:X.E e=some ei) (hes:ei.sh=.int .u8) (hdt:X.E dst=some di) (hds:di.sh=.string)
  {c:Nat} (hx:ev F x=.val (.slice none 0 c))
  (h:K (put o.dst (.val (.string ⟨#[]⟩)) F) C I M):OtherOb X o F C I M K:=by
 refine⟨fun a w Q ⟨β,hR⟩=>?_⟩
 obtain⟨d,hud,hdd⟩:=(hE _ _ ht).und
 have h1:d=.slice e:=by rw[hts] at hdd;cases d<;>simp_all[shOf]
 subst h1
 obtain⟨d2,hu2,hd2⟩:=(hE _ _ he).und
 have h2:d2=.int .u8:=by rw[hes] at hd2;cases d2<;>simp_all[shOf]
 subst h2
 obtain⟨d3,hu3,hd3⟩:=(hE _ _ hdt).und
 have h3:d3=.string:=by rw[hds] at hd3;cases d3<;>simp_all[shOf]
 subst h3
 have ex:=eval_of_ev hR.fr hx
 refine done_vv hR hd (by rw[ho];simp) ?_ h
 unfold execOp
 have hrun:(convert src dst (.slice none 0 c)).run X.P w=.ok (.string ⟨#[]⟩) w:=by
  rw[run_convert_bytes_string w src dst e none 0 c hud hu2 hu3]
  rfl
 simp only[ho,Sem.run_bind,Sem.run_pure,ex,hrun,Result.andThen_ok]
end
theorem CallOb.whole {foot:List Nat} {P:Program} {f:Nat} {args:List Value} {I:GH} {M:List Blk} {K:Value→GH→List Blk→Prop} (post:Value→GH→List Blk→Prop) (hs:Spec P f args I M post)
  (k:∀ v I' M',(∀ b o,I b=some o→I' b=some o)→post v I' M'→K v I' M'):CallOb foot P f args I M K:=
 .mk M [] post (by simp) hs fun v I' M' h1 h2=>by rw[List.append_nil];exact k v I' M' h1 h2
theorem PCallOb.whole {foot:List Nat} {P:Program} {f:Nat} {args:List Value} {I:GH} {M:List Blk} {K:Value→GH→List Blk→Prop} (post:Value→GH→List Blk→Prop) (hs:Spec P f args I M post) (keep:∀ v I' M',post v I' M'→∀ x∈M,x∈M')
  (k:∀ v I' M',(∀ b o,I b=some o→I' b=some o)→post v I' M'→K v I' M'):PCallOb foot P f args I M K:=
 .mkR M [] post (by simp) hs keep fun v I' M' h1 h2=>by rw[List.append_nil];exact k v I' M' h1 h2
section
variable {X:Ctx} {β:Nat→Nat} {a:Act} {w:World} {F:Fr} {C:Bx} {I:GH} {M:List Blk} {o:Oper} {K:KS}
theorem Wk.eqM {foot:List Nat} {I:GH} {M M':List Blk} (h:M=M'):Wk foot I M I M':=by
 subst h
 exact .refl
theorem OtherOb.wk (h:OtherOb X o F C I M fun F C I M=>∃ I' M',Wk X.foot I M I' M'∧K F C I' M'):OtherOb X o F C I M K:=by
 obtain⟨h⟩:=h
 refine⟨fun a w Q hR=>Oper.wpIn_mono ?_ (h a w Q hR)⟩
 rintro a' w' ⟨F',C',I',M',⟨β,hr⟩,I2,M2,hw,hk⟩
 exact⟨F',C',I2,M2,⟨β,hr.wk hw⟩,hk⟩
theorem OtherOb.app1 (hE:EOK X.P X.E) {s x:Operand} {t:Nat} (ho:o.op=.call { callee:=.builtin .append,args:=#[s,x],argTypes:=#[t,t] }) (hd:∀ d,o.dst=some d→d < X.n)
  {e:Nat} {ti ei:TI} (ht:X.E t=some ti) (hts:ti.sh=.slice e) (he:X.E e=some ei)
  (os:OS) {xs:List Value} (hok:os.ok ei.size xs) (hs:ev F s=.val os.val)
  {b9:Nat} {cs:List Value} {c':Nat} (hx:ev F x=.val (.slice (some ⟨b9,0,none⟩) 1 c')) (hl:cs.length=ei.size) (h1:allOne cs=true)
  (pre post:List Blk) (hM:M=⟨b9,.cells cs.toArray e (0,0)⟩::(pre++(os.blk e++post))) (b1:os.n+1≤9223372036854775807) (b2:(os.n+1) * ei.bytes≤140737488355328)
  (k:∀ os':OS,os'.n=os.n+1→(∀ g,os'.a=some g→I g=none)→os'.ok ei.size (xs++cs)→K (put o.dst (.val os'.val) F) C I (pre++(os'.blk e++post))):OtherOb X o F C I M K:=by
 refine .wk (.appendN hE ho hd ht hts he os hok hs (m:=1) (news:=cs) hx (by decide) ?_ h1 (Mr:=⟨b9,.cells cs.toArray e (0,0)⟩::(pre++post)) ?_ (by unfold maxLen;exact b1) b2 ?_)
 ·rw[Nat.one_mul]
  refine⟨rfl,_,_,_,.inr ⟨⟨b9,.cells cs.toArray e (0,0)⟩,by rw[hM];exact .head _,rfl,rfl⟩,?_,hl⟩
  simp only[List.drop_zero]
  exact List.take_of_length_le (by omega)
 ·rw[hM]
  have h2:(⟨b9,.cells cs.toArray e (0,0)⟩::(pre++(os.blk e++post)):List Blk).Perm (⟨b9,.cells cs.toArray e (0,0)⟩::(os.blk e++(pre++post))):=.cons _ (List.perm_append_comm_assoc _ _ _)
  exact h2.trans List.perm_middle.symm
 ·intro g c cur hI q1 q2 q3 q4
  refine⟨I,pre++((⟨some g,os.n+1,c,cur⟩:OS).blk e++post),.sub (M1:=⟨g,.cells cur.toArray e (0,0)⟩::(pre++post)) (.cons_cons _ (.cons _ (.refl _))) (.perm ?_ .refl),k ⟨some g,os.n+1,c,cur⟩ rfl (fun g' hg=>by cases hg;exact hI) ⟨?_,(fun h=>by cases h),fun g' hg=>?_⟩⟩
  ·exact List.perm_middle.symm
  ·rw[List.length_append,hok.len,hl,Nat.add_mul,Nat.one_mul]
  ·cases hg
   exact⟨q1,q2,q3,q4⟩
theorem OtherOb.appL (hE:EOK X.P X.E) {s x:Operand} {t:Nat} (ho:o.op=.call { callee:=.builtin .append,args:=#[s,x],argTypes:=#[t,t] }) (hd:∀ d,o.dst=some d→d < X.n)
  {e:Nat} {ti ei:TI} (ht:X.E t=some ti) (hts:ti.sh=.slice e) (he:X.E e=some ei)
  (os:OS) {xs:List Value} (hok:os.ok ei.size xs) (hs:ev F s=.val os.val)
  {sa:Option Addr} {m c':Nat} {news:List Value} (hx:ev F x=.val (.slice sa m c')) (hl:news.length=m * ei.size) (hn:0 < m→∃ ad,sa=some ad∧Rd I M ad (m * ei.size) news) (h1:allOne news=true)
  (pre post:List Blk) (hM:M=pre++(os.blk e++post)) (b1:os.n+m≤9223372036854775807) (b2:(os.n+m) * ei.bytes≤140737488355328)
  (k:∀ os':OS,os'.n=os.n+m→(0 < m→∀ g,os'.a=some g→I g=none)→os'.ok ei.size (xs++news)→K (put o.dst (.val os'.val) F) C I (pre++(os'.blk e++post))):OtherOb X o F C I M K:=by
 by_cases h0:m=0
 ·subst h0
  have hnil:news=[]:=List.eq_nil_of_length_eq_zero (by simpa using hl)
  subst hnil
  refine .append0 hE ho hd ht hts ht (fun k=>by rw[hts];simp) he (sa:=os.a.map fun g=>⟨g,0,none⟩) (n:=os.n) (c:=os.c) hs ?_ hx (.inl ⟨_,_,rfl⟩) ?_
  ·cases ha:os.a with
   | none=>obtain⟨q1,q2⟩:=hok.nil ha;omega
   | some g=>exact(hok.cap g ha).2.1
  ·have:=k os rfl (fun h=>by omega) (by rw[List.append_nil];exact hok)
   rw[hM]
   exact this
 obtain⟨ad,rfl,hrd⟩:=hn (by omega)
 refine .wk (.appendN hE ho hd ht hts he os hok hs (m:=m) (news:=news) hx (by omega) hrd h1 (Mr:=pre++post) ?_ (by unfold maxLen;exact b1) b2 ?_)
 ·rw[hM]
  exact(List.perm_append_comm_assoc _ _ _)
 ·intro g c cur hI q1 q2 q3 q4
  refine⟨I,pre++((⟨some g,os.n+m,c,cur⟩:OS).blk e++post),.perm ?_ .refl,k ⟨some g,os.n+m,c,cur⟩ rfl (fun _ g' hg=>by cases hg;exact hI) ⟨?_,(fun h=>by cases h),fun g' hg=>?_⟩⟩
  ·exact List.perm_middle.symm
  ·rw[List.length_append,hok.len,hl,Nat.add_mul]
  ·cases hg
   exact⟨q1,q2,q3,q4⟩
end
end Go.V
