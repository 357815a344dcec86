/-
  Part 7 of what the proofs of this seat share: the executor, data in memory, walks.
-/
import Derived.Test.YtellgkgedepkjaaGreatDoorK6
import Derived.Test.YtellgkgedepkjaaGreatDoorK4
import Derived.Test.YtellgkgedepkjaaGreatDoorK3
import Derived.Test.YtellgkgedepkjaaGreatDoorK5
import Derived.Lib.TrailingZeros
import Derived.Lib.SliceRun
set_option linter.all false
namespace Go.V
open Go Go.Proofs
theorem Zf7 {I:GH} {t:Tr} (ht:t.ok I) {W:Nat} (hf:Fit t W):Spec Tryz.prog 159 [t.val] I [] (fun v I' M'=>v=.int .i64 (Z2M t:Nat)∧I'=I∧M'=[]):=by
 refine Z01 [] Z00 Tryz.func159 rfl rfl rfl ?_;intro B h0;refine CallOb.mk [] [] _ (.refl _) (Z2i ht W hf.w hf.b) ?_;rintro v J N - ⟨rfl,hJ,rfl⟩;subst J
 refine CondOb.mk (fun h=>?_) (fun h=>?_)
 ·refine⟨_,_,.refl,?_,rfl,rfl⟩
  simp[Z2M,show right t=false by simpa using h]
 ·refine⟨_,_,.refl,?_,rfl,rfl⟩
  simp[Z2M,show right t=true by simpa using h]
set_option maxHeartbeats 1000000 in
theorem Zcv {I:GH} {t:Tr} (ht:t.ok I) {W:Nat} (hf:Fit t W):Spec Tryz.prog 160 [t.val] I [] (fun v I' M'=>v=.int .i64 (depth t)∧I'=I∧M'=[]):=by
 refine Z01 [] Z00 Tryz.func160 rfl rfl rfl ?_;intro B h0;have hn:=ht.n;have hcap:=ht.rs.cap;refine CallOb.mk [] [] _ (.refl _) (Z2i ht W hf.w hf.b) ?_;rintro v J N - ⟨rfl,hJ,rfl⟩;subst J
 refine CondOb.mk (fun h=>?_) (fun h=>?_)
 ·refine⟨_,_,.refl,?_,rfl,rfl⟩
  simp[depth,show right t=false by simpa using h]
 ·have hr:right t=true:=by simpa using h
  have hkids:=Z0j hr;obtain⟨g1,g2⟩:=Z0Q hr;refine MakeOb.mk t.n t.n rfl rfl (Nat.le_refl _) (by show 8 * t.n≤_;omega) (by omega) ?_
  refine AllocOb.mk fun b hb hbM=>?_
  refine LoopOb.inv (ι:=Nat×List Int)
   (fun x=>{ fl:=[(1,.ref 1 0),(3,.val (.slice (some ⟨b,0,none⟩) t.n t.n)),(4,.val (.int .i64 x.1))],cl:=[(1,t.cells)],gi:=I,mi:=[Z0v b x.2] })
   (fun x=>x.1≤t.n∧x.2.length=t.n∧(∀ j,0≤x.2.getD j 0∧x.2.getD j 0≤x.1)∧(∀ j,x.1≤j->x.2.getD j 0=0)∧Z0H 0 t.ns (List.replicate t.ns.length 0)=Z0H x.1 (t.ns.drop x.1) x.2) (fun x=>t.n - x.1) ?_ ?_
  ·have z:∀ j,(List.replicate t.n (0:Int)).getD j 0=0:=fun j=>by
    by_cases hj:j < t.n<;>simp[List.getD_eq_getElem?_getD,hj]
   refine⟨(0,List.replicate t.n 0),⟨by omega,by simp,fun j=>by rw[z];simp,fun j _=>z j,by simp[hn]⟩,?_,aF3,.cons rfl .nil⟩
   show Wk _ _ [⟨b,.cells (Z15 [Value.int .i64 0] (t.n * 1)).toArray 3 (0,0)⟩] _ [Z0v b (List.replicate t.n 0)]
   rw[Z1W,Nat.mul_one];simp only[Z0v,List.map_replicate]
   exact .refl
  ·rintro⟨i,dp⟩ ⟨hi1,hi2,hi3,hi4,hi5⟩
   simp only at hi1 hi2 hi3 hi4 hi5;refine CondOb.mk (fun h=>?_) (fun h=>?_)
   ·have hlt:i < t.n:=by simpa using h
    have hlt':i < t.ns.length:=by omega
    obtain⟨ad,had,hrd⟩:=ht.rs.row Nd.cells_len hlt hlt';have hdk:=ht.ns t.ns[i] (List.getElem_mem hlt');have hkn:=hdk.kn
    have hdrop:t.ns.drop i=t.ns[i]::t.ns.drop (i+1):=List.drop_eq_getElem_cons hlt'
    have hrk8:∀ M,Rd I M ((ad.add (i * 9)).add 8) 1 [.slice t.ns[i].ka t.ns[i].kn t.ns[i].kc]:=fun M=>(hrd M).part (k:=8) (m:=1) (by decide)
    refine LoopOb.inv (ι:=Nat×Int)
     (fun x=>{ fl:=[(1,.ref 1 0),(3,.val (.slice (some ⟨b,0,none⟩) t.n t.n)),(4,.val (.int .i64 i)),(5,.val (.int .i64 x.1))],cl:=[(1,t.cells)],gi:=I,mi:=[Z0v b (dp.set i x.2)] })
     (fun x=>x.1≤t.ns[i].kn∧0≤x.2∧x.2≤i∧Z5I dp t.ns[i].kids 0=Z5I dp (t.ns[i].kids.drop x.1) x.2) (fun x=>t.ns[i].kn - x.1) ?_ ?_
    ·refine⟨(0,0),⟨by omega,by omega,by simp,rfl⟩,?_,aF4,.cons rfl .nil⟩
     have e:dp.set i 0=dp:=by
      have h1:=hi4 i (Nat.le_refl _);rw[List.getD_eq_getElem?_getD] at h1
      apply List.ext_getElem?
      intro j;rw[List.getElem?_set]
      split
      ·rename_i e
       subst e
       have:i < dp.length:=by omega
       simp[this] at h1 ⊢;exact h1.symm
      ·rfl
     simp only;rw[e];exact .refl
    ·rintro⟨j,m⟩ ⟨hj1,hj2,hj3,hj4⟩
     simp only at hj1 hj2 hj3 hj4;refine IdxOb.mk ad i had rfl hlt ?_;refine LoadOb.mk _ (hrk8 _) ?_;refine CondOb.mk (fun h=>?_) (fun h=>?_)
     ·have hjl:j < t.ns[i].kn:=by simpa using h
      have hjl':j < t.ns[i].kids.length:=by omega
      obtain⟨ak,hak,hrk⟩:=hdk.rs.one hjl hjl';have hkd:t.ns[i].kids.drop j=t.ns[i].kids[j]::t.ns[i].kids.drop (j+1):=List.drop_eq_getElem_cons hjl';have hk:=hkids i hlt' t.ns[i].kids[j] (List.getElem_mem hjl')
      have hk0:t.ns[i].kids[j]=((t.ns[i].kids[j].toNat:Nat):Int):=by omega
      have hkl:t.ns[i].kids[j].toNat < t.n:=by omega
      refine CodeOb.draw Z00 rfl rfl rfl ?_
      have hil:i < (dp.set i m).length:=by simp;omega
      have hkl':t.ns[i].kids[j].toNat < (dp.set i m).length:=by simp;omega
      have hii:(dp.set i m)[i]=m:=by simp
      have hkk:(dp.set i m)[t.ns[i].kids[j].toNat]=dp.getD t.ns[i].kids[j].toNat 0:=by
       have hne:i≠t.ns[i].kids[j].toNat:=by omega
       have h9:t.ns[i].kids[j].toNat < dp.length:=by omega
       rw[List.getElem_set,if_neg hne];simp[List.getD_eq_getElem?_getD,h9]
      refine IdxOb.mk ⟨b,0,none⟩ i rfl rfl hlt ?_;refine LoadOb.mk [.int .i64 m] (Z1z hil hii (by simp)) ?_;refine IdxOb.mk ad i had rfl hlt ?_;refine LoadOb.mk _ (hrk8 _) ?_;refine IdxOb.mk ak j hak rfl hjl ?_;refine LoadOb.mk [.int .i64 t.ns[i].kids[j]] (hrk _) ?_;refine IdxOb.mk ⟨b,0,none⟩ t.ns[i].kids[j].toNat rfl hk0 hkl ?_;refine LoadOb.mk [.int .i64 (dp.getD t.ns[i].kids[j].toNat 0)] (Z1z hkl' hkk (by simp)) ?_;refine IdxOb.mk ⟨b,0,none⟩ i rfl rfl hlt ?_;refine StoreOb.add [] [] _ 3 rfl ?_ rfl ?_
      ·simp only[List.size_toArray,List.length_map]
       show 0+i * 1+1≤_
       simp;omega
      have hwr:IntKind.i64.wrap ((j:Int)+1)=((j+1:Nat):Int):=by
       rw[Z08 ⟨by omega,by have:=hdk.rs.cap;omega⟩];omega
      refine ArithOb.mk _ hwr ?_;have h3k:=hi3 t.ns[i].kids[j].toNat;refine⟨(j+1,max m (dp.getD t.ns[i].kids[j].toNat 0)),⟨⟨by omega,by simp only;omega,by simp only;omega,?_⟩,by show _ < _;simp only;omega⟩,?_,aF4,.cons rfl .nil⟩
      ·simp only
       rw[hj4,hkd];rfl
      ·have e:=Z2h (dp.set i m) i hil (max m (dp.getD t.ns[i].kids[j].toNat 0))
       simp only[Z0v];rw[List.set_set] at e
       rw[←e];simp only[Nat.zero_add,Nat.mul_one]
       exact .refl
     ·have hjl:¬ j < t.ns[i].kn:=by simpa using h
      have hje:t.ns[i].kids.drop j=[]:=List.drop_eq_nil_of_le (by omega)
      have hm:Z5I dp t.ns[i].kids 0=m:=by rw[hj4,hje];rfl
      have hil:i < (dp.set i m).length:=by simp;omega
      have hii:(dp.set i m)[i]=m:=by simp
      have hwm:IntKind.i64.wrap (m+1)=m+1:=Z08 ⟨by omega,by omega⟩
      have hwr:IntKind.i64.wrap ((i:Int)+1)=((i+1:Nat):Int):=by
       rw[Z08 ⟨by omega,by omega⟩];omega
      refine IdxOb.mk ⟨b,0,none⟩ i rfl rfl hlt ?_;refine LoadOb.mk [.int .i64 m] (Z1z hil hii (by simp)) ?_;refine ArithOb.mk _ hwm ?_;refine IdxOb.mk ⟨b,0,none⟩ i rfl rfl hlt ?_;refine StoreOb.add [] [] _ 3 rfl ?_ rfl ?_
      ·simp only[List.size_toArray,List.length_map]
       show 0+i * 1+1≤_
       omega
      refine ArithOb.mk _ hwr ?_;refine⟨(i+1,dp.set i (m+1)),⟨⟨by omega,by simp[hi2],?_,?_,?_⟩,by show _ < _;simp only;omega⟩,?_,aF3,.cons rfl .nil⟩
      ·intro q
       have h3q:=hi3 q;simp only[List.getD_eq_getElem?_getD,List.getElem?_set] at h3q ⊢
       split
       ·rename_i e
        subst e
        have:i < dp.length:=by omega
        simp[this];omega
       ·omega
      ·intro q hq
       have h4q:=hi4 q (by omega);simp only at hq
       simp only[List.getD_eq_getElem?_getD,List.getElem?_set] at h4q ⊢;rw[if_neg (by omega)]
       exact h4q
      ·simp only
       rw[hi5,hdrop];simp only[Z0H,hm]
      ·have e:=Z2h (dp.set i m) i hil (m+1)
       simp only[Z0v];rw[List.set_set] at e
       rw[←e];simp only[Nat.zero_add,Nat.mul_one]
       exact .refl
   ·have hge:¬ i < t.n:=by simpa using h
    have hdn:t.ns.drop i=[]:=List.drop_eq_nil_of_le (by omega)
    have hall:Z0H 0 t.ns (List.replicate t.ns.length 0)=dp:=by rw[hi5,hdn];rfl
    have hr0:t.root=((t.root.toNat:Nat):Int):=by omega
    have hrl:t.root.toNat < dp.length:=by omega
    refine IdxOb.mk ⟨b,0,none⟩ t.root.toNat rfl hr0 (by omega) ?_;refine LoadOb.mk [.int .i64 dp[t.root.toNat]] (Z1z hrl rfl (by simp)) ?_;refine⟨_,_,.sub (List.nil_sublist _) .refl,?_,rfl,rfl⟩
    have:depth t=dp[t.root.toNat]:=by
     unfold depth;rw[hr,hall];simp[List.getD_eq_getElem?_getD,hrl]
    rw[this];rfl
theorem Z8S {I:GH} {t:Tr} (ht:t.ok I) {W:Nat} (hf:Fit t W):Spec Tryz.prog 127 [t.val] I [] (fun v I' M'=>v=.bool (Z0o t)∧I'=I∧M'=[]):=by
 refine Z01 [] Z00 Tryz.func127 rfl rfl rfl ?_;intro B h0;refine CallOb.mk [] [] _ (.refl _) (Z2i ht W hf.w hf.b) ?_;rintro v J N - ⟨rfl,hJ,rfl⟩;subst J
 refine GuardOb.mk (fun h1=>?_) (fun h1=>?_)
 ·refine GuardOb.mk (fun h2=>?_) (fun h2=>?_)
  ·refine CallOb.mk [] [] _ (.refl _) (Zcv ht hf) ?_
   rintro v J N - ⟨rfl,hJ,rfl⟩;subst J
   refine⟨_,_,.refl,?_,rfl,rfl⟩
   have h2':t.n≤1024:=by simp at h2;omega
   simp[Z0o,h1,h2']
  ·refine⟨_,_,.refl,?_,rfl,rfl⟩
   have h2':¬ t.n≤1024:=by simp at h2;omega
   simp[Z0o,h2']
 ·refine⟨_,_,.refl,?_,rfl,rfl⟩
  have h1':right t=false:=h1;simp[Z0o,h1']
def Z1r (kd kk:Int):Bool:=(decide (kd=4) && (decide (kk=4) || decide (kk=0))) || (decide (kd=5) && decide (kk=5))
def Z4s (ns:List Nd):List Nd->Bool
 | []=>true
 | d::ds=>(d.kids.all fun k=>!Z1r d.k (Z0m ns k)) && Z4s ns ds
theorem Z4t (ns:List Nd) (kd:Int) (h:kd=4∨kd=5):∀ ks,Z0y ns kd ks=ks.all fun k=>!Z1r kd (Z0m ns k)
 | []=>rfl
 | k::ks=>by
  rw[Z0y,List.all_cons,Z4t ns kd h ks]
  have e:(decide (Z0m ns k=kd) || (decide (Z0m ns k=0) && decide (kd=4)))=Z1r kd (Z0m ns k):=by
   unfold Z1r
   rcases h with rfl | rfl
   ·simp
   ·simp
  rw[e]
  cases Z1r kd (Z0m ns k)<;>rfl
theorem Z8T (ns:List Nd):∀ ds,Z0l ns ds=Z4s ns ds
 | []=>rfl
 | d::ds=>by
  rw[Z0l,Z4s,Z8T ns ds]
  by_cases h4:d.k=4
  ·rw[Z4t ns d.k (.inl h4)]
   simp only[h4,decide_true,Bool.not_true,Bool.false_and,cond_false]
   cases (d.kids.all fun k=>!Z1r 4 (Z0m ns k))<;>rfl
  ·by_cases h5:d.k=5
   ·rw[Z4t ns d.k (.inr h5)]
    simp only[h5,decide_true,Bool.not_true,Bool.and_false,cond_false]
    cases (d.kids.all fun k=>!Z1r 5 (Z0m ns k))<;>rfl
   ·have e:(d.kids.all fun k=>!Z1r d.k (Z0m ns k))=true:=by
     rw[List.all_eq_true];intro k _
     simp[Z1r,h4,h5]
    rw[e];simp[h4,h5]
set_option maxHeartbeats 1000000 in
theorem Zb4 {I:GH} {t:Tr} (ht:t.ok I) {W:Nat} (hf:Fit t W):Spec Tryz.prog 125 [t.val] I [] (fun v I' M'=>v=.bool (normal t)∧I'=I∧M'=[]):=by
 refine Z01 [] Z00 Tryz.func125 rfl rfl rfl ?_;intro B h0;have hn:=ht.n;have hcap:=ht.rs.cap;refine CallOb.mk [] [] _ (.refl _) (Z2i ht W hf.w hf.b) ?_;rintro v J N - ⟨rfl,hJ,rfl⟩;subst J
 refine CondOb.mk (fun h=>?_) (fun h=>?_)
 ·refine⟨_,_,.refl,?_,rfl,rfl⟩
  simp[normal,show right t=false by simpa using h]
 have hr:right t=true:=by simpa using h
 have hno:normal t=Z4s t.ns t.ns:=by simp[normal,hr,Z8T]
 refine LoopOb.inv (ι:=Nat) (fun i=>{ fl:=[(1,.ref 1 0),(3,.val (.int .i64 i))],cl:=[(1,t.cells)],gi:=I }) (fun i=>i≤t.n∧Z4s t.ns t.ns=Z4s t.ns (t.ns.drop i)) (fun i=>t.n - i) ?_ ?_
 ·exact⟨0,⟨by simp,rfl⟩,.refl,aF2,.cons rfl .nil⟩
 rintro i ⟨hi,hin⟩;refine CondOb.mk (fun h=>?_) (fun h=>?_)
 ·have hlt:i < t.n:=by simpa using h
  have hlt':i < t.ns.length:=by omega
  obtain⟨ad,had,hrd⟩:=ht.rs.row Nd.cells_len hlt hlt';have hdk:=ht.ns t.ns[i] (List.getElem_mem hlt');have hkn:=hdk.kn
  have hdrop:t.ns.drop i=t.ns[i]::t.ns.drop (i+1):=List.drop_eq_getElem_cons hlt';have hkids:=Z0j hr i hlt';generalize hd:t.ns[i]=d at hrd hdk hkn hdrop hkids;rw[hdrop,Z4s] at hin;refine IdxOb.mk ad i had rfl hlt ?_;refine LoadOb.mk _ (hrd _) ?_
  refine LoopOb.inv (ι:=Nat) (fun j=>{ fl:=[(1,.ref 1 0),(3,.val (.int .i64 i)),(4,.ref 4 0),(5,.val (.int .i64 j))],cl:=[(1,t.cells),(4,d.cells)],gi:=I })
   (fun j=>j≤d.kn∧(d.kids.all fun k=>!Z1r d.k (Z0m t.ns k))=((d.kids.drop j).all fun k=>!Z1r d.k (Z0m t.ns k))) (fun j=>d.kn - j) ?_ ?_
  ·exact⟨0,⟨by simp,rfl⟩,.refl,aF4,.cons rfl (.cons rfl .nil)⟩
  rintro j ⟨hj,hjn⟩;refine CondOb.mk (fun h=>?_) (fun h=>?_)
  ·have hjl:j < d.kn:=by simpa using h
   have hjl':j < d.kids.length:=by omega
   obtain⟨ak,hak,hrk⟩:=hdk.rs.one hjl hjl';have hkd:d.kids.drop j=d.kids[j]::d.kids.drop (j+1):=List.drop_eq_getElem_cons hjl';have hkk:=hkids _ (List.getElem_mem hjl');generalize hkv:d.kids[j]=kv at hrk hkd hkk
   obtain⟨q,rfl⟩:=Int.eq_ofNat_of_zero_le hkk.1
   have hql:q < t.ns.length:=by omega
   have hql':q < t.n:=by omega
   obtain⟨aq,haq,hrq0⟩:=ht.rs.row Nd.cells_len hql' hql
   have hrq:∀ M,Rd I M ((aq.add (q * 9)).add 0) 1 [.int .u8 t.ns[q].k]:=fun M=>(hrq0 M).part (k:=0) (m:=1) (by decide)
   have hkat:Z0m t.ns ((q:Nat):Int)=t.ns[q].k:=by simp[Z0m,List.getD_eq_getElem?_getD,hql]
   rw[hkd,List.all_cons,hkat] at hjn
   have bad:Z1r d.k t.ns[q].k=true->normal t=false:=fun hb=>by
    rw[hno,hin,hjn,hb];rfl
   have good:Z1r d.k t.ns[q].k=false->(d.kids.all fun k=>!Z1r d.k (Z0m t.ns k))=((d.kids.drop (j+1)).all fun k=>!Z1r d.k (Z0m t.ns k)):=fun hb=>by
    rw[hjn,hb];rfl
   have hwr:=Z03 (i:=j) (by have:=hdk.rs.cap;omega);refine CodeOb.draw Z00 rfl rfl rfl ?_
   refine IdxOb.mk ak j hak rfl hjl ?_;refine LoadOb.mk _ (hrk _) ?_;refine IdxOb.mk aq q haq rfl hql' ?_;refine LoadOb.mk _ (hrq _) ?_;refine GuardOb.mk (fun c1=>?_) (fun c1=>?_)
   ·have d4:d.k=4:=by simpa using c1
    refine GuardOb.mk (fun c2=>?_) (fun c2=>?_)
    ·refine GuardOb.mk (fun c3=>?_) (fun c3=>?_)
     ·refine GuardOb.mk (fun c4=>?_) (fun _=>?_)
      ·exfalso
       simp at c4;omega
      refine ArithOb.mk _ hwr ?_;exact⟨j+1,⟨⟨by omega,good (by simp at c2 c3;simp[Z1r,d4,c2,c3])⟩,by omega⟩,.refl,aF4,.cons rfl (.cons rfl .nil)⟩
     ·exact⟨_,_,.refl,congrArg Value.bool (bad (by simp at c3;simp[Z1r,d4,c3])).symm,rfl,rfl⟩
    ·exact⟨_,_,.refl,congrArg Value.bool (bad (by simp at c2;simp[Z1r,d4,c2])).symm,rfl,rfl⟩
   ·have d4:d.k≠4:=by simpa using c1
    refine GuardOb.mk (fun c4=>?_) (fun c4=>?_)
    ·have d5:d.k=5:=by simpa using c4
     refine CondOb.mk (fun c5=>?_) (fun c5=>?_)
     ·exact⟨_,_,.refl,congrArg Value.bool (bad (by simp at c5;simp[Z1r,d5,c5])).symm,rfl,rfl⟩
     ·refine ArithOb.mk _ hwr ?_
      exact⟨j+1,⟨⟨by omega,good (by simp at c5;simp[Z1r,d5,c5])⟩,by omega⟩,.refl,aF4,.cons rfl (.cons rfl .nil)⟩
    ·have d5:d.k≠5:=by simpa using c4
     refine ArithOb.mk _ hwr ?_;exact⟨j+1,⟨⟨by omega,good (by simp[Z1r,d4,d5])⟩,by omega⟩,.refl,aF4,.cons rfl (.cons rfl .nil)⟩
  ·have hje:d.kids.drop j=[]:=List.drop_eq_nil_of_le (by simp at h;omega)
   refine ArithOb.mk _ (Z03 (i:=i) (by omega)) ?_;refine⟨i+1,⟨⟨by omega,?_⟩,by omega⟩,.refl,aF2,.cons rfl .nil⟩;rw[hin,hjn,hje]
   rfl
 ·have hge:t.n≤i:=by simpa using h
  have hdn:t.ns.drop i=[]:=List.drop_eq_nil_of_le (by omega);refine⟨_,_,.refl,?_,rfl,rfl⟩
  rw[hno,hin,hdn];rfl
theorem Zcw {I:GH} (a b:Int):Spec Tryz.prog 237 [.int .u8 a,.int .u8 b] I [] fun r I' M'=>r=.bool (Z0p a b)∧I'=I∧M'=[]:=by
 refine Z01 [] Z00 Tryz.func237 rfl rfl rfl ?_;intro B h0
 repeat' first
  | refine CondOb.mk (fun h=>?_) (fun h=>?_)
  | refine GuardOb.mk (fun h=>?_) (fun h=>?_)
 all_goals (first | (exfalso;simp at *;omega;done) | refine⟨_,_,.refl,?_,rfl,rfl⟩)
 all_goals (simp only[decide_eq_true_eq,decide_eq_false_iff_not,Bool.not_true,Bool.not_false] at *;simp_all[Z0p])
set_option maxHeartbeats 1000000 in
theorem Zcx {I:GH} (lo:Nat) (hi:Int) (hlo:lo≤99) (hhi:hi=-1∨((lo:Int)≤hi∧hi≤99)):Spec Tryz.prog 240 [.int .i64 lo,.int .i64 hi] I [] fun r I' M'=>r=.string (Z0f (Z1n lo hi))∧I'=I∧M'=[]:=by
 have hd:=Z3l lo;have hd2:=Z3l hi.toNat;refine Z01 [] Z00 Tryz.func240 rfl rfl rfl ?_;intro B h0
 have hA:2≤lo->Z1n lo (-1)=[123]++dig lo++[44,125]:=fun h=>by
  have e1:decide ((0:Int)=lo)=false:=decide_eq_false (by omega);have e2:decide ((1:Int)=lo)=false:=decide_eq_false (by omega)
  have e3:decide ((-1:Int)=lo)=false:=decide_eq_false (by omega);simp[Z1n,ZfT,e1,e2,e3]
 have hB:Z1n lo lo=[123]++dig lo++[125]:=by
  have e1:(decide ((0:Int)=lo) && decide ((1:Int)=lo))=false:=by
   rw[Bool.and_eq_false_iff]
   by_cases h:(0:Int)=lo
   ·exact .inr (decide_eq_false (by omega))
   ·exact .inl (decide_eq_false h)
  have e3:decide ((-1:Int)=lo)=false:=decide_eq_false (by omega);unfold Z1n ZfT
  rw[e1,e3];simp
 have hC:∀ h:Nat,lo < h->¬ (lo=0∧h=1)->Z1n lo (h:Int)=[123]++dig lo++[44]++dig h++[125]:=fun h h1 h2=>by
  have e1:(decide ((0:Int)=lo) && decide ((1:Int)=h))=false:=by
   rw[Bool.and_eq_false_iff]
   by_cases h:(0:Int)=lo
   ·exact .inr (decide_eq_false (by omega))
   ·exact .inl (decide_eq_false h)
  have e3:decide ((-1:Int)=h)=false:=decide_eq_false (by omega);have e4:decide ((h:Int)=lo)=false:=decide_eq_false (by omega)
  have e5:decide ((h:Int)=-1)=false:=decide_eq_false (by omega);unfold Z1n ZfT
  rw[e1,e3,e4,e5];simp
 rcases hhi with rfl | ⟨h1,h2⟩
 ·rcases(by omega:lo=0∨lo=1∨2≤lo) with rfl | rfl | hlo2
  ·repeat' first
    | refine CondOb.mk (fun h=>?_) (fun h=>?_)
    | refine GuardOb.mk (fun h=>?_) (fun h=>?_)
   all_goals (try (exfalso;simp at *;done))
   all_goals exact⟨_,_,.refl,rfl,rfl,rfl⟩
  ·repeat' first
    | refine CondOb.mk (fun h=>?_) (fun h=>?_)
    | refine GuardOb.mk (fun h=>?_) (fun h=>?_)
   all_goals (try (exfalso;simp at *;done))
   all_goals exact⟨_,_,.refl,rfl,rfl,rfl⟩
  ·have e:=hA hlo2
   clear hA hB hC
   repeat' first
    | refine CondOb.mk (fun h=>?_) (fun h=>?_)
    | refine GuardOb.mk (fun h=>?_) (fun h=>?_)
   all_goals (try (exfalso;simp at *;done))
   all_goals (try (exfalso;simp at *;omega;done))
   refine CallOb.mk [] [] _ (.refl _) (Z3W lo (by omega)) ?_;rintro v J N - ⟨rfl,rfl,rfl⟩;refine BinOb.concatL (a:=[123]) (b:=dig lo) (by simp;omega) ?_
   refine BinOb.concatL (b:=[44,125]) (by simp;omega) ?_;exact⟨_,_,.refl,by rw[e],rfl,rfl⟩
 ·obtain⟨w,rfl⟩:=Int.eq_ofNat_of_zero_le (show 0≤hi by omega)
  rcases(by omega:(lo=0∧w=1)∨lo=w∨(lo < w∧¬ (lo=0∧w=1))) with ⟨rfl,rfl⟩ | rfl | ⟨k1,k2⟩
  ·clear hA hB hC
   repeat' first
    | refine CondOb.mk (fun h=>?_) (fun h=>?_)
    | refine GuardOb.mk (fun h=>?_) (fun h=>?_)
   all_goals (try (exfalso;simp at *;done))
   all_goals exact⟨_,_,.refl,rfl,rfl,rfl⟩
  ·clear hA hC
   repeat' first
    | refine CondOb.mk (fun h=>?_) (fun h=>?_)
    | refine GuardOb.mk (fun h=>?_) (fun h=>?_)
   all_goals (try (exfalso;simp at *;done))
   all_goals (try (exfalso;simp at *;omega;done))
   all_goals
    refine CallOb.mk [] [] _ (.refl _) (Z3W lo (by omega)) ?_;rintro v J N - ⟨rfl,rfl,rfl⟩;refine BinOb.concatL (a:=[123]) (b:=dig lo) (by simp;omega) ?_
    refine BinOb.concatL (b:=[125]) (by simp;omega) ?_;exact⟨_,_,.refl,by rw[hB],rfl,rfl⟩
  ·have e:=hC w k1 k2
   clear hA hB hC
   repeat' first
    | refine CondOb.mk (fun h=>?_) (fun h=>?_)
    | refine GuardOb.mk (fun h=>?_) (fun h=>?_)
   all_goals (try (exfalso;simp at *;done))
   all_goals (try (exfalso;simp at *;omega;done))
   all_goals
    have hd3:(dig w).length≤2:=Z3l w;refine CallOb.mk [] [] _ (.refl _) (Z3W lo (by omega)) ?_;rintro v J N - ⟨rfl,rfl,rfl⟩;refine BinOb.concatL (a:=[123]) (b:=dig lo) (by simp;omega) ?_
    refine BinOb.concatL (b:=[44]) (by simp;omega) ?_;refine CallOb.mk [] [] _ (.refl _) (Z3W w (by omega)) ?_;rintro v J N - ⟨rfl,rfl,rfl⟩;refine BinOb.concatL (b:=dig w) (by simp;omega) ?_
    refine BinOb.concatL (b:=[125]) (by simp;omega) ?_;exact⟨_,_,.refl,by rw[e],rfl,rfl⟩
structure FitsMore (d:Nd) (n:Int):Prop where
 z:d.k=0->d.t=⟨#[]⟩
 leaf:d.k≤3->n=0
 one:6≤d.k->n=1
 two:d.k=4∨d.k=5->2≤n
set_option maxHeartbeats 1000000 in
theorem Z3C {d:Nd} {n:Int} (h0:0≤d.k) (h:Z31 d n=true):FitsMore d n:=by
 have hs:=(Z2T h).k
 have hk:d.k=0∨d.k=1∨d.k=2∨d.k=3∨d.k=4∨d.k=5∨d.k=6∨d.k=7∨d.k=8∨d.k=9:=by omega
 have hcl:∀ j:Fin 10,Z9g j.val=countsL.getD (j.val * 2) 0∧Z6P j.val=countsL.getD (j.val * 2+1) 0:=by decide
 unfold Z31 at h
 rcases hk with e | e | e | e | e | e | e | e | e | e<;>rw[e] at h<;>simp[Z9g,Z6P,countsL] at h <;>
  refine⟨fun q=>?_,fun q=>?_,fun q=>?_,fun q=>?_⟩<;>first | (omega;done) | (exact h.2.2.1;done) | (exact h.2.1;done) | (simp_all;done)
def Z5W (sep:List UInt8):List (List UInt8)->List UInt8
 | []=>[]
 | x::xs=>x++xs.flatMap fun y=>sep++y
theorem Z8U (sep:List UInt8) (f:Int->List UInt8):∀ ks,Z3n sep f true ks=(ks.map f).flatMap fun y=>sep++y
 | []=>rfl
 | k::ks=>by
  rw[Z3n,Z8U sep f ks];simp
theorem ZhE (sep:List UInt8) (f:Int->List UInt8) (ks:List Int):Z3n sep f false ks=Z5W sep (ks.map f):=by
 cases ks with
 | nil=>rfl
 | cons k ks=>
  rw[Z3n,Z8U];simp[Z5W]
theorem Zb5 (sep:List UInt8) (L:List (List UInt8)) (h:L≠[]) (y:List UInt8):Z5W sep (L++[y])=Z5W sep L++sep++y:=by
 cases L with
 | nil=>exact absurd rfl h
 | cons x xs=>simp[Z5W]
def Z4Z (deb:List Int) (d:Nd) (L:List (List UInt8)):List UInt8:=
 bif decide (d.k=0) then [34,34] else
 bif decide (d.k=1) then Z3f deb d.s0 d.s1 d.s2 d.s3 else
 bif decide (d.k=2) then Zis d.t else
 bif decide (d.k=3) then d.t.data.toList else
 bif decide (d.k=7) then [38]++L.headD [] else
 bif decide (d.k=8) then [33]++L.headD [] else
 bif decide (d.k=6) then L.headD []++Z1n d.lo.toNat d.hi else
 bif decide (d.k=9) then [60]++d.t.data.toList++[58,32]++L.headD []++[62] else
 Z5W (bif decide (d.k=5) then [32,47,32] else [32]) L
set_option maxHeartbeats 1000000 in
theorem ZdW (deb:List Int) (ns:List Nd) {d:Nd} (h0:0≤d.k) (h:Z31 d d.kids.length=true) (g:Int->List UInt8):Z9i deb ns d g=Z4Z deb d (d.kids.map fun k=>Z3g (Z0p d.k (Z0m ns k)) (g k)):=by
 have hs:=(Z2T h).k;have hm:=Z3C h0 h
 have hk:d.k=0∨d.k=1∨d.k=2∨d.k=3∨d.k=4∨d.k=5∨d.k=6∨d.k=7∨d.k=8∨d.k=9:=by omega
 unfold Z9i Z4Z;rw[ZhE];generalize hL:(d.kids.map fun k=>Z3g (Z0p d.k (Z0m ns k)) (g k))=L
 have hll:L.length=d.kids.length:=by rw[←hL];simp
 have s0:sgn 2=[]∧sgn 3=[]∧sgn 5=[]∧sgn 8=[]∧sgn 11=[]∧sgn 12=[]∧sgn 13=[32]∧sgn 14=[]∧sgn 15=[]∧sgn 16=[32,47,32]∧sgn 17=[]∧sgn 18=[]∧sgn 21=[38]∧sgn 23=[]∧sgn 24=[33]∧sgn 26=[]∧sgn 27=[60]∧sgn 29=[62]:=by decide
 obtain⟨z2,z3,z5,z8,z11,z12,z13,z14,z15,z16,z17,z18,z21,z23,z24,z26,z27,z29⟩:=s0
 have nil:d.k≤3->L=[]:=fun q=>List.eq_nil_of_length_eq_zero (by have:=hm.leaf q;omega)
 have one:6≤d.k->∃ x,L=[x]:=fun q=>by
  have:=hm.one q
  match L,hll with
  | [x],_=>exact⟨x,rfl⟩
  | [],hll=>simp at hll;omega
  | _::_::_,hll=>simp at hll;omega
 rcases hk with e | e | e | e | e | e | e | e | e | e
 ·rw[nil (by omega)]
  simp[Z1b,Z0D,Z3o,Z5W,e,z2,hm.z e,Zis]
 ·rw[nil (by omega)]
  simp[Z1b,Z0D,Z3o,Z5W,e,z5]
 ·rw[nil (by omega)]
  simp[Z1b,Z0D,Z3o,Z5W,e,z8]
 ·rw[nil (by omega)]
  simp[Z1b,Z0D,Z3o,Z5W,e,z11]
 ·simp[Z1b,Z0D,Z3o,e,z12,z13,z14]
 ·simp[Z1b,Z0D,Z3o,e,z15,z16,z17]
 ·obtain⟨x,rfl⟩:=one (by omega)
  simp[Z1b,Z0D,Z3o,Z5W,e,z18]
 ·obtain⟨x,rfl⟩:=one (by omega)
  simp[Z1b,Z0D,Z3o,Z5W,e,z21,z23]
 ·obtain⟨x,rfl⟩:=one (by omega)
  simp[Z1b,Z0D,Z3o,Z5W,e,z24,z26]
 ·obtain⟨x,rfl⟩:=one (by omega)
  simp[Z1b,Z0D,Z3o,Z5W,e,z27,z29]
def Z9N (deb:List Int):Prop:=∀ a b c d:Int,(∀ x∈[a,b,c,d],Z0G x)->Z8R (Z3A (Z8f [a,b,c,d]) 256)=Z3f deb a b c d
def Znk (l:List UInt8):List Value:=[.string (Z0f l)]
def Zmu (L:List (List UInt8)):List Value:=L.flatMap Znk
theorem Zb6 (L:List (List UInt8)) (x:List UInt8):Zmu (L++[x])=Zmu L++[.string (Z0f x)]:=by simp[Zmu,Znk]
theorem Zjw (L:List (List UInt8)):(Zmu L).length=L.length:=by
 have:=Z0i Znk 1 (fun _=>rfl) L
 simpa[Zmu] using this
theorem BinOb.concatR {P:Program} {t:Nat} {x y:Operand} {a:List UInt8} {b:ByteArray} (hs:a.length+b.size≤9223372036854775807) {V:Value->Prop} {other:Prop} (h:V (.string (Z0f (a++b.data.toList)))):BinOb P .add t x y (.val (.string (Z0f a))) (.val (.string b)) V other:=
 BinOb.concat (a:=Z0f a) (b:=b) hs (by rw[←Zaf,Z5g] at h;exact h)
theorem Zb7 {sep:List UInt8} {f:Int->List UInt8}:∀ {ks:List Int} {b:Bool} {k:Int},k∈ks->(f k).length≤(Z3n sep f b ks).length
 | k0::ks,b,k,h=>by
  unfold Z3n;simp only[List.length_append]
  rcases List.mem_cons.1 h with rfl | h
  ·omega
  ·have:=Zb7 (sep:=sep) (f:=f) (b:=true) h
   omega
theorem Zb8 (sep:List UInt8) (L:List (List UInt8)) (i:Nat):(Z5W sep (L.take i)).length≤(Z5W sep L).length:=by
 cases L with
 | nil=>simp
 | cons x xs=>
  cases i with
  | zero=>simp[Z5W]
  | succ i=>
   rw[List.take_succ_cons,Z5W,Z5W,List.length_append,List.length_append]
   have:((xs.take i).flatMap fun y=>sep++y).length≤(xs.flatMap fun y=>sep++y).length:=by
    conv=>rhs;rw[←List.take_append_drop i xs,List.flatMap_append,List.length_append]
    omega
   omega
theorem Z6v {L:List (List UInt8)} (h:0 < L.length):L.headD []=L[0]:=by
 cases L with
 | nil=>simp at h
 | cons x xs=>rfl
set_option maxRecDepth 100000 in
set_option maxHeartbeats 8000000 in
theorem Z8V {I:GH} {deb:List Int} (hcl:Z9N deb) {t:Tr} (ht:t.ok I) (hr:right t=true) (hk:∀ d∈t.ns,d.kn≤1099511627776):∀ (m j:Nat),j < m->∀ (hj:j < t.ns.length),(Z0s deb t.ns j).length≤1152921504606846976 ->
  Spec Tryz.prog 215 [t.val,.int .i64 j] I [] fun r I' M'=>r=.string (Z0f (Z0s deb t.ns j))∧I'=I∧M'=[]
 | 0,j,h,_,_=>absurd h (Nat.not_lt_zero _)
 | m+1,j,hjm,hj,hlen=>by
  have ih:=Z8V (I:=I) hcl ht hr hk m;have htn:=ht.n;have hdm:t.ns[j]∈t.ns:=List.getElem_mem hj;have hdk:=ht.ns t.ns[j] hdm;have hkn:=hdk.kn;have hkW:=hk _ hdm;have hkids:=Z0j hr j hj;have hfit:=Z1A hr hj;have hfs:=Z2T hfit;have hfm:=Z3C hdk.k.1 hfit
  have hj':j < t.n:=by omega
  obtain⟨ad,had,hrd⟩:=ht.rs.row Nd.cells_len hj' hj
  have htx:Z0s deb t.ns j=Z4Z deb t.ns[j] (t.ns[j].kids.map fun k=>Z3g (Z0p t.ns[j].k (Z0m t.ns k)) (Z0s deb t.ns k)):=by
   rw[Z3p hr hj,ZdW deb t.ns hdk.k.1 hfit]
  have hkl:∀ k∈t.ns[j].kids,(Z3g (Z0p t.ns[j].k (Z0m t.ns k)) (Z0s deb t.ns k)).length≤1152921504606846976:=fun k hkm=>by
   refine Nat.le_trans ?_ hlen;rw[Z3p hr hj,Z9i];have:=Zb7 (sep:=Z3o t.ns[j]) (f:=fun k=>Z3g (Z0p t.ns[j].k (Z0m t.ns k)) (Z0s deb t.ns k)) (b:=false) hkm
   simp only[List.length_append] at this ⊢;omega
  generalize hd:t.ns[j]=d at *;generalize hF:(fun k:Int=>Z3g (Z0p d.k (Z0m t.ns k)) (Z0s deb t.ns k))=F at *
  have hFk:∀ k,F k=Z3g (Z0p d.k (Z0m t.ns k)) (Z0s deb t.ns k):=fun k=>by rw[←hF]
  refine Z01 [] Z00 Tryz.func215 rfl rfl rfl ?_;intro B h0;refine IdxOb.mk ad j had rfl hj' ?_;refine LoadOb.mk _ (hrd _) ?_
  refine LoopOb.inv (ι:=Nat×OS) (fun x=>{ fl:=[(2,.ref 2 0),(5,.ref 5 0),(6,.val x.2.val),(7,.val (.int .i64 x.1))],cl:=[(2,t.cells),(5,d.cells)],gi:=I,mi:=x.2.blk 9 })
   (fun x=>x.1≤d.kn∧x.2.ok 1 (Zmu ((d.kids.take x.1).map F))) (fun x=>d.kn - x.1) ?_ ?_
  ·exact⟨(0,OS0),⟨Nat.zero_le _,Z1C 1⟩,.refl,aF4,.cons rfl (.cons rfl .nil)⟩
  rintro⟨i,os⟩ ⟨hi,hos⟩;simp only at hi hos
  have hon:os.n=i:=by
   have:=hos.len;rw[Zjw,List.length_map,List.length_take_of_le (by omega)] at this;omega
  refine CondOb.mk (fun h=>?_) (fun h=>?_)
  ·have hlt:i < d.kn:=by simpa using h
   have hil:i < d.kids.length:=by omega
   obtain⟨ak,hak,hrk⟩:=hdk.rs.one hlt hil;have hkm:d.kids[i]∈d.kids:=List.getElem_mem hil;have hkk:=hkids _ hkm;have hkb:=hkl _ hkm
   have etk:(d.kids.take (i+1)).map F=(d.kids.take i).map F++[F d.kids[i]]:=by
    rw[List.take_succ_eq_append_getElem hil,List.map_append];rfl
   generalize hkv:d.kids[i]=kv at *;obtain⟨q,rfl⟩:=Int.eq_ofNat_of_zero_le hkk.1
   have hql:q < t.ns.length:=by omega
   have hql':q < t.n:=by omega
   obtain⟨aq,haq,hrq0⟩:=ht.rs.row Nd.cells_len hql' hql
   have hrq:∀ M,Rd I M ((aq.add (q * 9)).add 0) 1 [.int .u8 t.ns[q].k]:=fun M=>(hrq0 M).part (k:=0) (m:=1) (by decide)
   have hkat:Z0m t.ns ((q:Nat):Int)=t.ns[q].k:=by simp[Z0m,List.getD_eq_getElem?_getD,hql]
   have hpl:(Z0s deb t.ns q).length≤1152921504606846976:=by
    rw[Z3g] at hkb;simp only[List.length_append] at hkb;omega
   refine CodeOb.draw Z00 rfl rfl rfl ?_;refine IdxOb.mk ak i hak rfl hlt ?_;refine LoadOb.mk _ (hrk _) ?_;refine CallOb.mk [] (os.blk 9) _ (.refl _) (ih q (by omega) hql hpl) ?_;rintro v J N - ⟨rfl,hJ,rfl⟩;subst J
   refine CodeOb.draw Z00 rfl rfl rfl ?_;refine IdxOb.mk ak i hak rfl hlt ?_;refine LoadOb.mk _ (hrk _) ?_;refine IdxOb.mk aq q haq rfl hql' ?_;refine LoadOb.mk _ (hrq _) ?_;refine CallOb.mk [] (os.blk 9) _ (.refl _) (Zcw d.k t.ns[q].k) ?_;rintro v J N - ⟨rfl,hJ,rfl⟩;subst J
   have hFq:=hFk q;rw[hkat] at hFq;refine CondOb.mk (fun h2=>?_) (fun h2=>?_)
   ·have hFe:F q=[40]++Z0s deb t.ns q++[41]:=by rw[hFq,h2];rfl
    refine BinOb.concatL (a:=[40]) (by simp only[List.length_cons,List.length_nil];omega) ?_;refine BinOb.concatL (b:=[41]) (by simp only[List.length_append,List.length_cons,List.length_nil];omega) ?_
    refine AllocOb.mk fun b9 hb9 hbM9=>?_
    refine OtherOb.appendN Z00 rfl (by simp) (e:=9) rfl rfl rfl os hos rfl (m:=1) rfl (news:=[.string (Z0f ([40]++Z0s deb t.ns q++[41]))]) (by decide) (Z0d (b:=b9) (cs:=[.string (Z0f ([40]++Z0s deb t.ns q++[41]))]) (k:=0) (n:=1) (T:=9) (.head _) (by simp)) rfl (Mr:=[⟨b9,.cells #[.string (Z0f ([40]++Z0s deb t.ns q++[41]))] 9 (0,0)⟩]) (List.perm_append_comm (l₁:=[_])) (by simp only[maxLen];omega) (by show (os.n+1) * 16≤_;omega) ?_;intro g' c' cur' q0 q1 q2 q3 q4;refine ArithOb.mk _ (Z03 (i:=i) (by omega)) ?_;refine⟨(i+1,⟨some g',os.n+1,c',cur'⟩),⟨⟨by simp only;omega,?_⟩,by simp only;omega⟩,.sub (List.Sublist.cons_cons _ (List.nil_sublist _)) .refl,aF4,.cons rfl (.cons rfl .nil)⟩;simp only
    rw[etk,hFe,Zb6];exact Z5k hos q1 q2 q3 q4
   ·have hFe:F q=Z0s deb t.ns q:=by rw[hFq,h2];simp[Z3g]
    refine AllocOb.mk fun b9 hb9 hbM9=>?_
    refine OtherOb.appendN Z00 rfl (by simp) (e:=9) rfl rfl rfl os hos rfl (m:=1) rfl (news:=[.string (Z0f (Z0s deb t.ns q))]) (by decide) (Z0d (b:=b9) (cs:=[.string (Z0f (Z0s deb t.ns q))]) (k:=0) (n:=1) (T:=9) (.head _) (by simp)) rfl (Mr:=[⟨b9,.cells #[.string (Z0f (Z0s deb t.ns q))] 9 (0,0)⟩]) (List.perm_append_comm (l₁:=[_])) (by simp only[maxLen];omega) (by show (os.n+1) * 16≤_;omega) ?_;intro g' c' cur' q0 q1 q2 q3 q4;refine ArithOb.mk _ (Z03 (i:=i) (by omega)) ?_;refine⟨(i+1,⟨some g',os.n+1,c',cur'⟩),⟨⟨by simp only;omega,?_⟩,by simp only;omega⟩,.sub (List.Sublist.cons_cons _ (List.nil_sublist _)) .refl,aF4,.cons rfl (.cons rfl .nil)⟩;simp only
    rw[etk,hFe,Zb6];exact Z5k hos q1 q2 q3 q4
  ·have hie:i=d.kn:=by simp at h;omega
   have etk:(d.kids.take i).map F=d.kids.map F:=by rw[List.take_of_length_le (by omega)]
   rw[etk] at hos;generalize hL:d.kids.map F=L at *
   have hLl:L.length=d.kn:=by rw[←hL];simp;omega
   have row:∀ {i:Nat} (hi:i < L.length),∃ ad,(os.a.map fun g=>(⟨g,0,none⟩:Addr))=some ad∧Rd I (os.blk 9) (ad.add (i * 1)) 1 (Znk L[i]):=fun {i} hi=>OS.ok.row (I:=I) (M:=os.blk 9) (f:=Znk) (fun _=>rfl) (by decide) hos (e:=9) (fun y hy=>hy) hi
   have hLk:∀ x∈L,x.length≤1152921504606846976:=fun x hx=>by
    rw[←hL] at hx;obtain⟨k,hkm,rfl⟩:=List.mem_map.1 hx;rw[hFk];exact hkl k hkm
   have hone:6≤d.k->0 < L.length∧L.headD []=L.headD []:=fun h6=>⟨by have:=hfm.one h6;omega,rfl⟩
   refine CondOb.mk (fun c0=>?_) (fun c0=>?_)
   ·exact⟨_,_,.sub (List.nil_sublist _) .refl,by rw[htx,Z4Z,c0];rfl,rfl,rfl⟩
   refine CondOb.mk (fun c1=>?_) (fun c1=>?_)
   ·have hws:∀ x∈[d.s0,d.s1,d.s2,d.s3],Z0G x:=by
     intro x hx;simp only[List.mem_cons,List.not_mem_nil,or_false] at hx
     rcases hx with rfl | rfl | rfl | rfl
     ·exact hdk.s0
     ·exact hdk.s1
     ·exact hdk.s2
     ·exact hdk.s3
    have hsp:=Zcu (I:=I) hws;rw[hcl _ _ _ _ hws] at hsp;refine CallOb.mk [] (os.blk 9) _ (.refl _) hsp ?_;rintro v J N - ⟨rfl,hJ,rfl⟩;subst J
    exact⟨_,_,.sub (List.nil_sublist _) .refl,by rw[htx,Z4Z,c0,c1];rfl,rfl,rfl⟩
   refine CondOb.mk (fun c2=>?_) (fun c2=>?_)
   ·refine CallOb.mk [] (os.blk 9) _ (.refl _) (Z9M d.t (by have:=hfs.t;omega)) ?_
    rintro v J N - ⟨rfl,hJ,rfl⟩;subst J
    exact⟨_,_,.sub (List.nil_sublist _) .refl,by rw[htx,Z4Z,c0,c1,c2];rfl,rfl,rfl⟩
   refine CondOb.mk (fun c3=>?_) (fun c3=>?_)
   ·exact⟨_,_,.sub (List.nil_sublist _) .refl,by rw[htx,Z4Z,c0,c1,c2,c3];exact congrArg Value.string (Z5g d.t).symm,rfl,rfl⟩
   refine CondOb.mk (fun c7=>?_) (fun c7=>?_)
   ·have hL0:0 < L.length:=(hone (by simp at c7;omega)).1
    have hb0:=hLk _ (List.getElem_mem hL0);obtain⟨a0,ha0,hr0⟩:=row (i:=0) hL0
    refine IdxOb.mk a0 0 ha0 rfl (show 0 < os.n by omega) ?_;refine LoadOb.mk _ (hr0.sub fun y hy=>hy) ?_;refine BinOb.concatL (a:=[38]) (by simp only[List.length_cons,List.length_nil];omega) ?_;exact⟨_,_,.sub (List.nil_sublist _) .refl,by rw[htx,Z4Z,c0,c1,c2,c3,c7,Z6v hL0];rfl,rfl,rfl⟩
   refine CondOb.mk (fun c8=>?_) (fun c8=>?_)
   ·have hL0:0 < L.length:=(hone (by simp at c8;omega)).1
    have hb0:=hLk _ (List.getElem_mem hL0);obtain⟨a0,ha0,hr0⟩:=row (i:=0) hL0
    refine IdxOb.mk a0 0 ha0 rfl (show 0 < os.n by omega) ?_;refine LoadOb.mk _ (hr0.sub fun y hy=>hy) ?_;refine BinOb.concatL (a:=[33]) (by simp only[List.length_cons,List.length_nil];omega) ?_;exact⟨_,_,.sub (List.nil_sublist _) .refl,by rw[htx,Z4Z,c0,c1,c2,c3,c7,c8,Z6v hL0];rfl,rfl,rfl⟩
   refine CondOb.mk (fun c6=>?_) (fun c6=>?_)
   ·have k6:d.k=6:=by simpa using c6
    have hL0:0 < L.length:=(hone (by omega)).1;have hb0:=hLk _ (List.getElem_mem hL0);have hrep:=hfs.rep k6
    have hlo:((d.lo.toNat:Nat):Int)=d.lo:=by omega
    have hsp:=Zcx (I:=I) d.lo.toNat d.hi (by omega) (by omega);rw[hlo] at hsp
    have hcb:=Z8x d.lo.toNat d.hi;refine CodeOb.draw Z00 rfl rfl rfl ?_;obtain⟨a0,ha0,hr0⟩:=row (i:=0) hL0;refine IdxOb.mk a0 0 ha0 rfl (show 0 < os.n by omega) ?_;refine LoadOb.mk _ (hr0.sub fun y hy=>hy) ?_;refine PCallOb.mk _ hsp ?_;rintro v J N - ⟨rfl,hJ,rfl⟩;subst J
    refine BinOb.concatL (a:=L[0]) (by omega) ?_;exact⟨_,_,.sub (List.nil_sublist _) .refl,by rw[htx,Z4Z,c0,c1,c2,c3,c7,c8,c6,Z6v hL0];rfl,rfl,rfl⟩
   refine CondOb.mk (fun c9=>?_) (fun c9=>?_)
   ·have k9:d.k=9:=by simpa using c9
    have hL0:0 < L.length:=(hone (by omega)).1;have hb0:=hLk _ (List.getElem_mem hL0);have hts:=hfs.t
    have htl:d.t.data.toList.length=d.t.size:=rfl;refine CodeOb.draw Z00 rfl rfl rfl ?_;refine BinOb.concatR (a:=[60]) (by simp only[List.length_cons,List.length_nil];omega) ?_;refine BinOb.concatL (b:=[58,32]) (by simp only[List.length_append,List.length_cons,List.length_nil];omega) ?_;obtain⟨a0,ha0,hr0⟩:=row (i:=0) hL0;refine IdxOb.mk a0 0 ha0 rfl (show 0 < os.n by omega) ?_;refine LoadOb.mk _ (hr0.sub fun y hy=>hy) ?_;refine BinOb.concatL (b:=L[0]) (by simp only[List.length_append,List.length_cons,List.length_nil];omega) ?_;refine BinOb.concatL (b:=[62]) (by simp only[List.length_append,List.length_cons,List.length_nil];omega) ?_;exact⟨_,_,.sub (List.nil_sublist _) .refl,by rw[htx,Z4Z,c0,c1,c2,c3,c7,c8,c6,c9,Z6v hL0];rfl,rfl,rfl⟩
   have hL0:0 < L.length:=by
    have:d.k=4∨d.k=5:=by
     have h1:=hfs.k;have h2:=hdk.k.1;simp at c0 c1 c2 c3 c7 c8 c6 c9;omega
    have:=hfm.two this;omega
   have hcat:∀ sep,(bif decide (d.k=5) then [32,47,32] else [32])=sep->Z0s deb t.ns j=Z5W sep L:=fun sep hsep=>by
    rw[htx,Z4Z,c0,c1,c2,c3,c7,c8,c6,c9,hsep];rfl
   refine CondOb.mk (fun c5=>?_) (fun c5=>?_)
   ·have htL:=hcat [32,47,32] (by rw[c5];rfl)
    obtain⟨a0,ha0,hr0⟩:=row (i:=0) hL0;refine IdxOb.mk a0 0 ha0 rfl (show 0 < os.n by omega) ?_;refine LoadOb.mk _ (hr0.sub fun y hy=>hy) ?_;refine LoopOb.inv (ι:=Nat×List UInt8) (fun x=>{ fl:=[(6,.val os.val),(9,.val (.string (Z0f [32,47,32]))),(10,.val (.string (Z0f x.2))),(11,.val (.int .i64 x.1))],gi:=I,mi:=os.blk 9 }) (fun x=>1≤x.1∧x.1≤os.n∧x.2=Z5W [32,47,32] (L.take x.1)) (fun x=>os.n - x.1) ?_ ?_
    ·refine⟨(1,L[0]),⟨Nat.le_refl _,by simp only;omega,?_⟩,.refl,aF4,.nil⟩
     simp only;rw[List.take_succ_eq_append_getElem hL0];simp[Z5W]
    rintro⟨i,w⟩ ⟨hi1,hi2,hw⟩;simp only at hi1 hi2 hw
    have hwl:=Zb8 [32,47,32] L i;have hcl:=hlen;rw[htL] at hcl;rw[←hw] at hwl;refine CondOb.mk (fun h=>?_) (fun h=>?_)
    ·have hlt:i < os.n:=by simpa using h
     have hil:i < L.length:=by omega
     have hb:=hLk _ (List.getElem_mem hil);obtain⟨ai,hai,hri⟩:=row hil
     have hne:L.take i≠[]:=by
      intro h;have:=congrArg List.length h;rw[List.length_take_of_le (by omega)] at this;simp at this;omega
     have hst:=Zb5 [32,47,32] (L.take i) hne L[i];rw[←List.take_succ_eq_append_getElem hil,←hw] at hst
     refine BinOb.concatL (a:=w) (by simp only[List.length_cons,List.length_nil];omega) ?_;refine IdxOb.mk ai i hai rfl hlt ?_;refine LoadOb.mk _ (hri.sub fun y hy=>hy) ?_;refine BinOb.concatL (b:=L[i]) (by simp only[List.length_append,List.length_cons,List.length_nil];omega) ?_;refine ArithOb.mk _ (Z03 (i:=i) (by omega)) ?_;refine⟨(i+1,_),⟨⟨by simp only;omega,hlt,?_⟩,by simp only;omega⟩,.refl,aF4,.nil⟩;exact hst.symm
    ·have hie2:i=L.length:=by simp at h;omega
     rw[List.take_of_length_le (by omega)] at hw;exact⟨_,_,.sub (List.nil_sublist _) .refl,by rw[htL,hw],rfl,rfl⟩
   ·have htL:=hcat [32] (by rw[c5];rfl)
    obtain⟨a0,ha0,hr0⟩:=row (i:=0) hL0;refine IdxOb.mk a0 0 ha0 rfl (show 0 < os.n by omega) ?_;refine LoadOb.mk _ (hr0.sub fun y hy=>hy) ?_;refine LoopOb.inv (ι:=Nat×List UInt8) (fun x=>{ fl:=[(6,.val os.val),(9,.val (.string (Z0f [32]))),(10,.val (.string (Z0f x.2))),(11,.val (.int .i64 x.1))],gi:=I,mi:=os.blk 9 }) (fun x=>1≤x.1∧x.1≤os.n∧x.2=Z5W [32] (L.take x.1)) (fun x=>os.n - x.1) ?_ ?_
    ·refine⟨(1,L[0]),⟨Nat.le_refl _,by simp only;omega,?_⟩,.refl,aF4,.nil⟩
     simp only;rw[List.take_succ_eq_append_getElem hL0];simp[Z5W]
    rintro⟨i,w⟩ ⟨hi1,hi2,hw⟩;simp only at hi1 hi2 hw
    have hwl:=Zb8 [32] L i;have hcl:=hlen;rw[htL] at hcl;rw[←hw] at hwl;refine CondOb.mk (fun h=>?_) (fun h=>?_)
    ·have hlt:i < os.n:=by simpa using h
     have hil:i < L.length:=by omega
     have hb:=hLk _ (List.getElem_mem hil);obtain⟨ai,hai,hri⟩:=row hil
     have hne:L.take i≠[]:=by
      intro h;have:=congrArg List.length h;rw[List.length_take_of_le (by omega)] at this;simp at this;omega
     have hst:=Zb5 [32] (L.take i) hne L[i];rw[←List.take_succ_eq_append_getElem hil,←hw] at hst
     refine BinOb.concatL (a:=w) (by simp only[List.length_cons,List.length_nil];omega) ?_;refine IdxOb.mk ai i hai rfl hlt ?_;refine LoadOb.mk _ (hri.sub fun y hy=>hy) ?_;refine BinOb.concatL (b:=L[i]) (by simp only[List.length_append,List.length_cons,List.length_nil];omega) ?_;refine ArithOb.mk _ (Z03 (i:=i) (by omega)) ?_;refine⟨(i+1,_),⟨⟨by simp only;omega,hlt,?_⟩,by simp only;omega⟩,.refl,aF4,.nil⟩;exact hst.symm
    ·have hie2:i=L.length:=by simp at h;omega
     rw[List.take_of_length_le (by omega)] at hw;exact⟨_,_,.sub (List.nil_sublist _) .refl,by rw[htL,hw],rfl,rfl⟩
theorem ZhF (lo:Nat) (hi:Int):Z1n lo hi≠[]:=by
 unfold Z1n ZfT
 cases (decide ((0:Int)=lo) && decide (1=hi))<;>cases (decide ((0:Int)=lo) && decide (-1=hi))<;>cases (decide ((1:Int)=lo) && decide (-1=hi))<;>cases decide (hi=lo)<;>cases decide (hi=-1)<;>simp
theorem ZhG (deb:List Int) (a b c d:Int):Z3f deb a b c d≠[]:=by
 unfold Z3f
 cases (a == Z3i 0 && (b == Z3i 0 && (c == Z3i 0 && d == Z3i 0)))<;>simp
theorem Zf8 {d:Nd} {n:Int} (h:Z31 d n=true) (h3:d.k=3):d.t≠⟨#[]⟩:=by
 unfold Z31 at h;rw[h3] at h;simp[Z9g,Z6P,countsL,Z0u] at h;intro e;simp[e] at h
theorem Zjx (deb:List Int) {d:Nd} (h0:0≤d.k) (h:Z31 d d.kids.length=true) {L:List (List UInt8)} (hL:L.length=d.kids.length):Z4Z deb d L≠[]:=by
 have hs:=(Z2T h).k;have hm:=Z3C h0 h
 have hk:d.k=0∨d.k=1∨d.k=2∨d.k=3∨d.k=4∨d.k=5∨d.k=6∨d.k=7∨d.k=8∨d.k=9:=by omega
 have two:d.k=4∨d.k=5->∃ x y zs,L=x::y::zs:=fun q=>by
  have:=hm.two q
  match L,hL with
  | x::y::zs,_=>exact⟨x,y,zs,rfl⟩
  | [],hL=>simp at hL;omega
  | [_],hL=>simp at hL;omega
 unfold Z4Z
 rcases hk with e | e | e | e | e | e | e | e | e | e
 ·simp[e]
 ·simp only[e,decide_true,cond_true]
  exact ZhG deb d.s0 d.s1 d.s2 d.s3
 ·simp[e,Zis]
 ·have:=Zf8 h e
  simp[e];intro q
  exact this (ByteArray.ext (by simpa using q))
 ·obtain⟨x,y,zs,rfl⟩:=two (.inl e)
  simp[e,Z5W]
 ·obtain⟨x,y,zs,rfl⟩:=two (.inr e)
  simp[e,Z5W]
 ·have:=ZhF d.lo.toNat d.hi
  simp[e,this]
 ·simp[e]
 ·simp[e]
 ·simp[e]
theorem Zjy (deb:List Int) {I:GH} {t:Tr} (ht:t.ok I) (hr:right t=true):Z1E deb t≠[]:=by
 obtain⟨g1,g2⟩:=Z0Q hr;obtain⟨r,hr'⟩:=Int.eq_ofNat_of_zero_le g1
 have hrl:r < t.ns.length:=by omega
 have hfit:=Z1A hr hrl;have h0:=(ht.ns _ (List.getElem_mem hrl)).k.1;rw[Z1E,hr,cond_true,hr',Z3p hr hrl,ZdW deb t.ns h0 hfit];exact Zjx deb h0 hfit (by simp)
theorem Zf9 {I:GH} {deb:List Int} (hcl:Z9N deb) {t:Tr} (ht:t.ok I) {W:Nat} (hf:Fit t W) (hW:W≤1099511627776):Spec Tryz.prog 194 [t.val] I [] fun r I' M'=>r=.string (Z0f (Z1E deb t))∧I'=I∧M'=[]:=by
 refine Z01 [] Z00 Tryz.func194 rfl rfl rfl ?_;intro B h0;refine CallOb.mk [] [] _ (.refl _) (Z2i ht W hf.w hf.b) ?_;rintro v J N - ⟨rfl,hJ,rfl⟩;subst J
 refine CondOb.mk (fun h=>?_) (fun h=>?_)
 ·have hr:right t=false:=by simpa using h
  exact⟨_,_,.refl,by rw[Z1E,hr];rfl,rfl,rfl⟩
 ·have hr:right t=true:=by simpa using h
  obtain⟨g1,g2⟩:=Z0Q hr;obtain⟨r,hr'⟩:=Int.eq_ofNat_of_zero_le g1;have hn:=hf.n;have htn:=ht.n;have hlen:=Z4G deb t;have hsp:=Z8V hcl ht hr (fun d hd=>by have:=hf.w d hd;omega) (r+1) r (by omega) (by omega) (by rw[Z1E,hr,cond_true,hr'] at hlen;omega);rw[←hr'] at hsp
  refine CallOb.mk [] [] _ (.refl _) hsp ?_;rintro v J N - ⟨rfl,hJ,rfl⟩;subst J
  exact⟨_,_,.refl,by rw[Z1E,hr];rfl,rfl,rfl⟩
theorem Z9O (l:List UInt8):decide (Z0f l=⟨#[]⟩)=decide (l=[]):=by
 congr 1
 rw[eq_iff_iff]
 constructor
 ·intro h
  have:=congrArg (fun b:ByteArray=>b.data.toList) h
  simpa[Z0f] using this
 ·rintro rfl
  rfl
theorem ZhH {I:GH} {deb:List Int} (hcl:Z9N deb) {d:Df} (hd:d.ok I) {W:Nat} (hf:Fit d.t W) (hW:W≤1099511627776):Spec Tryz.prog 161 [d.val] I [] fun r I' M'=>r=.string (Z0f (Z8a deb d))∧I'=I∧M'=[]:=by
 refine Z01 [] Z00 Tryz.func161 rfl rfl rfl ?_;intro B h0;refine CallOb.mk [] [] _ (.refl _) (Z7b I d.name) ?_;rintro v J N - ⟨rfl,hJ,rfl⟩;subst J
 refine GuardOb.mk (fun h1=>?_) (fun h1=>?_)
 ·have hm:Z0u d.name=true:=by simpa using h1
  refine CallOb.mk [] [] _ (.refl _) (Z2i hd.t W hf.w hf.b) ?_;rintro v J N - ⟨rfl,hJ,rfl⟩;subst J
  refine CondOb.mk (fun h2=>?_) (fun h2=>?_)
  ·have hr:right d.t=false:=by simpa using h2
   exact⟨_,_,.refl,by rw[Z8a,Z1E,hr];rfl,rfl,rfl⟩
  ·have hr:right d.t=true:=by simpa using h2
   have hne:=Zjy deb hd.t hr;have hl:=Z4G deb d.t;have hn:=hf.n;have htn:=hd.t.n;have hml:=Z4j hm;have hnl:d.name.data.toList.length=d.name.size:=rfl;refine CodeOb.draw Z00 rfl rfl rfl ?_;refine BinOb.concat (a:=d.name) (b:=Z0f [32,60,45,32]) (by show _+4≤_;omega) ?_;refine PCallOb.mk _ (Zf9 hcl hd.t hf hW) ?_;rintro v J N - ⟨rfl,hJ,rfl⟩;subst J
   refine BinOb.concat (a:=d.name++Z0f [32,60,45,32]) (b:=Z0f (Z1E deb d.t)) (by rw[ByteArray.size_append];show _+4+(Z1E deb d.t).length≤_;omega) ?_;refine BinOb.concat (a:=d.name++Z0f [32,60,45,32]++Z0f (Z1E deb d.t)) (b:=Z0f [10]) (by rw[ByteArray.size_append,ByteArray.size_append];show _+4+(Z1E deb d.t).length+1≤_;omega) ?_;refine⟨_,_,.refl,congrArg Value.string (Z2B ?_),rfl,rfl⟩;rw[Z8a,Z9O,decide_eq_false hne,hm]
   simp[Z0f]
 ·have hm:Z0u d.name=false:=by simpa using h1
  exact⟨_,_,.refl,by rw[Z8a,hm,Bool.not_false,Bool.or_true];rfl,rfl,rfl⟩
theorem Z50 {I:GH} {deb:List Int} (hcl:Z9N deb) {g:Gr} (hg:g.ok I) (hn:g.n≤64) {W:Nat} (hf:∀ d∈g.ds,Fit d.t W∧d.t.n≤1024) (hW:W≤1099511627776):Spec Tryz.prog 128 [g.val] I [] fun r I' M'=>r=.string (Z0f (Z1F deb g.ds []))∧I'=I∧M'=[]:=by
 refine Z01 [] Z00 Tryz.func128 rfl rfl rfl ?_;intro B h0;have hgn:=hg.n
 have htl:∀ d∈g.ds,d.t.ns.length≤1024:=fun d hd=>by rw[(hg.ds d hd).t.n];exact(hf d hd).2
 refine LoopOb.inv (ι:=Nat×List UInt8) (fun p=>{ fl:=[(1,.ref 1 0),(3,.val (.string (Z0f p.2))),(4,.val (.int .i64 p.1))],cl:=[(1,[.slice g.a g.n g.c])],gi:=I })
  (fun p=>p.1≤g.n∧p.2.length≤2500000 * p.1∧Z1F deb g.ds []=Z1F deb (g.ds.drop p.1) p.2) (fun p=>g.n - p.1) ?_ ?_
 ·exact⟨(0,[]),⟨by simp,by simp,rfl⟩,.refl,aF3,.cons rfl .nil⟩
 rintro⟨i,w⟩ ⟨hi,hwl,hw⟩;simp only at hi hwl hw
 refine CondOb.mk (fun h=>?_) (fun h=>?_)
 ·have hlt:i < g.n:=by simpa using h
  have hlt':i < g.ds.length:=by omega
  obtain⟨ad,had,hrd⟩:=hg.rs.row Df.cells_len hlt hlt';have hdm:g.ds[i]∈g.ds:=List.getElem_mem hlt';have hdl:=Z9k deb g.ds[i];have h9:=htl _ hdm
  have hdrop:g.ds.drop i=g.ds[i]::g.ds.drop (i+1):=List.drop_eq_getElem_cons hlt';refine IdxOb.mk ad i had rfl hlt ?_;refine LoadOb.mk _ (hrd _) ?_;refine CallOb.mk [] [] _ (.refl _) (ZhH hcl (hg.ds _ hdm) (hf _ hdm).1 hW) ?_;rintro v J N - ⟨rfl,hJ,rfl⟩;subst J
  refine CondOb.mk (fun h1=>?_) (fun h1=>?_)
  ·exact⟨_,_,.refl,by rw[hw,hdrop,Z1F,h1];rfl,rfl,rfl⟩
  ·refine BinOb.concatL (a:=w) (by omega) ?_
   refine ArithOb.mk _ (Z03 (i:=i) (by omega)) ?_;refine⟨(i+1,_),⟨⟨by simp only;omega,?_,?_⟩,by simp only;omega⟩,.refl,aF3,.cons rfl .nil⟩
   ·simp only[List.length_append]
    omega
   ·simp only
    rw[hw,hdrop,Z1F,h1];rfl
 ·have hge:g.n≤i:=by simpa using h
  have hdn:g.ds.drop i=[]:=List.drop_eq_nil_of_le (by omega);exact⟨_,_,.refl,by rw[hw,hdn];rfl,rfl,rfl⟩
theorem Z5X (nm:ByteArray):∀ (ds:List Df) (i:Nat),Z09 nm ds i=bif decide (Z09 nm ds 0 < 0) then -1 else Z09 nm ds 0+i
 | [],i=>rfl
 | d::ds,i=>by
  unfold Z09
  cases h:decide (d.name=nm) with
  | true=>
   have:decide ((((0:Nat):Int)) < 0)=false:=by decide
   simp[this]
  | false=>
   rw[cond_false,cond_false,Z5X nm ds (i+1),Z5X nm ds (0+1)]
   have hr:Z09 nm ds 0 < 0∨0≤Z09 nm ds 0:=by omega
   rcases hr with hr | hr
   ·rw[decide_eq_true hr]
    rfl
   ·have e:decide (Z09 nm ds 0 < 0)=false:=decide_eq_false (by omega)
    rw[e,cond_false,cond_false];have e2:decide (Z09 nm ds 0+((0+1:Nat):Int) < 0)=false:=decide_eq_false (by omega)
    rw[e2,cond_false];omega
theorem Z5Y (nm:ByteArray) (hs bs:List Df):Z09 nm (hs++bs) 0=bif decide (Z09 nm hs 0 < 0) then Z09 nm bs hs.length else Z09 nm hs 0:=by
 have key:∀ (hs:List Df) (i:Nat),Z09 nm (hs++bs) i=bif decide (Z09 nm hs i < 0) then Z09 nm bs (i+hs.length) else Z09 nm hs i:=by
  intro hs
  induction hs with
  | nil=>intro i;simp[Z09]
  | cons d hs ih=>
   intro i;rw[List.cons_append,Z09,Z09]
   cases decide (d.name=nm) with
   | true=>
    have:decide ((i:Int) < 0)=false:=decide_eq_false (by omega);rw[cond_true,cond_true,this,cond_false]
   | false=>
    rw[cond_false,cond_false,ih (i+1),List.length_cons];rw[show i+1+hs.length=i+(hs.length+1) from by omega]
 have:=key hs 0
 rwa [Nat.zero_add] at this
structure SeenAs (hs:List Df) (acc:List (ByteArray×Int)):Prop where
 look:∀ nm,(Z0q nm acc).isSome=decide (0≤Z09 nm hs 0)
theorem Zb9 (nm:ByteArray) (p:ByteArray×Int):∀ acc:List (ByteArray×Int),(Z0q nm (acc++[p])).isSome=((Z0q nm acc).isSome || decide (nm=p.1))
 | []=>by
  show (bif decide (nm=p.1) then some p.2 else none:Option Int).isSome=_
  cases decide (nm=p.1)<;>rfl
 | q::acc=>by
  rw[List.cons_append,Z0q,Z0q]
  cases decide (nm=q.1) with
  | true=>rfl
  | false=>rw[cond_false,cond_false,Zb9 nm p acc]
theorem SeenAs.snoc {hs:List Df} {acc:List (ByteArray×Int)} (h:SeenAs hs acc) (d:Df) (v:Int):SeenAs (hs++[d]) (acc++[(d.name,v)]):=by
 refine⟨fun nm=>?_⟩;rw[Zb9,h.look,Z5Y]
 by_cases hr:Z09 nm hs 0 < 0
 ·rw[decide_eq_true hr,cond_true,decide_eq_false (by omega:¬ 0≤Z09 nm hs 0),Bool.false_or]
  unfold Z09;have:decide (d.name=nm)=decide (nm=d.name):=decide_eq_decide.2 ⟨Eq.symm,Eq.symm⟩;rw[this]
  cases decide (nm=d.name) with
  | true=>simp
  | false=>
   rw[cond_false];rfl
 ·rw[decide_eq_false hr,cond_false,decide_eq_true (by omega:0≤Z09 nm hs 0),Bool.true_or]
def Z19 (ds:List Df) (i:Nat):Bool:=match ds[i]? with
 | some d=>decide (Z09 d.name ds 0=i)
 | none=>true
theorem Zcy (d:Df) (bs:List Df) (i:Nat):Z09 d.name (d::bs) i=i:=by
 rw[Z09,decide_eq_true rfl];rfl
theorem ZhI (bs:List Df):∀ (hs:List Df) (acc:List (ByteArray×Int)),SeenAs hs acc->(∀ i,i < hs.length->Z19 (hs++bs) i=true) ->
  match Z86 acc hs.length bs with
  | none=>∃ i,i < (hs++bs).length∧Z19 (hs++bs) i=false∧∀ k,k < i->Z19 (hs++bs) k=true
  | some r=>SeenAs (hs++bs) r∧∀ i,i < (hs++bs).length->Z19 (hs++bs) i=true:=by
 induction bs with
 | nil=>
  intro hs acc h hf;rw[List.append_nil] at *;exact⟨h,hf⟩
 | cons d bs ih=>
  intro hs acc h hf
  have hat:(hs++d::bs)[hs.length]?=some d:=by simp
  have hfi:Z19 (hs++d::bs) hs.length=!(Z0q d.name acc).isSome:=by
   unfold Z19;rw[hat,h.look];simp only
   rw[Z5Y]
   by_cases hr:Z09 d.name hs 0 < 0
   ·rw[decide_eq_true hr,cond_true,Zcy]
    simp;omega
   ·rw[decide_eq_false hr,cond_false]
    have hlt:Z09 d.name hs 0 < hs.length:=by
     have:∀ (hs:List Df) (i:Nat),0≤Z09 d.name hs i->Z09 d.name hs i < i+hs.length:=by
      intro hs
      induction hs with
      | nil=>intro i h;simp[Z09] at h
      | cons e hs ih2=>
       intro i h;unfold Z09 at h ⊢
       cases hc:decide (e.name=d.name) with
       | true=>simp;omega
       | false=>
        rw[hc,cond_false] at h;rw[cond_false];have:=ih2 (i+1) h
        simp;omega
     have:=this hs 0 (by omega);omega
    have e1:decide (Z09 d.name hs 0=(hs.length:Int))=false:=decide_eq_false (by omega);have e2:decide (0≤Z09 d.name hs 0)=true:=decide_eq_true (by omega)
    rw[e1,e2];rfl
  rw[Z86]
  cases hl:(Z0q d.name acc).isSome with
  | true=>
   rw[hl] at hfi;exact⟨hs.length,by simp,hfi,hf⟩
  | false=>
   rw[hl] at hfi
   have:=ih (hs++[d]) (acc++[(d.name,(hs.length:Int))]) (h.snoc d _) (fun i hi=>by
    rw[List.append_assoc];simp at hi
    rcases Nat.lt_or_eq_of_le (Nat.lt_succ_iff.1 (by omega:i < hs.length+1)) with h1 | h1
    ·exact hf i h1
    ·rw[h1];exact hfi)
   rw[List.length_append,List.append_assoc] at this;exact this
theorem Zoq:SeenAs [] []:=⟨fun nm=>by simp[Z0q,Z09]⟩
def Z1N (ds:List Df) (n:Nd):Bool:=!decide (n.k=3) || decide (0≤Z09 n.t ds 0)
theorem Z51 (p:Nd->Bool):∀ (ds:List Df) (i:Nat),((Z0L i ds).all fun x=>p x.2)=ds.all fun d=>d.t.ns.all p
 | [],i=>rfl
 | d::ds,i=>by
  rw[Z0L,List.all_append,List.all_cons,Z51 p ds (i+1),List.all_map];rfl
def Zjz (deb:List Int) (g:Gr):Int:=
 bif decide ((g.n:Int)=0) then 4 else bif !Z1B g.ds then 4 else bif Z0Y deb g then 40 else
 bif !(List.range g.ds.length).all (Z19 g.ds) then 6 else bif g.ds.all fun d=>d.t.ns.all (Z1N g.ds) then 0 else 41
theorem Zcz (deb:List Int) (g:Gr):Zjz deb g=Z13 deb g:=by
 unfold Zjz Z13;have h:=ZhI g.ds [] [] Zoq (fun i hi=>by simp at hi);simp only[List.length_nil,List.nil_append] at h
 cases hd:Z86 [] 0 g.ds with
 | none=>
  rw[hd] at h;obtain⟨i,h1,h2,_⟩:=h
  have:(List.range g.ds.length).all (Z19 g.ds)=false:=by
   rw[Bool.eq_false_iff];intro hall
   rw[List.all_eq_true] at hall;have:=hall i (List.mem_range.2 h1);rw[h2] at this
   cases this
  rw[this];rfl
 | some acc=>
  rw[hd] at h;obtain⟨h1,h2⟩:=h
  have h3:(List.range g.ds.length).all (Z19 g.ds)=true:=by
   rw[List.all_eq_true];intro i hi
   exact h2 i (List.mem_range.1 hi)
  rw[h3]
  have h4:(g.ds.all fun d=>d.t.ns.all (Z1N g.ds))=Z1c acc g.ds:=by
   unfold Z1c;rw[Z51]
   congr 1
   funext d
   congr 1
   funext n
   unfold Z5L Z1N;rw[h1.look]
  rw[h4];rfl
theorem Z3X {I:GH} {g:Gr} (hg:g.ok I) (name:ByteArray):Spec Tryz.prog 129 [g.val,.string name] I [] (fun v I' M'=>v=.int .i64 (Z09 name g.ds 0)∧I'=I∧M'=[]):=by
 refine Z01 [] Z00 Tryz.func129 rfl rfl rfl ?_;intro B h0;have hgn:=hg.n;have hcap:=hg.rs.cap
 refine LoopOb.inv (ι:=Nat) (fun i=>{ fl:=[(1,.val (.string name)),(2,.ref 2 0),(5,.val (.int .i64 i))],cl:=[(2,[.slice g.a g.n g.c])],gi:=I })
  (fun i=>i≤g.n∧Z09 name g.ds 0=Z09 name (g.ds.drop i) i) (fun i=>g.n - i) ?_ ?_
 ·exact⟨0,⟨by simp,rfl⟩,.refl,aF3,.cons rfl .nil⟩
 rintro i ⟨hi,hf⟩;refine CondOb.mk (fun h=>?_) (fun h=>?_)
 ·have hlt:i < g.n:=by simpa using h
  have hlt':i < g.ds.length:=by omega
  obtain⟨ad,had,hrd⟩:=hg.rs.row Df.cells_len hlt hlt';have hdrop:g.ds.drop i=g.ds[i]::g.ds.drop (i+1):=List.drop_eq_getElem_cons hlt';refine IdxOb.mk ad i had rfl hlt ?_;refine LoadOb.mk _ (Rd.part (k:=0) (m:=1) (hrd _) (by decide)) ?_;refine CondOb.mk (fun h2=>?_) (fun h2=>?_)
  ·exact⟨_,_,.refl,by rw[hf,hdrop,Z09,h2];rfl,rfl,rfl⟩
  ·refine ArithOb.mk _ (Z03 (i:=i) (by omega)) ?_
   refine⟨i+1,⟨⟨by omega,?_⟩,by omega⟩,.refl,aF3,.cons rfl .nil⟩;rw[hf,hdrop,Z09,h2]
   rfl
 ·have hge:g.n≤i:=by simpa using h
  have hdn:g.ds.drop i=[]:=List.drop_eq_nil_of_le (by omega);exact⟨_,_,.refl,by rw[hf,hdn];rfl,rfl,rfl⟩
theorem ZjA {t:Tr}:Z2M t≤t.n:=by
 unfold Z2M
 cases right t<;>simp
theorem ZcA {I:GH} {g:Gr} (hg:g.ok I) {W:Nat} (hf:∀ d∈g.ds,Fit d.t W) (hn:g.n≤1000000):Spec Tryz.prog 126 [g.val] I [] (fun v I' M'=>v=.int .i64 (Z2r g:Nat)∧I'=I∧M'=[]):=by
 refine Z01 [] Z00 Tryz.func126 rfl rfl rfl ?_;intro B h0;have hgn:=hg.n
 refine LoopOb.inv (ι:=Nat×Nat) (fun x=>{ fl:=[(1,.ref 1 0),(3,.val (.int .i64 x.2)),(4,.val (.int .i64 x.1))],cl:=[(1,[.slice g.a g.n g.c])],gi:=I })
  (fun x=>x.1≤g.n∧x.2=((g.ds.take x.1).map fun d=>Z2M d.t).sum∧x.2≤1099511627776 * x.1) (fun x=>g.n - x.1) ?_ ?_
 ·exact⟨(0,0),⟨by simp,by simp,by simp⟩,.refl,aF3,.cons rfl .nil⟩
 rintro⟨i,s⟩ ⟨hi,hs,hb⟩;simp only at hi hs hb
 refine CondOb.mk (fun h=>?_) (fun h=>?_)
 ·have hlt:i < g.n:=by simpa using h
  have hlt':i < g.ds.length:=by omega
  obtain⟨ad,had,hrd⟩:=hg.rs.row Df.cells_len hlt hlt';have hdm:g.ds[i]∈g.ds:=List.getElem_mem hlt';have hfi:=hf _ hdm;have hsz:=ZjA (t:=g.ds[i].t);have hfn:=hfi.n
  refine IdxOb.mk ad i had rfl hlt ?_;refine LoadOb.mk _ (Rd.part (k:=1) (m:=2) (hrd _) (by decide)) ?_;refine CallOb.mk [] [] _ (.refl _) (Zf7 (hg.ds _ hdm).t hfi) ?_;rintro v J N - ⟨rfl,hJ,rfl⟩;subst J
  refine ArithOb.mk ((s+Z2M g.ds[i].t:Nat):Int) (Z08 (x:=((s+Z2M g.ds[i].t:Nat):Int)) ⟨by omega,by omega⟩) ?_;refine ArithOb.mk _ (Z03 (i:=i) (by omega)) ?_;refine⟨(i+1,s+Z2M g.ds[i].t),⟨⟨by simp only;omega,?_,by simp only;omega⟩,by simp only;omega⟩,.refl,aF3,.cons rfl .nil⟩;simp only
  rw[hs,List.take_succ_eq_append_getElem hlt',List.map_append,List.sum_append];simp
 ·have hge:g.n≤i:=by simpa using h
  rw[List.take_of_length_le (by omega)] at hs;exact⟨_,_,.refl,by rw[hs];rfl,rfl,rfl⟩
structure GFit (g:Gr):Prop where
 n:g.n≤1000000
 ds:∀ d∈g.ds,Fit d.t 1000000
theorem ZcB (d:Df) (ds:List Df):Z1B (d::ds)=((Z0u d.name && normal d.t) && Z1B ds):=rfl
theorem ZdX {deb:List Int} {g:Gr} (h:(decide (1024 < Z2r g) || !g.ds.all fun d=>Z0o d.t)=true):Z0Y deb g=true:=by
 unfold Z0Y;generalize (g.ds.all fun d=>Z0o d.t)=a at *;generalize decide (1024 < Z2r g)=c at *
 cases a<;>cases c<;>simp at h ⊢
theorem Z5t {ds:List Df} {i:Nat} (h:i < ds.length):Z19 ds i=decide (Z09 ds[i].name ds 0=i):=by
 unfold Z19;rw[List.getElem?_eq_getElem h]
theorem Z7M {n i:Nat} (p:Nat->Bool) (h:i < n):((List.range n).drop i).all p=(p i && ((List.range n).drop (i+1)).all p):=by
 rw[List.drop_eq_getElem_cons (by simpa using h),List.all_cons];simp
theorem Z8W {deb:List Int} {ds:List Df} (h:∀ d∈ds,d.t.ns.length≤1024) (hn:ds.length≤64):(Z1F deb ds []).length≤160000000:=by
 have:=Zak deb ds [] 0 h (by simp);omega
set_option maxRecDepth 100000 in
set_option maxHeartbeats 4000000 in
theorem Z8X {I:GH} {deb:List Int} (hcl:Z9N deb) {g:Gr} (hg:g.ok I) (hf:GFit g):Spec Tryz.prog 82 [g.val] I [] (fun v I' M'=>v=.int .i64 (Zjz deb g)∧I'=I∧M'=[]):=by
 refine Z01 [] Z00 Tryz.func82 rfl rfl rfl ?_;intro B h0;have hgn:=hg.n;have hfn:=hf.n;refine CondOb.mk (fun e0=>?_) (fun e0=>?_)
 ·exact⟨_,_,.refl,by rw[Zjz,e0];rfl,rfl,rfl⟩
 refine LoopOb.inv (ι:=Nat) (fun i=>{ fl:=[(1,.ref 1 0),(3,.val (.int .i64 i))],cl:=[(1,[.slice g.a g.n g.c])],gi:=I }) (fun i=>i≤g.n∧Z1B g.ds=Z1B (g.ds.drop i)) (fun i=>g.n - i) ?_ ?_
 ·exact⟨0,⟨Nat.zero_le _,rfl⟩,.refl,aF2,.cons rfl .nil⟩
 rintro i ⟨hi,hok⟩;refine CondOb.mk (fun h=>?_) (fun h=>?_)
 ·have hlt:i < g.n:=by simpa using h
  have hlt':i < g.ds.length:=by omega
  obtain⟨ad,had,hrd⟩:=hg.rs.row Df.cells_len hlt hlt';have hdm:g.ds[i]∈g.ds:=List.getElem_mem hlt';have hdrop:g.ds.drop i=g.ds[i]::g.ds.drop (i+1):=List.drop_eq_getElem_cons hlt';rw[hdrop,ZcB] at hok;refine IdxOb.mk ad i had rfl hlt ?_;refine LoadOb.mk _ (Rd.part (k:=0) (m:=1) (hrd _) (by decide)) ?_;refine CallOb.mk [] [] _ (.refl _) (Z7b I g.ds[i].name) ?_;rintro v J N - ⟨rfl,hJ,rfl⟩;subst J
  refine GuardOb.mk (fun h1=>?_) (fun h1=>?_)
  ·have hm:Z0u g.ds[i].name=true:=by simpa using h1
   refine IdxOb.mk ad i had rfl hlt ?_;refine LoadOb.mk _ (Rd.part (k:=1) (m:=2) (hrd _) (by decide)) ?_;refine CallOb.mk [] [] _ (.refl _) (Zb4 (hg.ds _ hdm).t (hf.ds _ hdm)) ?_;rintro v J N - ⟨rfl,hJ,rfl⟩;subst J
   refine CondOb.mk (fun h2=>?_) (fun h2=>?_)
   ·have hno:normal g.ds[i].t=false:=by simpa using h2
    exact⟨_,_,.refl,by rw[Zjz,e0,hok,hno,Bool.and_false];rfl,rfl,rfl⟩
   ·have hno:normal g.ds[i].t=true:=by simpa using h2
    refine ArithOb.mk _ (Z03 (i:=i) (by omega)) ?_;refine⟨i+1,⟨⟨by omega,?_⟩,by omega⟩,.refl,aF2,.cons rfl .nil⟩;rw[hok,hm,hno]
    rfl
  ·have hm:Z0u g.ds[i].name=false:=by simpa using h1
   exact⟨_,_,.refl,by rw[Zjz,e0,hok,hm,Bool.false_and,Bool.false_and];rfl,rfl,rfl⟩
 have hie:i=g.n:=by simp at h;omega
 have hokt:Z1B g.ds=true:=by
  rw[hok,List.drop_of_length_le (by omega)];rfl
 have hmr:Zjz deb g=bif Z0Y deb g then 40 else bif !(List.range g.ds.length).all (Z19 g.ds) then 6 else bif g.ds.all fun d=>d.t.ns.all (Z1N g.ds) then 0 else 41:=by
  rw[Zjz,e0,hokt];rfl
 have pos:0 < g.n:=by simp at e0;omega
 refine GuardOb.mk (fun h1=>?_) (fun h1=>?_)
 ·have hn64:g.n≤64:=by simp at h1;omega
  refine CallOb.mk [] [] _ (.refl _) (ZcA hg hf.ds hfn) ?_;rintro v J N - ⟨rfl,hJ,rfl⟩;subst J
  refine LoopOb.inv (ι:=Nat×Bool) (fun x=>{ fl:=[(1,.ref 1 0),(4,.val (.bool x.2)),(5,.val (.int .i64 x.1))],cl:=[(1,[.slice g.a g.n g.c])],gi:=I })
   (fun x=>x.1≤g.n∧(decide (1024 < Z2r g) || !g.ds.all fun d=>Z0o d.t)=(x.2 || !(g.ds.drop x.1).all fun d=>Z0o d.t)) (fun x=>g.n - x.1) ?_ ?_
  ·exact⟨(0,decide (((1024:Nat):Int) < (Z2r g:Nat))),⟨Nat.zero_le _,by simp only[List.drop_zero];congr 1;exact decide_eq_decide.2 (by omega)⟩,.refl,aF3,.cons rfl .nil⟩
  rintro⟨k,b⟩ ⟨hk,hb⟩;simp only at hk hb
  refine GuardOb.mk (fun k1=>?_) (fun k1=>?_)
  ·have hkl:k < g.n:=by simpa using k1
   have hkl':k < g.ds.length:=by omega
   refine CondOb.mk (fun k2=>?_) (fun k2=>?_)
   ·have hbf:b=false:=by simpa using k2
    obtain⟨ad,had,hrd⟩:=hg.rs.row Df.cells_len hkl hkl';have hdm:g.ds[k]∈g.ds:=List.getElem_mem hkl';have hdrop:g.ds.drop k=g.ds[k]::g.ds.drop (k+1):=List.drop_eq_getElem_cons hkl';refine IdxOb.mk ad k had rfl hkl ?_;refine LoadOb.mk _ (Rd.part (k:=1) (m:=2) (hrd _) (by decide)) ?_;refine CallOb.mk [] [] _ (.refl _) (Z8S (hg.ds _ hdm).t (hf.ds _ hdm)) ?_;rintro v J N - ⟨rfl,hJ,rfl⟩;subst J
    refine ArithOb.mk _ (Z03 (i:=k) (by omega)) ?_;refine⟨(k+1,!Z0o g.ds[k].t),⟨⟨by simp only;omega,?_⟩,by simp only;omega⟩,.refl,aF3,.cons rfl .nil⟩;simp only
    rw[hb,hdrop,List.all_cons,hbf,Bool.false_or,Bool.not_and]
   ·have hbt:b=true:=by simpa using k2
    have hP:(decide (1024 < Z2r g) || !g.ds.all fun d=>Z0o d.t)=b:=by rw[hb,hbt,Bool.true_or]
    refine GuardOb.mk (fun k3=>?_) (fun k3=>?_)
    ·have hbf:b=false:=by simpa using k3
     rw[hbf,Bool.or_eq_false_iff,Bool.not_eq_false',List.all_eq_true] at hP
     have hall:∀ d∈g.ds,Fit d.t 1000000∧d.t.n≤1024:=fun d hd=>by
      have:=hP.2 d hd;unfold Z0o at this;simp only[Bool.and_eq_true,decide_eq_true_eq] at this;exact⟨hf.ds d hd,this.1⟩
     have hgl:=Z8W (deb:=deb) (ds:=g.ds) (fun d hd=>by rw[(hg.ds d hd).t.n];exact(hall d hd).2) (by omega);refine CallOb.mk [] [] _ (.refl _) (Z50 hcl hg hn64 hall (by decide)) ?_
     rintro v J N - ⟨rfl,hJ,rfl⟩;subst J
     have hlg:Z0Y deb g=decide (8192 < (Z1F deb g.ds []).length):=by
      have e1:decide (64 < g.n)=false:=decide_eq_false (by omega);have e2:(g.ds.all fun d=>Z0o d.t)=true:=List.all_eq_true.2 hP.2
      rw[Z0Y,e1,e2,hP.1];rfl
     have hsz:((Z0f (Z1F deb g.ds [])).size:Int)=((Z1F deb g.ds []).length:Int):=rfl;refine CondOb.mk (fun k4=>?_) (fun k4=>?_)
     ·have:Z0Y deb g=true:=by
       rw[hlg];rw[hsz] at k4
       simp at k4 ⊢;omega
      exact⟨_,_,.refl,by rw[hmr,this];rfl,rfl,rfl⟩
     have hlf:Z0Y deb g=false:=by
      rw[hlg];rw[hsz] at k4
      simp at k4 ⊢;omega
     rw[hlf,cond_false] at hmr;refine LoopOb.inv (ι:=Nat) (fun i=>{ fl:=[(1,.ref 1 0),(6,.val (.int .i64 i))],cl:=[(1,[.slice g.a g.n g.c])],gi:=I }) (fun i=>i≤g.n∧(List.range g.ds.length).all (Z19 g.ds)=((List.range g.ds.length).drop i).all (Z19 g.ds)) (fun i=>g.n - i) ?_ ?_
     ·exact⟨0,⟨Nat.zero_le _,rfl⟩,.refl,aF2,.cons rfl .nil⟩
     rintro u ⟨hu,hfo⟩;refine CondOb.mk (fun h=>?_) (fun h=>?_)
     ·have hlt:u < g.n:=by simpa using h
      have hlt':u < g.ds.length:=by omega
      obtain⟨ad,had,hrd⟩:=hg.rs.row Df.cells_len hlt hlt';rw[Z7M _ hlt',Z5t hlt'] at hfo;refine CodeOb.draw Z00 rfl rfl rfl ?_;refine IdxOb.mk ad u had rfl hlt ?_;refine LoadOb.mk _ (Rd.part (k:=0) (m:=1) (hrd _) (by decide)) ?_;refine PCallOb.mk _ (Z3X hg g.ds[u].name) ?_;rintro v J N - ⟨rfl,hJ,rfl⟩;subst J
      refine CondOb.mk (fun h2=>?_) (fun h2=>?_)
      ·have e:decide (Z09 g.ds[u].name g.ds 0=(u:Int))=false:=by simpa using h2
       exact⟨_,_,.refl,by rw[hmr,hfo,e,Bool.false_and];rfl,rfl,rfl⟩
      ·have e:decide (Z09 g.ds[u].name g.ds 0=(u:Int))=true:=by simpa using h2
       refine ArithOb.mk _ (Z03 (i:=u) (by omega)) ?_;refine⟨u+1,⟨⟨by omega,?_⟩,by omega⟩,.refl,aF2,.cons rfl .nil⟩;rw[hfo,e,Bool.true_and]
     have hue:u=g.n:=by simp at h;omega
     rw[List.drop_of_length_le (by simp;omega)] at hfo;rw[hfo,List.all_nil,Bool.not_true,cond_false] at hmr;refine LoopOb.inv (ι:=Nat) (fun i=>{ fl:=[(1,.ref 1 0),(7,.val (.int .i64 i))],cl:=[(1,[.slice g.a g.n g.c])],gi:=I }) (fun i=>i≤g.n∧(g.ds.all fun d=>d.t.ns.all (Z1N g.ds))=((g.ds.drop i).all fun d=>d.t.ns.all (Z1N g.ds))) (fun i=>g.n - i) ?_ ?_
     ·exact⟨0,⟨Nat.zero_le _,rfl⟩,.refl,aF2,.cons rfl .nil⟩
     rintro p ⟨hp,hpa⟩;refine CondOb.mk (fun h=>?_) (fun h=>?_)
     ·have hlt:p < g.n:=by simpa using h
      have hlt':p < g.ds.length:=by omega
      obtain⟨ad,had,hrd⟩:=hg.rs.row Df.cells_len hlt hlt';have hdrop:g.ds.drop p=g.ds[p]::g.ds.drop (p+1):=List.drop_eq_getElem_cons hlt';have ht:=(hg.ds _ (List.getElem_mem hlt')).t;rw[hdrop,List.all_cons] at hpa;generalize g.ds[p]=d at hrd hpa ht;have htn:=ht.n;refine IdxOb.mk ad p had rfl hlt ?_;refine LoadOb.mk _ (Rd.part (k:=0) (m:=1) (Rd.part (k:=1) (m:=2) (hrd _) (by decide)) (by decide)) ?_;refine LoopOb.inv (ι:=Nat) (fun k=>{ fl:=[(1,.ref 1 0),(7,.val (.int .i64 p)),(8,.val (.slice d.t.a d.t.n d.t.c)),(9,.val (.int .i64 k))],cl:=[(1,[.slice g.a g.n g.c])],gi:=I }) (fun k=>k≤d.t.n∧d.t.ns.all (Z1N g.ds)=(d.t.ns.drop k).all (Z1N g.ds)) (fun k=>d.t.n - k) ?_ ?_
      ·exact⟨0,⟨Nat.zero_le _,rfl⟩,.refl,aF4,.cons rfl .nil⟩
      rintro w ⟨hw,hwa⟩;refine CondOb.mk (fun h3=>?_) (fun h3=>?_)
      ·have hwl:w < d.t.n:=by simpa using h3
       have hwl':w < d.t.ns.length:=by omega
       obtain⟨aq,haq,hrq⟩:=ht.rs.row Nd.cells_len hwl hwl';have hcap:=ht.rs.cap;have hdrop2:d.t.ns.drop w=d.t.ns[w]::d.t.ns.drop (w+1):=List.drop_eq_getElem_cons hwl';rw[hdrop2,List.all_cons,Z1N] at hwa;refine CodeOb.draw Z00 rfl rfl rfl ?_;refine IdxOb.mk aq w haq rfl hwl ?_;refine LoadOb.mk _ (Rd.part (k:=0) (m:=1) (hrq _) (by decide)) ?_;refine GuardOb.mk (fun c1=>?_) (fun c1=>?_)
       ·have e3:decide (d.t.ns[w].k=3)=true:=c1
        refine IdxOb.mk aq w haq rfl hwl ?_;refine LoadOb.mk _ (Rd.part (k:=5) (m:=1) (hrq _) (by decide)) ?_;refine CallOb.mk [] [] _ (.refl _) (Z3X hg d.t.ns[w].t) ?_;rintro v J N - ⟨rfl,hJ,rfl⟩;subst J
        refine CondOb.mk (fun c2=>?_) (fun c2=>?_)
        ·have e:decide (0≤Z09 d.t.ns[w].t g.ds 0)=false:=by simp at c2 ⊢;omega
         exact⟨_,_,.refl,by rw[hmr,hpa,hwa,e3,e];rfl,rfl,rfl⟩
        ·have e:decide (0≤Z09 d.t.ns[w].t g.ds 0)=true:=by simp at c2 ⊢;omega
         refine ArithOb.mk _ (Z03 (i:=w) (by omega)) ?_;refine⟨w+1,⟨⟨by omega,?_⟩,by omega⟩,.refl,aF4,.cons rfl .nil⟩;rw[hwa,e,Bool.or_true,Bool.true_and]
       ·have e3:decide (d.t.ns[w].k=3)=false:=c1
        refine ArithOb.mk _ (Z03 (i:=w) (by omega)) ?_;refine⟨w+1,⟨⟨by omega,?_⟩,by omega⟩,.refl,aF4,.cons rfl .nil⟩;rw[hwa,e3]
        rfl
      ·have hwe:w=d.t.n:=by simp at h3;omega
       rw[List.drop_of_length_le (by omega)] at hwa;refine ArithOb.mk _ (Z03 (i:=p) (by omega)) ?_;refine⟨p+1,⟨⟨by omega,?_⟩,by omega⟩,.refl,aF2,.cons rfl .nil⟩;rw[hpa,hwa,List.all_nil,Bool.true_and]
     ·have hpe:p=g.n:=by simp at h;omega
      rw[List.drop_of_length_le (by omega)] at hpa;exact⟨_,_,.refl,by rw[hmr,hpa];rfl,rfl,rfl⟩
    ·have hbt:b=true:=by simpa using k3
     exact⟨_,_,.refl,by rw[hmr,ZdX (deb:=deb) (hP.trans hbt)];rfl,rfl,rfl⟩
  ·have hke:k=g.n:=by simp at k1;omega
   have hP:(decide (1024 < Z2r g) || !g.ds.all fun d=>Z0o d.t)=b:=by
    rw[hb,hke,List.drop_of_length_le (by omega)];simp
   refine GuardOb.mk (fun k3=>?_) (fun k3=>?_)
   ·have hbf:b=false:=by simpa using k3
    rw[hbf,Bool.or_eq_false_iff,Bool.not_eq_false',List.all_eq_true] at hP
    have hall:∀ d∈g.ds,Fit d.t 1000000∧d.t.n≤1024:=fun d hd=>by
     have:=hP.2 d hd;unfold Z0o at this;simp only[Bool.and_eq_true,decide_eq_true_eq] at this;exact⟨hf.ds d hd,this.1⟩
    have hgl:=Z8W (deb:=deb) (ds:=g.ds) (fun d hd=>by rw[(hg.ds d hd).t.n];exact(hall d hd).2) (by omega);refine CallOb.mk [] [] _ (.refl _) (Z50 hcl hg hn64 hall (by decide)) ?_
    rintro v J N - ⟨rfl,hJ,rfl⟩;subst J
    have hlg:Z0Y deb g=decide (8192 < (Z1F deb g.ds []).length):=by
     have e1:decide (64 < g.n)=false:=decide_eq_false (by omega);have e2:(g.ds.all fun d=>Z0o d.t)=true:=List.all_eq_true.2 hP.2
     rw[Z0Y,e1,e2,hP.1];rfl
    have hsz:((Z0f (Z1F deb g.ds [])).size:Int)=((Z1F deb g.ds []).length:Int):=rfl;refine CondOb.mk (fun k4=>?_) (fun k4=>?_)
    ·have:Z0Y deb g=true:=by
      rw[hlg];rw[hsz] at k4
      simp at k4 ⊢;omega
     exact⟨_,_,.refl,by rw[hmr,this];rfl,rfl,rfl⟩
    have hlf:Z0Y deb g=false:=by
     rw[hlg];rw[hsz] at k4
     simp at k4 ⊢;omega
    rw[hlf,cond_false] at hmr;refine LoopOb.inv (ι:=Nat) (fun i=>{ fl:=[(1,.ref 1 0),(6,.val (.int .i64 i))],cl:=[(1,[.slice g.a g.n g.c])],gi:=I }) (fun i=>i≤g.n∧(List.range g.ds.length).all (Z19 g.ds)=((List.range g.ds.length).drop i).all (Z19 g.ds)) (fun i=>g.n - i) ?_ ?_
    ·exact⟨0,⟨Nat.zero_le _,rfl⟩,.refl,aF2,.cons rfl .nil⟩
    rintro u ⟨hu,hfo⟩;refine CondOb.mk (fun h=>?_) (fun h=>?_)
    ·have hlt:u < g.n:=by simpa using h
     have hlt':u < g.ds.length:=by omega
     obtain⟨ad,had,hrd⟩:=hg.rs.row Df.cells_len hlt hlt';rw[Z7M _ hlt',Z5t hlt'] at hfo;refine CodeOb.draw Z00 rfl rfl rfl ?_;refine IdxOb.mk ad u had rfl hlt ?_;refine LoadOb.mk _ (Rd.part (k:=0) (m:=1) (hrd _) (by decide)) ?_;refine PCallOb.mk _ (Z3X hg g.ds[u].name) ?_;rintro v J N - ⟨rfl,hJ,rfl⟩;subst J
     refine CondOb.mk (fun h2=>?_) (fun h2=>?_)
     ·have e:decide (Z09 g.ds[u].name g.ds 0=(u:Int))=false:=by simpa using h2
      exact⟨_,_,.refl,by rw[hmr,hfo,e,Bool.false_and];rfl,rfl,rfl⟩
     ·have e:decide (Z09 g.ds[u].name g.ds 0=(u:Int))=true:=by simpa using h2
      refine ArithOb.mk _ (Z03 (i:=u) (by omega)) ?_;refine⟨u+1,⟨⟨by omega,?_⟩,by omega⟩,.refl,aF2,.cons rfl .nil⟩;rw[hfo,e,Bool.true_and]
    have hue:u=g.n:=by simp at h;omega
    rw[List.drop_of_length_le (by simp;omega)] at hfo;rw[hfo,List.all_nil,Bool.not_true,cond_false] at hmr;refine LoopOb.inv (ι:=Nat) (fun i=>{ fl:=[(1,.ref 1 0),(7,.val (.int .i64 i))],cl:=[(1,[.slice g.a g.n g.c])],gi:=I }) (fun i=>i≤g.n∧(g.ds.all fun d=>d.t.ns.all (Z1N g.ds))=((g.ds.drop i).all fun d=>d.t.ns.all (Z1N g.ds))) (fun i=>g.n - i) ?_ ?_
    ·exact⟨0,⟨Nat.zero_le _,rfl⟩,.refl,aF2,.cons rfl .nil⟩
    rintro p ⟨hp,hpa⟩;refine CondOb.mk (fun h=>?_) (fun h=>?_)
    ·have hlt:p < g.n:=by simpa using h
     have hlt':p < g.ds.length:=by omega
     obtain⟨ad,had,hrd⟩:=hg.rs.row Df.cells_len hlt hlt';have hdrop:g.ds.drop p=g.ds[p]::g.ds.drop (p+1):=List.drop_eq_getElem_cons hlt';have ht:=(hg.ds _ (List.getElem_mem hlt')).t;rw[hdrop,List.all_cons] at hpa;generalize g.ds[p]=d at hrd hpa ht;have htn:=ht.n;refine IdxOb.mk ad p had rfl hlt ?_;refine LoadOb.mk _ (Rd.part (k:=0) (m:=1) (Rd.part (k:=1) (m:=2) (hrd _) (by decide)) (by decide)) ?_;refine LoopOb.inv (ι:=Nat) (fun k=>{ fl:=[(1,.ref 1 0),(7,.val (.int .i64 p)),(8,.val (.slice d.t.a d.t.n d.t.c)),(9,.val (.int .i64 k))],cl:=[(1,[.slice g.a g.n g.c])],gi:=I }) (fun k=>k≤d.t.n∧d.t.ns.all (Z1N g.ds)=(d.t.ns.drop k).all (Z1N g.ds)) (fun k=>d.t.n - k) ?_ ?_
     ·exact⟨0,⟨Nat.zero_le _,rfl⟩,.refl,aF4,.cons rfl .nil⟩
     rintro w ⟨hw,hwa⟩;refine CondOb.mk (fun h3=>?_) (fun h3=>?_)
     ·have hwl:w < d.t.n:=by simpa using h3
      have hwl':w < d.t.ns.length:=by omega
      obtain⟨aq,haq,hrq⟩:=ht.rs.row Nd.cells_len hwl hwl';have hcap:=ht.rs.cap;have hdrop2:d.t.ns.drop w=d.t.ns[w]::d.t.ns.drop (w+1):=List.drop_eq_getElem_cons hwl';rw[hdrop2,List.all_cons,Z1N] at hwa;refine CodeOb.draw Z00 rfl rfl rfl ?_;refine IdxOb.mk aq w haq rfl hwl ?_;refine LoadOb.mk _ (Rd.part (k:=0) (m:=1) (hrq _) (by decide)) ?_;refine GuardOb.mk (fun c1=>?_) (fun c1=>?_)
      ·have e3:decide (d.t.ns[w].k=3)=true:=c1
       refine IdxOb.mk aq w haq rfl hwl ?_;refine LoadOb.mk _ (Rd.part (k:=5) (m:=1) (hrq _) (by decide)) ?_;refine CallOb.mk [] [] _ (.refl _) (Z3X hg d.t.ns[w].t) ?_;rintro v J N - ⟨rfl,hJ,rfl⟩;subst J
       refine CondOb.mk (fun c2=>?_) (fun c2=>?_)
       ·have e:decide (0≤Z09 d.t.ns[w].t g.ds 0)=false:=by simp at c2 ⊢;omega
        exact⟨_,_,.refl,by rw[hmr,hpa,hwa,e3,e];rfl,rfl,rfl⟩
       ·have e:decide (0≤Z09 d.t.ns[w].t g.ds 0)=true:=by simp at c2 ⊢;omega
        refine ArithOb.mk _ (Z03 (i:=w) (by omega)) ?_;refine⟨w+1,⟨⟨by omega,?_⟩,by omega⟩,.refl,aF4,.cons rfl .nil⟩;rw[hwa,e,Bool.or_true,Bool.true_and]
      ·have e3:decide (d.t.ns[w].k=3)=false:=c1
       refine ArithOb.mk _ (Z03 (i:=w) (by omega)) ?_;refine⟨w+1,⟨⟨by omega,?_⟩,by omega⟩,.refl,aF4,.cons rfl .nil⟩;rw[hwa,e3]
       rfl
     ·have hwe:w=d.t.n:=by simp at h3;omega
      rw[List.drop_of_length_le (by omega)] at hwa;refine ArithOb.mk _ (Z03 (i:=p) (by omega)) ?_;refine⟨p+1,⟨⟨by omega,?_⟩,by omega⟩,.refl,aF2,.cons rfl .nil⟩;rw[hpa,hwa,List.all_nil,Bool.true_and]
    ·have hpe:p=g.n:=by simp at h;omega
     rw[List.drop_of_length_le (by omega)] at hpa;exact⟨_,_,.refl,by rw[hmr,hpa];rfl,rfl,rfl⟩
   ·have hbt:b=true:=by simpa using k3
    exact⟨_,_,.refl,by rw[hmr,ZdX (deb:=deb) (hP.trans hbt)];rfl,rfl,rfl⟩
 ·have hn64:64 < g.n:=by simp at h1;omega
  refine LoopOb.inv (ι:=Nat×Bool) (fun x=>{ fl:=[(1,.ref 1 0),(4,.val (.bool x.2)),(5,.val (.int .i64 x.1))],cl:=[(1,[.slice g.a g.n g.c])],gi:=I })
   (fun x=>x.1≤g.n∧true=(x.2 || !(g.ds.drop x.1).all fun d=>Z0o d.t)) (fun x=>g.n - x.1) ?_ ?_
  ·exact⟨(0,true),⟨Nat.zero_le _,rfl⟩,.refl,.cons .refl (.cons .lit (.cons .refl .nil)),.cons rfl .nil⟩
  rintro⟨k,b⟩ ⟨hk,hb⟩;simp only at hk hb
  refine GuardOb.mk (fun k1=>?_) (fun k1=>?_)
  ·have hkl:k < g.n:=by simpa using k1
   have hkl':k < g.ds.length:=by omega
   refine CondOb.mk (fun k2=>?_) (fun k2=>?_)
   ·have hbf:b=false:=by simpa using k2
    obtain⟨ad,had,hrd⟩:=hg.rs.row Df.cells_len hkl hkl';have hdm:g.ds[k]∈g.ds:=List.getElem_mem hkl';have hdrop:g.ds.drop k=g.ds[k]::g.ds.drop (k+1):=List.drop_eq_getElem_cons hkl';refine IdxOb.mk ad k had rfl hkl ?_;refine LoadOb.mk _ (Rd.part (k:=1) (m:=2) (hrd _) (by decide)) ?_;refine CallOb.mk [] [] _ (.refl _) (Z8S (hg.ds _ hdm).t (hf.ds _ hdm)) ?_;rintro v J N - ⟨rfl,hJ,rfl⟩;subst J
    refine ArithOb.mk _ (Z03 (i:=k) (by omega)) ?_;refine⟨(k+1,!Z0o g.ds[k].t),⟨⟨by simp only;omega,?_⟩,by simp only;omega⟩,.refl,aF3,.cons rfl .nil⟩;simp only
    rw[hb,hdrop,List.all_cons,hbf,Bool.false_or,Bool.not_and]
   ·have hbt:b=true:=by simpa using k2
    have hP:true=b:=by rw[hb,hbt,Bool.true_or]
    refine GuardOb.mk (fun k3=>?_) (fun k3=>?_)
    ·have hbf:b=false:=by simpa using k3
     rw[hbf] at hP;cases hP
    ·have hbt:b=true:=by simpa using k3
     exact⟨_,_,.refl,by rw[hmr,show Z0Y deb g=true from by rw[Z0Y,decide_eq_true hn64,Bool.true_or]];rfl,rfl,rfl⟩
  ·have hke:k=g.n:=by simp at k1;omega
   have hP:true=b:=by
    rw[hb,hke,List.drop_of_length_le (by omega)];simp
   refine GuardOb.mk (fun k3=>?_) (fun k3=>?_)
   ·have hbf:b=false:=by simpa using k3
    rw[hbf] at hP;cases hP
   ·have hbt:b=true:=by simpa using k3
    exact⟨_,_,.refl,by rw[hmr,show Z0Y deb g=true from by rw[Z0Y,decide_eq_true hn64,Bool.true_or]];rfl,rfl,rfl⟩
theorem Z5Z (nm:ByteArray):∀ (ds:List Df) (i:Nat),Z38 nm ds i=bif decide (Z09 nm ds i < 0) then none else some (Z09 nm ds i)
 | [],i=>rfl
 | d::ds,i=>by
  unfold Z38 Z09;rw[show decide (nm=d.name)=decide (d.name=nm) by rw[Bool.eq_iff_iff];simp[eq_comm]]
  cases decide (d.name=nm) with
  | true=>
   rw[cond_true,cond_true,decide_eq_false (by omega)];rfl
  | false=>
   rw[cond_false,cond_false];exact Z5Z nm ds (i+1)
theorem ZhJ (nm:ByteArray) (ds:List Df):Z0q nm (Z02 ds)=bif decide (Z09 nm ds 0 < 0) then none else some (Z09 nm ds 0):=by
 rw[Z3v,Z5Z]
theorem Zba {nm:ByteArray} {ds:List Df} (h:(Z0q nm (Z02 ds)).isSome=true):∃ q:Nat,Z09 nm ds 0=q∧q < ds.length∧((Z0q nm (Z02 ds)).getD 0).toNat=q:=by
 have hlk:=ZhJ nm ds
 cases hd:decide (Z09 nm ds 0 < 0) with
 | true=>
  rw[hd,cond_true] at hlk;rw[hlk] at h;cases h
 | false=>
  rw[hd,cond_false] at hlk;have h4:¬ Z09 nm ds 0 < 0:=of_decide_eq_false hd;obtain⟨q,hq⟩:=Int.eq_ofNat_of_zero_le (by omega:0≤Z09 nm ds 0);have hlk':=hlk
  rw[Z3v] at hlk';obtain⟨j,hj1,hj2⟩:=Z5o hlk';refine⟨q,hq,by omega,?_⟩;rw[hlk,hq]
  rfl
def Sy.marks (s:Sy) (i:Nat) (l:List Nat):Sy:=l.foldl (fun s k=>s.mark i k) s
theorem Sy.marks_app (s:Sy) (i:Nat) (l m:List Nat):s.marks i (l++m)=(s.marks i l).marks i m:=List.foldl_append
theorem Sy.marks_len:∀ (l:List Nat) (s:Sy) (i:Nat),(s.marks i l).m.length=s.m.length
 | [],s,i=>rfl
 | k::l,s,i=>by
  have:=Sy.marks_len l (s.mark i k) i;unfold Sy.marks at this ⊢;rw[List.foldl_cons,this]
  simp[Sy.mark]
def ZhK (b1 b6 b7:Nat):Value:=.func (.func 143) #[] #[ptr b1,ptr b6,ptr b7]
set_option maxRecDepth 100000 in
set_option maxHeartbeats 8000000 in
theorem Z8Y {I:GH} {g:Gr} (hg:g.ok I) (h64:g.n≤64) {t:Tr} (ht:t.ok I) (hkb:KB t) (hr:right t=true) (hno:Z2t (Z02 g.ds) t.ns=true) {F:List Fl} {M1:List Blk} {b1 b6 b7 i:Nat} (hi:i < 64)
  (h1:(⟨b1,.cells #[.slice g.a g.n g.c] 30 (0,0)⟩:Blk)∈M1) (h7:(⟨b7,.cells #[.int .i64 i] 3 (0,0)⟩:Blk)∈M1) {xa:Option Addr} {xc:Nat} (hx:FsAt I M1 xa t.n (Z0e (Z02 g.ds) F t.ns [])) :
  ∀ (m j:Nat),j < m->∀ (hj:j < t.ns.length) (s:Sy) (hs:s.m.length=64),Spec Tryz.prog 142 [t.val,.slice xa t.n xc,.int .i64 j,ZhK b1 b6 b7] I (Z6d b6 s::M1) fun v I' M'=>I'=I∧M'=Z6d b6 (s.marks i (Z0w (Z02 g.ds) F t.ns j).2)::M1
 | 0,j,h,_,_,_=>absurd h (Nat.not_lt_zero _)
 | m+1,j,hjm,hj,s,hs=>by
  have ih:=Z8Y (b6:=b6) (xc:=xc) hg h64 ht hkb hr hno hi h1 h7 hx m;have htn:=ht.n;have hgn:=hg.n;have hdm:=List.getElem_mem hj;have hd:=ht.ns _ hdm;have hkn:=hd.kn;have hkbd:=hkb _ hdm;have hfit:=Z1A hr hj;have hfm:=Z3C hd.k.1 hfit;have hkv:=Z0j hr j hj;have hnm:=List.all_eq_true.1 hno _ hdm;have hle:=Zcc (pl:=Z02 g.ds) (F:=F) hr hj;have hxl:=Z2V (Z02 g.ds) F t.ns [];simp only[List.length_nil,Nat.zero_add] at hxl
  obtain⟨ad,had,hrd⟩:=ht.rs.row Nd.cells_len (show j < t.n by omega) hj
  have hl2:(Z0w (Z02 g.ds) F t.ns j).2=Z27 (Z02 g.ds) t.ns[j] (t.ns[j].kids.map (Z0w (Z02 g.ds) F t.ns)):=by rw[hle];rfl
  rw[hl2];clear hle hl2
  have hkid:∀ q (h:q < t.ns[j].kids.length),∃ k:Nat,t.ns[j].kids[q]=k∧k < j:=fun q h=>by
   have:=hkv _ (List.getElem_mem h);exact⟨t.ns[j].kids[q].toNat,by omega,by omega⟩
  generalize t.ns[j]=d at *;refine Z01 [] Z00 Tryz.func142 rfl rfl rfl ?_
  intro B h0;refine IdxOb.mk ad j had rfl (by omega) ?_;refine LoadOb.mk _ (hrd _) ?_;refine CondOb.mk (fun e=>?_) (fun e3=>?_)
  ·have e:d.k=3:=of_decide_eq_true e
   obtain⟨q,hq1,hq2,hq3⟩:=Zba (nm:=d.t) (ds:=g.ds) (by simpa[e] using hnm);refine CallOb.whole _ (Zct hg hq1 (by omega) hi hs h1 h7) ?_
   rintro v J N - ⟨hJ,hN⟩;subst J
   subst N;refine⟨_,_,.refl,rfl,?_⟩;rw[Z27,decide_eq_true e,cond_true,hq3]
   rfl
  have e3:¬ d.k=3:=of_decide_eq_false e3;refine CondOb.mk (fun e=>?_) (fun e4=>?_)
  ·have e:d.k=4:=of_decide_eq_true e
   have hlD:Z27 (Z02 g.ds) d (d.kids.map (Z0w (Z02 g.ds) F t.ns))=ZaJ (d.kids.map (Z0w (Z02 g.ds) F t.ns)):=by
    rw[Z27,decide_eq_false e3,decide_eq_true e];rfl
   rw[hlD]
   refine LoopOb.inv (ι:=Nat×Sy) (fun x=>{ fl:=[(1,.val (.slice xa t.n xc)),(3,.val (ZhK b1 b6 b7)),(4,.ref 4 0),(42,.val (.slice d.ka d.kn d.kc)),(43,.val (.int .i64 d.kn)),(44,.val (.int .i64 x.1))],cl:=[(4,t.cells)],gi:=I,mi:=Z6d b6 x.2::M1 })
    (fun x=>x.1≤d.kn∧x.2.m.length=64∧s.marks i (ZaJ (d.kids.map (Z0w (Z02 g.ds) F t.ns)))=x.2.marks i (ZaJ ((d.kids.drop x.1).map (Z0w (Z02 g.ds) F t.ns)))) (fun x=>d.kn - x.1) ?_ ?_
   ·exact⟨(0,s),⟨Nat.zero_le _,hs,rfl⟩,.refl,aF6,.cons rfl (.nil)⟩
   rintro⟨q,s'⟩ ⟨hq,hs',hgo⟩;simp only at hq hs' hgo
   refine CondOb.mk (fun h=>?_) (fun h=>?_)
   rotate_left
   ·have hge:d.kids.length≤q:=by have:¬ (q:Int) < (d.kn:Int):=of_decide_eq_false h;omega
    rw[List.drop_of_length_le hge] at hgo;refine⟨_,_,.refl,rfl,?_⟩;rw[hgo]
    rfl
   have hlt:q < d.kn:=by have:(q:Int) < (d.kn:Int):=of_decide_eq_true h;omega
   have hlt':q < d.kids.length:=by omega
   obtain⟨ak,hak,hrk⟩:=hd.rs.one hlt hlt';obtain⟨k,hk,hkj⟩:=hkid q hlt';rw[hk] at hrk
   have hkx:k < (Z0e (Z02 g.ds) F t.ns []).length:=by omega
   obtain⟨ax,hax,hrx⟩:=hx.rd k hkx
   have hdr:(d.kids.drop q).map (Z0w (Z02 g.ds) F t.ns)=Z0w (Z02 g.ds) F t.ns k::(d.kids.drop (q+1)).map (Z0w (Z02 g.ds) F t.ns):=by
    rw[List.drop_eq_getElem_cons hlt',List.map_cons,hk]
   have hfl:(Z0w (Z02 g.ds) F t.ns k).1=(Z0e (Z02 g.ds) F t.ns [])[k]:=by
    rw[ZaL];simp[List.getD_eq_getElem?_getD,hkx]
   rw[hdr,ZaJ,hfl,Sy.marks_app] at hgo;refine IdxOb.mk ak q hak rfl hlt ?_;refine LoadOb.mk _ (hrk _) ?_;refine CallOb.whole _ (ih k (by omega) (by omega) s' hs') ?_;rintro v J N - ⟨hJ,hN⟩;subst J
   subst N;refine IdxOb.mk ax k hax rfl (by omega) ?_;refine LoadOb.mk _ ((hrx.sub fun x hx=>.tail _ hx).part (k:=0) (m:=1) (by decide)) ?_;refine CondOb.mk (fun hz=>?_) (fun hz=>?_)
   ·have hz':(Z0e (Z02 g.ds) F t.ns [])[k].z=false:=by simpa using hz
    rw[hz'] at hgo;refine⟨_,_,.refl,rfl,?_⟩;rw[hgo]
    rfl
   ·have hz':(Z0e (Z02 g.ds) F t.ns [])[k].z=true:=by simpa using hz
    rw[hz'] at hgo;refine ArithOb.mk _ (Z03 (i:=q) (by omega)) ?_;exact⟨(q+1,s'.marks i (Z0w (Z02 g.ds) F t.ns k).2),⟨⟨hlt,by rw[Sy.marks_len];exact hs',hgo⟩,by simp only;omega⟩,.refl,aF6,.cons rfl (.nil)⟩
  have e4:¬ d.k=4:=of_decide_eq_false e4;refine CondOb.mk (fun e=>?_) (fun e6=>?_)
  ·have e:d.k=6:=of_decide_eq_true e
   have h1k:=hfm.one (by omega)
   have hk0:0 < d.kids.length:=by omega
   refine CondOb.mk (fun hh=>?_) (fun hh=>?_)
   ·have hh':decide (d.hi=0)=false:=by
     have hh2:(!decide (d.hi=0))=true:=hh
     simpa using hh2
    obtain⟨ak,hak,hrk⟩:=hd.rs.one (j:=0) (by omega) hk0;obtain⟨k,hk,hkj⟩:=hkid 0 hk0;rw[hk] at hrk
    have hlD:Z27 (Z02 g.ds) d (d.kids.map (Z0w (Z02 g.ds) F t.ns))=(Z0w (Z02 g.ds) F t.ns k).2:=by
     have hkk:d.kids=[(k:Int)]:=by
      match hx:d.kids,hk0,h1k,hk with
      | [a],_,_,hk=>simp only[List.getElem_cons_zero] at hk;rw[hk]
      | _::_::_,_,h,_=>simp at h;omega
     rw[Z27,decide_eq_false e3,decide_eq_false e4,hh',hkk];simp
    rw[hlD];refine CodeOb.draw Z00 rfl rfl rfl ?_
    refine IdxOb.mk ak 0 hak rfl (by omega) ?_;refine LoadOb.mk _ (hrk _) ?_;refine CallOb.whole _ (ih k (by omega) (by omega) s hs) ?_;rintro v J N - ⟨hJ,hN⟩;subst J
    subst N;exact⟨_,_,.refl,rfl,rfl⟩
   ·have hh':decide (d.hi=0)=true:=by
     have hh2:(!decide (d.hi=0))=false:=hh
     simpa using hh2
    have hlD:Z27 (Z02 g.ds) d (d.kids.map (Z0w (Z02 g.ds) F t.ns))=[]:=by
     rw[Z27,decide_eq_false e3,decide_eq_false e4,decide_eq_true e,hh'];rfl
    rw[hlD];exact⟨_,_,.refl,rfl,rfl⟩
  have e6:¬ d.k=6:=of_decide_eq_false e6
  have hlD:Z27 (Z02 g.ds) d (d.kids.map (Z0w (Z02 g.ds) F t.ns))=(d.kids.map (Z0w (Z02 g.ds) F t.ns)).flatMap (·.2):=by
   rw[Z27,decide_eq_false e3,decide_eq_false e4,decide_eq_false e6];rfl
  rw[hlD]
  refine LoopOb.inv (ι:=Nat×Sy) (fun x=>{ fl:=[(1,.val (.slice xa t.n xc)),(3,.val (ZhK b1 b6 b7)),(4,.ref 4 0),(21,.val (.slice d.ka d.kn d.kc)),(22,.val (.int .i64 d.kn)),(23,.val (.int .i64 x.1))],cl:=[(4,t.cells)],gi:=I,mi:=Z6d b6 x.2::M1 })
   (fun x=>x.1≤d.kn∧x.2.m.length=64∧s.marks i ((d.kids.map (Z0w (Z02 g.ds) F t.ns)).flatMap (·.2))=x.2.marks i (((d.kids.drop x.1).map (Z0w (Z02 g.ds) F t.ns)).flatMap (·.2))) (fun x=>d.kn - x.1) ?_ ?_
  ·exact⟨(0,s),⟨Nat.zero_le _,hs,rfl⟩,.refl,aF6,.cons rfl (.nil)⟩
  rintro⟨q,s'⟩ ⟨hq,hs',hgo⟩;simp only at hq hs' hgo
  refine CondOb.mk (fun h=>?_) (fun h=>?_)
  rotate_left
  ·have hge:d.kids.length≤q:=by have:¬ (q:Int) < (d.kn:Int):=of_decide_eq_false h;omega
   rw[List.drop_of_length_le hge] at hgo;refine⟨_,_,.refl,rfl,?_⟩;rw[hgo]
   rfl
  have hlt:q < d.kn:=by have:(q:Int) < (d.kn:Int):=of_decide_eq_true h;omega
  have hlt':q < d.kids.length:=by omega
  obtain⟨ak,hak,hrk⟩:=hd.rs.one hlt hlt';obtain⟨k,hk,hkj⟩:=hkid q hlt';rw[hk] at hrk;rw[List.drop_eq_getElem_cons hlt',List.map_cons,hk,List.flatMap_cons,Sy.marks_app] at hgo;refine IdxOb.mk ak q hak rfl hlt ?_;refine LoadOb.mk _ (hrk _) ?_;refine CallOb.whole _ (ih k (by omega) (by omega) s' hs') ?_;rintro v J N - ⟨hJ,hN⟩;subst J
  subst N;refine ArithOb.mk _ (Z03 (i:=q) (by omega)) ?_;exact⟨(q+1,s'.marks i (Z0w (Z02 g.ds) F t.ns k).2),⟨⟨hlt,by rw[Sy.marks_len];exact hs',hgo⟩,by simp only;omega⟩,.refl,aF6,.cons rfl (.nil)⟩
theorem Holds.permW {I:GH} {M N:List Blk} {w:World} (h:Holds I M w) (hp:M.Perm N):Holds I N w:=
 ⟨h.i,fun x hx=>h.m x (hp.mem_iff.2 hx),fun x hx=>h.d x (hp.mem_iff.2 hx),((hp.map (·.num)).nodup_iff).1 h.nd⟩
theorem Kept.permW {I I':GH} {M N M' N':List Blk} {w w':World} (h:Kept I M w I' M' w') (hp:M.Perm N) (hp':M'.Perm N'):Kept I N w I' N' w':=
 ⟨h.le,h.newI,fun x hx=>by
  rcases h.newM x (hp'.mem_iff.2 hx) with ⟨y,hy,e⟩ | h1
  ·exact .inl ⟨y,hp.mem_iff.1 hy,e⟩
  ·exact .inr h1,fun b hb hy=>h.old b hb fun y hy'=>hy y (hp.mem_iff.1 hy'),h.out,h.sz⟩
theorem Spec.permW {P:Program} {f:Nat} {args:List Value} {I:GH} {M N:List Blk} {p q:Value->GH->List Blk->Prop} (hp:M.Perm N) (hq:∀ v I' M',p v I' M'->∃ N',M'.Perm N'∧q v I' N') (h:Spec P f args I M p):Spec P f args I N q:=by
 rcases h with ⟨h1,h2⟩ | h2
 ·refine .inl ⟨h1,fun w hw=>(h2 w (hw.permW hp.symm)).mono ?_⟩
  rintro e w' ⟨v,I',M',h3,h4,h5,h6⟩;obtain⟨N',h7,h8⟩:=hq _ _ _ h4
  exact⟨v,I',N',h3,h8,h5.permW h7,h6.permW hp h7⟩
 ·refine .inr fun w hw=>?_
  obtain⟨v,w',I',M',h3,h4,h5,h6⟩:=h2 w (hw.permW hp.symm);obtain⟨N',h7,h8⟩:=hq _ _ _ h4
  exact⟨v,w',I',N',h3,h8,h5.permW h7,h6.permW hp h7⟩
def Sy.loop (s:Sy) (i:Nat):Sy:=⟨s.n,s.m,s.w ||| Z7p i⟩
def Z4u (pl:List (ByteArray×Int)) (F:List Fl) (s:Sy) (i:Nat) (d:Df):Sy:=
 bif Z0N d.t.ns (Z0e pl F d.t.ns []) then (s.marks i (Z0w pl F d.t.ns d.t.root).2).loop i else s.marks i (Z0w pl F d.t.ns d.t.root).2
def sy0 (n:Nat):Sy:=⟨n,List.replicate 64 0,0⟩
def Z5u (pl:List (ByteArray×Int)) (F:List Fl):Nat->List Df->Sy->Sy
 | _,[],s=>s
 | i,d::ds,s=>Z5u pl F (i+1) ds (Z4u pl F s i d)
def ZcC (ds:List Df) (F:List Fl):Sy:=Z5u (Z02 ds) F 0 ds (sy0 ds.length)
theorem Zbb (pl:List (ByteArray×Int)) (F:List Fl) (s:Sy) (i:Nat) (d:Df):(Z4u pl F s i d).m.length=s.m.length:=by
 unfold Z4u
 cases Z0N d.t.ns (Z0e pl F d.t.ns []) with
 | true=>exact Sy.marks_len _ s i
 | false=>exact Sy.marks_len _ s i
theorem Zbc (pl:List (ByteArray×Int)) (F:List Fl):∀ (l:List Df) (i:Nat) (s:Sy) (d:Df),Z5u pl F i (l++[d]) s=Z4u pl F (Z5u pl F i l s) (i+l.length) d
 | [],i,s,d=>rfl
 | a::l,i,s,d=>by
  rw[List.cons_append,Z5u,Z5u,Zbc pl F l]
  congr 1
  simp;omega
theorem Z9P (pl:List (ByteArray×Int)) (F:List Fl):∀ (l:List Df) (i:Nat) (s:Sy),(Z5u pl F i l s).m.length=s.m.length
 | [],i,s=>rfl
 | d::l,i,s=>by rw[Z5u,Z9P pl F l,Zbb]
theorem Zkz {I:GH} {M:List Blk} {b:Nat} {s:Sy} (hM:Z6d b s∈M):Rd I M ((⟨b,0,none⟩:Addr).add 65) 1 [Z3B s.w]:=by
 rw[Z06 _ rfl];refine⟨rfl,_,_,_,.inr ⟨_,hM,rfl,rfl⟩,?_,rfl⟩
 show (s.cells.drop (0+65)).take 1=_
 rw[Sy.cells,Nat.zero_add,List.drop_succ_cons,List.drop_left' (Z1u _)];rfl
theorem ZhL (s:Sy) (i:Nat):Z05 s.cells (0+65) [Z3B (s.w ||| Z7p i)]=(s.loop i).cells:=by
 unfold Sy.cells Sy.loop Z05;simp only[Nat.zero_add,List.length_cons,List.length_nil];rw[List.take_succ_cons,List.take_left' (Z1u _),List.drop_succ_cons,List.drop_of_length_le (by simp[Z1u])]
 simp
theorem Z6w {I:GH} {M:List Blk} {b:Nat} {s:Sy} (hM:Z6d b s∈M):Rd I M (⟨b,0,none⟩:Addr) 66 s.cells:=
 ⟨rfl,_,_,_,.inr ⟨_,hM,rfl,rfl⟩,by simp only[List.drop_zero];exact List.take_of_length_le (show s.cells.length≤66 by rw[Sy.cells_len];exact Nat.le_refl _),Sy.cells_len s⟩
set_option maxRecDepth 100000 in
set_option maxHeartbeats 8000000 in
theorem Zfa {I:GH} {deb:List Int} (hT:Tabs I deb) {g:Gr} (hg:g.ok I) (hkb:∀ d∈g.ds,KB d.t) (h64:Z13 deb g=0->g.n≤64):Spec Tryz.prog 99 [g.val] I [] fun v I' M'=>(∀ b o,I b=some o->I' b=some o)∧M'=[] ∧
  ((Z13 deb g≠0∧v=.tuple #[(sy0 0).val,.int .i64 (Z13 deb g)])∨(Z13 deb g=0∧∃ F,IsFlow g.ds F∧v=.tuple #[(ZcC g.ds F).val,.int .i64 0])):=by
 refine Z01 [1,2,6,7] Z00 Tryz.func99 rfl rfl rfl ?_;intro B h0;have hgn:=hg.n;have hcap:=hg.rs.cap
 refine AllocOb.mk fun b1 hb1 hbM1=>?_
 refine AllocOb.mk fun b2 hb2 hbM2=>?_
 refine LoadOb.mk [.slice g.a g.n g.c] (Z0d (cs:=[.slice g.a g.n g.c]) (k:=0) (n:=1) (.tail _ (.head _)) (by simp)) ?_;refine CallOb.mk [] [Z6d b2 (sy0 0),⟨b1,.cells #[.slice g.a g.n g.c] 30 (0,0)⟩] _ (.refl _) (ZiZ hT hg) ?_;rintro v I1 N - ⟨hI1,⟨hm,rfl,rfl⟩ | ⟨hm,bf,F,rfl,rfl,hF⟩⟩
 ·refine CondOb.mk (fun _=>?_) (fun h=>absurd h (by simp[hm]))
  refine StoreOb.to [] _ _ _ rfl rfl rfl rfl (sy0 0).cells rfl ?_;refine LoadOb.mk _ (Z6w (.head _)) ?_;exact⟨_,_,.sub (List.nil_sublist _) .refl,hI1,rfl,.inl ⟨hm,rfl⟩⟩
 refine CondOb.mk (fun h=>absurd h (by simp)) (fun _=>?_);have hM:=Z9s hgn hm
 have hFn:F.length=g.n:=by rw[hF.len,hgn]
 have hn64:=h64 hm;refine LoadOb.mk [.slice g.a g.n g.c] (Z0d (cs:=[.slice g.a g.n g.c]) (k:=0) (n:=1) (.tail _ (.tail _ (.head _))) (by simp)) ?_
 refine AllocOb.mk fun b6 hb6 hbM6=>?_
 refine StoreOb.to [] _ _ _ rfl rfl rfl rfl (sy0 g.n).cells rfl ?_;refine LoadOb.mk [.slice g.a g.n g.c] (Z0d (cs:=[.slice g.a g.n g.c]) (k:=0) (n:=1) (.tail _ (.tail _ (.tail _ (.head _)))) (by simp)) ?_
 refine LoopOb.inv (ι:=Nat×GH) (fun x=>{ fl:=[(1,.val (ptr b1)),(2,.val (ptr b2)),(4,.val (.slice (some ⟨bf,0,none⟩) g.n g.n)),(6,.val (ptr b6)),(25,.val (.slice g.a g.n g.c)),(26,.val (.int .i64 g.n)),(27,.val (.int .i64 x.1))],cl:=[],gi:=x.2,mi:=[Z6d b6 (Z5u (Z02 g.ds) F 0 (g.ds.take x.1) (sy0 g.n)),Z0M bf F,Z6d b2 (sy0 0),⟨b1,.cells #[.slice g.a g.n g.c] 30 (0,0)⟩] })
  (fun x=>x.1≤g.n∧∀ b o,I b=some o->x.2 b=some o) (fun x=>g.n - x.1) ?_ ?_
 ·exact⟨(0,I1),⟨Nat.zero_le _,hI1⟩,.refl,aF7,.nil⟩
 rintro⟨i,J⟩ ⟨hi,hJ⟩;simp only at hi hJ
 refine CondOb.mk (fun h=>?_) (fun h=>?_)
 rotate_left
 ·have hge:i=g.n:=by have:¬ (i:Int) < (g.n:Int):=of_decide_eq_false h;omega
  refine LoadOb.mk _ (Z6w (.head _)) ?_;refine StoreOb.to [Z6d b6 (Z5u (Z02 g.ds) F 0 (g.ds.take i) (sy0 g.n)),Z0M bf F] _ _ _ rfl rfl rfl rfl (Z5u (Z02 g.ds) F 0 (g.ds.take i) (sy0 g.n)).cells ?_ ?_
  ·rfl
  refine LoadOb.mk _ (Z6w (.tail _ (.tail _ (.head _)))) ?_;refine⟨_,_,.sub (List.nil_sublist _) .refl,hJ,rfl,.inr ⟨hm,F,hF,?_⟩⟩;rw[hge,List.take_of_length_le (l:=g.ds) (by omega),ZcC,hgn]
  rfl
 have hlt:i < g.n:=by have:(i:Int) < (g.n:Int):=of_decide_eq_true h;omega
 have hlt':i < g.ds.length:=by omega
 have hgJ:=hg.mono hJ;have hTJ:=hT.mono hJ;obtain⟨ad,had,hrd⟩:=hgJ.rs.row Df.cells_len hlt hlt';have hdm:=List.getElem_mem hlt';have hd:=hgJ.ds _ hdm;have hr:=hM.right _ hdm;have hno:=hM.named _ hdm;have hkbd:=hkb _ hdm
 have hsn:Z5u (Z02 g.ds) F 0 (g.ds.take (i+1)) (sy0 g.n)=Z4u (Z02 g.ds) F (Z5u (Z02 g.ds) F 0 (g.ds.take i) (sy0 g.n)) i g.ds[i]:=by
  rw[List.take_succ_eq_append_getElem hlt',Zbc,List.length_take_of_le (by omega),Nat.zero_add]
 have hsl:(Z5u (Z02 g.ds) F 0 (g.ds.take i) (sy0 g.n)).m.length=64:=by rw[Z9P];rfl
 generalize g.ds[i]=d at hrd hd hr hno hkbd hsn;refine IdxOb.mk ad i had rfl hlt ?_;refine LoadOb.mk _ (hrd _) ?_
 refine AllocOb.mk fun b7 hb7 hbM7=>?_
 refine StoreOb.to [] _ _ _ rfl rfl rfl rfl [.int .i64 i] rfl ?_;refine LoadOb.mk [.slice g.a g.n g.c] (Z0d (cs:=[.slice g.a g.n g.c]) (k:=0) (n:=1) (.tail _ (.tail _ (.tail _ (.tail _ (.head _))))) (by simp)) ?_;generalize hsv:Z5u (Z02 g.ds) F 0 (g.ds.take i) (sy0 g.n)=s at hsl hsn ⊢
 have hat:∀ {M:List Blk},Z0M bf F∈M->FsAt J M (some ⟨bf,0,none⟩) g.n F:=fun hM'=>by
  have:=Z6m (I:=J) hM'
  rwa [hFn] at this
 have hnp:Z5S g F d.t=some (Z0e (Z02 g.ds) F d.t.ns []):=by
  rw[Z5S,hr,hno,decide_eq_true hFn];rfl
 refine CallOb.whole _ (Zca (lc:=g.n) hTJ hgJ hd.t (hat (.tail _ (.tail _ (.head _))))) ?_;rintro v J2 M2 - ⟨hJ2,⟨hn,-,-⟩ | ⟨r,bx,hn,rfl,rfl⟩⟩
 ·rw[hnp] at hn;cases hn
 rw[hnp] at hn;obtain rfl:=Option.some.inj hn;refine GuardOb.mk (fun h=>?_) (fun h=>?_)
 rotate_left
 ·cases h
 refine CondOb.mk (fun h=>absurd h (by simp)) (fun _=>?_);have hroot:=Z0Q hr
 have hls:=Z8Y (b1:=b1) (b6:=b6) (b7:=b7) (i:=i) (xa:=some ⟨bx,0,none⟩) (xc:=d.t.n) (F:=F) (hgJ.mono hJ2) hn64 (hd.t.mono hJ2) hkbd hr hno (by omega) (M1:=[Z0M bx (Z0e (Z02 g.ds) F d.t.ns []),⟨b7,.cells #[.int .i64 i] 3 (0,0)⟩,Z0M bf F,Z6d b2 (sy0 0),⟨b1,.cells #[.slice g.a g.n g.c] 30 (0,0)⟩]) (.tail _ (.tail _ (.tail _ (.tail _ (.head _))))) (.tail _ (.head _)) (by
  have:=Z6m (I:=J2) (M:=[Z0M bx (Z0e (Z02 g.ds) F d.t.ns []),⟨b7,.cells #[.int .i64 i] 3 (0,0)⟩,Z0M bf F,Z6d b2 (sy0 0),⟨b1,.cells #[.slice g.a g.n g.c] 30 (0,0)⟩]) (b:=bx) (l:=Z0e (Z02 g.ds) F d.t.ns []) (.head _);rw[Z2V,hd.t.n] at this
  simpa using this) d.t.ns.length d.t.root.toNat (by omega) (by omega) s hsl
 rw[Int.toNat_of_nonneg hroot.1] at hls;have hls2:=Spec.permW (q:=fun v I' M'=>I'=J2∧M'=Z6d b6 (s.marks i (Z0w (Z02 g.ds) F d.t.ns d.t.root.toNat).2)::[Z0M bx (Z0e (Z02 g.ds) F d.t.ns []),⟨b7,.cells #[.int .i64 i] 3 (0,0)⟩,Z0M bf F,Z6d b2 (sy0 0),⟨b1,.cells #[.slice g.a g.n g.c] 30 (0,0)⟩]) (List.perm_middle (a:=Z6d b6 s) (l₁:=[Z0M bx (Z0e (Z02 g.ds) F d.t.ns []),⟨b7,.cells #[.int .i64 i] 3 (0,0)⟩]) (l₂:=[Z0M bf F,Z6d b2 (sy0 0),⟨b1,.cells #[.slice g.a g.n g.c] 30 (0,0)⟩])).symm (fun v I' M' h=>⟨M',.refl _,h⟩) hls;refine CallOb.whole _ hls2 ?_;rintro v J3 N - ⟨hJ3,hN⟩;subst J3
 subst N;generalize hs1:s.marks i (Z0w (Z02 g.ds) F d.t.ns d.t.root.toNat).2=s1 at *
 have hs1l:s1.m.length=64:=by rw[←hs1,Sy.marks_len,hsl]
 refine CallOb.whole _ (Zb1 (xs:=Z0e (Z02 g.ds) F d.t.ns []) (hd.t.mono hJ2) hr ?_) ?_
 ·have:=Z6m (I:=J2) (M:=Z6d b6 s1::[Z0M bx (Z0e (Z02 g.ds) F d.t.ns []),⟨b7,.cells #[.int .i64 i] 3 (0,0)⟩,Z0M bf F,Z6d b2 (sy0 0),⟨b1,.cells #[.slice g.a g.n g.c] 30 (0,0)⟩]) (b:=bx) (l:=Z0e (Z02 g.ds) F d.t.ns []) (.tail _ (.head _))
  rw[Z2V,hd.t.n] at this
  simpa using this
 rintro v J3 N - ⟨hv,hJ3,hN⟩;subst J3
 subst N;subst v
 have hst:(Z6d b6 (Z4u (Z02 g.ds) F s i d))=(Z6d b6 (bif Z0N d.t.ns (Z0e (Z02 g.ds) F d.t.ns []) then s1.loop i else s1)):=by
  rw[Z4u,←hs1];rfl
 refine CondOb.mk (fun he=>?_) (fun he=>?_)
 rotate_left
 ·have he':Z0N d.t.ns (Z0e (Z02 g.ds) F d.t.ns [])=false:=he
  refine ArithOb.mk _ (Z03 (i:=i) (by omega)) ?_;refine⟨(i+1,J2),⟨⟨hlt,fun b o h=>hJ2 _ _ (hJ _ _ h)⟩,by simp only;omega⟩,.sub (.cons_cons _ (.cons _ (.cons _ (.refl _)))) (.eqM ?_),aF7,.nil⟩;simp only
  rw[hsn,hst,he'];rfl
 have he':Z0N d.t.ns (Z0e (Z02 g.ds) F d.t.ns [])=true:=he;refine CodeOb.draw Z00 rfl rfl rfl ?_;refine LoadOb.mk _ (Zkz (.head _)) ?_;refine LoadOb.mk [.int .i64 i] (Z0d (cs:=[.int .i64 i]) (k:=0) (n:=1) (.tail _ (.tail _ (.head _))) (by simp)) ?_;refine ShOb.mk i rfl ?_;refine ArithOb.mk _ (Zh4 (by omega)) ?_;refine StoreOb.addTo [] _ s1.cells _ rfl ?_ rfl (s1.loop i).cells ?_ ?_
 ·rw[Sy.cells_len]
  rfl
 ·show Z05 s1.cells (0+65) [Value.int .u64 (Zmr s1.w.toNat (Z7p i).toNat)]=_
  rw[Z9D];exact ZhL s1 i
 refine ArithOb.mk _ (Z03 (i:=i) (by omega)) ?_;refine⟨(i+1,J2),⟨⟨hlt,fun b o h=>hJ2 _ _ (hJ _ _ h)⟩,by simp only;omega⟩,.sub (.cons_cons _ (.cons _ (.cons _ (.refl _)))) (.eqM ?_),aF7,.nil⟩;simp only
 rw[hsn,hst,he'];rfl
def Zfb (l:List Nat):List Value:=l.map fun n:Nat=>Value.int .i64 n
def Z60 (s:Sy):List Nat:=Z3y s.w 64
open Classical in
noncomputable def Z8h (s:Sy):List Nat:=(List.range 64).filter fun i=>decide (ComesM s.m i i)
theorem ZjB {s:Sy} {b:W64} (h:∀ i,i < 64->(b.getLsbD i=true ↔ ComesM s.m i i)):Z3y b 64=Z8h s:=by
 unfold Z3y Z8h
 apply List.filter_congr
 intro i hi;have:=h i (by simpa using hi)
 by_cases hc:ComesM s.m i i
 ·simp[hc,this.2 hc]
 ·have:b.getLsbD i=false:=by
   cases hb:b.getLsbD i with
   | false=>rfl
   | true=>exact absurd (this.1 hb) hc
  simp[hc,this]
theorem ZkA (pl:List (ByteArray×Int)) (F:List Fl):∀ (l:List Df) (i:Nat) (s:Sy),(Z5u pl F i l s).n=s.n
 | [],i,s=>rfl
 | d::l,i,s=>by
  rw[Z5u,ZkA pl F l]
  have hm:∀ (q:List Nat) (s:Sy),(s.marks i q).n=s.n:=fun q=>by
   induction q with
   | nil=>exact fun s=>rfl
   | cons k q ih=>exact fun s=>ih (s.mark i k)
  unfold Z4u
  cases Z0N d.t.ns (Z0e pl F d.t.ns []) with
  | true=>exact hm _ s
  | false=>exact hm _ s
theorem Znl (ds:List Df) (F:List Fl):(ZcC ds F).n=ds.length:=ZkA _ _ _ _ _
theorem ZjC (ds:List Df) (F:List Fl):(ZcC ds F).m.length=64:=by rw[ZcC,Z9P];rfl
noncomputable def Zbd (e:Int) (s:Sy):Int×Int:=
 if e≠0 then (0,e) else if 0 < (Z8h s).length then (((Z8h s).headD 0:Nat),42) else if 0 < (Z60 s).length then (((Z60 s).headD 0:Nat),43) else (0,0)
theorem OS.pos {os:OS} {l:List Nat} (h:os.ok 1 (Zfb l)):l.length=os.n:=by
 have:=h.len
 simpa[Zfb] using this
theorem ZhM {I:GH} {M M0:List Blk} {os:OS} {l:List Nat} {e:Nat} (h:os.ok 1 (Zfb l)) (hl:0 < l.length) (hM:os.blk e++M0=M):∃ ad,os.a.map (fun g=>(⟨g,0,none⟩:Addr))=some ad∧Rd I M (ad.add (0 * 1)) 1 [.int .i64 (l.headD 0:Nat)]:=by
 have hp:=OS.pos h
 cases ha:os.a with
 | none=>have:=(h.nil ha).1;omega
 | some b=>
  obtain⟨h1,h2,h3,h4⟩:=h.cap b ha;refine⟨⟨b,0,none⟩,rfl,?_⟩;subst hM
  cases l with
  | nil=>simp at hl
  | cons a l=>
   cases hc:os.cur with
   | nil=>rw[hc] at h4;simp[Zfb] at h4
   | cons x xs=>
    rw[hc] at h4
    have hn:os.n * 1=(os.n - 1)+1:=by omega
    rw[hn,List.take_succ_cons] at h4;have hx:x=.int .i64 a:=(List.cons.inj h4).1;refine⟨rfl,_,_,_,.inr ⟨⟨b,.cells os.cur.toArray e (0,0)⟩,?_,rfl,rfl⟩,?_,rfl⟩
    ·unfold OS.blk
     rw[ha];exact .head _
    ·rw[hc,hx]
     rfl
set_option maxHeartbeats 4000000 in
theorem ZcD {I:GH} {deb:List Int} (hT:Tabs I deb) {g:Gr} (hg:g.ok I) (hkb:∀ d∈g.ds,KB d.t) (h64:Z13 deb g=0->g.n≤64):Spec Tryz.prog 58 [g.val] I [] fun v I' M'=>(∀ b o,I b=some o->I' b=some o)∧M'=[] ∧
  ∃ r:Int×Int,v=.tuple #[.int .i64 r.1,.int .i64 r.2]∧((Z13 deb g≠0∧r=(0,Z13 deb g))∨(Z13 deb g=0∧∃ F,IsFlow g.ds F∧r=Zbd 0 (ZcC g.ds F))):=by
 refine Z01 [4] Z00 Tryz.func58 rfl rfl rfl ?_;intro B h0;have hgn:=hg.n;refine CallOb.mk [] [] _ (.refl _) (Zfa hT hg hkb h64) ?_;rintro v I1 N - ⟨hI1,rfl,⟨hm,rfl⟩ | ⟨hm,F,hF,rfl⟩⟩
 ·refine AllocOb.mk fun b5 hb5 hbM5=>?_
  refine StoreOb.to [] _ _ _ rfl rfl rfl rfl (sy0 0).cells rfl ?_;refine CondOb.mk (fun h=>?_) (fun h=>absurd h (by simp[hm]));exact⟨_,_,.sub (List.nil_sublist _) .refl,hI1,rfl,(0,Z13 deb g),rfl,.inl ⟨hm,rfl⟩⟩
 refine AllocOb.mk fun b5 hb5 hbM5=>?_
 refine StoreOb.to [] _ _ _ rfl rfl rfl rfl (ZcC g.ds F).cells rfl ?_;have hsn:=Znl g.ds F;have hsl:=ZjC g.ds F;have hn:=h64 hm;generalize hs:ZcC g.ds F=s at hsn hsl;refine CondOb.mk (fun h=>absurd h (by simp)) (fun _=>?_);refine LoadOb.mk _ (Z6w (.head _)) ?_
 refine CallOb.whole _ (Zhb s ⟨hsl,by omega⟩) ?_;rintro v J N - ⟨rfl,rfl,b,rfl,hb⟩;refine CallOb.whole _ (Z8K b) ?_
 rintro v J N - ⟨rfl,os,hos,rfl,rfl⟩
 have hos:os.ok 1 (Zfb (Z8h s)):=by rw[←ZjB hb];exact hos
 have hp:=OS.pos hos;refine CondOb.mk (fun h=>?_) (fun h=>?_)
 ·have h':0 < (Z8h s).length:=by have:(0:Int) < (os.n:Int):=of_decide_eq_true h;omega
  obtain⟨ad,had,hrd⟩:=ZhM (I:=J) hos h' rfl;refine IdxOb.mk ad 0 had rfl (by omega) ?_;refine LoadOb.mk _ hrd ?_;exact⟨_,_,.sub (List.nil_sublist _) .refl,hI1,rfl,(((Z8h s).headD 0:Nat),42),rfl,.inr ⟨hm,F,hF,by rw[hs,Zbd,if_neg (by simp),if_pos h']⟩⟩
 have h':¬ 0 < (Z8h s).length:=by have:¬ (0:Int) < (os.n:Int):=of_decide_eq_false h;omega
 refine LoadOb.mk _ (Zkz (List.mem_append_right _ (.head _))) ?_;refine CallOb.whole _ (Z8K s.w) ?_;rintro v J2 N - ⟨rfl,ot,hot,rfl,rfl⟩;have hot:ot.ok 1 (Zfb (Z60 s)):=hot
 have hp2:=OS.pos hot;refine CondOb.mk (fun h=>?_) (fun h=>?_)
 ·have h2:0 < (Z60 s).length:=by have:(0:Int) < (ot.n:Int):=of_decide_eq_true h;omega
  obtain⟨ad,had,hrd⟩:=ZhM (I:=J2) hot h2 rfl;refine IdxOb.mk ad 0 had rfl (by omega) ?_;refine LoadOb.mk _ hrd ?_;exact⟨_,_,.sub (List.nil_sublist _) .refl,hI1,rfl,(((Z60 s).headD 0:Nat),43),rfl,.inr ⟨hm,F,hF,by rw[hs,Zbd,if_neg (by simp),if_neg h',if_pos h2]⟩⟩
 have h2:¬ 0 < (Z60 s).length:=by have:¬ (0:Int) < (ot.n:Int):=of_decide_eq_false h;omega
 exact⟨_,_,.sub (List.nil_sublist _) .refl,hI1,rfl,(0,0),rfl,.inr ⟨hm,F,hF,by rw[hs,Zbd,if_neg (by simp),if_neg h',if_neg h2]⟩⟩
def orW (l:List Nat) (w:W64):W64:=l.foldl (fun w k=>w ||| Z7p k) w
theorem ZlX (l:List Nat) (w:W64) {i:Nat} (hi:i < 64):(orW l w).getLsbD i=(w.getLsbD i || l.contains i):=ZeJ l w hi
theorem set_self (m:List W64) (i:Nat):m.set i (m.getD i 0)=m:=by
 apply List.ext_getElem?
 intro j;rw[List.getElem?_set]
 by_cases h:i=j
 ·subst h
  by_cases hl:i < m.length
  ·simp[hl,List.getD_eq_getElem?_getD]
  ·simp[hl]
 ·simp[h]
theorem ZhN (i:Nat):∀ (l:List Nat) (s:Sy),i < s.m.length->(s.marks i l).m=s.m.set i (orW l (s.m.getD i 0))
 | [],s,h=>(set_self s.m i).symm
 | k::l,s,h=>by
  have ih:=ZhN i l (s.mark i k) (by simpa[Sy.mark] using h)
  show ((s.mark i k).marks i l).m=_
  rw[ih,Sy.mark];simp only
  rw[List.set_set,Zcm (by simpa using h)];rfl
theorem ZcE (i:Nat):∀ (l:List Nat) (s:Sy),(s.marks i l).w=s.w
 | [],s=>rfl
 | k::l,s=>ZcE i l (s.mark i k)
theorem ZhO (pl:List (ByteArray×Int)) (F:List Fl) (s:Sy) (i:Nat) (d:Df) (h:i < s.m.length):(Z4u pl F s i d).m=s.m.set i (orW (Z0w pl F d.t.ns d.t.root).2 (s.m.getD i 0)):=by
 unfold Z4u;rw[←ZhN i _ s h]
 cases Z0N d.t.ns (Z0e pl F d.t.ns [])<;>rfl
theorem ZhP (pl:List (ByteArray×Int)) (F:List Fl) (s:Sy) (i:Nat) (d:Df):(Z4u pl F s i d).w=bif Z0N d.t.ns (Z0e pl F d.t.ns []) then s.w ||| Z7p i else s.w:=by
 unfold Z4u;cases Z0N d.t.ns (Z0e pl F d.t.ns [])
 ·exact ZcE i _ s
 ·show (s.marks i _).w ||| Z7p i=_
  rw[ZcE];rfl
theorem Z7N (pl:List (ByteArray×Int)) (F:List Fl):∀ (l:List Df) (i:Nat) (s:Sy),s.m.length=64->i+l.length≤64 ->
  (∀ j,j < i∨i+l.length≤j->(Z5u pl F i l s).m.getD j 0=s.m.getD j 0) ∧
  (∀ q (h:q < l.length),(Z5u pl F i l s).m.getD (i+q) 0=orW (Z0w pl F l[q].t.ns l[q].t.root).2 (s.m.getD (i+q) 0)) ∧
  (∀ j,j < 64->j < i∨i+l.length≤j->(Z5u pl F i l s).w.getLsbD j=s.w.getLsbD j) ∧
  (∀ q (h:q < l.length),(Z5u pl F i l s).w.getLsbD (i+q)=(s.w.getLsbD (i+q) || Z0N l[q].t.ns (Z0e pl F l[q].t.ns [])))
 | [],i,s,_,_=>⟨fun _ _=>rfl,fun _ h=>absurd h (by simp),fun _ _ _=>rfl,fun _ h=>absurd h (by simp)⟩
 | d::l,i,s,hs,hl=>by
  rw[List.length_cons] at hl;obtain⟨h1,h2,h3,h4⟩:=Z7N pl F l (i+1) (Z4u pl F s i d) (by rw[Zbb,hs]) (by omega)
  have hm:∀ j,j≠i->(Z4u pl F s i d).m.getD j 0=s.m.getD j 0:=fun j hj=>by
   rw[ZhO pl F s i d (by omega)];simp[List.getD_eq_getElem?_getD,List.getElem?_set,Ne.symm hj]
  have hw:∀ j,j < 64->j≠i->(Z4u pl F s i d).w.getLsbD j=s.w.getLsbD j:=fun j hj hne=>by
   rw[ZhP];cases Z0N d.t.ns (Z0e pl F d.t.ns [])
   ·rfl
   ·rw[cond_true,BitVec.getLsbD_or,Z6o hj]
    simp[hne]
  refine⟨fun j hj=>?_,fun q h=>?_,fun j hj hj2=>?_,fun q h=>?_⟩
  ·rw[List.length_cons] at hj
   rw[Z5u,h1 j (by omega),hm j (by omega)]
  ·cases q with
   | zero=>
    rw[Z5u,h1 _ (by omega),ZhO pl F s i d (by omega)];rw[Nat.add_zero,Zcm (by omega)]
    rfl
   | succ q=>
    have:=h2 q (by simpa using h);rw[show i+1+q=i+(q+1) by omega] at this
    rw[Z5u,this,hm _ (by omega)];rfl
  ·rw[List.length_cons] at hj2
   rw[Z5u,h3 j hj (by omega),hw j hj (by omega)]
  ·cases q with
   | zero=>
    rw[Z5u,h3 _ (by omega) (by omega),ZhP,Nat.add_zero,List.getElem_cons_zero];cases he:Z0N d.t.ns (Z0e pl F d.t.ns [])
    ·simp
    ·rw[cond_true,BitVec.getLsbD_or,Z6o (by omega)]
     simp
   | succ q=>
    have hq:q < l.length:=by simpa using h
    have:=h4 q hq;rw[show i+1+q=i+(q+1) by omega] at this;rw[Z5u,this,hw _ (by omega) (by omega)];rfl
def ZdY (ds:List Df) (F:List Fl) (i:Nat):List Nat:=match ds[i]? with
 | some d=>(Z0w (Z02 ds) F d.t.ns d.t.root).2
 | none=>[]
def Znm (ds:List Df) (F:List Fl) (i:Nat):Bool:=match ds[i]? with
 | some d=>Z0N d.t.ns (Z0e (Z02 ds) F d.t.ns [])
 | none=>false
theorem ZdZ {ds:List Df} {F:List Fl} (hn:ds.length≤64) {i k:Nat} (hk:k < 64):((ZcC ds F).m.getD i 0).getLsbD k=(ZdY ds F i).contains k:=by
 obtain⟨h1,h2,-,-⟩:=Z7N (Z02 ds) F ds 0 (sy0 ds.length) (by rfl) (by omega)
 have h0:∀ j,(sy0 ds.length).m.getD j 0=0#64:=fun j=>by
  simp only[sy0,List.getD_eq_getElem?_getD,List.getElem?_replicate]
  by_cases h:j < 64<;>simp[h]
 unfold ZdY ZcC
 by_cases h:i < ds.length
 ·have:=h2 i h
  rw[Nat.zero_add] at this;rw[this,h0,ZlX _ _ hk,List.getElem?_eq_getElem h];simp
 ·rw[h1 i (by omega),h0,List.getElem?_eq_none (by omega)]
  simp
theorem ZkB {ds:List Df} {F:List Fl} (hn:ds.length≤64) {i:Nat} (hi:i < 64):(ZcC ds F).w.getLsbD i=Znm ds F i:=by
 obtain⟨-,-,h1,h2⟩:=Z7N (Z02 ds) F ds 0 (sy0 ds.length) (by rfl) (by omega);unfold Znm ZcC
 by_cases h:i < ds.length
 ·have:=h2 i h
  rw[Nat.zero_add] at this;rw[this,List.getElem?_eq_getElem h];simp[sy0]
 ·rw[h1 i hi (by omega),List.getElem?_eq_none (by omega)]
  simp[sy0]
section
variable {α:Type} {O:OrdB α} {n:Nat} {body:List α->Nat->α} (hmono:∀ {l m:List α},LeR O l m->∀ i,i < n->O.le (body l i) (body m i))
include hmono
end
section
variable {n:Nat} {body:List Fi->Nat->Fi} (hmono:∀ {l m:List Fi},LeR OI l m->∀ i,i < n->OI.le (body l i) (body m i))
include hmono
end
def ofL (d:Nd) (ls:List (List Nd)):List Nd:=Zo8 d (ls.map ZmJ)
structure TrSmall (t:Tr):Prop where
 n:t.n < 2500
 ns:∀ nd∈t.ns,NdSmall nd
theorem TrW.ok {I:GH} {t:Tr} (h:TrW I t) (hs:TrSmall t):t.ok I:=
 ⟨h.rs.big (by have:=hs.n;omega),fun nd hnd=>(h.ns nd hnd).ok (hs.ns nd hnd),h.root⟩
def ZoU (g:Gr) (L0:List Tr) (i:Nat):List Tr:=L0++(g.ds.take i).map Df.t
structure L2 (L:List Tr) (n0:Nat) (x:Nat×Nat):Prop where
 i:x.2≤L.length
 n:x.1≤6000
 ge:n0≤x.1
 small:x.1 < 2500->x.2≤x.1∧∀ j (h:j < L.length),j < x.2->TrSmall L[j]
structure FA where
 l:List Fl
 a:Option Addr
 n:Nat
 c:Nat
def FA.val (x:FA):Value:=.slice x.a x.n x.c
theorem Z6x {ds:List Df} {f:Df->Fl} {i:Nat} (h:i < ds.length):(ds.map f).getD i fl0=f ds[i]:=by simp[List.getD_eq_getElem?_getD,h]
theorem PreF.all {ds:List Df} {l:List Fl} (h:PreF ds l):PreF ds (ds.map (Z1M (Z02 ds) l))∧LeL l (ds.map (Z1M (Z02 ds) l)):=by
 have hle:LeL l (ds.map (Z1M (Z02 ds) l)):=LeL.of (by simp[h.len]) fun i hi=>by
  rw[Z6x (by rw[←h.len];exact hi)];exact h.up i _
 refine⟨⟨by simp,fun i hi=>?_,fun m hm hc=>LeL.of (by simp[hm]) fun i hi=>?_⟩,hle⟩
 ·rw[Z6x hi]
  exact Z3u hle _
 ·have hi':i < ds.length:=by simpa using hi
  rw[Z6x hi'];exact(Z3u (h.least m hm hc) _).trans (hc i hi')
def okI (deb:List Int) (g:Gr) (l:List Fi) (t:Tr):Bool:=decide (l.length=g.n) && (decide (Z13 deb g=0) && (right t && Z2t (Z02 g.ds) t.ns))
theorem ZlY {I:GH} {M0:List Blk} {deb:List Int} (hcl:Z9N deb) {g:Gr} (hg:g.ok I) (hf:GFit g):Spec Tryz.prog 82 [g.val] I M0 (fun v I' M'=>v=.int .i64 (Z13 deb g)∧I'=I∧M'=M0):=by
 refine Spec.weakK (Spec.frame (Z8X hcl hg hf)) ?_;rintro v J M ⟨M',rfl,-,-,rfl,rfl,rfl⟩;rw[Zcz]
 exact⟨rfl,rfl,rfl⟩
def ZkC (b:Bool) (xs:List (Fl×List Nat)):List Nat:=bif b then ZaJ xs else xs.flatMap (·.2)
theorem ZjD (b:Bool):ZkC b []=[]:=by cases b<;>rfl
theorem ZhQ (b:Bool) (x:Fl×List Nat) (xs:List (Fl×List Nat)):ZkC b (x::xs)=x.2++bif b && !x.1.z then [] else ZkC b xs:=by
 cases b with
 | true=>
  cases hz:x.1.z<;>simp[ZkC,ZaJ,hz]
 | false=>simp[ZkC]
theorem Zfc {pl:List (ByteArray×Int)} {d:Nd} {xs:List (Fl×List Nat)} (h3:¬ d.k=3) (h6:¬ (d.k=6∧d.hi=0)):Z27 pl d xs=ZkC (decide (d.k=4)) xs:=by
 unfold Z27 ZkC;rw[decide_eq_false h3,cond_false]
 cases h4:decide (d.k=4) with
 | true=>rfl
 | false=>
  rw[cond_false,cond_false]
  by_cases a:d.k=6
  ·have b:¬ d.hi=0:=fun e=>h6 ⟨a,e⟩
   rw[decide_eq_true a,decide_eq_false b];rfl
  ·rw[decide_eq_false a]
   rfl
def Zor (pl:List (ByteArray×Int)) (F:List Fl) (d:Nd) (xs:List ((Fl×List Nat)×Bool)):Bool:=xs.any fun x=>(decide (d.k=6) && (decide (d.hi=-1) && x.1.1.z)) || x.2
def ZnR (pl:List (ByteArray×Int)) (F:List Fl) (d:Nd) (xs:List ((Fl×List Nat)×Bool)):(Fl×List Nat)×Bool:=(Z8d pl F d (xs.map (·.1)),Zor pl F d xs)
def Z3Y (pl:List (ByteArray×Int)) (F:List Fl) (ns:List Nd) (j:Int):(Fl×List Nat)×Bool:=Z69 ((fl0,[]),false) (fun d g=>ZnR pl F d (d.kids.map g)) ns j
theorem ZkD {pl:List (ByteArray×Int)} {F:List Fl} {t:Tr} (hr:right t=true) {j:Nat} (hj:j < t.ns.length):Z3Y pl F t.ns j=ZnR pl F t.ns[j] (t.ns[j].kids.map (Z3Y pl F t.ns)):=
 Z4C (fun d g g' h=>by rw[List.map_congr_left h]) hr hj
theorem Ze0 {pl:List (ByteArray×Int)} {F:List Fl} {t:Tr} (hr:right t=true):∀ (m j:Nat),j < m->j < t.ns.length->(Z3Y pl F t.ns j).1=Z0w pl F t.ns j
 | 0,j,h,_=>absurd h (Nat.not_lt_zero _)
 | m+1,j,hm,hj=>by
  rw[ZkD hr hj,Zcc hr hj]
  have:(t.ns[j].kids.map (Z3Y pl F t.ns)).map (·.1)=t.ns[j].kids.map (Z0w pl F t.ns):=by
   rw[List.map_map]
   refine List.map_congr_left fun k hk=>?_
   obtain⟨h1,h2⟩:=Z0j hr j hj k hk;obtain⟨q,rfl⟩:=Int.eq_ofNat_of_zero_le h1;exact Ze0 hr m q (by omega) (by omega)
  show Z8d pl F t.ns[j] _=_
  rw[this]
theorem Znn (pl:List (ByteArray×Int)) (F:List Fl) (ns:List Nd) (j:Int):Z3Y pl F (ns.map Nd.ct) j=Z3Y pl F ns j:=by
 unfold Z3Y Z69;rw[Zdv (f:=fun d g=>ZnR pl F d (d.kids.map g)) (g:=fun d g=>ZnR pl F d (d.kids.map g)) (fun d q=>rfl)]
def Z0U (ds:List Df) (F:List Fl) (i:Nat):List Nat:=(List.range ds.length).filter fun k=>(ZdY ds F i).contains k
theorem Z23 (p:Nat->Bool) (i:Nat):((List.range i).filter p).length≤i:=by
 have:=List.length_filter_le p (List.range i)
 simpa using this
def Zmv (ds:List Df) (F:List Fl) (i:Nat):Bool:=match ds[i]? with
 | some d=>(Z3Y (Z02 ds) F d.t.ns d.t.root).2
 | none=>false
def Z1O (ds:List Df) (F:List Fl):List Nat:=(List.range ds.length).filter (Zmv ds F)
inductive ComesL (A:Nat->List Nat):Nat->Nat->Prop
 | one {i k} (h:k∈A i):ComesL A i k
 | step {i j k} (h:j∈A i) (t:ComesL A j k):ComesL A i k
theorem ComesL.snoc {A:Nat->List Nat} {i j k:Nat} (h:ComesL A i j) (hk:k∈A j):ComesL A i k:=by
 induction h with
 | one h=>exact .step h (.one hk)
 | step h t ih=>exact .step h (ih hk)
def Z3D:List Nat->List Nat->List Nat
 | [],l=>l
 | x::r,l=>Z3D r (bif l.contains x then l else l++[x])
theorem Z2j:∀ (r l:List Nat) (x:Nat),x∈Z3D r l ↔ x∈l∨x∈r
 | [],l,x=>by simp[Z3D]
 | y::r,l,x=>by
  rw[Z3D,Z2j r]
  cases h:l.contains y with
  | true=>
   have hy:y∈l:=by simpa using h
   rw[cond_true]
   constructor
   ·rintro(a | a)
    ·exact .inl a
    ·exact .inr (.tail _ a)
   ·rintro(a | a)
    ·exact .inl a
    ·rcases List.mem_cons.1 a with rfl | a
     ·exact .inl hy
     ·exact .inr a
  | false=>
   rw[cond_false];rw[List.mem_append,List.mem_singleton,List.mem_cons]
   constructor
   ·rintro((a | a) | a)
    ·exact .inl a
    ·exact .inr (.inl a)
    ·exact .inr (.inr a)
   ·rintro(a | a | a)
    ·exact .inl (.inl a)
    ·exact .inl (.inr a)
    ·exact .inr a
theorem Z8Z:∀ (r l:List Nat),∃ s,Z3D r l=l++s
 | [],l=>⟨[],by simp[Z3D]⟩
 | y::r,l=>by
  obtain⟨s,hs⟩:=Z8Z r (bif l.contains y then l else l++[y]);rw[Z3D,hs]
  cases l.contains y with
  | true=>exact⟨s,rfl⟩
  | false=>exact⟨[y]++s,by simp⟩
theorem Z61:∀ (r l:List Nat),l.Nodup->(Z3D r l).Nodup
 | [],l,h=>h
 | y::r,l,h=>by
  rw[Z3D]
  apply Z61 r
  cases hc:l.contains y with
  | true=>exact h
  | false=>
   have hy:y ∉ l:=by simpa using hc
   rw[cond_false,List.nodup_append];refine⟨h,by simp,fun a ha b hb e=>?_⟩
   have:b=y:=by simpa using hb
   subst this;subst e;exact hy ha
theorem Zbe:∀ (n:Nat) (l:List Nat),l.Nodup->(∀ x∈l,x < n)->l.length≤n
 | 0,[],_,_=>Nat.le_refl _
 | 0,a::l,_,h=>absurd (h a (.head _)) (Nat.not_lt_zero _)
 | n+1,l,hd,h=>by
  have h1:=Zbe n (l.erase n) (hd.erase n) fun x hx=>by
   have h2:=h x (List.mem_of_mem_erase hx);have h3:x≠n:=(hd.mem_erase_iff.1 hx).1
   omega
  have h4:=List.length_erase (a:=n) (l:=l)
  split at h4<;>omega
def Z90 (A:Nat->List Nat):Nat->Nat->List Nat->List Nat
 | 0,_,l=>l
 | f+1,k,l=>match l[k]? with
  | some x=>Z90 A f (k+1) (Z3D (A x) l)
  | none=>l
structure Work (A:Nat->List Nat) (n k:Nat) (l0 l:List Nat):Prop where
 nd:l.Nodup
 lt:∀ x∈l,x < n
 sub:∀ x∈l0,x∈l
 src:∀ x∈l,x∈l0∨∃ y∈l0,ComesL A y x
 dn:∀ j x,j < k->l[j]?=some x->∀ y∈A x,y∈l
 k:k≤l.length
theorem Work.len {A:Nat->List Nat} {n k:Nat} {l0 l:List Nat} (h:Work A n k l0 l):l.length≤n:=Zbe n l h.nd h.lt
theorem Work.next {A:Nat->List Nat} {n k:Nat} {l0 l:List Nat} (hA:∀ x,∀ y∈A x,y < n) (h:Work A n k l0 l) {x:Nat} (hx:l[k]?=some x):Work A n (k+1) l0 (Z3D (A x) l):=by
 obtain⟨s,hs⟩:=Z8Z (A x) l
 have hk:k < l.length:=by
  rcases Nat.lt_or_ge k l.length with h1 | h1
  ·exact h1
  ·rw[List.getElem?_eq_none h1] at hx
   cases hx
 have hxl:x∈l:=List.mem_of_getElem? hx;refine⟨Z61 _ _ h.nd,fun z hz=>?_,fun z hz=>(Z2j _ _ _).2 (.inl (h.sub z hz)),fun z hz=>?_,fun j z hj hz y hy=>?_,by rw[hs];simp;omega⟩
 ·rcases(Z2j _ _ _).1 hz with a | a
  ·exact h.lt z a
  ·exact hA x z a
 ·rcases(Z2j _ _ _).1 hz with a | a
  ·exact h.src z a
  ·rcases h.src x hxl with b | ⟨w,hw,b⟩
   ·exact .inr ⟨x,b,.one a⟩
   ·exact .inr ⟨w,hw,b.snoc a⟩
 ·have hz':l[j]?=some z:=by
   rw[hs,List.getElem?_append_left (by omega)] at hz;exact hz
  by_cases e:j=k
  ·subst e
   rw[hx] at hz';obtain rfl:=Option.some.inj hz';exact(Z2j _ _ _).2 (.inr hy)
  ·exact(Z2j _ _ _).2 (.inl (h.dn j z (by omega) hz' y hy))
theorem Work.done {A:Nat->List Nat} {n:Nat} {i:Nat} {l:List Nat} (h:Work A n l.length (A i) l) (x:Nat):x∈l ↔ ComesL A i x:=by
 constructor
 ·intro hx
  rcases h.src x hx with a | ⟨y,hy,a⟩
  ·exact .one a
  ·exact .step hy a
 ·have cl:∀ {y z:Nat},ComesL A y z->y∈l->z∈l:=fun {y z} hc=>by
   induction hc with
   | one hk=>
    intro hy;obtain⟨j,hj,e⟩:=List.getElem_of_mem hy;exact h.dn j _ hj (by rw[List.getElem?_eq_getElem hj,e]) _ hk
   | step hj t ih=>
    intro hy;refine ih ?_;obtain⟨q,hq,e⟩:=List.getElem_of_mem hy;exact h.dn q _ hq (by rw[List.getElem?_eq_getElem hq,e]) _ hj
  intro hc
  cases hc with
  | one hk=>exact h.sub x hk
  | step hj t=>exact cl t (h.sub _ hj)
theorem ZcF {pl:List (ByteArray×Int)} {F:List Fl} {t:Tr} (hr:right t=true) {j:Nat} (hj:j < t.ns.length):(Z3Y pl F t.ns j).2=true ↔ ∃ k∈t.ns[j].kids,(t.ns[j].k=6∧t.ns[j].hi=-1∧(Z0e pl F t.ns []).getD k.toNat fl0=(Z0e pl F t.ns []).getD k.toNat fl0∧((Z0e pl F t.ns []).getD k.toNat fl0).z=true)∨(Z3Y pl F t.ns k).2=true:=by
 have hfl:∀ k∈t.ns[j].kids,(Z3Y pl F t.ns k).1.1=(Z0e pl F t.ns []).getD k.toNat fl0:=fun k hk=>by
  obtain⟨h1,h2⟩:=Z0j hr j hj k hk;obtain⟨q,rfl⟩:=Int.eq_ofNat_of_zero_le h1;rw[Ze0 hr (q+1) q (by omega) (by omega),ZaL]
 rw[ZkD hr hj]
 show Zor pl F t.ns[j] _=true ↔ _
 unfold Zor;rw[List.any_eq_true]
 constructor
 ·rintro⟨x,hx,h⟩
  obtain⟨k,hk,rfl⟩:=List.mem_map.1 hx;refine⟨k,hk,?_⟩;rw[hfl k hk] at h
  simp only[Bool.or_eq_true,Bool.and_eq_true,decide_eq_true_eq] at h
  rcases h with ⟨a,b,c⟩ | h
  ·exact .inl ⟨a,b,rfl,c⟩
  ·exact .inr h
 ·rintro⟨k,hk,h⟩
  refine⟨_,List.mem_map.2 ⟨k,hk,rfl⟩,?_⟩;rw[hfl k hk]
  simp only[Bool.or_eq_true,Bool.and_eq_true,decide_eq_true_eq]
  rcases h with ⟨a,b,-,c⟩ | h
  ·exact .inl ⟨a,b,c⟩
  ·exact .inr h
theorem ZkE {pl:List (ByteArray×Int)} {F:List Fl} {t:Tr} (hr:right t=true):∀ (m j:Nat),j < t.ns.length->t.ns.length - j≤m->(Z3Y pl F t.ns j).2=true->(Z3Y pl F t.ns t.root).2=true
 | 0,j,hj,hm,_=>by omega
 | m+1,j,hj,hm,h=>by
  by_cases e:(j:Int)=t.root
  ·rw[←e]
   exact h
  ·obtain⟨p,hp,hk,hlt⟩:=Z5Q hr hj e
   exact ZkE hr m p hp (by omega) ((ZcF hr hp).2 ⟨_,hk,.inr h⟩)
theorem Zfd {l:List Int} {k:Int} (hk:k∈l) (h:l.length=1):l.headD 0=k:=by
 match l,h with
 | [a],_=>exact(List.mem_singleton.1 hk).symm
theorem Ze1 {pl:List (ByteArray×Int)} {F:List Fl} {t:Tr} (hr:right t=true) (h1:∀ d∈t.ns,d.k=6->d.kids.length=1):∀ (m j:Nat),j < m->∀ (hj:j < t.ns.length),(Z3Y pl F t.ns j).2=true->Z0N t.ns (Z0e pl F t.ns [])=true
 | 0,j,h,_,_=>absurd h (Nat.not_lt_zero _)
 | m+1,j,hm,hj,h=>by
  obtain⟨k,hk,⟨a,b,-,c⟩ | h⟩:=(ZcF hr hj).1 h
  ·refine List.any_eq_true.2 ⟨t.ns[j],List.getElem_mem hj,?_⟩
   simp only[Bool.and_eq_true,decide_eq_true_eq];refine⟨a,b,?_⟩
   rw[Zfd hk (h1 _ (List.getElem_mem hj) a)];exact c
  ·obtain⟨h2,h3⟩:=Z0j hr j hj k hk
   obtain⟨q,rfl⟩:=Int.eq_ofNat_of_zero_le h2;exact Ze1 hr h1 m q (by omega) (by omega) h
theorem ZlZ {pl:List (ByteArray×Int)} {F:List Fl} {t:Tr} (hr:right t=true) (h1:∀ d∈t.ns,d.k=6->d.kids.length=1):(Z3Y pl F t.ns t.root).2=Z0N t.ns (Z0e pl F t.ns []):=by
 obtain⟨r0,r1⟩:=Z0Q hr;obtain⟨r,hrr⟩:=Int.eq_ofNat_of_zero_le r0
 apply Bool.eq_iff_iff.2
 constructor
 ·intro h
  rw[hrr] at h;exact Ze1 hr h1 (r+1) r (by omega) (by omega) h
 ·intro h
  obtain⟨d,hd,h⟩:=List.any_eq_true.1 h;obtain⟨j,hj,rfl⟩:=List.getElem_of_mem hd;simp only[Bool.and_eq_true,decide_eq_true_eq] at h;obtain⟨a,b,c⟩:=h;have hl:=h1 _ hd a
  have hk:t.ns[j].kids.headD 0∈t.ns[j].kids:=by
   match hx:t.ns[j].kids,hl with
   | [q],_=>simp
  exact ZkE hr t.ns.length j hj (by omega) ((ZcF hr hj).2 ⟨_,hk,.inl ⟨a,b,rfl,c⟩⟩)
theorem Ze2 {b:Bool} {x:Nat}:∀ {xs:List (Fl×List Nat)},x∈ZkC b xs->∃ y∈xs,x∈y.2
 | [],h=>by rw[ZjD] at h;cases h
 | y::xs,h=>by
  rw[ZhQ] at h
  rcases List.mem_append.1 h with h | h
  ·exact⟨y,.head _,h⟩
  ·cases hb:b && !y.1.z with
   | true=>rw[hb] at h;cases h
   | false=>
    rw[hb] at h;obtain⟨z,hz,hx⟩:=Ze2 (xs:=xs) h;exact⟨z,.tail _ hz,hx⟩
theorem ZhR {ds:List Df} {F:List Fl} {t:Tr} (hr:right t=true) (hno:Z2t (Z02 ds) t.ns=true):∀ (m j:Nat),j < m->j < t.ns.length->∀ x∈(Z0w (Z02 ds) F t.ns j).2,x < ds.length
 | 0,j,h,_=>absurd h (Nat.not_lt_zero _)
 | m+1,j,hm,hj=>by
  intro x hx;rw[Zcc hr hj] at hx;have hx:x∈Z27 (Z02 ds) t.ns[j] (t.ns[j].kids.map (Z0w (Z02 ds) F t.ns)):=hx;have hnm:=List.all_eq_true.1 hno _ (List.getElem_mem hj)
  by_cases h3:t.ns[j].k=3
  ·obtain⟨q,hq1,hq2,hq3⟩:=Zba (nm:=t.ns[j].t) (ds:=ds) (by simpa[h3] using hnm)
   rw[Z27,decide_eq_true h3,cond_true,hq3] at hx
   have:x=q:=by simpa using hx
   omega
  by_cases h6:t.ns[j].k=6∧t.ns[j].hi=0
  ·rw[Z27,decide_eq_false h3,cond_false,decide_eq_false (show ¬ t.ns[j].k=4 by omega),cond_false,decide_eq_true h6.1,decide_eq_true h6.2] at hx
   cases hx
  ·rw[Zfc h3 h6] at hx
   obtain⟨y,hy,hxy⟩:=Ze2 hx;obtain⟨k,hk,rfl⟩:=List.mem_map.1 hy;obtain⟨h1,h2⟩:=Z0j hr j hj k hk;obtain⟨q,rfl⟩:=Int.eq_ofNat_of_zero_le h1;exact ZhR hr hno m q (by omega) (by omega) x hxy
theorem ZcG {g:Gr} (hM:MayF g) {F:List Fl} (i:Nat):∀ k∈ZdY g.ds F i,k < g.ds.length:=by
 intro k hk;unfold ZdY at hk
 by_cases h:i < g.ds.length
 ·rw[List.getElem?_eq_getElem h] at hk
  have hdm:=List.getElem_mem h;have hr:=hM.right _ hdm;obtain⟨r0,r1⟩:=Z0Q hr;obtain⟨r,hrr⟩:=Int.eq_ofNat_of_zero_le r0;have hk:k∈(Z0w (Z02 g.ds) F g.ds[i].t.ns g.ds[i].t.root).2:=hk;rw[hrr] at hk;exact ZhR hr (hM.named _ hdm) (r+1) r (by omega) (by omega) k hk
 ·rw[List.getElem?_eq_none (by omega)] at hk
  cases hk
theorem Zbf {g:Gr} (hM:MayF g) (h64:g.ds.length≤64) {F:List Fl} {i k:Nat} (hi:i < 64):ComesM (ZcC g.ds F).m i k ↔ ComesL (ZdY g.ds F) i k:=by
 constructor
 ·intro h
  induction h with
  | one hk h=>rw[ZdZ h64 hk] at h;exact .one (by simpa using h)
  | step h hj t ih=>rw[ZdZ h64 hj] at h;exact .step (by simpa using h) (ih hj)
 ·intro h
  induction h with
  | one h=>
   have:=ZcG hM _ _ h;exact .one (by omega) (by rw[ZdZ h64 (by omega)];simpa using h)
  | step h t ih=>
   have:=ZcG hM _ _ h;exact .step (by rw[ZdZ h64 (by omega)];simpa using h) (by omega) (ih (by omega))
theorem ZhS {n:Nat} (hn:n≤64) (p q:Nat->Bool) (h1:∀ k,k < n->p k=q k) (h2:∀ k,n≤k->k < 64->p k=false):(List.range 64).filter p=(List.range n).filter q:=by
 have h64:(List.range 64)=List.range n++(List.range' n (64 - n)):=by
  rw[List.range_eq_range',List.range_eq_range',show 64=n+(64 - n) by omega,←List.range'_append_1];simp
 have h3:(List.range' n (64 - n)).filter p=[]:=by
  rw[List.filter_eq_nil_iff];intro k hk
  rw[List.mem_range'_1] at hk;rw[h2 k (by omega) (by omega)];simp
 rw[h64,List.filter_append,h3,List.append_nil]
 apply List.filter_congr
 intro k hk;exact h1 k (by simpa using hk)
theorem ZjE {I:GH} {g:Gr} (hg:g.ok I) (hM:MayF g) (F:List Fl) (i:Nat):Zmv g.ds F i=Znm g.ds F i:=by
 unfold Zmv Znm
 by_cases h:i < g.ds.length
 ·rw[List.getElem?_eq_getElem h]
  have hdm:=List.getElem_mem h;have hr:=hM.right _ hdm;have ht:=(hg.ds _ hdm).t
  refine ZlZ hr fun d hd hk=>?_
  obtain⟨j,hj,rfl⟩:=List.getElem_of_mem hd;have hnd:=ht.ns _ hd;have:=(Z3C hnd.k.1 (Z1A hr hj)).one (by omega);omega
 ·rw[List.getElem?_eq_none (by omega)]
theorem ZjF {I:GH} {g:Gr} (hg:g.ok I) (hM:MayF g) (h64:g.ds.length≤64) (F:List Fl):Z60 (ZcC g.ds F)=Z1O g.ds F:=by
 unfold Z60 Z1O Z3y;refine ZhS h64 _ _ (fun k hk=>?_) (fun k hk hk2=>?_)
 ·rw[ZkB h64 (by omega),ZjE hg hM]
 ·rw[ZkB h64 hk2,Znm,List.getElem?_eq_none hk]
open Classical in
noncomputable def Z3E (ds:List Df) (F:List Fl):List Nat:=(List.range ds.length).filter fun i=>decide (ComesL (ZdY ds F) i i)
theorem ZhT {ds:List Df} {F:List Fl} {i:Nat} (h:ds.length≤i):ZdY ds F i=[]:=by
 rw[ZdY,List.getElem?_eq_none h]
open Classical in
theorem ZjG {g:Gr} (hM:MayF g) (h64:g.ds.length≤64) (F:List Fl):Z8h (ZcC g.ds F)=Z3E g.ds F:=by
 unfold Z8h Z3E;refine ZhS h64 _ _ (fun k hk=>?_) (fun k hk hk2=>?_)
 ·exact decide_eq_decide.2 (Zbf hM h64 (by omega))
 ·refine decide_eq_false fun hc=>?_
  have hc:=(Zbf hM h64 hk2).1 hc;have hn:=ZhT (F:=F) hk
  cases hc with
  | one h=>rw[hn] at h;cases h
  | step h t=>rw[hn] at h;cases h
structure Ns11 (d:Nd):Prop where
 kn:d.kn < 400
 t:d.t.size < 8020
structure Ts11 (t:Tr):Prop where
 n:t.n < 400
 ns:∀ nd∈t.ns,Ns11 nd
structure Ds11 (d:Df):Prop where
 name:d.name.size < 8020
 t:Ts11 d.t
structure Gs11 (g:Gr):Prop where
 n:g.n < 400
 ds:∀ d∈g.ds,Ds11 d
theorem NdW.ok11 {I:GH} {d:Nd} (h:NdW I d) (hs:Ns11 d):d.ok I:=
 ⟨h.k,h.s0,h.s1,h.s2,h.s3,h.ts,h.lo,h.hi,h.rs.big (by have:=hs.kn;omega),h.kids⟩
theorem TrW.ok11 {I:GH} {t:Tr} (h:TrW I t) (hs:Ts11 t):t.ok I:=
 ⟨h.rs.big (by have:=hs.n;omega),fun nd hnd=>(h.ns nd hnd).ok11 (hs.ns nd hnd),h.root⟩
theorem GrW.ok11 {I:GH} {g:Gr} (h:GrW I g) (hs:Gs11 g):g.ok I:=
 ⟨h.rs.big (by have:=hs.n;omega),fun d hd=>⟨by have:=(hs.ds d hd).name;omega,(h.ds d hd).t.ok11 (hs.ds d hd).t⟩⟩
structure N2 (g:Gr) (x:Nat×Nat):Prop where
 k:x.2≤g.n
 n:x.1≤2000
 small:x.1 < 400->x.2≤x.1∧∀ i (h:i < g.ds.length),i < x.2->Ds11 g.ds[i]
structure N3 (g:Gr) (t:Tr) (k:Nat) (x:Nat×Nat):Prop where
 j:x.2≤t.n
 n:x.1≤2000
 small:x.1 < 400->t.n < 400∧k+1≤x.1∧(∀ i (h:i < g.ds.length),i < k->Ds11 g.ds[i])∧(∀ h:k < g.ds.length,g.ds[k].name.size < 8020)∧∀ i (h:i < t.ns.length),i < x.2->Ns11 t.ns[i]
def iv (z:Int):List Value:=[.int .i64 z]
theorem Zfe {deb:List Int} {g:Gr} (h:Z13 deb g=0):g.n≤64:=by
 unfold Z13 at h
 cases h1:decide ((g.n:Int)=0) with
 | true=>rw[h1] at h;simp at h
 | false=>
  rw[h1,cond_false] at h
  cases h2:Z1B g.ds with
  | false=>rw[h2] at h;simp at h
  | true=>
   rw[h2] at h
   cases h3:Z0Y deb g with
   | true=>rw[h3] at h;simp at h
   | false=>
    unfold Z0Y at h3;simp only[Bool.or_eq_false_iff,decide_eq_false_iff_not] at h3;omega
def IsLefts (deb:List Int) (g:Gr) (r:Int) (l:List Nat):Prop:=((Z13 deb g≠0∨r < 0∨(g.n:Int)≤r)∧l=[])∨(Z13 deb g=0∧∃ F k,r=(k:Nat)∧k < g.n∧IsFlow g.ds F∧l=Z0U g.ds F k)
def IsLoops (deb:List Int) (g:Gr) (l:List Nat):Prop:=(Z13 deb g≠0∧l=[])∨(Z13 deb g=0∧∃ F,IsFlow g.ds F∧l=Z1O g.ds F)
def IsLeft (deb:List Int) (g:Gr) (l:List Nat):Prop:=(Z13 deb g≠0∧l=[])∨(Z13 deb g=0∧∃ F,IsFlow g.ds F∧l=Z3E g.ds F)
theorem Zbg {A:Nat->List Nat} {n:Nat} {l0:List Nat} (hA:∀ x,∀ y∈A x,y < n):∀ (f k:Nat) (l:List Nat),Work A n k l0 l->n+1≤f+k->Work A n (Z90 A f k l).length l0 (Z90 A f k l)
 | 0,k,l,h,hf=>by
  have:=h.len;have:=h.k;omega
 | f+1,k,l,h,hf=>by
  rw[Z90]
  cases hx:l[k]? with
  | none=>
   have h1:k=l.length:=by
    have:=h.k;have:=List.getElem?_eq_none_iff.1 hx;omega
   subst h1;exact h
  | some x=>exact Zbg hA f (k+1) _ (h.next hA hx) (by omega)
theorem ComesL.congr {A B:Nat->List Nat} (h:∀ i k,k∈A i->k∈B i) {i k:Nat} (hc:ComesL A i k):ComesL B i k:=by
 induction hc with
 | one h1=>exact .one (h _ _ h1)
 | step h1 t ih=>exact .step (h _ _ h1) ih
theorem ComesL.trans {A:Nat->List Nat} {i j k:Nat} (h:ComesL A i j) (h':ComesL A j k):ComesL A i k:=by
 induction h with
 | one h=>exact .step h h'
 | step h t ih=>exact .step h (ih h')
theorem Z62 {g:Gr} (hM:MayF g) {F:List Fl} {i k:Nat}:k∈Z0U g.ds F i ↔ k∈ZdY g.ds F i:=by
 unfold Z0U;rw[List.mem_filter]
 constructor
 ·rintro⟨-,h⟩
  simpa using h
 ·intro h
  exact⟨by simpa using ZcG hM i k h,by simpa using h⟩
theorem Z8i {g:Gr} (hM:MayF g) {F:List Fl} {i k:Nat}:ComesL (Z0U g.ds F) i k ↔ ComesL (ZdY g.ds F) i k:=
 ⟨ComesL.congr fun _ _ h=>(Z62 hM).1 h,ComesL.congr fun _ _ h=>(Z62 hM).2 h⟩
theorem Z7O {ds:List Df} {F:List Fl} {i k:Nat} (h:k∈Z0U ds F i):k < ds.length:=by
 unfold Z0U at h
 simpa using (List.mem_filter.1 h).1
theorem Z8j (ds:List Df) (F:List Fl) (i:Nat):(Z0U ds F i).Nodup:=List.Nodup.sublist List.filter_sublist List.nodup_range
theorem Work.start {ds:List Df} {F:List Fl} (i:Nat):Work (Z0U ds F) ds.length 0 (Z0U ds F i) (Z0U ds F i):=
 ⟨Z8j ds F i,fun x hx=>Z7O hx,fun _ h=>h,fun _ h=>.inl h,fun j x hj=>absurd hj (Nat.not_lt_zero _),Nat.zero_le _⟩
def ZcH (ds:List Df) (F:List Fl):List Nat:=(List.range ds.length).filter fun i=>(Z90 (Z0U ds F) (ds.length+1) 0 (Z0U ds F i)).contains i
open Classical in
theorem ZjH {g:Gr} (hM:MayF g) (F:List Fl):ZcH g.ds F=Z3E g.ds F:=by
 unfold ZcH Z3E
 refine List.filter_congr fun i _=>?_
 have h1:=Zbg (fun x y hy=>Z7O hy) (g.ds.length+1) 0 _ (Work.start (ds:=g.ds) (F:=F) i) (by omega);have h2:=(h1.done i).trans (Z8i hM)
 cases hc:(Z90 (Z0U g.ds F) (g.ds.length+1) 0 (Z0U g.ds F i)).contains i with
 | true=>exact(decide_eq_true (h2.1 (by simpa using hc))).symm
 | false=>
  refine(decide_eq_false fun h=>?_).symm;have:=h2.2 h;rw[←List.contains_iff_mem,hc] at this;cases this
theorem Z3c (s:List Bool) (i k:Nat) (hi:i < s.length):(s.set i true).getD k false=(decide (k=i) || s.getD k false):=by
 simp only[List.getD_eq_getElem?_getD,List.getElem?_set]
 by_cases e:i=k
 ·subst e
  simp[hi]
 ·have:¬ k=i:=fun h=>e h.symm
  simp[e,this]
structure RowIn (A:Nat->List Nat) (n:Nat) (s:List Bool):Prop where
 len:s.length=n
 acyc:∀ i,s.getD i false=true->∀ x,(x=i∨ComesL A i x)->¬ ComesL A x x
theorem RowIn.put {A:Nat->List Nat} {n:Nat} {s:List Bool} (h:RowIn A n s) {i:Nat} (hi:i < n) (hf:s.getD i false=false) (hl:∀ k∈A i,s.getD k false=true):RowIn A n (s.set i true):=by
 refine⟨by rw[List.length_set];exact h.len,fun j hj x hx=>?_⟩;rw[Z3c _ _ _ (by rw[h.len];exact hi)] at hj
 by_cases e:j=i
 ·subst e
  have key:∀ y,ComesL A j y->¬ ComesL A y y:=fun y hy=>by
   cases hy with
   | one h1=>exact h.acyc y (hl _ h1) y (.inl rfl)
   | step h1 t=>exact h.acyc _ (hl _ h1) y (.inr t)
  rcases hx with rfl | hx
  ·intro hc
   exact key _ hc hc
  ·exact key _ hx
 ·rw[decide_eq_false e,Bool.false_or] at hj
  exact h.acyc j hj x hx
structure Round (A:Nat->List Nat) (n:Nat) (s0 s:List Bool) (i:Nat):Prop where
 sub:∀ k,s0.getD k false=true->s.getD k false=true
 got:∀ j,j < i->j < n->(∀ k∈A j,s0.getD k false=true)->s.getD j false=true
theorem Round.put {A:Nat->List Nat} {n:Nat} {s0 s:List Bool} {i:Nat} (h:Round A n s0 s i) (hi:i < s.length):Round A n s0 (s.set i true) (i+1):=by
 refine⟨fun k hk=>?_,fun j hj hn hl=>?_⟩
 ·rw[Z3c _ _ _ hi,h.sub k hk,Bool.or_true]
 ·rw[Z3c _ _ _ hi]
  by_cases e:j=i
  ·simp[e]
  ·rw[h.got j (by omega) hn hl,Bool.or_true]
theorem ZhU {deb:List Int} {g:Gr} (h:Z13 deb g=0):0 < g.n:=by
 rcases Nat.eq_zero_or_pos g.n with e | e
 ·unfold Z13 at h
  rw[e] at h;simp at h
 ·exact e
def Z5v (deb:List Int) (g:Gr) (r:Int×Int):Prop:=(Z13 deb g≠0∧r=(0,Z13 deb g))∨(Z13 deb g=0∧∃ F,IsFlow g.ds F∧r=if 0 < (Z3E g.ds F).length then ((((Z3E g.ds F).headD 0:Nat):Int),42) else if 0 < (Z1O g.ds F).length then ((((Z1O g.ds F).headD 0:Nat):Int),43) else (0,0))
theorem ZhV {I:GH} {deb:List Int} (hT:Tabs I deb) {g:Gr} (hg:g.ok I) (hkb:∀ d∈g.ds,KB d.t):Spec Tryz.prog 58 [g.val] I [] fun v I' M'=>(∀ b o,I b=some o->I' b=some o)∧M'=[] ∧
  ∃ r:Int×Int,v=.tuple #[.int .i64 r.1,.int .i64 r.2]∧Z5v deb g r:=
 Spec.weakK (ZcD hT hg hkb Zfe) fun v I' M' h=>by
  obtain⟨h1,h2,r,h3,h5⟩:=h;refine⟨h1,h2,r,h3,?_⟩
  rcases h5 with h5 | ⟨hm,F,c,d⟩
  ·exact .inl h5
  ·have hM:=Z9s hg.n hm
   have h64:=Zfe hm;have hgn:=hg.n;refine .inr ⟨hm,F,c,?_⟩;rw[d,Zbd,if_neg (by simp),ZjG hM (by omega),ZjF hg hM (by omega)]
theorem ZhW {I:GH} {deb:List Int} (hT:Tabs I deb) {g:Gr} (hg:g.ok I) (hkb:∀ d∈g.ds,KB d.t):Spec Tryz.prog 21 [g.val] I [] fun v I' M'=>(∀ b o,I b=some o->I' b=some o)∧M'=[] ∧
  ∃ r:Int×Int,v=.int .i64 r.2∧Z5v deb g r:=by
 refine Z01 [] Z00 Tryz.func21 rfl rfl rfl ?_;intro B h0;refine CallOb.mk [] [] _ (.refl _) (ZhV hT hg hkb) ?_;rintro v I1 N - ⟨hI1,rfl,r,rfl,h⟩;exact⟨_,_,.refl,hI1,rfl,r,rfl,h⟩
section
variable {I:GH} {M0:List Blk} {deb:List Int}
end
structure NdC where
 k:Int
 s0:Int
 s1:Int
 s2:Int
 s3:Int
 t:List UInt8
 lo:Int
 hi:Int
 kids:List Int
def NdC.nd (c:NdC) (a:Option Addr) (n k:Nat):Nd:=⟨c.k,c.s0,c.s1,c.s2,c.s3,⟨c.t.toArray⟩,c.lo,c.hi,a,n,k,c.kids⟩
inductive NdsR:List NdC->List Nd->Prop
 | nil:NdsR [] []
 | cons {c cs ns} (a:Option Addr) (n k:Nat) (t:NdsR cs ns):NdsR (c::cs) (c.nd a n k::ns)
structure TrC where
 ns:List NdC
 root:Int
structure TrR (c:TrC) (t:Tr):Prop where
 ns:NdsR c.ns t.ns
 root:t.root=c.root
structure DfC where
 name:List UInt8
 t:TrC
inductive DfsR:List DfC->List Df->Prop
 | nil:DfsR [] []
 | cons {c cs ds} {t:Tr} (h:TrR c.t t) (k:DfsR cs ds):DfsR (c::cs) (⟨⟨c.name.toArray⟩,t⟩::ds)
def ZoV:Int->Bool
 | .ofNat k=>Nat.ble k 9223372036854775807
 | .negSucc k=>Nat.ble k 9223372036854775807
def okU:Int->Bool
 | .ofNat k=>Nat.ble k 18446744073709551615
 | .negSucc _=>false
def okB:Int->Bool
 | .ofNat k=>Nat.ble k 255
 | .negSucc _=>false
theorem Zm0 {x:Int} (h:ZoV x=true):Z22 x:=by
 cases x with
 | ofNat k=>
  have:=Nat.le_of_ble_eq_true h;exact⟨by simp only[Int.ofNat_eq_natCast];omega,by simp only[Int.ofNat_eq_natCast];omega⟩
 | negSucc k=>
  have:=Nat.le_of_ble_eq_true h;exact⟨by omega,by omega⟩
theorem Zno {x:Int} (h:okU x=true):Z0G x:=by
 cases x with
 | ofNat k=>
  have:=Nat.le_of_ble_eq_true h;exact⟨by simp,by simp;omega⟩
 | negSucc k=>cases h
theorem Znp {x:Int} (h:okB x=true):0≤x∧x < 256:=by
 cases x with
 | ofNat k=>
  have:=Nat.le_of_ble_eq_true h;exact⟨by simp,by simp;omega⟩
 | negSucc k=>cases h
noncomputable def Zos:EV->Option Int
 | .i .u8 n=>cnd (okB n) (some n) none
 | _=>none
noncomputable def Zff:EV->Option Int
 | .i .u64 n=>cnd (okU n) (some n) none
 | _=>none
noncomputable def Zfg:EV->Option Int
 | .i .i64 n=>cnd (ZoV n) (some n) none
 | _=>none
noncomputable def asS:EV->Option (List UInt8)
 | .s l=>cnd (Nat.ble l.length 140737488355328) (some l) none
 | _=>none
section
variable {D:Nm} {v:EV} {u:Value}
theorem Zm1 {n:Int} (h:Zos v=some n) (hv:VR D v u):u=.int .u8 n∧0≤n∧n < 256:=by
 unfold Zos at h
 split at h
 ·obtain⟨h1,h2⟩:=Z0b h
  cases h2;simp only[VR] at hv;exact⟨hv,Znp h1⟩
 ·cases h
theorem Z6y {n:Int} (h:Zff v=some n) (hv:VR D v u):u=.int .u64 n∧Z0G n:=by
 unfold Zff at h
 split at h
 ·obtain⟨h1,h2⟩:=Z0b h
  cases h2;simp only[VR] at hv;exact⟨hv,Zno h1⟩
 ·cases h
theorem Z6z {n:Int} (h:Zfg v=some n) (hv:VR D v u):u=.int .i64 n∧Z22 n:=by
 unfold Zfg at h
 split at h
 ·obtain⟨h1,h2⟩:=Z0b h
  cases h2;simp only[VR] at hv;exact⟨hv,Zm0 h1⟩
 ·cases h
theorem ZkF {l:List UInt8} (h:asS v=some l) (hv:VR D v u):u=.string ⟨l.toArray⟩∧(⟨l.toArray⟩:ByteArray).size≤140737488355328:=by
 unfold asS at h
 split at h
 ·obtain⟨h1,h2⟩:=Z0b h
  cases h2;simp only[VR] at hv;exact⟨hv,Nat.le_of_ble_eq_true h1⟩
 ·cases h
end
noncomputable def ZhX {R:Type} (G:GT) (m:Tri Ent) (x:EV) (size b:Nat) (K:List EV->Option R):Option R:=match x with
 | .sn=>K []
 | .so=>K []
 | .sl id off n c=>cnd (Nat.ble n c) (cnd (Nat.ble (Nat.mul n b) 140737488355328) (Z6c G m (.p id off) (Nat.mul n size) K) none) none
 | .sx id off e n=>cnd (Nat.ble (Nat.mul n b) 140737488355328) (Z6c G m (.p id off) (Nat.mul n size) K) none
 | _=>none
noncomputable def ints:List EV->Option (List Int)
 | []=>some []
 | v::l=>opn (Zfg v) none fun n=>opn (ints l) none fun r=>some (n::r)
noncomputable def Z9Q (G:GT) (m:Tri Ent):List EV->Option (List NdC)
 | []=>some []
 | a::b::c::d::e::f::g::h::x::l=>opn (Zos a) none fun a=>opn (Zff b) none fun b=>opn (Zff c) none fun c=>opn (Zff d) none fun d=>opn (Zff e) none fun e=>opn (asS f) none fun f=>opn (Zfg g) none fun g=>opn (Zfg h) none fun h=>
  opn (ZhX G m x 1 8 ints) none fun ks=>opn (Z9Q G m l) none fun ns=>some (⟨a,b,c,d,e,f,g,h,ks⟩::ns)
 | _=>none
noncomputable def ZhY (G:GT) (m:Tri Ent) (x r:EV):Option TrC:=opn (ZhX G m x 9 96 (Z9Q G m)) none fun ns=>opn (Zfg r) none fun r=>some ⟨ns,r⟩
noncomputable def Z9R (G:GT) (m:Tri Ent):List EV->Option (List DfC)
 | []=>some []
 | a::x::r::l=>opn (asS a) none fun a=>opn (ZhY G m x r) none fun t=>opn (Z9R G m l) none fun ds=>some (⟨a,t⟩::ds)
 | _=>none
noncomputable def ZhZ (G:GT) (m:Tri Ent):EV->Option (List DfC)
 | .a [x]=>ZhX G m x 3 48 (Z9R G m)
 | _=>none
section
variable {Y:RK} {D:Nm} {m:Me} {I J:GH} {M:List Blk}
theorem Z9S {R:Type} (h:MS Y D m I M) (hJ:Frz I M J) {x:EV} {u:Value} (hx:VR D x u) {size b:Nat} {K:List EV->Option R} {r:R} (hr:ZhX Y.G m.t x size b K=some r) :
  ∃ a n c l vs,u=.slice a n c∧RS J a n c size b vs∧VRs D l vs∧K l=some r:=by
 unfold ZhX at hr
 split at hr
 ·simp only[VR] at hx
  exact⟨none,0,0,[],[],hx,⟨by simp,⟨Nat.le_refl _,by omega⟩,.inl rfl⟩,by simp[VRs],hr⟩
 ·simp only[VR] at hx
  obtain⟨a,c,hx⟩:=hx;exact⟨some a,0,c,[],[],hx,⟨by simp,⟨Nat.zero_le _,by omega⟩,.inl rfl⟩,by simp[VRs],hr⟩
 ·rename_i id off n c
  obtain⟨h1,hr⟩:=Z0b hr;obtain⟨h2,hr⟩:=Z0b hr;simp only[VR] at hx;obtain⟨a,ha,hx⟩:=hx;obtain⟨ad,l,vs,e1,e2,e3,e4⟩:=Z1U h (x:=.p id off) (u:=.pointer (some ⟨a.b,a.o+off,none⟩)) (by simp only[VR];exact⟨a,ha,rfl⟩) hr;cases e1;obtain⟨g1,cs,T,f,g2,g3,g4⟩:=e2;exact⟨_,n,c,l,vs,hx,⟨g4,⟨Nat.le_of_ble_eq_true h1,Nat.le_of_ble_eq_true h2⟩,.inr ⟨_,rfl,rfl,cs,T,f,hJ.kn _ _ g2,g3⟩⟩,e3,e4⟩
 ·rename_i id off e n
  obtain⟨h2,hr⟩:=Z0b hr;simp only[VR] at hx;obtain⟨a,ha,hc,hx⟩:=hx;obtain⟨ad,l,vs,e1,e2,e3,e4⟩:=Z1U h (x:=.p id off) (u:=.pointer (some ⟨a.b,a.o+off,none⟩)) (by simp only[VR];exact⟨a,ha,rfl⟩) hr;cases e1;obtain⟨g1,cs,T,f,g2,g3,g4⟩:=e2;exact⟨_,n,a.c - e,l,vs,hx,⟨g4,⟨by omega,Nat.le_of_ble_eq_true h2⟩,.inr ⟨_,rfl,rfl,cs,T,f,hJ.kn _ _ g2,g3⟩⟩,e3,e4⟩
 ·cases hr
theorem Zi0:∀ {l:List EV} {vs:List Value} {ks:List Int},ints l=some ks->VRs D l vs->vs=ks.map (Value.int .i64 ·)∧∀ x∈ks,Z22 x
 | [],vs,ks,h,hv=>by
  cases h;simp only[VRs] at hv;exact⟨hv,by simp⟩
 | v::l,vs,ks,h,hv=>by
  unfold ints at h;obtain⟨n,h1,h⟩:=Z07 h;obtain⟨r,h2,h⟩:=Z07 h;cases h;simp only[VRs] at hv;obtain⟨x,xs,g1,g2,rfl⟩:=hv;obtain⟨rfl,e1⟩:=Z6z h1 g1;obtain⟨rfl,e2⟩:=Zi0 h2 g2;exact⟨rfl,fun x hx=>(List.mem_cons.1 hx).elim (fun e=>e ▸ e1) (e2 x)⟩
theorem Z91 (h:MS Y D m I M) (hJ:Frz I M J):∀ (l:List EV) {vs:List Value} {cs:List NdC},Z9Q Y.G m.t l=some cs->VRs D l vs->∃ ns:List Nd,vs=ns.flatMap Nd.cells∧NdsR cs ns∧∀ d∈ns,d.ok J
 | [],vs,cs,hr,hv=>by
  cases hr;simp only[VRs] at hv;exact⟨[],hv,.nil,by simp⟩
 | a::b::c::d::e::f::g::i::x::l,vs,cs,hr,hv=>by
  unfold Z9Q at hr;obtain⟨a',h1,hr⟩:=Z07 hr;obtain⟨b',h2,hr⟩:=Z07 hr;obtain⟨c',h3,hr⟩:=Z07 hr;obtain⟨d',h4,hr⟩:=Z07 hr;obtain⟨e',h5,hr⟩:=Z07 hr;obtain⟨f',h6,hr⟩:=Z07 hr;obtain⟨g',h7,hr⟩:=Z07 hr;obtain⟨i',h8,hr⟩:=Z07 hr;obtain⟨ks,h9,hr⟩:=Z07 hr;obtain⟨ns',h10,hr⟩:=Z07 hr;cases hr;simp only[VRs] at hv;obtain⟨_,_,k1,⟨_,_,k2,⟨_,_,k3,⟨_,_,k4,⟨_,_,k5,⟨_,_,k6,⟨_,_,k7,⟨_,_,k8,⟨_,_,k9,k10,rfl⟩,rfl⟩,rfl⟩,rfl⟩,rfl⟩,rfl⟩,rfl⟩,rfl⟩,rfl⟩:=hv;obtain⟨rfl,e1⟩:=Zm1 h1 k1;obtain⟨rfl,e2⟩:=Z6y h2 k2;obtain⟨rfl,e3⟩:=Z6y h3 k3;obtain⟨rfl,e4⟩:=Z6y h4 k4;obtain⟨rfl,e5⟩:=Z6y h5 k5;obtain⟨rfl,e6⟩:=ZkF h6 k6;obtain⟨rfl,e7⟩:=Z6z h7 k7;obtain⟨rfl,e8⟩:=Z6z h8 k8;obtain⟨ka,kn,kc,li,vi,rfl,e9,e10,e11⟩:=Z9S h hJ k9 h9;obtain⟨rfl,e12⟩:=Zi0 e11 e10;obtain⟨ns,rfl,e13,e14⟩:=Z91 h hJ l h10 k10;refine⟨NdC.nd ⟨a',b',c',d',e',f',g',i',ks⟩ ka kn kc::ns,rfl,.cons ka kn kc e13,fun y hy=>?_⟩
  rcases List.mem_cons.1 hy with rfl | hy
  ·exact⟨e1,e2,e3,e4,e5,Nat.le_trans e6 (by decide),e7,e8,e9,e12⟩
  ·exact e14 y hy
theorem Zi1 (h:MS Y D m I M) (hJ:Frz I M J) {x r:EV} {u w:Value} {c:TrC} (hr:ZhY Y.G m.t x r=some c) (hx:VR D x u) (hw:VR D r w):∃ t:Tr,u=.slice t.a t.n t.c∧w=.int .i64 t.root∧t.ok J∧TrR c t:=by
 unfold ZhY at hr;obtain⟨ns,h1,hr⟩:=Z07 hr;obtain⟨k,h2,hr⟩:=Z07 hr;cases hr;obtain⟨rfl,e1⟩:=Z6z h2 hw;obtain⟨a,n,c,l,vs,rfl,e2,e3,e4⟩:=Z9S h hJ hx h1;obtain⟨ds,rfl,e5,e6⟩:=Z91 h hJ l e4 e3;exact⟨⟨ds,a,n,c,k⟩,rfl,rfl,⟨e2,e6,e1⟩,⟨e5,rfl⟩⟩
theorem Z92 (h:MS Y D m I M) (hJ:Frz I M J):∀ (l:List EV) {vs:List Value} {cs:List DfC},Z9R Y.G m.t l=some cs->VRs D l vs->∃ ds:List Df,vs=ds.flatMap Df.cells∧DfsR cs ds∧∀ d∈ds,d.ok J
 | [],vs,cs,hr,hv=>by
  cases hr;simp only[VRs] at hv;exact⟨[],hv,.nil,by simp⟩
 | a::x::r::l,vs,cs,hr,hv=>by
  unfold Z9R at hr;obtain⟨a',h1,hr⟩:=Z07 hr;obtain⟨t',h2,hr⟩:=Z07 hr;obtain⟨ds',h3,hr⟩:=Z07 hr;cases hr;simp only[VRs] at hv;obtain⟨_,_,k1,⟨_,_,k2,⟨_,_,k3,k4,rfl⟩,rfl⟩,rfl⟩:=hv;obtain⟨rfl,e1⟩:=ZkF h1 k1;obtain⟨t,rfl,rfl,e2,e3⟩:=Zi1 h hJ h2 k2 k3;obtain⟨ds,rfl,e4,e5⟩:=Z92 h hJ l h3 k4;refine⟨⟨⟨a'.toArray⟩,t⟩::ds,rfl,.cons (c:=⟨a',t'⟩) e3 e4,fun y hy=>?_⟩
  rcases List.mem_cons.1 hy with rfl | hy
  ·exact⟨e1,e2⟩
  ·exact e5 y hy
theorem Zi2 (h:MS Y D m I M) (hJ:Frz I M J) {x:EV} {u:Value} {cs:List DfC} (hr:ZhZ Y.G m.t x=some cs) (hx:VR D x u):∃ g:Gr,u=g.val∧g.ok J∧DfsR cs g.ds:=by
 unfold ZhZ at hr
 split at hr
 ·simp only[VR,VRs] at hx
  obtain⟨_,⟨y,_,hx,rfl,rfl⟩,rfl⟩:=hx;obtain⟨a,n,c,l,vs,rfl,e2,e3,e4⟩:=Z9S h hJ hx hr;obtain⟨ds,rfl,e5,e6⟩:=Z92 h hJ l e4 e3;exact⟨⟨ds,a,n,c⟩,rfl,⟨e2,e6⟩,e5⟩
 ·cases hr
end
noncomputable def ZbJ (f g:Nat) (text:List UInt8):Option (List DfC×Int×IntKind×Int):=opn (Z9A YK (Z1j YK f) g [.s text] ⟨.nil,0⟩) none fun p=>match p.1 with
 | .t [x,.i .i64 a,.i k e]=>opn (ZhZ GTs p.2.t x) none fun c=>some (c,a,k,e)
 | _=>none
theorem Zi3 {I:GH} (hT:Tabs I debL) {f g:Nat} {text:List UInt8} {c:List DfC} {a:Int} {k:IntKind} {e:Int} (h:ZbJ f g text=some (c,a,k,e)) :
  Spec Tryz.prog g [.string ⟨text.toArray⟩] I [] fun r J M''=>M''=[]∧(∀ b o,I b=some o->J b=some o)∧∃ G:Gr,r=.tuple #[G.val,.int .i64 a,.int k e]∧G.ok J∧DfsR c G.ds:=by
 unfold ZbJ at h;obtain⟨⟨v,m'⟩,h1,h⟩:=Z07 h;refine Spec.weakK (ZlU hT h1 (us:=[.string ⟨text.toArray⟩]) (by simp[VRs,VR])) ?_;rintro r J M'' ⟨rfl,hle,I',M',D',hv,hm,hJ⟩;refine⟨rfl,hle,?_⟩
 simp only at h
 split at h
 ·obtain⟨c',h2,h⟩:=Z07 h
  cases h;simp only[VR,VRs] at hv;obtain⟨_,⟨u,_,hu,⟨_,_,rfl,⟨_,_,rfl,rfl,rfl⟩,rfl⟩,rfl⟩,rfl⟩:=hv;obtain⟨G,rfl,g1,g2⟩:=Zi2 hm hJ h2 hu;exact⟨G,rfl,g1,g2⟩
 ·cases h
def NdC.pl (c:NdC):Nd:=c.nd none 0 0
def TrC.tr (c:TrC):Tr:=⟨c.ns.map NdC.pl,none,c.ns.length,0,c.root⟩
def DfC.df (c:DfC):Df:=⟨⟨c.name.toArray⟩,c.t.tr⟩
def grC (cs:List DfC):Gr:=⟨cs.map DfC.df,none,cs.length,0⟩
theorem NdsR.ct {cs:List NdC} {ns:List Nd} (h:NdsR cs ns):ns.map Nd.ct=cs.map NdC.pl:=by
 induction h with
 | nil=>rfl
 | cons a n k t ih=>rw[List.map_cons,List.map_cons,ih];rfl
theorem NdsR.len {cs:List NdC} {ns:List Nd} (h:NdsR cs ns):ns.length=cs.length:=by
 induction h with
 | nil=>rfl
 | cons a n k t ih=>simp[ih]
theorem TrR.ct {I:GH} {c:TrC} {t:Tr} (h:TrR c t) (ht:t.ok I):t.ct=c.tr:=by
 unfold Tr.ct TrC.tr;rw[h.ns.ct,h.root,←ht.n,h.ns.len]
theorem DfsR.ct {I:GH} {cs:List DfC} {ds:List Df} (h:DfsR cs ds) (hd:∀ d∈ds,d.ok I):ds.map Df.ct=cs.map DfC.df:=by
 induction h with
 | nil=>rfl
 | cons h k ih=>
  rw[List.map_cons,List.map_cons,ih fun d hd'=>hd d (.tail _ hd')]
  congr 1
  unfold Df.ct DfC.df;rw[h.ct (hd _ (.head _)).t]
theorem DfsR.len {cs:List DfC} {ds:List Df} (h:DfsR cs ds):ds.length=cs.length:=by
 induction h with
 | nil=>rfl
 | cons h k ih=>simp[ih]
theorem Zbh {I:GH} {cs:List DfC} {g:Gr} (h:DfsR cs g.ds) (hg:g.ok I):g.ct=grC cs:=by
 unfold Gr.ct grC;rw[h.ct hg.ds,←hg.n,h.len]
def kbC (c:TrC):Bool:=c.ns.all fun n=>decide (n.kids.length≤1000)
theorem Zot {I:GH} {c:TrC} {t:Tr} (h:TrR c t) (ht:t.ok I) (hk:kbC c=true):KB t:=fun n hn=>by
 have h1:=(ht.ns n hn).kn
 have h2:n.ct∈c.ns.map NdC.pl:=by
  rw[←h.ns.ct];exact List.mem_map.2 ⟨n,hn,rfl⟩
 obtain⟨x,hx,e⟩:=List.mem_map.1 h2;have h3:=of_decide_eq_true (List.all_eq_true.1 hk x hx);have h4:x.kids=n.kids:=congrArg Nd.kids e
 rw[h4] at h3;omega
theorem Znq {I:GH} {cs:List DfC} {ds:List Df} (h:DfsR cs ds) (hd:∀ d∈ds,d.ok I) (hk:(cs.all fun d=>d.t.ns.all fun n=>decide (n.kids.length≤1000))=true):∀ d∈ds,KB d.t:=by
 induction h with
 | nil=>intro d hd;cases hd
 | cons h k ih=>
  simp only[List.all_cons,Bool.and_eq_true] at hk;intro d hm
  rcases List.mem_cons.1 hm with rfl | hm
  ·exact Zot h (hd _ (.head _)).t hk.1
  ·exact ih (fun d hd'=>hd d (.tail _ hd')) (by simpa using hk.2) d hm
theorem Zm2 (ds:List Df) (F:List Fl) (i:Nat):ZdY (ds.map Df.ct) F i=ZdY ds F i:=by
 unfold ZdY;rw[List.getElem?_map,Z3T]
 cases ds[i]? with
 | none=>rfl
 | some d=>
  show (Z0w (Z02 ds) F (d.t.ns.map Nd.ct) d.t.root).2=_
  rw[Zla]
theorem Zm3 (ds:List Df) (F:List Fl) (i:Nat):Zmv (ds.map Df.ct) F i=Zmv ds F i:=by
 unfold Zmv;rw[List.getElem?_map,Z3T]
 cases ds[i]? with
 | none=>rfl
 | some d=>
  show (Z3Y (Z02 ds) F (d.t.ns.map Nd.ct) d.t.root).2=_
  rw[Znn]
theorem ZcI (ds:List Df) (F:List Fl):Z0U (ds.map Df.ct) F=Z0U ds F:=by
 funext i
 unfold Z0U;rw[List.length_map,Zm2]
theorem ZcJ (ds:List Df) (F:List Fl):Z1O (ds.map Df.ct) F=Z1O ds F:=by
 unfold Z1O;rw[List.length_map]
 exact List.filter_congr fun i _=>Zm3 ds F i
theorem ZjI (ds:List Df) (F:List Fl):ZcH (ds.map Df.ct) F=ZcH ds F:=by
 unfold ZcH;rw[List.length_map,ZcI]
theorem Zbi {ds:List Df} {l:List Fl} (h:IsFlow (ds.map Df.ct) l):IsFlow ds l:=by
 refine⟨by rw[h.len,List.length_map],fun i hi=>?_,fun m hm hc=>?_⟩
 ·have:=h.fix i (by simpa using hi)
  rwa [Z3T,List.getElem_map,Zdy] at this
 ·refine h.least m (by rw[hm,List.length_map]) fun i hi=>?_
  rw[Z3T,List.getElem_map,Zdy];exact hc i (by simpa using hi)
def Z7P (ds:List Df) (F:List Fl):Int×Int:=bif decide (0 < (ZcH ds F).length) then ((((ZcH ds F).headD 0:Nat):Int),42) else bif decide (0 < (Z1O ds F).length) then ((((Z1O ds F).headD 0:Nat):Int),43) else (0,0)
structure Known13 (cs:List DfC) (F:List Fl):Prop where
 may:Z13 debL (grC cs)=0
 flow:IsFlow (grC cs).ds F
 kb:(cs.all fun d=>d.t.ns.all fun n=>decide (n.kids.length≤1000))=true
theorem Known13.of {I:GH} {cs:List DfC} {F:List Fl} (hK:Known13 cs F) {g:Gr} (hg:g.ok I) (hR:DfsR cs g.ds):Z13 debL g=0∧IsFlow g.ds F∧(∀ d∈g.ds,KB d.t):=by
 have hct:=Zbh hR hg;have hds:g.ds.map Df.ct=(grC cs).ds:=congrArg Gr.ds hct
 have hm:Z13 debL g=0:=by rw[←Z9u,hct];exact hK.may
 refine⟨hm,?_,Znq hR hg.ds hK.kb⟩;have:=hK.flow
 rw[←hds] at this;exact Zbi this
theorem Z4v {I:GH} {cs:List DfC} {F:List Fl} (hK:Known13 cs F) {g:Gr} (hg:g.ok I) (hR:DfsR cs g.ds) {r:Int×Int} (h:Z5v debL g r):r=Z7P (grC cs).ds F:=by
 obtain⟨hm,hF,-⟩:=hK.of hg hR;have hds:g.ds.map Df.ct=(grC cs).ds:=congrArg Gr.ds (Zbh hR hg);have hM:=Z9s hg.n hm
 rcases h with ⟨a,-⟩ | ⟨-,F',hF',rfl⟩
 ·exact absurd hm a
 ·obtain rfl:=hF.unique hF'
  rw[←hds,Z7P,ZjI,ZcJ,ZjH hM]
  by_cases h1:0 < (Z3E g.ds F).length
  ·rw[if_pos h1,decide_eq_true h1,cond_true]
  ·rw[if_neg h1,decide_eq_false h1,cond_false]
   by_cases h2:0 < (Z1O g.ds F).length
   ·rw[if_pos h2,decide_eq_true h2,cond_true]
   ·rw[if_neg h2,decide_eq_false h2,cond_false]
def itF (ds:List Df):Nat->List Fl->List Fl
 | 0,L=>L
 | k+1,L=>itF ds k (ds.map (Z1M (Z02 ds) L))
theorem ZkG {ds:List Df}:∀ (k:Nat) {L:List Fl},PreF ds L->ds.map (Z1M (Z02 ds) (itF ds k L))=itF ds k L->IsFlow ds (itF ds k L)
 | 0,L,hp,h=>by
  refine⟨hp.len,fun i hi=>?_,hp.least⟩;have:=Z6x (f:=Z1M (Z02 ds) L) hi
  have h1:ds.map (Z1M (Z02 ds) L)=L:=h;rw[h1] at this;exact this
 | k+1,L,hp,h=>ZkG k hp.all.1 h
def flC (cs:List DfC) (k:Nat):List Fl:=itF (grC cs).ds k (List.replicate (grC cs).ds.length fl0)
def Zbj (cs:List DfC) (F:List Fl) (k:Nat):Bool:=decide (Z13 debL (grC cs)=0) && (decide (flC cs k=F) && (decide ((grC cs).ds.map (Z1M (Z02 (grC cs).ds) F)=F) && cs.all fun d=>d.t.ns.all fun n=>decide (n.kids.length≤1000)))
theorem Z5w {cs:List DfC} {F:List Fl} {k:Nat} (h:Zbj cs F k=true):Known13 cs F:=by
 simp only[Zbj,Bool.and_eq_true,decide_eq_true_eq] at h;obtain⟨h1,h2,h3,h4⟩:=h;refine⟨h1,?_,by simpa using h4⟩;have:=ZkG k (PreF.start (grC cs).ds)
 unfold flC at h2;rw[h2] at this;exact this h3
theorem Z63 {p:Nat->Bool} {k:Nat}:∀ {l:List Nat},l.Pairwise (· < ·)->k∈l->p k=true->(∀ j∈l,j < k->p j=false)->l.filter p=k::l.filter fun j=>p j && !decide (j=k)
 | x::xs,hs,hk,hp,hb=>by
  obtain⟨h1,h2⟩:=List.pairwise_cons.1 hs
  rcases List.mem_cons.1 hk with rfl | hk
  ·have e:(k::xs).filter (fun j=>p j && !decide (j=k))=xs.filter p:=by
    rw[List.filter_cons];simp
    apply List.filter_congr
    intro j hj;have:=h1 j hj
    have:¬ j=k:=by omega
    simp[this]
   rw[e,List.filter_cons,hp];rfl
  ·have hx:=h1 k hk
   have hpx:=hb x (by simp) hx;rw[List.filter_cons,hpx,List.filter_cons,hpx];simp only[Bool.false_and,Bool.false_eq_true,if_false]
   exact Z63 h2 hk hp fun j hj hjk=>hb j (by simp[hj]) hjk
theorem ZjJ {n:Nat} (h0:n≠0) (h:n < 2 ^ 64):∃ k,k < 64∧n &&& (2 ^ 64 - n)=2 ^ k∧n.testBit k=true∧(∀ j,j < k->n.testBit j=false)∧∀ j,(n &&& (n - 1)).testBit j=(n.testBit j && !decide (j=k)):=by
 obtain⟨m,hm,hk⟩:=Lib.ctzFrom_spec 64 n (by omega) h;generalize Lib.ctzFrom 64 n=k at hm hk
 have e1:n=2 ^ (k+1) * m+2 ^ k:=by
  rw[hm,Nat.pow_succ,Nat.mul_add,Nat.mul_one,Nat.mul_assoc]
 have hp:=Nat.two_pow_pos k
 have e2:n - 1=2 ^ (k+1) * m+(2 ^ k - 1):=by omega
 have hb1:2 ^ k < 2 ^ (k+1):=by rw[Nat.pow_succ];omega
 have t1:∀ j,n.testBit j=if j < k+1 then decide (k=j) else m.testBit (j - (k+1)):=fun j=>by
  rw[e1,Nat.testBit_two_pow_mul_add _ hb1,Nat.testBit_two_pow]
 have t2:∀ j,(n - 1).testBit j=if j < k+1 then decide (j < k) else m.testBit (j - (k+1)):=fun j=>by
  rw[e2,Nat.testBit_two_pow_mul_add _ (by omega),Nat.testBit_two_pow_sub_one]
 refine⟨k,hk,?_,?_,fun j hj=>?_,fun j=>?_⟩
 ·have:=Lib.and_neg 64 k m (by rw[←hm];exact h)
  rwa [←hm] at this
 ·rw[t1];simp
 ·rw[t1,if_pos (by omega)]
  simp;omega
 ·rw[Nat.testBit_and,t1,t2]
  by_cases hj:j < k+1
  ·rw[if_pos hj,if_pos hj]
   by_cases hjk:j=k
   ·subst hjk;simp
   ·have:¬ k=j:=fun e=>hjk e.symm
    simp[this]
  ·rw[if_neg hj,if_neg hj]
   have:¬ j=k:=by omega
   simp[this]
theorem Zm4:∀ k:Fin 64,debL.getD (2 ^ k.val * 285870213051353865 % 18446744073709551616 / 288230376151711744) 0=(k.val:Int):=by decide +kernel
theorem Znr {n k:Nat} (h0:n≠0) (h:n < 2 ^ 64) (hk:k < 64) (hl:n &&& (2 ^ 64 - n)=2 ^ k):Zel debL (n:Int)=k:=by
 have e0:decide ((n:Int)=0)=false:=decide_eq_false (by omega)
 have hw:IntKind.u64.wrap (0 - (n:Int))=((2 ^ 64 - n:Nat):Int):=by
  simp[IntKind.wrap,IntKind.signed,IntKind.bits];omega
 have ha:Zml (n:Int) ((2 ^ 64 - n:Nat):Int)=((2 ^ k:Nat):Int):=by
  rw[Z9h ⟨by omega,by omega⟩ ⟨by omega,by omega⟩,Int.toNat_natCast,Int.toNat_natCast,hl]
 have ht:(tzA (n:Int)).toNat=2 ^ k * 285870213051353865 % 18446744073709551616:=by
  unfold tzA;rw[hw,ha]
  have:((2 ^ k:Nat):Int) * 285870213051353865=((2 ^ k * 285870213051353865:Nat):Int):=by simp
  rw[this];generalize 2 ^ k * 285870213051353865=q
  simp[IntKind.wrap,IntKind.signed,IntKind.bits];omega
 unfold Zel;rw[e0,cond_false,ht];exact Zm4 ⟨k,hk⟩
theorem Zm5 {n:Nat} (h0:n≠0) (h:n < 2 ^ 64):Zir (n:Int)=((n &&& (n - 1):Nat):Int):=by
 have hs:Z0G ((n:Int) - 1):=⟨by omega,by omega⟩;unfold Zir
 rw[Z0W hs,Z9h ⟨by omega,by omega⟩ hs]
 congr 2
 omega
theorem Z7Q (i:Nat) (hi:i < 4):∀ (f n:Nat),n < 2 ^ 64->((List.range 64).filter n.testBit).length≤f->Z5e debL i f (n:Int)=((List.range 64).filter n.testBit).map fun j=>UInt8.ofNat (i * 64+j)
 | 0,n,h,hf=>by
  rw[List.eq_nil_of_length_eq_zero (Nat.le_zero.1 hf)];rfl
 | f+1,n,h,hf=>by
  unfold Z5e
  by_cases h0:n=0
  ·subst h0
   simp
  ·have e0:decide ((n:Int)=0)=false:=decide_eq_false (by omega)
   obtain⟨k,hk,hl,hb,hlt,hnx⟩:=ZjJ h0 h
   have hff:(List.range 64).filter n.testBit=k::(List.range 64).filter (n &&& (n - 1)).testBit:=by
    rw[Z63 List.pairwise_lt_range (List.mem_range.2 hk) hb fun j _ hj=>hlt j hj]
    congr 1
    apply List.filter_congr
    intro j _;rw[hnx]
   rw[hff] at hf ⊢;have hle:n &&& (n - 1)≤n - 1:=Nat.and_le_right
   rw[e0,cond_false,Zm5 h0 h,Z7Q i hi f _ (by omega) (by simp at hf;omega),List.map_cons]
   congr 1
   unfold Zaa;rw[Znr h0 h hk hl]
   have:IntKind.u8.wrap ((i:Int) * 64+(k:Int))=((i * 64+k:Nat):Int):=by
    simp[IntKind.wrap,IntKind.signed,IntKind.bits];omega
   rw[this,Int.toNat_natCast]
theorem Zm6 {a b c d:Int} (hws:∀ x∈[a,b,c,d],Z0G x):Z0h debL 0 [a,b,c,d]=((List.range 256).filter (Z8f [a,b,c,d])).map UInt8.ofNat:=by
 have nat:∀ x∈[a,b,c,d],∃ n:Nat,x=n∧n < 2 ^ 64:=fun x hx=>by
  have:=hws x hx;obtain⟨n,rfl⟩:=Int.eq_ofNat_of_zero_le this.1;exact⟨n,rfl,by have:=this.2;omega⟩
 obtain⟨a,rfl,ha⟩:=nat a (by simp);obtain⟨b,rfl,hb⟩:=nat b (by simp)
 obtain⟨c,rfl,hc⟩:=nat c (by simp);obtain⟨d,rfl,hd⟩:=nat d (by simp)
 have len:∀ n:Nat,((List.range 64).filter n.testBit).length≤64:=fun n=>by
  have:=List.length_filter_le n.testBit (List.range 64)
  simpa using this
 unfold Z0h Z0h Z0h Z0h Z0h;rw[Z7Q 0 (by decide) 64 a ha (len _),Z7Q (0+1) (by decide) 64 b hb (len _),Z7Q (0+1+1) (by decide) 64 c hc (len _),Z7Q (0+1+1+1) (by decide) 64 d hd (len _)]
 have hr:List.range 256=(List.range 64).map (0 * 64+·)++((List.range 64).map (1 * 64+·)++((List.range 64).map (2 * 64+·)++(List.range 64).map (3 * 64+·))):=by decide +kernel
 have part:∀ (i:Nat) (n:Nat),i < 4->([(a:Int),b,c,d].getD i 0)=n->(((List.range 64).map (i * 64+·)).filter (Z8f [(a:Int),b,c,d]))=((List.range 64).filter n.testBit).map (i * 64+·):=fun i n hi hn=>by
  rw[List.filter_map]
  congr 1
  apply List.filter_congr
  intro j hj;have hj:=List.mem_range.1 hj;simp only[Function.comp,Z8f];rw[show (i * 64+j) / 64=i by omega,show (i * 64+j) % 64=j by omega,hn,Int.toNat_natCast]
 rw[hr];simp only[List.filter_append,List.map_append]
 rw[part 0 a (by decide) rfl,part 1 b (by decide) rfl,part 2 c (by decide) rfl,part 3 d (by decide) rfl];simp only[List.map_map,List.append_nil]
 rfl
def Z1P (p:Nat->Bool) (n:Nat):List UInt8:=((List.range n).filter p).map UInt8.ofNat
theorem Z2H (p:Nat->Bool) (n:Nat):Z1P p (n+1)=Z1P p n++(bif p n then [UInt8.ofNat n] else []):=by
 unfold Z1P;rw[List.range_succ,List.filter_append,List.map_append]
 cases h:p n<;>simp[h]
theorem Zbk (l:List (UInt8×UInt8)) (b:UInt8):((Z1o l b).getLast?).map (·.2)=some b:=by
 unfold Z1o
 split
 ·rename_i p h
  cases decide ((p.2.toNat:Int)+1=b.toNat)<;>simp
 ·rfl
theorem ZcK (l:List UInt8):((Z17 l).getLast?).map (·.2)=l.getLast?:=by
 rcases List.eq_nil_or_concat l with h | ⟨m,b,h⟩
 ·subst h;rfl
 ·rw[h,List.concat_eq_append,Z33,Zbk]
  simp
theorem Z64 (p:Nat->Bool):∀ (n:Nat),n≤256->∀ x,(Z1P p n).getLast?=some x->∃ j,j < n∧p j=true∧x.toNat=j
 | 0,_,x,h=>by simp[Z1P] at h
 | n+1,hn,x,h=>by
  rw[Z2H] at h
  cases hp:p n with
  | true=>
   rw[hp,cond_true] at h;simp at h;exact⟨n,by omega,hp,by rw[←h];exact Z8g (by omega)⟩
  | false=>
   rw[hp,cond_false,List.append_nil] at h;obtain⟨j,h1,h2,h3⟩:=Z64 p n (by omega) x h;exact⟨j,by omega,h2,h3⟩
theorem Zbl (p:Nat->Bool) {n:Nat} (hn:n < 256) (hp:n=0∨p (n - 1)=false):Z1o (Z17 (Z1P p n)) (UInt8.ofNat n)=Z17 (Z1P p n)++[(UInt8.ofNat n,UInt8.ofNat n)]:=by
 unfold Z1o
 split
 ·rename_i q h
  have hl:=ZcK (Z1P p n);rw[h] at hl
  obtain⟨j,h1,h2,h3⟩:=Z64 p n (by omega) q.2 hl.symm
  have hne:decide ((q.2.toNat:Int)+1=(UInt8.ofNat n).toNat)=false:=by
   rw[Z8g hn,h3]
   apply decide_eq_false
   intro e
   have:j=n - 1:=by omega
   rcases hp with hp | hp
   ·omega
   ·rw[this,hp] at h2
    cases h2
  rw[hne];rfl
 ·rename_i h
  have:Z17 (Z1P p n)=[]:=List.getLast?_eq_none_iff.1 h;rw[this];rfl
theorem ZjK (p:Nat->Bool) {n:Nat} (hs:n=0∨p (n - 1)=false):∀ t,n≤t->t < 256->(∀ j,n≤j->j≤t->p j=true)->Z17 (Z1P p (t+1))=Z17 (Z1P p n)++[(UInt8.ofNat n,UInt8.ofNat t)]:=by
 intro t
 induction t with
 | zero=>
  intro h1 h2 h3
  have:n=0:=by omega
  subst this;rw[Z2H,h3 0 (Nat.le_refl _) (Nat.le_refl _),cond_true,Z33];exact Zbl p h2 hs
 | succ t ih=>
  intro h1 h2 h3;rw[Z2H,h3 (t+1) h1 (Nat.le_refl _),cond_true,Z33]
  by_cases hn:n=t+1
  ·subst hn
   exact Zbl p h2 hs
  ·rw[ih (by omega) (by omega) (fun j a b=>h3 j a (by omega))]
   unfold Z1o;rw[List.getLast?_concat];simp only
   have:decide (((UInt8.ofNat t).toNat:Int)+1=(UInt8.ofNat (t+1)).toNat)=true:=by
    rw[Z8g (by omega),Z8g (by omega)];simp
   rw[this,cond_true,List.dropLast_concat]
theorem Z6A (p:Nat->Bool):∀ (f t:Nat),t≤Z3U p f t∧Z3U p f t≤t+f∧(∀ j,t < j->j≤Z3U p f t->p j=true)∧(Z3U p f t < t+f->p (Z3U p f t+1)=false)
 | 0,t=>⟨Nat.le_refl _,Nat.le_refl _,fun j a b=>by simp[Z3U] at b;omega,fun h=>by simp[Z3U] at h⟩
 | f+1,t=>by
  unfold Z3U
  cases h:p (t+1) with
  | false=>exact⟨Nat.le_refl _,by simp,fun j a b=>by simp at b;omega,fun _=>h⟩
  | true=>
   obtain⟨h1,h2,h3,h4⟩:=Z6A p f (t+1);refine⟨by simp;omega,by simp;omega,fun j a b=>?_,fun q=>?_⟩
   ·simp at b
    by_cases e:j=t+1
    ·rw[e];exact h
    ·exact h3 j (by omega) b
   ·simp at q ⊢
    exact h4 (by omega)
def Z8k (p:Nat->Bool) (n:Nat):Nat:=bif decide (0 < n) && p (n - 1) then Z3U p (256 - n) (n - 1)+1 else n
theorem Zi4 (p:Nat->Bool):∀ n,n≤256->Z3A p n=Z17 (Z1P p (Z8k p n))
 | 0,_=>rfl
 | n+1,hn=>by
  have ih:=Zi4 p n (by omega)
  have hc1:Z8k p (n+1)=bif p n then Z3U p (255 - n) n+1 else n+1:=by
   unfold Z8k;simp only[Nat.add_sub_cancel,show 256 - (n+1)=255 - n by omega];have:decide (0 < n+1)=true:=decide_eq_true (by omega)
   rw[this,Bool.true_and]
  rw[Z8J,hc1,ih]
  cases hp:p n with
  | false=>
   have hs:Z1S p n=false:=by rw[Z1S,hp];rfl
   have hcn:Z8k p n=n:=by
    unfold Z8k
    cases hb:decide (0 < n) && p (n - 1) with
    | false=>rfl
    | true=>
     simp at hb
     have e:Z3U p (256 - n) (n - 1)=n - 1:=by
      rw[show 256 - n=(255 - n)+1 by omega,Z3U,show n - 1+1=n by omega,hp];rfl
     rw[cond_true,e];omega
   rw[hs,cond_false,List.append_nil,hcn,cond_false,Z2H,hp];simp
  | true=>
   rw[cond_true]
   cases hb:decide (0 < n) && p (n - 1) with
   | true=>
    have hb':=hb;simp at hb'
    have hs:Z1S p n=false:=by
     have:decide (n=0)=false:=decide_eq_false (by omega);rw[Z1S,hp,hb'.2,this]
     rfl
    have hcn:Z8k p n=Z3U p (255 - n) n+1:=by
     unfold Z8k;rw[hb,cond_true,show 256 - n=(255 - n)+1 by omega,Z3U,show n - 1+1=n by omega,hp,cond_true]
    rw[hs,cond_false,List.append_nil,hcn]
   | false=>
    have hst:n=0∨p (n - 1)=false:=by
     simp at hb
     by_cases h:n=0
     ·exact .inl h
     ·exact .inr (hb (by omega))
    have hs:Z1S p n=true:=by
     rw[Z1S,hp]
     rcases hst with h | h
     ·simp[h]
     ·simp[h]
    have hcn:Z8k p n=n:=by
     unfold Z8k;rw[hb];rfl
    obtain⟨h1,h2,h3,_⟩:=Z6A p (255 - n) n
    rw[hs,cond_true,hcn,ZjK p hst _ h1 (by omega) fun j a b=>by
     by_cases e:j=n
     ·rw[e];exact hp
     ·exact h3 j (by omega) b]
theorem Zi5 (p:Nat->Bool):Z3A p 256=Z17 (Z1P p 256):=by
 rw[Zi4 p 256 (Nat.le_refl _)]
 congr 2
 unfold Z8k;simp[Z3U]
theorem Zm7 {x y:UInt8} (h:x.toNat≤y.toNat):Z87 (x,y)=Zeo (x,y):=by
 have hx:=x.toNat_lt;have hy:=y.toNat_lt
 have e1:IntKind.u8.wrap ((y.toNat:Int) - x.toNat)=(y.toNat:Int) - x.toNat:=by
  simp[IntKind.wrap,IntKind.signed,IntKind.bits];omega
 unfold Z87 Zeo;simp only;rw[e1];have d1:decide ((x.toNat:Int)+1 < y.toNat)=decide (1 < (y.toNat:Int) - x.toNat):=decide_eq_decide.2 (by omega)
 have d2:decide ((x.toNat:Int) < y.toNat)=!decide ((y.toNat:Int)=x.toNat):=by
  rw[←decide_not];exact decide_eq_decide.2 (by omega)
 rw[d1,d2]
theorem Zi6 (p:Nat->Bool) (n:Nat) (hn:n≤256):∀ q∈Z3A p n,q.1.toNat≤q.2.toNat:=by
 intro q hq;obtain⟨i,hi,rfl⟩:=List.mem_map.1 hq;have hi:=List.mem_range.1 (List.mem_filter.1 hi).1;obtain⟨h1,h2,_⟩:=Z6A p (255 - i) i;simp only;rw[Z8g (by omega),Z8g (by omega)];exact h1
theorem ZjL {a b c d:Int} (hws:∀ x∈[a,b,c,d],Z0G x):Zb3 (Z3A (Z8f [a,b,c,d]) 256)=(a == Z3i 0 && (b == Z3i 0 && (c == Z3i 0 && d == Z3i 0))):=by
 have hn0:Z3i 0=18446744073709551615:=by decide
 rw[Bool.eq_iff_iff];simp only[Bool.and_eq_true,beq_iff_eq,hn0]
 constructor
 ·intro h
  have hall:∀ n,n < 256->Z8f [a,b,c,d] n=true:=by
   generalize hp:Z8f [a,b,c,d]=p at h
   match hr:Z3A p 256,h with
   | [q],h=>
    simp[Zb3] at h
    have hq:q∈Z3A p 256:=by rw[hr];simp
    obtain⟨i,hi,hqe⟩:=List.mem_map.1 hq;have hst:=(List.mem_filter.1 hi).2;have hi:=List.mem_range.1 (List.mem_filter.1 hi).1;obtain⟨h1,h2,h3,_⟩:=Z6A p (255 - i) i
    have hq1:q.1.toNat=i:=by rw[←hqe];exact Z8g (by omega)
    have hq2:q.2.toNat=Z3U p (255 - i) i:=by rw[←hqe];exact Z8g (by omega)
    have hi0:i=0:=by have:=h.1;omega
    have he:Z3U p (255 - i) i=255:=by have:=h.2;omega
    intro n hn
    by_cases e:n=0
    ·subst hi0
     rw[e];unfold Z1S at hst
     simp at hst;exact hst
    ·exact h3 n (by omega) (by omega)
  have word:∀ (i:Nat) (x:Int),i < 4->[a,b,c,d].getD i 0=x->Z0G x->x=18446744073709551615:=fun i x hi hx hu=>by
   obtain⟨n,rfl⟩:=Int.eq_ofNat_of_zero_le hu.1
   have hn:n < 2 ^ 64:=by have:=hu.2;omega
   have:n=2 ^ 64 - 1:=by
    apply Nat.eq_of_testBit_eq
    intro j;rw[Nat.testBit_two_pow_sub_one]
    by_cases hj:j < 64
    ·have:=hall (i * 64+j) (by omega)
     unfold Z8f at this;rw[show (i * 64+j) / 64=i by omega,show (i * 64+j) % 64=j by omega,hx,Int.toNat_natCast] at this;rw[this];simp[hj]
    ·rw[Nat.testBit_lt_two_pow (Nat.lt_of_lt_of_le hn (Nat.pow_le_pow_right (by omega) (by omega)))]
     simp[hj]
   omega
  exact⟨word 0 a (by decide) rfl (hws a (by simp)),word 1 b (by decide) rfl (hws b (by simp)),word 2 c (by decide) rfl (hws c (by simp)),word 3 d (by decide) rfl (hws d (by simp))⟩
 ·rintro⟨rfl,rfl,rfl,rfl⟩
  have:Zb3 (Z3A (Z8f [18446744073709551615,18446744073709551615,18446744073709551615,18446744073709551615]) 256)=true:=by kernel_rfl
  exact this
theorem Zns:Z9N debL:=fun a b c d hws=>by
 unfold Z8R Z3f;rw[ZjL hws]
 congr 1
 congr 1
 congr 1
 rw[Zm6 hws,Zi5];have h:=Zi6 (Z8f [a,b,c,d]) 256 (Nat.le_refl _)
 rw[Zi5] at h;unfold Z1P at h ⊢;generalize Z17 _=rs at *
 clear hws
 induction rs with
 | nil=>rfl
 | cons q rs ih=>
  rw[List.flatMap_cons,List.flatMap_cons,ih fun q hq=>h q (by simp[hq])]
  congr 1
  exact Zm7 (x:=q.1) (y:=q.2) (h q (by simp))
structure IA where
 l:List Fi
 a:Option Addr
 n:Nat
 c:Nat
def IA.val (x:IA):Value:=.slice x.a x.n x.c
section
variable {H:Type} {enc:TypeId×Value->H} {W:World} {base:Nat} {sp:Nat->Bool} {held:Bool}
end
noncomputable def ZoZ (f g:Nat) (args:List EV):Option EV:=opn (Z9A YK (Z1j YK f) g args ⟨.nil,0⟩) none fun p=>some p.1
def FirRel (g:Gr) (l:List Fi):Prop:=(Z13 debL g=0∧∃ F,IsFlow g.ds F∧Zl8 g.ds F l)∨(Z13 debL g≠0∧l=[])
theorem FirRel.len {g:Gr} {l:List Fi} (h:FirRel g l):l.length≤g.ds.length:=by
 rcases h with ⟨a,F,hF,h⟩ | ⟨a,h⟩
 ·rw[h.len];exact Nat.le_refl _
 ·rw[h];exact Nat.zero_le _
def NodRel (g:Gr) (l:List Fi) (t:Tr) (r:List Fi):Prop:=(okI debL g l t=true∧∃ F,IsFlow g.ds F∧r=ZaI (Z02 g.ds) l (Z0e (Z02 g.ds) F t.ns []) t.ns [])∨(okI debL g l t=false∧r=[])
theorem NodRel.len {g:Gr} {l:List Fi} {t:Tr} {r:List Fi} (h:NodRel g l t r):r.length≤t.ns.length:=by
 rcases h with ⟨a,F,hF,rfl⟩ | ⟨a,rfl⟩
 ·rw[Z8G];simp
 ·exact Nat.zero_le _
section
variable {I:GH} {M0:List Blk}
end
theorem Gs11.fit {I:GH} {g:Gr} (h:Gs11 g) (hg:g.ok I):GFit g:=by
 refine⟨by have:=h.n;omega,fun d hd=>?_⟩;have hs:=(h.ds d hd).t
 have hn:=hs.n;refine⟨fun nd hnd=>by have:=(hs.ns nd hnd).kn;omega,by omega,by omega⟩
theorem IsLefts.len {deb:List Int} {g:Gr} {r:Int} {l:List Nat} (h:IsLefts deb g r l):l.length≤g.ds.length:=by
 rcases h with ⟨-,rfl⟩ | ⟨-,F,k,-,-,-,rfl⟩
 ·exact Nat.zero_le _
 ·exact Z23 _ _
theorem IsLoops.len {deb:List Int} {g:Gr} {l:List Nat} (h:IsLoops deb g l):l.length≤g.ds.length:=by
 rcases h with ⟨-,rfl⟩ | ⟨-,F,-,rfl⟩
 ·exact Nat.zero_le _
 ·exact Z23 _ _
theorem IsLeft.len {deb:List Int} {g:Gr} {l:List Nat} (h:IsLeft deb g l):l.length≤g.ds.length:=by
 rcases h with ⟨-,rfl⟩ | ⟨-,F,-,rfl⟩
 ·exact Nat.zero_le _
 ·exact Z23 _ _
def Z65 (ns:List Nd) (nm:ByteArray):Bool:=ns.any fun n=>decide (n.k=3) && decide (n.t=nm)
theorem ZcL (d:Nd) (ds:List Nd) (nm:ByteArray):Z65 (d::ds) nm=((decide (d.k=3) && decide (d.t=nm)) || Z65 ds nm):=rfl
def Z7R (g:Gr) (i k:Nat):Bool:=match g.ds[i]?,g.ds[k]? with
 | some d,some e=>Z65 d.t.ns e.name
 | _,_=>false
theorem Ze3 {g:Gr} {i k:Nat} (hi:i < g.ds.length) (hk:k < g.ds.length):Z7R g i k=Z65 g.ds[i].t.ns g.ds[k].name:=by
 unfold Z7R;rw[List.getElem?_eq_getElem hi,List.getElem?_eq_getElem hk]
set_option maxHeartbeats 1000000 in
theorem ZcM {I:GH} {g:Gr} (hg:g.ok I) {i k:Nat} (hi:i < g.n) (hk:k < g.n):Spec Tryz.prog 130 [g.val,.int .i64 i,.int .i64 k] I [] (fun v I' M'=>v=.bool (Z7R g i k)∧I'=I∧M'=[]):=by
 refine Z01 [] Z00 Tryz.func130 rfl rfl rfl ?_;intro B h0;have hgn:=hg.n
 have hi':i < g.ds.length:=by omega
 have hk':k < g.ds.length:=by omega
 rw[Ze3 hi' hk'];obtain⟨ai,hai,hri⟩:=hg.rs.row Df.cells_len hi hi'
 obtain⟨ak,hak,hrk⟩:=hg.rs.row Df.cells_len hk hk';have ht:=(hg.ds _ (List.getElem_mem hi')).t;generalize g.ds[i]=d at hri ht;generalize g.ds[k]=e at hrk;have htn:=ht.n;have hcap:=ht.rs.cap;refine IdxOb.mk ai i hai rfl hi ?_;refine LoadOb.mk _ (Rd.part (k:=0) (m:=1) (Rd.part (k:=1) (m:=2) (hri _) (by decide)) (by decide)) ?_;refine LoopOb.inv (ι:=Nat) (fun n=>{ fl:=[(1,.val (.int .i64 i)),(2,.val (.int .i64 k)),(3,.ref 3 0),(7,.val (.slice d.t.a d.t.n d.t.c)),(8,.val (.int .i64 n))],cl:=[(3,[.slice g.a g.n g.c])],gi:=I }) (fun n=>n≤d.t.n∧Z65 d.t.ns e.name=Z65 (d.t.ns.drop n) e.name) (fun n=>d.t.n - n) ?_ ?_
 ·exact⟨0,⟨Nat.zero_le _,rfl⟩,.refl,aF5,.cons rfl .nil⟩
 rintro w ⟨hw,hwa⟩;refine CondOb.mk (fun h3=>?_) (fun h3=>?_)
 ·have hwl:w < d.t.n:=by simpa using h3
  have hwl':w < d.t.ns.length:=by omega
  obtain⟨aq,haq,hrq⟩:=ht.rs.row Nd.cells_len hwl hwl';have hdrop2:d.t.ns.drop w=d.t.ns[w]::d.t.ns.drop (w+1):=List.drop_eq_getElem_cons hwl';rw[hdrop2,ZcL] at hwa;refine CodeOb.draw Z00 rfl rfl rfl ?_;refine IdxOb.mk aq w haq rfl hwl ?_;refine LoadOb.mk _ (Rd.part (k:=0) (m:=1) (hrq _) (by decide)) ?_;refine GuardOb.mk (fun c1=>?_) (fun c1=>?_)
  ·have e3:decide (d.t.ns[w].k=3)=true:=c1
   refine IdxOb.mk aq w haq rfl hwl ?_;refine LoadOb.mk _ (Rd.part (k:=5) (m:=1) (hrq _) (by decide)) ?_;refine IdxOb.mk ak k hak rfl hk ?_;refine LoadOb.mk _ (Rd.part (k:=0) (m:=1) (hrk _) (by decide)) ?_;refine CondOb.mk (fun c2=>?_) (fun c2=>?_)
   ·have e4:decide (d.t.ns[w].t=e.name)=true:=c2
    exact⟨_,_,.refl,by rw[hwa,e3,e4];rfl,rfl,rfl⟩
   ·have e4:decide (d.t.ns[w].t=e.name)=false:=c2
    refine ArithOb.mk _ (Z03 (i:=w) (by omega)) ?_;refine⟨w+1,⟨⟨by omega,?_⟩,by omega⟩,.refl,aF5,.cons rfl .nil⟩;rw[hwa,e3,e4]
    rfl
  ·have e3:decide (d.t.ns[w].k=3)=false:=c1
   refine ArithOb.mk _ (Z03 (i:=w) (by omega)) ?_;refine⟨w+1,⟨⟨by omega,?_⟩,by omega⟩,.refl,aF5,.cons rfl .nil⟩;rw[hwa,e3]
   rfl
 ·have hwe:w=d.t.n:=by simp at h3;omega
  rw[List.drop_of_length_le (by omega)] at hwa;exact⟨_,_,.refl,by rw[hwa];rfl,rfl,rfl⟩
def Z2I (deb:List Int) (g:Gr) (i:Int):Bool:=inR i g.n && decide (Z13 deb g=0)
theorem ZcN {I:GH} {deb:List Int} (hcl:Z9N deb) {g:Gr} (hg:g.ok I) (hf:GFit g) (i:Int):Spec Tryz.prog 122 [g.val,.int .i64 i] I [] (fun v I' M'=>v=.bool (Z2I deb g i)∧I'=I∧M'=[]):=by
 have hm:=Z8X hcl hg hf;rw[Zcz] at hm;refine Z01 [] Z00 Tryz.func122 rfl rfl rfl ?_;intro B h0;refine CallOb.mk [] [] _ (.refl _) hm ?_;rintro v J N - ⟨rfl,hJ,rfl⟩;subst J
 refine GuardOb.mk (fun h1=>?_) (fun h1=>?_)
 ·refine GuardOb.mk (fun h2=>?_) (fun h2=>?_)
  ·refine⟨_,_,.refl,congrArg Value.bool ?_,rfl,rfl⟩
   have e1:decide (i < 0)=false:=by simp at h2 ⊢;omega
   have e2:decide (Z13 deb g=0)=true:=h1
   have e3:decide (i < (g.n:Int))=!decide ((g.n:Int)≤i):=by
    rw[←decide_not];exact decide_eq_decide.2 (by omega)
   rw[Z2I,inR,e1,e2]
   simpa using e3
  ·refine⟨_,_,.refl,congrArg Value.bool ?_,rfl,rfl⟩
   have e1:decide (i < 0)=true:=by simp at h2 ⊢;omega
   rw[Z2I,inR,e1];rfl
 ·refine⟨_,_,.refl,congrArg Value.bool ?_,rfl,rfl⟩
  have e2:decide (Z13 deb g=0)=false:=h1;rw[Z2I,e2,Bool.and_false]
def Z52 (p:Nat->Bool) (n:Nat):List Int:=((List.range n).filter p).map fun (k:Nat)=>(k:Int)
theorem Z93 (p:Nat->Bool) (n:Nat):Z52 p (n+1)=Z52 p n++(bif p n then [(n:Int)] else []):=by
 unfold Z52;rw[List.range_succ,List.filter_append,List.map_append]
 cases h:p n<;>simp[h]
theorem Zbm (p:Nat->Bool) (n:Nat):(Z52 p n).length≤n:=by
 have:=List.length_filter_le p (List.range n)
 simpa[Z52] using this
def Z7S (deb:List Int) (g:Gr) (i:Int):List Int:=bif Z2I deb g i then Z52 (Z7R g i.toNat) g.n else []
theorem Ze4 {deb:List Int} {g:Gr} {i:Int} (h:Z2I deb g i=true):0≤i∧i.toNat < g.n:=by
 unfold Z2I inR at h;simp at h;omega
theorem ZcO {I:GH} {deb:List Int} (hcl:Z9N deb) {g:Gr} (hg:g.ok I) (hf:GFit g) (i:Int):Spec Tryz.prog 83 [g.val,.int .i64 i] I [] fun v I' M'=>I'=I∧∃ os:OS,v=os.val∧os.ok 1 ((Z7S deb g i).map (.int .i64 ·))∧M'=os.blk 3:=by
 refine Z01 [] Z00 Tryz.func83 rfl rfl rfl ?_;intro B h0;have hfn:=hf.n;refine CallOb.mk [] [] _ (.refl _) (ZcN hcl hg hf i) ?_;rintro v J N - ⟨rfl,hJ,rfl⟩;subst J
 refine CondOb.mk (fun h=>?_) (fun h=>?_)
 ·have ht:Z2I deb g i=false:=by simpa using h
  exact⟨_,_,.refl,rfl,OS0,rfl,by rw[Z7S,ht];exact Z1C 1,rfl⟩
 have ht:Z2I deb g i=true:=by simpa using h
 obtain⟨hi0,hin⟩:=Ze4 ht
 have hcr:Z7S deb g i=Z52 (Z7R g i.toNat) g.n:=by rw[Z7S,ht];rfl
 obtain⟨i,rfl⟩:=Int.eq_ofNat_of_zero_le hi0;rw[hcr];simp only[Int.toNat_natCast] at hin ⊢
 refine LoopOb.inv (ι:=Nat×OS) (fun x=>{ fl:=[(1,.val (.int .i64 i)),(2,.ref 2 0),(5,.val x.2.val),(6,.val (.int .i64 x.1))],cl:=[(2,[.slice g.a g.n g.c])],gi:=I,mi:=x.2.blk 3 }) (fun x=>x.1≤g.n∧x.2.ok 1 ((Z52 (Z7R g i) x.1).map (.int .i64 ·))) (fun x=>g.n - x.1) ?_ ?_
 ·exact⟨(0,OS0),⟨Nat.zero_le _,Z1C 1⟩,.refl,aF4,.cons rfl .nil⟩
 rintro⟨k,os⟩ ⟨hk,hos⟩;simp only at hk hos
 have hol:=hos.len1;have hll:=Zbm (Z7R g i) k;have hsn:=Z93 (Z7R g i) k;refine CondOb.mk (fun h=>?_) (fun h=>?_)
 ·have hlt:k < g.n:=by simpa using h
  refine CallOb.mk [] (os.blk 3) _ (.refl _) (ZcM hg hin hlt) ?_;rintro v J N - ⟨rfl,hJ,rfl⟩;subst J
  refine CondOb.mk (fun h2=>?_) (fun h2=>?_)
  ·rw[h2,cond_true] at hsn
   refine AllocOb.mk fun b9 hb9 hbM9=>?_
   refine OtherOb.appendN Z00 rfl (by simp) (e:=3) rfl rfl rfl os hos rfl (m:=1) rfl (news:=[.int .i64 k]) (by decide) (Z0d (b:=b9) (cs:=[.int .i64 k]) (k:=0) (n:=1) (T:=3) (.head _) (by simp)) rfl (Mr:=[⟨b9,.cells #[.int .i64 k] 3 (0,0)⟩]) (List.perm_append_comm (l₁:=[_])) (by simp only[maxLen];omega) (by show (os.n+1) * 8≤_;omega) ?_;intro g' c' cur' q0 q1 q2 q3 q4;refine ArithOb.mk _ (Z03 (i:=k) (by omega)) ?_;refine⟨(k+1,⟨some g',os.n+1,c',cur'⟩),⟨⟨by simp only;omega,?_⟩,by simp only;omega⟩,.sub (List.Sublist.cons_cons _ (List.nil_sublist _)) .refl,aF4,.cons rfl .nil⟩;simp only
   rw[hsn,List.map_append];exact Z5k hos q1 q2 q3 q4
  ·rw[h2,cond_false,List.append_nil] at hsn
   refine ArithOb.mk _ (Z03 (i:=k) (by omega)) ?_;refine⟨(k+1,os),⟨⟨by simp only;omega,?_⟩,by simp only;omega⟩,.refl,aF4,.cons rfl .nil⟩;simp only
   rw[hsn];exact hos
 ·have hke:k=g.n:=by simp at h;omega
  subst hke;exact⟨_,_,.refl,rfl,os,rfl,hos,rfl⟩
def Zou (g:Gr) (i k:Nat):Bool:=decide (i=k) || Z7R g i k
def PV (g:Gr):Nat->Nat->Nat->Prop
 | 0,i,k=>Zou g i k=true
 | m+1,i,k=>PV g m i k∨(PV g m i m∧PV g m m k)
theorem PV.trans {g:Gr}:∀ {m i j k:Nat},PV g m i j->PV g m j k->j < m->PV g m i k
 | m+1,i,j,k,h1,h2,hj=>by
  by_cases e:j=m
  ·subst e
   have a1:PV g j i j:=h1.elim id (·.1);have a2:PV g j j k:=h2.elim id (·.2)
   exact .inr ⟨a1,a2⟩
  ·have hj:j < m:=by omega
   rcases h1 with h1 | ⟨h1,h1'⟩<;>rcases h2 with h2 | ⟨h2,h2'⟩
   ·exact .inl (PV.trans h1 h2 hj)
   ·exact .inr ⟨PV.trans h1 h2 hj,h2'⟩
   ·exact .inr ⟨h1,PV.trans h1' h2 hj⟩
   ·exact .inr ⟨h1,h2'⟩
theorem Zbn {ds:List Df} {n:Nat} (hn:ds.length=n):∀ (names:List ByteArray) (s:List Bool),s.length=n->∀ k,k < n->((names.foldl (fun s nm=>Z4I n s (Z09 nm ds 0)) s).getD k false=true ↔ s.getD k false=true∨∃ nm∈names,Z09 nm ds 0=(k:Int))
 | [],s,hs,k,hk=>by simp
 | nm::names,s,hs,k,hk=>by
  rw[List.foldl_cons,Zbn hn names _ (by rw[Zaq];exact hs) k hk]
  have hm:(Z4I n s (Z09 nm ds 0)).getD k false=true ↔ s.getD k false=true∨Z09 nm ds 0=(k:Int):=by
   unfold Z4I
   cases hb:decide (0≤Z09 nm ds 0) && decide (Z09 nm ds 0 < n) with
   | true=>
    rw[cond_true];simp at hb
    simp only[List.getD_eq_getElem?_getD,List.getElem?_set]
    by_cases e:(Z09 nm ds 0).toNat=k
    ·have:Z09 nm ds 0=(k:Int):=by omega
     simp[e,this,hs,hk]
    ·have:¬ Z09 nm ds 0=(k:Int):=by omega
     simp[e,this]
   | false=>
    rw[cond_false]
    have:¬ Z09 nm ds 0=(k:Int):=by
     intro e;rw[e] at hb;simp at hb;omega
    simp[this]
  rw[hm]
  constructor
  ·rintro((h | h) | ⟨x,hx,h⟩)
   ·exact .inl h
   ·exact .inr ⟨nm,by simp,h⟩
   ·exact .inr ⟨x,by simp[hx],h⟩
  ·rintro(h | ⟨x,hx,h⟩)
   ·exact .inl (.inl h)
   ·rcases List.mem_cons.1 hx with rfl | hx
    ·exact .inl (.inr h)
    ·exact .inr ⟨x,hx,h⟩
theorem Z7T {nm:ByteArray}:∀ (ds:List Df) (i k:Nat),Z09 nm ds i=(k:Int)->∃ j,∃ (h:j < ds.length),k=i+j∧ds[j].name=nm
 | [],i,k,h=>by
  unfold Z09 at h;omega
 | d::ds,i,k,h=>by
  unfold Z09 at h
  cases hc:decide (d.name=nm) with
  | true=>
   rw[hc,cond_true] at h;exact⟨0,by simp,by omega,by simpa using hc⟩
  | false=>
   rw[hc,cond_false] at h;obtain⟨j,hj,e1,e2⟩:=Z7T ds (i+1) k h;exact⟨j+1,by simp;omega,by omega,by simpa using e2⟩
theorem Zi7 {deb:List Int} {g:Gr} (hn:g.ds.length=g.n) (h:Z13 deb g=0):∀ i (hi:i < g.ds.length),Z09 g.ds[i].name g.ds 0=(i:Int):=by
 rw[←Zcz] at h;intro i hi
 have hall:(List.range g.ds.length).all (Z19 g.ds)=true:=by
  unfold Zjz at h
  cases hb:(List.range g.ds.length).all (Z19 g.ds) with
  | true=>rfl
  | false=>
   rw[hb] at h
   exfalso
   revert h
   cases decide ((g.n:Int)=0)<;>cases (!Z1B g.ds)<;>cases Z0Y deb g<;>simp
 have:=List.all_eq_true.1 hall i (List.mem_range.2 hi);rw[Z5t hi] at this
 simpa using this
theorem ZcP {deb:List Int} {g:Gr} (hn:g.ds.length=g.n) (h:Z13 deb g=0) {t:Tr} {k:Nat} (hk:k < g.ds.length):(Z1X g.ds g.n (Z0A t.ns)).getD k false=true ↔ Z65 t.ns g.ds[k].name=true:=by
 rw[Z1X,Zbn hn (Z0A t.ns) _ (by simp) k (by omega)]
 have hz:(List.replicate g.n false).getD k false=true ↔ False:=by
  by_cases hk2:k < g.n<;>simp[List.getD_eq_getElem?_getD,List.getElem?_replicate,hk2]
 rw[hz,false_or];unfold Z65 Z0A
 rw[List.any_eq_true]
 constructor
 ·rintro⟨nm,hnm,hf⟩
  obtain⟨nd,hnd,rfl⟩:=List.mem_map.1 hnm;obtain⟨h1,h2⟩:=List.mem_filter.1 hnd;obtain⟨j,hj,e1,e2⟩:=Z7T g.ds 0 k hf
  have:j=k:=by omega
  subst this;exact⟨nd,h1,by rw[h2,Bool.true_and];exact decide_eq_true e2.symm⟩
 ·rintro⟨nd,hnd,hp⟩
  simp only[Bool.and_eq_true,decide_eq_true_eq] at hp;refine⟨nd.t,List.mem_map.2 ⟨nd,List.mem_filter.2 ⟨hnd,by simp[hp.1]⟩,rfl⟩,?_⟩;rw[hp.2]
  exact Zi7 hn h k hk
theorem Zfh:∀ (s:List Bool),Z1G true 0 s=Z52 (fun k=>s.getD k false) s.length:=by
 intro s
 have:∀ n,n≤s.length->Z1G true 0 (s.take n)=Z52 (fun k=>s.getD k false) n:=by
  intro n
  induction n with
  | zero=>intro _;rfl
  | succ n ih=>
   intro hn
   have hn':n < s.length:=by omega
   rw[List.take_succ_eq_append_getElem hn',Z3O,ih (by omega),Z93,List.length_take_of_le (by omega),Nat.zero_add]
   have e:s.getD n false=s[n]:=by simp[List.getD_eq_getElem?_getD,hn']
   rw[e]
   cases s[n]<;>rfl
 have h:=this s.length (Nat.le_refl _)
 rwa [List.take_of_length_le (Nat.le_refl _)] at h
theorem ZcQ {p q:Nat->Bool} {n:Nat} (h:∀ k,k < n->p k=q k):Z52 p n=Z52 q n:=by
 unfold Z52
 congr 1
 apply List.filter_congr
 intro k hk;exact h k (List.mem_range.1 hk)
theorem Zfi {deb:List Int} {g:Gr} (hn:g.ds.length=g.n) (h:Z13 deb g=0) {i:Nat} (hi:i < g.ds.length):Z4l g g.ds[i].t=Z52 (Z7R g i) g.n:=by
 rw[Z4l,Zfh,Z3P]
 apply ZcQ
 intro k hk;rw[Ze3 hi (by omega),Bool.eq_iff_iff];exact ZcP hn h (by omega)
theorem Zbo (deb:List Int) {g:Gr} (hn:g.ds.length=g.n) (i:Int):Z7S deb g i=Z0E deb g i:=by
 unfold Z7S Z0E
 show (bif Z2I deb g i then _ else _)=bif Z2I deb g i then _ else _
 cases ht:Z2I deb g i with
 | false=>rfl
 | true=>
  obtain⟨h1,h2⟩:=Ze4 ht
  have hm:Z13 deb g=0:=by
   unfold Z2I at ht;simp at ht;exact ht.2
  rw[cond_true,cond_true,←Zfi hn hm (i:=i.toNat) (by omega)];simp[Z0O,List.getD_eq_getElem?_getD,show i.toNat < g.ds.length by omega]
def at2 (R:List (List Bool)) (i k:Nat):Bool:=(R.getD i []).getD k false
def ZkH (R:List (List Bool)) (i k:Nat) (v:Bool):List (List Bool):=R.set i ((R.getD i []).set k v)
structure Sq (n:Nat) (R:List (List Bool)):Prop where
 len:R.length=n
 row:∀ i (h:i < R.length),R[i].length=n
theorem Sq.set {n:Nat} {R:List (List Bool)} (h:Sq n R) {i k:Nat} (hi:i < n) (v:Bool):Sq n (ZkH R i k v):=by
 refine⟨by simp[ZkH,h.len],fun j hj=>?_⟩;simp only[ZkH,List.length_set] at hj
 have hil:i < R.length:=by rw[h.len];exact hi
 simp only[ZkH,List.getElem_set]
 split
 ·rw[List.length_set]
  simp[List.getD_eq_getElem?_getD,hil,h.row i hil]
 ·exact h.row j hj
theorem Zm8 {n:Nat} {R:List (List Bool)} (h:Sq n R) {i k:Nat} (hi:i < n) (hk:k < n) (v:Bool) (a b:Nat):at2 (ZkH R i k v) a b=bif decide (a=i∧b=k) then v else at2 R a b:=by
 have hil:i < R.length:=by rw[h.len];exact hi
 have hkl:k < R[i].length:=by rw[h.row i hil];exact hk
 unfold at2 ZkH;simp only[List.getD_eq_getElem?_getD,List.getElem?_set]
 by_cases ha:i=a
 ·subst ha
  simp only[if_true,hil,if_true,Option.getD_some,List.getElem?_eq_getElem hil];rw[List.getElem?_set]
  by_cases hb:k=b
  ·subst hb
   simp[hkl]
  ·have:¬ (b=k):=fun e=>hb e.symm
   simp[hb,this]
 ·have:¬ (a=i):=fun e=>ha e.symm
  simp[ha,this]
structure InRound (g:Gr) (m:Nat) (A R:List (List Bool)) (done:Nat->Nat->Prop):Prop where
 sound:∀ i k,at2 R i k=true->PV g g.n i k
 grow:∀ i k,at2 A i k=true->at2 R i k=true
 new:∀ i k,done i k->at2 A i m=true->at2 A m k=true->at2 R i k=true
theorem InRound.step {g:Gr} {m:Nat} {A R:List (List Bool)} {d d':Nat->Nat->Prop} (h:InRound g m A R d) (hR:Sq g.n R) {i k:Nat} (hi:i < g.n) (hk:k < g.n) (hm:m < g.n) (hd:∀ a b,d' a b->d a b∨(a=i∧b=k)) :
  InRound g m A (ZkH R i k (at2 R i k || (at2 R i m && at2 R m k))) d':=by
 have hs:=Zm8 hR hi hk (at2 R i k || (at2 R i m && at2 R m k))
 have up:∀ a b,at2 R a b=true->at2 (ZkH R i k (at2 R i k || (at2 R i m && at2 R m k))) a b=true:=fun a b hab=>by
  rw[hs]
  by_cases e:a=i∧b=k
  ·obtain⟨rfl,rfl⟩:=e
   simp[hab]
  ·simp[e,hab]
 refine⟨fun a b hab=>?_,fun a b hab=>up a b (h.grow a b hab),fun a b hdab h1 h2=>?_⟩
 ·rw[hs] at hab
  by_cases e:a=i∧b=k
  ·obtain⟨rfl,rfl⟩:=e
   simp at hab
   rcases hab with hab | ⟨q1,q2⟩
   ·exact h.sound _ _ hab
   ·exact PV.trans (h.sound _ _ q1) (h.sound _ _ q2) hm
  ·simp[e] at hab
   exact h.sound _ _ hab
 ·rcases hd a b hdab with hdab | ⟨rfl,rfl⟩
  ·exact up a b (h.new a b hdab h1 h2)
  ·rw[hs]
   simp[h.grow _ _ h1,h.grow _ _ h2]
structure RoundInv (g:Gr) (m:Nat) (R:List (List Bool)):Prop where
 sq:Sq g.n R
 sound:∀ i k,at2 R i k=true->PV g g.n i k
 comp:∀ i k,i < g.n->k < g.n->PV g m i k->at2 R i k=true
theorem RoundInv.next {g:Gr} {m:Nat} {A R:List (List Bool)} (hA:RoundInv g m A) (hm:m < g.n) (hR:Sq g.n R) (h:InRound g m A R fun i k=>i < g.n∧k < g.n):RoundInv g (m+1) R:=by
 refine⟨hR,h.sound,fun i k hi hk hp=>?_⟩
 rcases hp with hp | ⟨h1,h2⟩
 ·exact h.grow _ _ (hA.comp i k hi hk hp)
 ·exact h.new i k ⟨hi,hk⟩ (hA.comp i m hi hm h1) (hA.comp m k hm hk h2)
section
variable {X:Ctx} {β:Nat->Nat} {F:Fr} {C:Bx} {I:GH} {M:List Blk} {o:Oper} {K:KS}
theorem Z7U {P:Program} {E:Env} (hE:EOK P E) {t e:Nat} {ti:TI} (ht:E t=some ti) (hts:ti.sh=.slice e):P.underlying t=some (.slice e):=by
 obtain⟨dt,htd,hdt⟩:=(hE _ _ ht).und
 have hdt':dt=.slice e:=by
  rw[hts] at hdt
  cases dt<;>simp_all[Z2k]
 rw[htd,hdt']
theorem BinOb.nilS {P:Program} {E:Env} (hE:EOK P E) {t e:Nat} {ti:TI} {x y:Operand} (ht:E t=some ti) (hts:ti.sh=.slice e) {a:Option Addr} {n c n' c':Nat} {V:Value->Prop} {other:Prop}
  (h:V (.bool a.isNone)):BinOb P .eql t x y (.val (.slice a n c)) (.val (.slice none n' c')) V other:=by
 have h1:=Z7U hE ht hts;refine .mk _ _ _ rfl rfl (fun w=>?_) h
 have e1:(eqGuard .eql t x y (.slice a n c) (.slice none n' c')).run P w=.ok () w:=by unfold eqGuard;rfl
 simp only[Sem.run_bind,e1,Result.andThen_ok];exact Lib.run_eql_slice_nil w t e a n c n' c' h1
end
end Go.V
