/-
  Part 7 of what the proofs of this seat share: the executor, data in memory, walks.
-/
import Derived.Test.YtmijfbjkkllhlaaGreatDoorK6
import Derived.Test.YtmijfbjkkllhlaaGreatDoorK4
import Derived.Test.YtmijfbjkkllhlaaGreatDoorK3
import Derived.Test.YtmijfbjkkllhlaaGreatDoorK5
set_option linter.all false
namespace Go.V
open Go Go.Proofs
def runR (p:UInt8×UInt8):List UInt8:=putB p.1 clsL++((bif decide ((p.1.toNat:Int)+1 < p.2.toNat) then [45] else [])++(bif decide ((p.1.toNat:Int) < p.2.toNat) then putB p.2 clsL else []))
def isAll (rs:List (UInt8×UInt8)):Bool:=match rs with
 | [p]=>((p.1.toNat:Int) == 0) && ((p.2.toNat:Int) == 255)
 | _=>false
def classR (rs:List (UInt8×UInt8)):List UInt8:=bif isAll rs then [46] else [91]++rs.flatMap runR++[93]
theorem runR_len (p:UInt8×UInt8):(runR p).length≤9:=by
 have h1:=putB_len p.1 clsL
 have h2:=putB_len p.2 clsL
 unfold runR
 cases decide ((p.1.toNat:Int)+1 < p.2.toNat)<;>cases decide ((p.1.toNat:Int) < p.2.toNat)<;>simp<;>omega
set_option maxHeartbeats 2000000 in
theorem RClass_spec {I:GH} {a b c d:Int} (hws:∀ x∈[a,b,c,d],u64ok x):Spec Tryz.prog 209 [.agg #[.int .u64 a,.int .u64 b,.int .u64 c,.int .u64 d]] I []
  fun r I' M'=>r=.string (strOf (classR (runsR (hasR [a,b,c,d]) 256)))∧I'=I∧M'=[]:=by
 refine spec_of_V [] TryzEOK Tryz.func209 rfl rfl rfl ?_
 intro B h0
 refine CallOb.mk [] [] _ (.refl _) (RRuns_spec hws) ?_
 rintro v J N - ⟨hJ,os,rfl,hos,rfl⟩
 subst J
 have hrl:=runsR_len (hasR [a,b,c,d]) 256
 generalize runsR (hasR [a,b,c,d]) 256=rs at *
 have hn:rs.length=os.n:=by
  have:=hos.len
  rw[pairV_len] at this
  omega
 have main:isAll rs=false→classR rs=[91]++rs.flatMap runR++[93]:=fun h=>by rw[classR,h];rfl
 have hfl:∀ i,((rs.take i).flatMap runR).length≤9 * i:=fun i=>by
  have:=flat_le runR 9 runR_len (rs.take i)
  have h2:=List.length_take_le i rs
  omega
 have row:∀ {i:Nat} (hi:i < rs.length) (M:List Blk),(∀ y∈os.blk 270,y∈M)→∃ ad,(os.a.map fun g=>(⟨g,0,none⟩:Addr))=some ad∧Rd I M (ad.add (i * 2)) 2 (pairC rs[i]):=fun {i} hi M hM=>OS.ok.row (I:=I) (M:=M) (f:=pairC) (fun _=>rfl) (by decide) hos (e:=270) hM hi
 refine GuardOb.mk (fun h1=>?_) (fun h1=>?_)
 ·have hn1:os.n=1:=by simp at h1;omega
  obtain⟨p,rfl⟩:∃ p,rs=[p]:=by
   match rs,(show rs.length=1 by omega) with
   | [p],_=>exact⟨p,rfl⟩
  obtain⟨ad,had,hrd⟩:=row (i:=0) (by simp) (os.blk 270++[]) (fun y hy=>by simp[hy])
  refine IdxOb.mk ad 0 had rfl (by omega) ?_
  refine LoadOb.mk _ hrd ?_
  refine BinOb.eq2 TryzEOK (e:=5) rfl rfl rfl rfl (by kernel_rfl) ?_
  refine CondOb.mk (fun h2=>?_) (fun h2=>?_)
  ·exact⟨_,_,.sub (List.nil_sublist _) .refl,by rw[classR,show isAll [p]=true from h2];rfl,rfl,rfl⟩
  ·have hall:isAll [p]=false:=h2
   have hm:=main hall
   refine LoopOb.inv (ι:=Nat×List UInt8) (fun x=>{ fl:=[(3,.val os.val),(4,.val (.string (strOf x.2))),(5,.val (.int .i64 x.1))],gi:=I,mi:=os.blk 270 }) (fun x=>x.1≤os.n∧x.2=([p].take x.1).flatMap runR) (fun x=>os.n - x.1) ?_ ?_
   ·exact⟨(0,[]),⟨Nat.zero_le _,rfl⟩,.perm (by simp) .refl,aF3,.nil⟩
   rintro⟨i,w⟩ ⟨hi,hw⟩
   simp only at hi hw
   have hli:=hfl i
   rw[←hw] at hli
   refine CondOb.mk (fun h=>?_) (fun h=>?_)
   ·have hlt:i < os.n:=by simpa using h
    have hlt':i < ([p]:List (UInt8×UInt8)).length:=by omega
    obtain⟨ad,had,hrd⟩:=row (i:=i) hlt' (os.blk 270) (fun y hy=>hy)
    have etk:([p].take (i+1)).flatMap runR=([p].take i).flatMap runR++runR ([p]:List (UInt8×UInt8))[i]:=by
     rw[List.take_succ_eq_append_getElem hlt',List.flatMap_append]
     simp
    generalize hq:([p]:List (UInt8×UInt8))[i]=q at hrd etk
    have hq1:=q.1.toNat_lt
    have hq2:=q.2.toNat_lt
    have hl1:=putB_len q.1 clsL
    have hl2:=putB_len q.2 clsL
    refine CodeOb.draw TryzEOK rfl rfl rfl ?_
    refine IdxOb.mk ad i had rfl hlt ?_
    refine ArrOb.mk 0 rfl (by decide) ?_
    refine LoadOb.mk _ (Rd.part (k:=0 * 1) (m:=1) hrd (by decide)) ?_
    refine ArithOb.mk (q.1.toNat:Int) (wrap_i64 ⟨by omega,by omega⟩) ?_
    refine IdxOb.mk ad i had rfl hlt ?_
    refine ArrOb.mk 1 rfl (by decide) ?_
    refine LoadOb.mk _ (Rd.part (k:=1 * 1) (m:=1) hrd (by decide)) ?_
    refine ArithOb.mk (q.2.toNat:Int) (wrap_i64 ⟨by omega,by omega⟩) ?_
    have hw1:IntKind.u8.wrap (q.1.toNat:Int)=(q.1.toNat:Int):=by simp[IntKind.wrap,IntKind.signed,IntKind.bits];omega
    have hw2:IntKind.u8.wrap (q.2.toNat:Int)=(q.2.toNat:Int):=by simp[IntKind.wrap,IntKind.signed,IntKind.bits];omega
    refine ArithOb.mk _ hw1 ?_
    have hs1:=RSign_spec (I:=I) q.1 clsR (by decide)
    rw[(sign_put q.1).2] at hs1
    refine CallOb.mk [] (os.blk 270) _ (.refl _) hs1 ?_
    rintro v J N - ⟨rfl,hJ,rfl⟩
    subst J
    refine BinOb.concatL (a:=w) (by omega) ?_
    refine ArithOb.mk ((q.1.toNat:Int)+1) (wrap_i64 ⟨by omega,by omega⟩) ?_
    have hs2:=RSign_spec (I:=I) q.2 clsR (by decide)
    rw[(sign_put q.2).2] at hs2
    refine CondOb.mk (fun k1=>?_) (fun k1=>?_)
    ·refine BinOb.concatL (b:=[45]) (by simp only[List.length_append,List.length_cons,List.length_nil];omega) ?_
     refine CondOb.mk (fun k2=>?_) (fun k2=>?_)
     ·refine ArithOb.mk _ hw2 ?_
      refine CallOb.mk [] (os.blk 270) _ (.refl _) hs2 ?_
      rintro v J N - ⟨rfl,hJ,rfl⟩
      subst J
      refine BinOb.concatL (by simp only[List.length_append,List.length_cons,List.length_nil];omega) ?_
      refine ArithOb.mk _ (next_wr (i:=i) (by omega)) ?_
      refine⟨(i+1,_),⟨⟨hlt,?_⟩,by simp only;omega⟩,.refl,aF3,.nil⟩
      simp only
      rw[hw,etk,runR,k1,k2,cond_true,cond_true,←List.append_assoc,←List.append_assoc]
     ·simp at k1 k2
      omega
    ·refine CondOb.mk (fun k2=>?_) (fun k2=>?_)
     ·refine ArithOb.mk _ hw2 ?_
      refine CallOb.mk [] (os.blk 270) _ (.refl _) hs2 ?_
      rintro v J N - ⟨rfl,hJ,rfl⟩
      subst J
      refine BinOb.concatL (by simp only[List.length_append,List.length_cons,List.length_nil];omega) ?_
      refine ArithOb.mk _ (next_wr (i:=i) (by omega)) ?_
      refine⟨(i+1,_),⟨⟨hlt,?_⟩,by simp only;omega⟩,.refl,aF3,.nil⟩
      simp only
      rw[hw,etk,runR,k1,k2,cond_false,cond_true,List.nil_append,←List.append_assoc]
     ·refine ArithOb.mk _ (next_wr (i:=i) (by omega)) ?_
      refine⟨(i+1,_),⟨⟨hlt,?_⟩,by simp only;omega⟩,.refl,aF3,.nil⟩
      simp only
      rw[hw,etk,runR,k1,k2,cond_false,cond_false,List.nil_append,List.append_nil]
   ·have:i=os.n:=by simp at h;omega
    subst this
    have e:[p].take os.n=[p]:=List.take_of_length_le (by omega)
    refine BinOb.concatL (a:=[91]) (by simp only[List.length_cons,List.length_nil];omega) ?_
    refine BinOb.concatL (b:=[93]) (by simp only[List.length_append,List.length_cons,List.length_nil];omega) ?_
    exact⟨_,_,.sub (List.nil_sublist _) .refl,by rw[hm,hw,e],rfl,rfl⟩
 ·have hall:isAll rs=false:=by
   match rs,hn with
   | [],_=>rfl
   | [p],hn=>simp at h1 hn;omega
   | _::_::_,_=>rfl
  have hm:=main hall
  refine LoopOb.inv (ι:=Nat×List UInt8) (fun x=>{ fl:=[(3,.val os.val),(4,.val (.string (strOf x.2))),(5,.val (.int .i64 x.1))],gi:=I,mi:=os.blk 270 }) (fun x=>x.1≤os.n∧x.2=(rs.take x.1).flatMap runR) (fun x=>os.n - x.1) ?_ ?_
  ·exact⟨(0,[]),⟨Nat.zero_le _,rfl⟩,.perm (by simp) .refl,aF3,.nil⟩
  rintro⟨i,w⟩ ⟨hi,hw⟩
  simp only at hi hw
  have hli:=hfl i
  rw[←hw] at hli
  refine CondOb.mk (fun h=>?_) (fun h=>?_)
  ·have hlt:i < os.n:=by simpa using h
   have hlt':i < (rs:List (UInt8×UInt8)).length:=by omega
   obtain⟨ad,had,hrd⟩:=row (i:=i) hlt' (os.blk 270) (fun y hy=>hy)
   have etk:(rs.take (i+1)).flatMap runR=(rs.take i).flatMap runR++runR (rs:List (UInt8×UInt8))[i]:=by
    rw[List.take_succ_eq_append_getElem hlt',List.flatMap_append]
    simp
   generalize hq:(rs:List (UInt8×UInt8))[i]=q at hrd etk
   have hq1:=q.1.toNat_lt
   have hq2:=q.2.toNat_lt
   have hl1:=putB_len q.1 clsL
   have hl2:=putB_len q.2 clsL
   refine CodeOb.draw TryzEOK rfl rfl rfl ?_
   refine IdxOb.mk ad i had rfl hlt ?_
   refine ArrOb.mk 0 rfl (by decide) ?_
   refine LoadOb.mk _ (Rd.part (k:=0 * 1) (m:=1) hrd (by decide)) ?_
   refine ArithOb.mk (q.1.toNat:Int) (wrap_i64 ⟨by omega,by omega⟩) ?_
   refine IdxOb.mk ad i had rfl hlt ?_
   refine ArrOb.mk 1 rfl (by decide) ?_
   refine LoadOb.mk _ (Rd.part (k:=1 * 1) (m:=1) hrd (by decide)) ?_
   refine ArithOb.mk (q.2.toNat:Int) (wrap_i64 ⟨by omega,by omega⟩) ?_
   have hw1:IntKind.u8.wrap (q.1.toNat:Int)=(q.1.toNat:Int):=by simp[IntKind.wrap,IntKind.signed,IntKind.bits];omega
   have hw2:IntKind.u8.wrap (q.2.toNat:Int)=(q.2.toNat:Int):=by simp[IntKind.wrap,IntKind.signed,IntKind.bits];omega
   refine ArithOb.mk _ hw1 ?_
   have hs1:=RSign_spec (I:=I) q.1 clsR (by decide)
   rw[(sign_put q.1).2] at hs1
   refine CallOb.mk [] (os.blk 270) _ (.refl _) hs1 ?_
   rintro v J N - ⟨rfl,hJ,rfl⟩
   subst J
   refine BinOb.concatL (a:=w) (by omega) ?_
   refine ArithOb.mk ((q.1.toNat:Int)+1) (wrap_i64 ⟨by omega,by omega⟩) ?_
   have hs2:=RSign_spec (I:=I) q.2 clsR (by decide)
   rw[(sign_put q.2).2] at hs2
   refine CondOb.mk (fun k1=>?_) (fun k1=>?_)
   ·refine BinOb.concatL (b:=[45]) (by simp only[List.length_append,List.length_cons,List.length_nil];omega) ?_
    refine CondOb.mk (fun k2=>?_) (fun k2=>?_)
    ·refine ArithOb.mk _ hw2 ?_
     refine CallOb.mk [] (os.blk 270) _ (.refl _) hs2 ?_
     rintro v J N - ⟨rfl,hJ,rfl⟩
     subst J
     refine BinOb.concatL (by simp only[List.length_append,List.length_cons,List.length_nil];omega) ?_
     refine ArithOb.mk _ (next_wr (i:=i) (by omega)) ?_
     refine⟨(i+1,_),⟨⟨hlt,?_⟩,by simp only;omega⟩,.refl,aF3,.nil⟩
     simp only
     rw[hw,etk,runR,k1,k2,cond_true,cond_true,←List.append_assoc,←List.append_assoc]
    ·simp at k1 k2
     omega
   ·refine CondOb.mk (fun k2=>?_) (fun k2=>?_)
    ·refine ArithOb.mk _ hw2 ?_
     refine CallOb.mk [] (os.blk 270) _ (.refl _) hs2 ?_
     rintro v J N - ⟨rfl,hJ,rfl⟩
     subst J
     refine BinOb.concatL (by simp only[List.length_append,List.length_cons,List.length_nil];omega) ?_
     refine ArithOb.mk _ (next_wr (i:=i) (by omega)) ?_
     refine⟨(i+1,_),⟨⟨hlt,?_⟩,by simp only;omega⟩,.refl,aF3,.nil⟩
     simp only
     rw[hw,etk,runR,k1,k2,cond_false,cond_true,List.nil_append,←List.append_assoc]
    ·refine ArithOb.mk _ (next_wr (i:=i) (by omega)) ?_
     refine⟨(i+1,_),⟨⟨hlt,?_⟩,by simp only;omega⟩,.refl,aF3,.nil⟩
     simp only
     rw[hw,etk,runR,k1,k2,cond_false,cond_false,List.nil_append,List.append_nil]
  ·have:i=os.n:=by simp at h;omega
   subst this
   have e:rs.take os.n=rs:=List.take_of_length_le (by omega)
   refine BinOb.concatL (a:=[91]) (by simp only[List.length_cons,List.length_nil];omega) ?_
   refine BinOb.concatL (b:=[93]) (by simp only[List.length_append,List.length_cons,List.length_nil];omega) ?_
   exact⟨_,_,.sub (List.nil_sublist _) .refl,by rw[hm,hw,e],rfl,rfl⟩
theorem RSize_spec {I:GH} {t:Tr} (ht:t.ok I) {W:Nat} (hf:Fit t W):Spec Tryz.prog 143 [t.val] I [] (fun v I' M'=>v=.int .i64 (sizeT t:Nat)∧I'=I∧M'=[]):=by
 refine spec_of_V [] TryzEOK Tryz.func143 rfl rfl rfl ?_
 intro B h0
 refine CallOb.mk [] [] _ (.refl _) (RRight_gen ht W hf.w hf.b) ?_
 rintro v J N - ⟨rfl,hJ,rfl⟩
 subst J
 refine CondOb.mk (fun h=>?_) (fun h=>?_)
 ·refine⟨_,_,.refl,?_,rfl,rfl⟩
  simp[sizeT,show right t=false by simpa using h]
 ·refine⟨_,_,.refl,?_,rfl,rfl⟩
  simp[sizeT,show right t=true by simpa using h]
set_option maxHeartbeats 1000000 in
theorem RDepth_spec {I:GH} {t:Tr} (ht:t.ok I) {W:Nat} (hf:Fit t W):Spec Tryz.prog 144 [t.val] I [] (fun v I' M'=>v=.int .i64 (depth t)∧I'=I∧M'=[]):=by
 refine spec_of_V [] TryzEOK Tryz.func144 rfl rfl rfl ?_
 intro B h0
 have hn:=ht.n
 have hcap:=ht.rs.cap
 refine CallOb.mk [] [] _ (.refl _) (RRight_gen ht W hf.w hf.b) ?_
 rintro v J N - ⟨rfl,hJ,rfl⟩
 subst J
 refine CondOb.mk (fun h=>?_) (fun h=>?_)
 ·refine⟨_,_,.refl,?_,rfl,rfl⟩
  simp[depth,show right t=false by simpa using h]
 ·have hr:right t=true:=by simpa using h
  have hkids:=right_kids hr
  obtain⟨g1,g2⟩:=right_root hr
  refine MakeOb.mk t.n t.n rfl rfl (Nat.le_refl _) (by show 8 * t.n≤_;omega) (by omega) ?_
  refine AllocOb.mk fun b hb hbM=>?_
  refine LoopOb.inv (ι:=Nat×List Int)
   (fun x=>{ fl:=[(1,.ref 1 0),(3,.val (.slice (some ⟨b,0,none⟩) t.n t.n)),(4,.val (.int .i64 x.1))],cl:=[(1,t.cells)],gi:=I,mi:=[intRow b x.2] })
   (fun x=>x.1≤t.n∧x.2.length=t.n∧(∀ j,0≤x.2.getD j 0∧x.2.getD j 0≤x.1)∧(∀ j,x.1≤j→x.2.getD j 0=0)∧depthsFrom 0 t.ns (List.replicate t.ns.length 0)=depthsFrom x.1 (t.ns.drop x.1) x.2) (fun x=>t.n - x.1) ?_ ?_
  ·have z:∀ j,(List.replicate t.n (0:Int)).getD j 0=0:=fun j=>by
    by_cases hj:j < t.n<;>simp[List.getD_eq_getElem?_getD,hj]
   refine⟨(0,List.replicate t.n 0),⟨by omega,by simp,fun j=>by rw[z];simp,fun j _=>z j,by simp[hn]⟩,?_,aF3,.cons rfl .nil⟩
   show Wk _ _ [⟨b,.cells (rowOf [Value.int .i64 0] (t.n * 1)).toArray 3 (0,0)⟩] _ [intRow b (List.replicate t.n 0)]
   rw[rowOf_one,Nat.mul_one]
   simp only[intRow,List.map_replicate]
   exact .refl
  ·rintro⟨i,dp⟩ ⟨hi1,hi2,hi3,hi4,hi5⟩
   simp only at hi1 hi2 hi3 hi4 hi5
   refine CondOb.mk (fun h=>?_) (fun h=>?_)
   ·have hlt:i < t.n:=by simpa using h
    have hlt':i < t.ns.length:=by omega
    obtain⟨ad,had,hrd⟩:=ht.rs.row Nd.cells_len hlt hlt'
    have hdk:=ht.ns t.ns[i] (List.getElem_mem hlt')
    have hkn:=hdk.kn
    have hdrop:t.ns.drop i=t.ns[i]::t.ns.drop (i+1):=List.drop_eq_getElem_cons hlt'
    have hrk8:∀ M,Rd I M ((ad.add (i * 9)).add 8) 1 [.slice t.ns[i].ka t.ns[i].kn t.ns[i].kc]:=fun M=>(hrd M).part (k:=8) (m:=1) (by decide)
    refine LoopOb.inv (ι:=Nat×Int)
     (fun x=>{ fl:=[(1,.ref 1 0),(3,.val (.slice (some ⟨b,0,none⟩) t.n t.n)),(4,.val (.int .i64 i)),(5,.val (.int .i64 x.1))],cl:=[(1,t.cells)],gi:=I,mi:=[intRow b (dp.set i x.2)] })
     (fun x=>x.1≤t.ns[i].kn∧0≤x.2∧x.2≤i∧kidMax dp t.ns[i].kids 0=kidMax dp (t.ns[i].kids.drop x.1) x.2) (fun x=>t.ns[i].kn - x.1) ?_ ?_
    ·refine⟨(0,0),⟨by omega,by omega,by simp,rfl⟩,?_,aF4,.cons rfl .nil⟩
     have e:dp.set i 0=dp:=by
      have h1:=hi4 i (Nat.le_refl _)
      rw[List.getD_eq_getElem?_getD] at h1
      apply List.ext_getElem?
      intro j
      rw[List.getElem?_set]
      split
      ·rename_i e
       subst e
       have:i < dp.length:=by omega
       simp[this] at h1 ⊢
       exact h1.symm
      ·rfl
     simp only
     rw[e]
     exact .refl
    ·rintro⟨j,m⟩ ⟨hj1,hj2,hj3,hj4⟩
     simp only at hj1 hj2 hj3 hj4
     refine IdxOb.mk ad i had rfl hlt ?_
     refine LoadOb.mk _ (hrk8 _) ?_
     refine CondOb.mk (fun h=>?_) (fun h=>?_)
     ·have hjl:j < t.ns[i].kn:=by simpa using h
      have hjl':j < t.ns[i].kids.length:=by omega
      obtain⟨ak,hak,hrk⟩:=hdk.rs.one hjl hjl'
      have hkd:t.ns[i].kids.drop j=t.ns[i].kids[j]::t.ns[i].kids.drop (j+1):=List.drop_eq_getElem_cons hjl'
      have hk:=hkids i hlt' t.ns[i].kids[j] (List.getElem_mem hjl')
      have hk0:t.ns[i].kids[j]=((t.ns[i].kids[j].toNat:Nat):Int):=by omega
      have hkl:t.ns[i].kids[j].toNat < t.n:=by omega
      refine CodeOb.draw TryzEOK rfl rfl rfl ?_
      have hil:i < (dp.set i m).length:=by simp;omega
      have hkl':t.ns[i].kids[j].toNat < (dp.set i m).length:=by simp;omega
      have hii:(dp.set i m)[i]=m:=by simp
      have hkk:(dp.set i m)[t.ns[i].kids[j].toNat]=dp.getD t.ns[i].kids[j].toNat 0:=by
       have hne:i≠t.ns[i].kids[j].toNat:=by omega
       have h9:t.ns[i].kids[j].toNat < dp.length:=by omega
       rw[List.getElem_set,if_neg hne]
       simp[List.getD_eq_getElem?_getD,h9]
      refine IdxOb.mk ⟨b,0,none⟩ i rfl rfl hlt ?_
      refine LoadOb.mk [.int .i64 m] (intRow_rd' hil hii (by simp)) ?_
      refine IdxOb.mk ad i had rfl hlt ?_
      refine LoadOb.mk _ (hrk8 _) ?_
      refine IdxOb.mk ak j hak rfl hjl ?_
      refine LoadOb.mk [.int .i64 t.ns[i].kids[j]] (hrk _) ?_
      refine IdxOb.mk ⟨b,0,none⟩ t.ns[i].kids[j].toNat rfl hk0 hkl ?_
      refine LoadOb.mk [.int .i64 (dp.getD t.ns[i].kids[j].toNat 0)] (intRow_rd' hkl' hkk (by simp)) ?_
      refine IdxOb.mk ⟨b,0,none⟩ i rfl rfl hlt ?_
      refine StoreOb.add [] [] _ 3 rfl ?_ rfl ?_
      ·simp only[List.size_toArray,List.length_map]
       show 0+i * 1+1≤_
       simp
       omega
      have hwr:IntKind.i64.wrap ((j:Int)+1)=((j+1:Nat):Int):=by
       rw[wrap_i64 ⟨by omega,by have:=hdk.rs.cap;omega⟩]
       omega
      refine ArithOb.mk _ hwr ?_
      have h3k:=hi3 t.ns[i].kids[j].toNat
      refine⟨(j+1,max m (dp.getD t.ns[i].kids[j].toNat 0)),⟨⟨by omega,by simp only;omega,by simp only;omega,?_⟩,by show _ < _;simp only;omega⟩,?_,aF4,.cons rfl .nil⟩
      ·simp only
       rw[hj4,hkd]
       rfl
      ·have e:=intRow_set (dp.set i m) i hil (max m (dp.getD t.ns[i].kids[j].toNat 0))
       simp only[intRow]
       rw[List.set_set] at e
       rw[←e]
       simp only[Nat.zero_add,Nat.mul_one]
       exact .refl
     ·have hjl:¬ j < t.ns[i].kn:=by simpa using h
      have hje:t.ns[i].kids.drop j=[]:=List.drop_eq_nil_of_le (by omega)
      have hm:kidMax dp t.ns[i].kids 0=m:=by rw[hj4,hje];rfl
      have hil:i < (dp.set i m).length:=by simp;omega
      have hii:(dp.set i m)[i]=m:=by simp
      have hwm:IntKind.i64.wrap (m+1)=m+1:=wrap_i64 ⟨by omega,by omega⟩
      have hwr:IntKind.i64.wrap ((i:Int)+1)=((i+1:Nat):Int):=by
       rw[wrap_i64 ⟨by omega,by omega⟩]
       omega
      refine IdxOb.mk ⟨b,0,none⟩ i rfl rfl hlt ?_
      refine LoadOb.mk [.int .i64 m] (intRow_rd' hil hii (by simp)) ?_
      refine ArithOb.mk _ hwm ?_
      refine IdxOb.mk ⟨b,0,none⟩ i rfl rfl hlt ?_
      refine StoreOb.add [] [] _ 3 rfl ?_ rfl ?_
      ·simp only[List.size_toArray,List.length_map]
       show 0+i * 1+1≤_
       omega
      refine ArithOb.mk _ hwr ?_
      refine⟨(i+1,dp.set i (m+1)),⟨⟨by omega,by simp[hi2],?_,?_,?_⟩,by show _ < _;simp only;omega⟩,?_,aF3,.cons rfl .nil⟩
      ·intro q
       have h3q:=hi3 q
       simp only[List.getD_eq_getElem?_getD,List.getElem?_set] at h3q ⊢
       split
       ·rename_i e
        subst e
        have:i < dp.length:=by omega
        simp[this]
        omega
       ·omega
      ·intro q hq
       have h4q:=hi4 q (by omega)
       simp only at hq
       simp only[List.getD_eq_getElem?_getD,List.getElem?_set] at h4q ⊢
       rw[if_neg (by omega)]
       exact h4q
      ·simp only
       rw[hi5,hdrop]
       simp only[depthsFrom,hm]
      ·have e:=intRow_set (dp.set i m) i hil (m+1)
       simp only[intRow]
       rw[List.set_set] at e
       rw[←e]
       simp only[Nat.zero_add,Nat.mul_one]
       exact .refl
   ·have hge:¬ i < t.n:=by simpa using h
    have hdn:t.ns.drop i=[]:=List.drop_eq_nil_of_le (by omega)
    have hall:depthsFrom 0 t.ns (List.replicate t.ns.length 0)=dp:=by rw[hi5,hdn];rfl
    have hr0:t.root=((t.root.toNat:Nat):Int):=by omega
    have hrl:t.root.toNat < dp.length:=by omega
    refine IdxOb.mk ⟨b,0,none⟩ t.root.toNat rfl hr0 (by omega) ?_
    refine LoadOb.mk [.int .i64 dp[t.root.toNat]] (intRow_rd' hrl rfl (by simp)) ?_
    refine⟨_,_,.sub (List.nil_sublist _) .refl,?_,rfl,rfl⟩
    have:depth t=dp[t.root.toNat]:=by
     unfold depth
     rw[hr,hall]
     simp[List.getD_eq_getElem?_getD,hrl]
    rw[this]
    rfl
theorem RTMay_spec {I:GH} {t:Tr} (ht:t.ok I) {W:Nat} (hf:Fit t W):Spec Tryz.prog 102 [t.val] I [] (fun v I' M'=>v=.bool (mayTree t)∧I'=I∧M'=[]):=by
 refine spec_of_V [] TryzEOK Tryz.func102 rfl rfl rfl ?_
 intro B h0
 refine CallOb.mk [] [] _ (.refl _) (RRight_gen ht W hf.w hf.b) ?_
 rintro v J N - ⟨rfl,hJ,rfl⟩
 subst J
 refine GuardOb.mk (fun h1=>?_) (fun h1=>?_)
 ·refine GuardOb.mk (fun h2=>?_) (fun h2=>?_)
  ·refine CallOb.mk [] [] _ (.refl _) (RDepth_spec ht hf) ?_
   rintro v J N - ⟨rfl,hJ,rfl⟩
   subst J
   refine⟨_,_,.refl,?_,rfl,rfl⟩
   have h2':t.n≤1024:=by simp at h2;omega
   simp[mayTree,h1,h2']
  ·refine⟨_,_,.refl,?_,rfl,rfl⟩
   have h2':¬ t.n≤1024:=by simp at h2;omega
   simp[mayTree,h2']
 ·refine⟨_,_,.refl,?_,rfl,rfl⟩
  have h1':right t=false:=h1
  simp[mayTree,h1']
def badKid (kd kk:Int):Bool:=(decide (kd=4) && (decide (kk=4) || decide (kk=0))) || (decide (kd=5) && decide (kk=5))
def normAll (ns:List Nd):List Nd→Bool
 | []=>true
 | d::ds=>(d.kids.all fun k=>!badKid d.k (kindAt ns k)) && normAll ns ds
theorem normKids_eq (ns:List Nd) (kd:Int) (h:kd=4∨kd=5):∀ ks,normKids ns kd ks=ks.all fun k=>!badKid kd (kindAt ns k)
 | []=>rfl
 | k::ks=>by
  rw[normKids,List.all_cons,normKids_eq ns kd h ks]
  have e:(decide (kindAt ns k=kd) || (decide (kindAt ns k=0) && decide (kd=4)))=badKid kd (kindAt ns k):=by
   unfold badKid
   rcases h with rfl | rfl
   ·simp
   ·simp
  rw[e]
  cases badKid kd (kindAt ns k)<;>rfl
theorem normAll_eq (ns:List Nd):∀ ds,normNodes ns ds=normAll ns ds
 | []=>rfl
 | d::ds=>by
  rw[normNodes,normAll,normAll_eq ns ds]
  by_cases h4:d.k=4
  ·rw[normKids_eq ns d.k (.inl h4)]
   simp only[h4,decide_true,Bool.not_true,Bool.false_and,cond_false]
   cases (d.kids.all fun k=>!badKid 4 (kindAt ns k))<;>rfl
  ·by_cases h5:d.k=5
   ·rw[normKids_eq ns d.k (.inr h5)]
    simp only[h5,decide_true,Bool.not_true,Bool.and_false,cond_false]
    cases (d.kids.all fun k=>!badKid 5 (kindAt ns k))<;>rfl
   ·have e:(d.kids.all fun k=>!badKid d.k (kindAt ns k))=true:=by
     rw[List.all_eq_true]
     intro k _
     simp[badKid,h4,h5]
    rw[e]
    simp[h4,h5]
set_option maxHeartbeats 1000000 in
theorem RNormal_spec {I:GH} {t:Tr} (ht:t.ok I) {W:Nat} (hf:Fit t W):Spec Tryz.prog 100 [t.val] I [] (fun v I' M'=>v=.bool (normal t)∧I'=I∧M'=[]):=by
 refine spec_of_V [] TryzEOK Tryz.func100 rfl rfl rfl ?_
 intro B h0
 have hn:=ht.n
 have hcap:=ht.rs.cap
 refine CallOb.mk [] [] _ (.refl _) (RRight_gen ht W hf.w hf.b) ?_
 rintro v J N - ⟨rfl,hJ,rfl⟩
 subst J
 refine CondOb.mk (fun h=>?_) (fun h=>?_)
 ·refine⟨_,_,.refl,?_,rfl,rfl⟩
  simp[normal,show right t=false by simpa using h]
 have hr:right t=true:=by simpa using h
 have hno:normal t=normAll t.ns t.ns:=by simp[normal,hr,normAll_eq]
 refine LoopOb.inv (ι:=Nat) (fun i=>{ fl:=[(1,.ref 1 0),(3,.val (.int .i64 i))],cl:=[(1,t.cells)],gi:=I }) (fun i=>i≤t.n∧normAll t.ns t.ns=normAll t.ns (t.ns.drop i)) (fun i=>t.n - i) ?_ ?_
 ·exact⟨0,⟨by simp,rfl⟩,.refl,aF2,.cons rfl .nil⟩
 rintro i ⟨hi,hin⟩
 refine CondOb.mk (fun h=>?_) (fun h=>?_)
 ·have hlt:i < t.n:=by simpa using h
  have hlt':i < t.ns.length:=by omega
  obtain⟨ad,had,hrd⟩:=ht.rs.row Nd.cells_len hlt hlt'
  have hdk:=ht.ns t.ns[i] (List.getElem_mem hlt')
  have hkn:=hdk.kn
  have hdrop:t.ns.drop i=t.ns[i]::t.ns.drop (i+1):=List.drop_eq_getElem_cons hlt'
  have hkids:=right_kids hr i hlt'
  generalize hd:t.ns[i]=d at hrd hdk hkn hdrop hkids
  rw[hdrop,normAll] at hin
  refine IdxOb.mk ad i had rfl hlt ?_
  refine LoadOb.mk _ (hrd _) ?_
  refine LoopOb.inv (ι:=Nat) (fun j=>{ fl:=[(1,.ref 1 0),(3,.val (.int .i64 i)),(4,.ref 4 0),(5,.val (.int .i64 j))],cl:=[(1,t.cells),(4,d.cells)],gi:=I })
   (fun j=>j≤d.kn∧(d.kids.all fun k=>!badKid d.k (kindAt t.ns k))=((d.kids.drop j).all fun k=>!badKid d.k (kindAt t.ns k))) (fun j=>d.kn - j) ?_ ?_
  ·exact⟨0,⟨by simp,rfl⟩,.refl,aF4,.cons rfl (.cons rfl .nil)⟩
  rintro j ⟨hj,hjn⟩
  refine CondOb.mk (fun h=>?_) (fun h=>?_)
  ·have hjl:j < d.kn:=by simpa using h
   have hjl':j < d.kids.length:=by omega
   obtain⟨ak,hak,hrk⟩:=hdk.rs.one hjl hjl'
   have hkd:d.kids.drop j=d.kids[j]::d.kids.drop (j+1):=List.drop_eq_getElem_cons hjl'
   have hkk:=hkids _ (List.getElem_mem hjl')
   generalize hkv:d.kids[j]=kv at hrk hkd hkk
   obtain⟨q,rfl⟩:=Int.eq_ofNat_of_zero_le hkk.1
   have hql:q < t.ns.length:=by omega
   have hql':q < t.n:=by omega
   obtain⟨aq,haq,hrq0⟩:=ht.rs.row Nd.cells_len hql' hql
   have hrq:∀ M,Rd I M ((aq.add (q * 9)).add 0) 1 [.int .u8 t.ns[q].k]:=fun M=>(hrq0 M).part (k:=0) (m:=1) (by decide)
   have hkat:kindAt t.ns ((q:Nat):Int)=t.ns[q].k:=by simp[kindAt,List.getD_eq_getElem?_getD,hql]
   rw[hkd,List.all_cons,hkat] at hjn
   have bad:badKid d.k t.ns[q].k=true→normal t=false:=fun hb=>by
    rw[hno,hin,hjn,hb]
    rfl
   have good:badKid d.k t.ns[q].k=false→(d.kids.all fun k=>!badKid d.k (kindAt t.ns k))=((d.kids.drop (j+1)).all fun k=>!badKid d.k (kindAt t.ns k)):=fun hb=>by
    rw[hjn,hb]
    rfl
   have hwr:=next_wr (i:=j) (by have:=hdk.rs.cap;omega)
   refine CodeOb.draw TryzEOK rfl rfl rfl ?_
   refine IdxOb.mk ak j hak rfl hjl ?_
   refine LoadOb.mk _ (hrk _) ?_
   refine IdxOb.mk aq q haq rfl hql' ?_
   refine LoadOb.mk _ (hrq _) ?_
   refine GuardOb.mk (fun c1=>?_) (fun c1=>?_)
   ·have d4:d.k=4:=by simpa using c1
    refine GuardOb.mk (fun c2=>?_) (fun c2=>?_)
    ·refine GuardOb.mk (fun c3=>?_) (fun c3=>?_)
     ·refine GuardOb.mk (fun c4=>?_) (fun _=>?_)
      ·exfalso
       simp at c4
       omega
      refine ArithOb.mk _ hwr ?_
      exact⟨j+1,⟨⟨by omega,good (by simp at c2 c3;simp[badKid,d4,c2,c3])⟩,by omega⟩,.refl,aF4,.cons rfl (.cons rfl .nil)⟩
     ·exact⟨_,_,.refl,congrArg Value.bool (bad (by simp at c3;simp[badKid,d4,c3])).symm,rfl,rfl⟩
    ·exact⟨_,_,.refl,congrArg Value.bool (bad (by simp at c2;simp[badKid,d4,c2])).symm,rfl,rfl⟩
   ·have d4:d.k≠4:=by simpa using c1
    refine GuardOb.mk (fun c4=>?_) (fun c4=>?_)
    ·have d5:d.k=5:=by simpa using c4
     refine CondOb.mk (fun c5=>?_) (fun c5=>?_)
     ·exact⟨_,_,.refl,congrArg Value.bool (bad (by simp at c5;simp[badKid,d5,c5])).symm,rfl,rfl⟩
     ·refine ArithOb.mk _ hwr ?_
      exact⟨j+1,⟨⟨by omega,good (by simp at c5;simp[badKid,d5,c5])⟩,by omega⟩,.refl,aF4,.cons rfl (.cons rfl .nil)⟩
    ·have d5:d.k≠5:=by simpa using c4
     refine ArithOb.mk _ hwr ?_
     exact⟨j+1,⟨⟨by omega,good (by simp[badKid,d4,d5])⟩,by omega⟩,.refl,aF4,.cons rfl (.cons rfl .nil)⟩
  ·have hje:d.kids.drop j=[]:=List.drop_eq_nil_of_le (by simp at h;omega)
   refine ArithOb.mk _ (next_wr (i:=i) (by omega)) ?_
   refine⟨i+1,⟨⟨by omega,?_⟩,by omega⟩,.refl,aF2,.cons rfl .nil⟩
   rw[hin,hjn,hje]
   rfl
 ·have hge:t.n≤i:=by simpa using h
  have hdn:t.ns.drop i=[]:=List.drop_eq_nil_of_le (by omega)
  refine⟨_,_,.refl,?_,rfl,rfl⟩
  rw[hno,hin,hdn]
  rfl
theorem Rwraps_spec {I:GH} (a b:Int):Spec Tryz.prog 208 [.int .u8 a,.int .u8 b] I [] fun r I' M'=>r=.bool (wrapsV a b)∧I'=I∧M'=[]:=by
 refine spec_of_V [] TryzEOK Tryz.func208 rfl rfl rfl ?_
 intro B h0
 repeat' first
  | refine CondOb.mk (fun h=>?_) (fun h=>?_)
  | refine GuardOb.mk (fun h=>?_) (fun h=>?_)
 all_goals (first | (exfalso;simp at *;omega;done) | refine⟨_,_,.refl,?_,rfl,rfl⟩)
 all_goals (simp only[decide_eq_true_eq,decide_eq_false_iff_not,Bool.not_true,Bool.not_false] at *;simp_all[wrapsV])
set_option maxHeartbeats 1000000 in
theorem RCount_spec {I:GH} (lo:Nat) (hi:Int) (hlo:lo≤99) (hhi:hi=-1∨((lo:Int)≤hi∧hi≤99)):Spec Tryz.prog 211 [.int .i64 lo,.int .i64 hi] I [] fun r I' M'=>r=.string (strOf (countB lo hi))∧I'=I∧M'=[]:=by
 have hd:=dig_len lo
 have hd2:=dig_len hi.toNat
 refine spec_of_V [] TryzEOK Tryz.func211 rfl rfl rfl ?_
 intro B h0
 have hA:2≤lo→countB lo (-1)=[123]++dig lo++[44,125]:=fun h=>by
  have e1:decide ((0:Int)=lo)=false:=decide_eq_false (by omega)
  have e2:decide ((1:Int)=lo)=false:=decide_eq_false (by omega)
  have e3:decide ((-1:Int)=lo)=false:=decide_eq_false (by omega)
  simp[countB,repB,e1,e2,e3]
 have hB:countB lo lo=[123]++dig lo++[125]:=by
  have e1:(decide ((0:Int)=lo) && decide ((1:Int)=lo))=false:=by
   rw[Bool.and_eq_false_iff]
   by_cases h:(0:Int)=lo
   ·exact .inr (decide_eq_false (by omega))
   ·exact .inl (decide_eq_false h)
  have e3:decide ((-1:Int)=lo)=false:=decide_eq_false (by omega)
  unfold countB repB
  rw[e1,e3]
  simp
 have hC:∀ h:Nat,lo < h→¬ (lo=0∧h=1)→countB lo (h:Int)=[123]++dig lo++[44]++dig h++[125]:=fun h h1 h2=>by
  have e1:(decide ((0:Int)=lo) && decide ((1:Int)=h))=false:=by
   rw[Bool.and_eq_false_iff]
   by_cases h:(0:Int)=lo
   ·exact .inr (decide_eq_false (by omega))
   ·exact .inl (decide_eq_false h)
  have e3:decide ((-1:Int)=h)=false:=decide_eq_false (by omega)
  have e4:decide ((h:Int)=lo)=false:=decide_eq_false (by omega)
  have e5:decide ((h:Int)=-1)=false:=decide_eq_false (by omega)
  unfold countB repB
  rw[e1,e3,e4,e5]
  simp
 rcases hhi with rfl | ⟨h1,h2⟩
 ·rcases(by omega:lo=0∨lo=1∨2≤lo) with rfl | rfl | hlo2
  ·repeat' first
    | refine CondOb.mk (fun h=>?_) (fun h=>?_)
    | refine GuardOb.mk (fun h=>?_) (fun h=>?_)
   all_goals (try (exfalso;simp at *;done))
   all_goals exact⟨_,_,.refl,rfl,rfl,rfl⟩
  ·repeat' first
    | refine CondOb.mk (fun h=>?_) (fun h=>?_)
    | refine GuardOb.mk (fun h=>?_) (fun h=>?_)
   all_goals (try (exfalso;simp at *;done))
   all_goals exact⟨_,_,.refl,rfl,rfl,rfl⟩
  ·have e:=hA hlo2
   clear hA hB hC
   repeat' first
    | refine CondOb.mk (fun h=>?_) (fun h=>?_)
    | refine GuardOb.mk (fun h=>?_) (fun h=>?_)
   all_goals (try (exfalso;simp at *;done))
   all_goals (try (exfalso;simp at *;omega;done))
   refine CallOb.mk [] [] _ (.refl _) (RShow_spec lo (by omega)) ?_
   rintro v J N - ⟨rfl,rfl,rfl⟩
   refine BinOb.concatL (a:=[123]) (b:=dig lo) (by simp;omega) ?_
   refine BinOb.concatL (b:=[44,125]) (by simp;omega) ?_
   exact⟨_,_,.refl,by rw[e],rfl,rfl⟩
 ·obtain⟨w,rfl⟩:=Int.eq_ofNat_of_zero_le (show 0≤hi by omega)
  rcases(by omega:(lo=0∧w=1)∨lo=w∨(lo < w∧¬ (lo=0∧w=1))) with ⟨rfl,rfl⟩ | rfl | ⟨k1,k2⟩
  ·clear hA hB hC
   repeat' first
    | refine CondOb.mk (fun h=>?_) (fun h=>?_)
    | refine GuardOb.mk (fun h=>?_) (fun h=>?_)
   all_goals (try (exfalso;simp at *;done))
   all_goals exact⟨_,_,.refl,rfl,rfl,rfl⟩
  ·clear hA hC
   repeat' first
    | refine CondOb.mk (fun h=>?_) (fun h=>?_)
    | refine GuardOb.mk (fun h=>?_) (fun h=>?_)
   all_goals (try (exfalso;simp at *;done))
   all_goals (try (exfalso;simp at *;omega;done))
   all_goals
    refine CallOb.mk [] [] _ (.refl _) (RShow_spec lo (by omega)) ?_
    rintro v J N - ⟨rfl,rfl,rfl⟩
    refine BinOb.concatL (a:=[123]) (b:=dig lo) (by simp;omega) ?_
    refine BinOb.concatL (b:=[125]) (by simp;omega) ?_
    exact⟨_,_,.refl,by rw[hB],rfl,rfl⟩
  ·have e:=hC w k1 k2
   clear hA hB hC
   repeat' first
    | refine CondOb.mk (fun h=>?_) (fun h=>?_)
    | refine GuardOb.mk (fun h=>?_) (fun h=>?_)
   all_goals (try (exfalso;simp at *;done))
   all_goals (try (exfalso;simp at *;omega;done))
   all_goals
    have hd3:(dig w).length≤2:=dig_len w
    refine CallOb.mk [] [] _ (.refl _) (RShow_spec lo (by omega)) ?_
    rintro v J N - ⟨rfl,rfl,rfl⟩
    refine BinOb.concatL (a:=[123]) (b:=dig lo) (by simp;omega) ?_
    refine BinOb.concatL (b:=[44]) (by simp;omega) ?_
    refine CallOb.mk [] [] _ (.refl _) (RShow_spec w (by omega)) ?_
    rintro v J N - ⟨rfl,rfl,rfl⟩
    refine BinOb.concatL (b:=dig w) (by simp;omega) ?_
    refine BinOb.concatL (b:=[125]) (by simp;omega) ?_
    exact⟨_,_,.refl,by rw[e],rfl,rfl⟩
structure FitsMore (d:Nd) (n:Int):Prop where
 z:d.k=0→d.t=⟨#[]⟩
 leaf:d.k≤3→n=0
 one:6≤d.k→n=1
 two:d.k=4∨d.k=5→2≤n
set_option maxHeartbeats 1000000 in
theorem fits_more {d:Nd} {n:Int} (h0:0≤d.k) (h:fits d n=true):FitsMore d n:=by
 have hs:=(fits_says h).k
 have hk:d.k=0∨d.k=1∨d.k=2∨d.k=3∨d.k=4∨d.k=5∨d.k=6∨d.k=7∨d.k=8∨d.k=9:=by omega
 have hcl:∀ j:Fin 10,cntLo j.val=countsL.getD (j.val * 2) 0∧cntHi j.val=countsL.getD (j.val * 2+1) 0:=by decide
 unfold fits at h
 rcases hk with e | e | e | e | e | e | e | e | e | e<;>rw[e] at h<;>simp[cntLo,cntHi,countsL] at h <;>
  refine⟨fun q=>?_,fun q=>?_,fun q=>?_,fun q=>?_⟩<;>first | (omega;done) | (exact h.2.2.1;done) | (exact h.2.1;done) | (simp_all;done)
def catL (sep:List UInt8):List (List UInt8)→List UInt8
 | []=>[]
 | x::xs=>x++xs.flatMap fun y=>sep++y
theorem kidsT_true (sep:List UInt8) (f:Int→List UInt8):∀ ks,kidsT sep f true ks=(ks.map f).flatMap fun y=>sep++y
 | []=>rfl
 | k::ks=>by
  rw[kidsT,kidsT_true sep f ks]
  simp
theorem kidsT_cat (sep:List UInt8) (f:Int→List UInt8) (ks:List Int):kidsT sep f false ks=catL sep (ks.map f):=by
 cases ks with
 | nil=>rfl
 | cons k ks=>
  rw[kidsT,kidsT_true]
  simp[catL]
theorem catL_snoc (sep:List UInt8) (L:List (List UInt8)) (h:L≠[]) (y:List UInt8):catL sep (L++[y])=catL sep L++sep++y:=by
 cases L with
 | nil=>exact absurd rfl h
 | cons x xs=>simp[catL]
def nodeR (deb:List Int) (d:Nd) (L:List (List UInt8)):List UInt8:=
 bif decide (d.k=0) then [34,34] else
 bif decide (d.k=1) then classB deb d.s0 d.s1 d.s2 d.s3 else
 bif decide (d.k=2) then litB d.t else
 bif decide (d.k=3) then d.t.data.toList else
 bif decide (d.k=7) then [38]++L.headD [] else
 bif decide (d.k=8) then [33]++L.headD [] else
 bif decide (d.k=6) then L.headD []++countB d.lo.toNat d.hi else
 bif decide (d.k=9) then [60]++d.t.data.toList++[58,32]++L.headD []++[62] else
 catL (bif decide (d.k=5) then [32,47,32] else [32]) L
set_option maxHeartbeats 1000000 in
theorem nodeT_eq (deb:List Int) (ns:List Nd) {d:Nd} (h0:0≤d.k) (h:fits d d.kids.length=true) (g:Int→List UInt8):nodeT deb ns d g=nodeR deb d (d.kids.map fun k=>paren (wrapsV d.k (kindAt ns k)) (g k)):=by
 have hs:=(fits_says h).k
 have hm:=fits_more h0 h
 have hk:d.k=0∨d.k=1∨d.k=2∨d.k=3∨d.k=4∨d.k=5∨d.k=6∨d.k=7∨d.k=8∨d.k=9:=by omega
 unfold nodeT nodeR
 rw[kidsT_cat]
 generalize hL:(d.kids.map fun k=>paren (wrapsV d.k (kindAt ns k)) (g k))=L
 have hll:L.length=d.kids.length:=by rw[←hL];simp
 have s0:sgn 2=[]∧sgn 3=[]∧sgn 5=[]∧sgn 8=[]∧sgn 11=[]∧sgn 12=[]∧sgn 13=[32]∧sgn 14=[]∧sgn 15=[]∧sgn 16=[32,47,32]∧sgn 17=[]∧sgn 18=[]∧sgn 21=[38]∧sgn 23=[]∧sgn 24=[33]∧sgn 26=[]∧sgn 27=[60]∧sgn 29=[62]:=by decide
 obtain⟨z2,z3,z5,z8,z11,z12,z13,z14,z15,z16,z17,z18,z21,z23,z24,z26,z27,z29⟩:=s0
 have nil:d.k≤3→L=[]:=fun q=>List.eq_nil_of_length_eq_zero (by have:=hm.leaf q;omega)
 have one:6≤d.k→∃ x,L=[x]:=fun q=>by
  have:=hm.one q
  match L,hll with
  | [x],_=>exact⟨x,rfl⟩
  | [],hll=>simp at hll;omega
  | _::_::_,hll=>simp at hll;omega
 rcases hk with e | e | e | e | e | e | e | e | e | e
 ·rw[nil (by omega)]
  simp[aheadB,behindB,sepOf,catL,e,z2,hm.z e,litB]
 ·rw[nil (by omega)]
  simp[aheadB,behindB,sepOf,catL,e,z5]
 ·rw[nil (by omega)]
  simp[aheadB,behindB,sepOf,catL,e,z8]
 ·rw[nil (by omega)]
  simp[aheadB,behindB,sepOf,catL,e,z11]
 ·simp[aheadB,behindB,sepOf,e,z12,z13,z14]
 ·simp[aheadB,behindB,sepOf,e,z15,z16,z17]
 ·obtain⟨x,rfl⟩:=one (by omega)
  simp[aheadB,behindB,sepOf,catL,e,z18]
 ·obtain⟨x,rfl⟩:=one (by omega)
  simp[aheadB,behindB,sepOf,catL,e,z21,z23]
 ·obtain⟨x,rfl⟩:=one (by omega)
  simp[aheadB,behindB,sepOf,catL,e,z24,z26]
 ·obtain⟨x,rfl⟩:=one (by omega)
  simp[aheadB,behindB,sepOf,catL,e,z27,z29]
def ClsOk (deb:List Int):Prop:=∀ a b c d:Int,(∀ x∈[a,b,c,d],u64ok x)→classR (runsR (hasR [a,b,c,d]) 256)=classB deb a b c d
def strC (l:List UInt8):List Value:=[.string (strOf l)]
def strV (L:List (List UInt8)):List Value:=L.flatMap strC
theorem strV_snoc (L:List (List UInt8)) (x:List UInt8):strV (L++[x])=strV L++[.string (strOf x)]:=by simp[strV,strC]
theorem strV_len (L:List (List UInt8)):(strV L).length=L.length:=by
 have:=flat_len strC 1 (fun _=>rfl) L
 simpa[strV] using this
theorem BinOb.concatR {P:Program} {t:Nat} {x y:Operand} {a:List UInt8} {b:ByteArray} (hs:a.length+b.size≤9223372036854775807) {V:Value→Prop} {other:Prop} (h:V (.string (strOf (a++b.data.toList)))):BinOb P .add t x y (.val (.string (strOf a))) (.val (.string b)) V other:=
 BinOb.concat (a:=strOf a) (b:=b) hs (by rw[←strOf_app,strOf_self] at h;exact h)
theorem kidsT_mem {sep:List UInt8} {f:Int→List UInt8}:∀ {ks:List Int} {b:Bool} {k:Int},k∈ks→(f k).length≤(kidsT sep f b ks).length
 | k0::ks,b,k,h=>by
  unfold kidsT
  simp only[List.length_append]
  rcases List.mem_cons.1 h with rfl | h
  ·omega
  ·have:=kidsT_mem (sep:=sep) (f:=f) (b:=true) h
   omega
theorem catL_take (sep:List UInt8) (L:List (List UInt8)) (i:Nat):(catL sep (L.take i)).length≤(catL sep L).length:=by
 cases L with
 | nil=>simp
 | cons x xs=>
  cases i with
  | zero=>simp[catL]
  | succ i=>
   rw[List.take_succ_cons,catL,catL,List.length_append,List.length_append]
   have:((xs.take i).flatMap fun y=>sep++y).length≤(xs.flatMap fun y=>sep++y).length:=by
    conv=>rhs;rw[←List.take_append_drop i xs,List.flatMap_append,List.length_append]
    omega
   omega
theorem head_mem {L:List (List UInt8)} (h:0 < L.length):L.headD []=L[0]:=by
 cases L with
 | nil=>simp at h
 | cons x xs=>rfl
set_option maxRecDepth 100000 in
set_option maxHeartbeats 8000000 in
theorem Rtext_spec {I:GH} {deb:List Int} (hcl:ClsOk deb) {t:Tr} (ht:t.ok I) (hr:right t=true) (hk:∀ d∈t.ns,d.kn≤1099511627776):∀ (m j:Nat),j < m→∀ (hj:j < t.ns.length),(textOf deb t.ns j).length≤1152921504606846976 →
  Spec Tryz.prog 198 [t.val,.int .i64 j] I [] fun r I' M'=>r=.string (strOf (textOf deb t.ns j))∧I'=I∧M'=[]
 | 0,j,h,_,_=>absurd h (Nat.not_lt_zero _)
 | m+1,j,hjm,hj,hlen=>by
  have ih:=Rtext_spec (I:=I) hcl ht hr hk m
  have htn:=ht.n
  have hdm:t.ns[j]∈t.ns:=List.getElem_mem hj
  have hdk:=ht.ns t.ns[j] hdm
  have hkn:=hdk.kn
  have hkW:=hk _ hdm
  have hkids:=right_kids hr j hj
  have hfit:=right_fits hr hj
  have hfs:=fits_says hfit
  have hfm:=fits_more hdk.k.1 hfit
  have hj':j < t.n:=by omega
  obtain⟨ad,had,hrd⟩:=ht.rs.row Nd.cells_len hj' hj
  have htx:textOf deb t.ns j=nodeR deb t.ns[j] (t.ns[j].kids.map fun k=>paren (wrapsV t.ns[j].k (kindAt t.ns k)) (textOf deb t.ns k)):=by
   rw[textOf_eq hr hj,nodeT_eq deb t.ns hdk.k.1 hfit]
  have hkl:∀ k∈t.ns[j].kids,(paren (wrapsV t.ns[j].k (kindAt t.ns k)) (textOf deb t.ns k)).length≤1152921504606846976:=fun k hkm=>by
   refine Nat.le_trans ?_ hlen
   rw[textOf_eq hr hj,nodeT]
   have:=kidsT_mem (sep:=sepOf t.ns[j]) (f:=fun k=>paren (wrapsV t.ns[j].k (kindAt t.ns k)) (textOf deb t.ns k)) (b:=false) hkm
   simp only[List.length_append] at this ⊢
   omega
  generalize hd:t.ns[j]=d at *
  generalize hF:(fun k:Int=>paren (wrapsV d.k (kindAt t.ns k)) (textOf deb t.ns k))=F at *
  have hFk:∀ k,F k=paren (wrapsV d.k (kindAt t.ns k)) (textOf deb t.ns k):=fun k=>by rw[←hF]
  refine spec_of_V [] TryzEOK Tryz.func198 rfl rfl rfl ?_
  intro B h0
  refine IdxOb.mk ad j had rfl hj' ?_
  refine LoadOb.mk _ (hrd _) ?_
  refine LoopOb.inv (ι:=Nat×OS) (fun x=>{ fl:=[(2,.ref 2 0),(5,.ref 5 0),(6,.val x.2.val),(7,.val (.int .i64 x.1))],cl:=[(2,t.cells),(5,d.cells)],gi:=I,mi:=x.2.blk 9 })
   (fun x=>x.1≤d.kn∧x.2.ok 1 (strV ((d.kids.take x.1).map F))) (fun x=>d.kn - x.1) ?_ ?_
  ·exact⟨(0,OS0),⟨Nat.zero_le _,OS0_ok 1⟩,.refl,aF4,.cons rfl (.cons rfl .nil)⟩
  rintro⟨i,os⟩ ⟨hi,hos⟩
  simp only at hi hos
  have hon:os.n=i:=by
   have:=hos.len
   rw[strV_len,List.length_map,List.length_take_of_le (by omega)] at this
   omega
  refine CondOb.mk (fun h=>?_) (fun h=>?_)
  ·have hlt:i < d.kn:=by simpa using h
   have hil:i < d.kids.length:=by omega
   obtain⟨ak,hak,hrk⟩:=hdk.rs.one hlt hil
   have hkm:d.kids[i]∈d.kids:=List.getElem_mem hil
   have hkk:=hkids _ hkm
   have hkb:=hkl _ hkm
   have etk:(d.kids.take (i+1)).map F=(d.kids.take i).map F++[F d.kids[i]]:=by
    rw[List.take_succ_eq_append_getElem hil,List.map_append]
    rfl
   generalize hkv:d.kids[i]=kv at *
   obtain⟨q,rfl⟩:=Int.eq_ofNat_of_zero_le hkk.1
   have hql:q < t.ns.length:=by omega
   have hql':q < t.n:=by omega
   obtain⟨aq,haq,hrq0⟩:=ht.rs.row Nd.cells_len hql' hql
   have hrq:∀ M,Rd I M ((aq.add (q * 9)).add 0) 1 [.int .u8 t.ns[q].k]:=fun M=>(hrq0 M).part (k:=0) (m:=1) (by decide)
   have hkat:kindAt t.ns ((q:Nat):Int)=t.ns[q].k:=by simp[kindAt,List.getD_eq_getElem?_getD,hql]
   have hpl:(textOf deb t.ns q).length≤1152921504606846976:=by
    rw[paren] at hkb
    simp only[List.length_append] at hkb
    omega
   refine CodeOb.draw TryzEOK rfl rfl rfl ?_
   refine IdxOb.mk ak i hak rfl hlt ?_
   refine LoadOb.mk _ (hrk _) ?_
   refine CallOb.mk [] (os.blk 9) _ (.refl _) (ih q (by omega) hql hpl) ?_
   rintro v J N - ⟨rfl,hJ,rfl⟩
   subst J
   refine CodeOb.draw TryzEOK rfl rfl rfl ?_
   refine IdxOb.mk ak i hak rfl hlt ?_
   refine LoadOb.mk _ (hrk _) ?_
   refine IdxOb.mk aq q haq rfl hql' ?_
   refine LoadOb.mk _ (hrq _) ?_
   refine CallOb.mk [] (os.blk 9) _ (.refl _) (Rwraps_spec d.k t.ns[q].k) ?_
   rintro v J N - ⟨rfl,hJ,rfl⟩
   subst J
   have hFq:=hFk q
   rw[hkat] at hFq
   refine CondOb.mk (fun h2=>?_) (fun h2=>?_)
   ·have hFe:F q=[40]++textOf deb t.ns q++[41]:=by rw[hFq,h2];rfl
    refine BinOb.concatL (a:=[40]) (by simp only[List.length_cons,List.length_nil];omega) ?_
    refine BinOb.concatL (b:=[41]) (by simp only[List.length_append,List.length_cons,List.length_nil];omega) ?_
    refine AllocOb.mk fun b9 hb9 hbM9=>?_
    refine OtherOb.appendN TryzEOK rfl (by simp) (e:=9) rfl rfl rfl os hos rfl (m:=1) rfl (news:=[.string (strOf ([40]++textOf deb t.ns q++[41]))]) (by decide) (blk_rd (b:=b9) (cs:=[.string (strOf ([40]++textOf deb t.ns q++[41]))]) (k:=0) (n:=1) (T:=9) (.head _) (by simp)) rfl (Mr:=[⟨b9,.cells #[.string (strOf ([40]++textOf deb t.ns q++[41]))] 9 (0,0)⟩]) (List.perm_append_comm (l₁:=[_])) (by simp only[maxLen];omega) (by show (os.n+1) * 16≤_;omega) ?_
    intro g' c' cur' q0 q1 q2 q3 q4
    refine ArithOb.mk _ (next_wr (i:=i) (by omega)) ?_
    refine⟨(i+1,⟨some g',os.n+1,c',cur'⟩),⟨⟨by simp only;omega,?_⟩,by simp only;omega⟩,.sub (List.Sublist.cons_cons _ (List.nil_sublist _)) .refl,aF4,.cons rfl (.cons rfl .nil)⟩
    simp only
    rw[etk,hFe,strV_snoc]
    exact app1_ok hos q1 q2 q3 q4
   ·have hFe:F q=textOf deb t.ns q:=by rw[hFq,h2];simp[paren]
    refine AllocOb.mk fun b9 hb9 hbM9=>?_
    refine OtherOb.appendN TryzEOK rfl (by simp) (e:=9) rfl rfl rfl os hos rfl (m:=1) rfl (news:=[.string (strOf (textOf deb t.ns q))]) (by decide) (blk_rd (b:=b9) (cs:=[.string (strOf (textOf deb t.ns q))]) (k:=0) (n:=1) (T:=9) (.head _) (by simp)) rfl (Mr:=[⟨b9,.cells #[.string (strOf (textOf deb t.ns q))] 9 (0,0)⟩]) (List.perm_append_comm (l₁:=[_])) (by simp only[maxLen];omega) (by show (os.n+1) * 16≤_;omega) ?_
    intro g' c' cur' q0 q1 q2 q3 q4
    refine ArithOb.mk _ (next_wr (i:=i) (by omega)) ?_
    refine⟨(i+1,⟨some g',os.n+1,c',cur'⟩),⟨⟨by simp only;omega,?_⟩,by simp only;omega⟩,.sub (List.Sublist.cons_cons _ (List.nil_sublist _)) .refl,aF4,.cons rfl (.cons rfl .nil)⟩
    simp only
    rw[etk,hFe,strV_snoc]
    exact app1_ok hos q1 q2 q3 q4
  ·have hie:i=d.kn:=by simp at h;omega
   have etk:(d.kids.take i).map F=d.kids.map F:=by rw[List.take_of_length_le (by omega)]
   rw[etk] at hos
   generalize hL:d.kids.map F=L at *
   have hLl:L.length=d.kn:=by rw[←hL];simp;omega
   have row:∀ {i:Nat} (hi:i < L.length),∃ ad,(os.a.map fun g=>(⟨g,0,none⟩:Addr))=some ad∧Rd I (os.blk 9) (ad.add (i * 1)) 1 (strC L[i]):=fun {i} hi=>OS.ok.row (I:=I) (M:=os.blk 9) (f:=strC) (fun _=>rfl) (by decide) hos (e:=9) (fun y hy=>hy) hi
   have hLk:∀ x∈L,x.length≤1152921504606846976:=fun x hx=>by
    rw[←hL] at hx
    obtain⟨k,hkm,rfl⟩:=List.mem_map.1 hx
    rw[hFk]
    exact hkl k hkm
   have hone:6≤d.k→0 < L.length∧L.headD []=L.headD []:=fun h6=>⟨by have:=hfm.one h6;omega,rfl⟩
   refine CondOb.mk (fun c0=>?_) (fun c0=>?_)
   ·exact⟨_,_,.sub (List.nil_sublist _) .refl,by rw[htx,nodeR,c0];rfl,rfl,rfl⟩
   refine CondOb.mk (fun c1=>?_) (fun c1=>?_)
   ·have hws:∀ x∈[d.s0,d.s1,d.s2,d.s3],u64ok x:=by
     intro x hx
     simp only[List.mem_cons,List.not_mem_nil,or_false] at hx
     rcases hx with rfl | rfl | rfl | rfl
     ·exact hdk.s0
     ·exact hdk.s1
     ·exact hdk.s2
     ·exact hdk.s3
    have hsp:=RClass_spec (I:=I) hws
    rw[hcl _ _ _ _ hws] at hsp
    refine CallOb.mk [] (os.blk 9) _ (.refl _) hsp ?_
    rintro v J N - ⟨rfl,hJ,rfl⟩
    subst J
    exact⟨_,_,.sub (List.nil_sublist _) .refl,by rw[htx,nodeR,c0,c1];rfl,rfl,rfl⟩
   refine CondOb.mk (fun c2=>?_) (fun c2=>?_)
   ·refine CallOb.mk [] (os.blk 9) _ (.refl _) (RLiteral_spec d.t (by have:=hfs.t;omega)) ?_
    rintro v J N - ⟨rfl,hJ,rfl⟩
    subst J
    exact⟨_,_,.sub (List.nil_sublist _) .refl,by rw[htx,nodeR,c0,c1,c2];rfl,rfl,rfl⟩
   refine CondOb.mk (fun c3=>?_) (fun c3=>?_)
   ·exact⟨_,_,.sub (List.nil_sublist _) .refl,by rw[htx,nodeR,c0,c1,c2,c3];exact congrArg Value.string (strOf_self d.t).symm,rfl,rfl⟩
   refine CondOb.mk (fun c7=>?_) (fun c7=>?_)
   ·have hL0:0 < L.length:=(hone (by simp at c7;omega)).1
    have hb0:=hLk _ (List.getElem_mem hL0)
    obtain⟨a0,ha0,hr0⟩:=row (i:=0) hL0
    refine IdxOb.mk a0 0 ha0 rfl (show 0 < os.n by omega) ?_
    refine LoadOb.mk _ (hr0.sub fun y hy=>hy) ?_
    refine BinOb.concatL (a:=[38]) (by simp only[List.length_cons,List.length_nil];omega) ?_
    exact⟨_,_,.sub (List.nil_sublist _) .refl,by rw[htx,nodeR,c0,c1,c2,c3,c7,head_mem hL0];rfl,rfl,rfl⟩
   refine CondOb.mk (fun c8=>?_) (fun c8=>?_)
   ·have hL0:0 < L.length:=(hone (by simp at c8;omega)).1
    have hb0:=hLk _ (List.getElem_mem hL0)
    obtain⟨a0,ha0,hr0⟩:=row (i:=0) hL0
    refine IdxOb.mk a0 0 ha0 rfl (show 0 < os.n by omega) ?_
    refine LoadOb.mk _ (hr0.sub fun y hy=>hy) ?_
    refine BinOb.concatL (a:=[33]) (by simp only[List.length_cons,List.length_nil];omega) ?_
    exact⟨_,_,.sub (List.nil_sublist _) .refl,by rw[htx,nodeR,c0,c1,c2,c3,c7,c8,head_mem hL0];rfl,rfl,rfl⟩
   refine CondOb.mk (fun c6=>?_) (fun c6=>?_)
   ·have k6:d.k=6:=by simpa using c6
    have hL0:0 < L.length:=(hone (by omega)).1
    have hb0:=hLk _ (List.getElem_mem hL0)
    have hrep:=hfs.rep k6
    have hlo:((d.lo.toNat:Nat):Int)=d.lo:=by omega
    have hsp:=RCount_spec (I:=I) d.lo.toNat d.hi (by omega) (by omega)
    rw[hlo] at hsp
    have hcb:=countB_len d.lo.toNat d.hi
    refine CodeOb.draw TryzEOK rfl rfl rfl ?_
    obtain⟨a0,ha0,hr0⟩:=row (i:=0) hL0
    refine IdxOb.mk a0 0 ha0 rfl (show 0 < os.n by omega) ?_
    refine LoadOb.mk _ (hr0.sub fun y hy=>hy) ?_
    refine PCallOb.mk _ hsp ?_
    rintro v J N - ⟨rfl,hJ,rfl⟩
    subst J
    refine BinOb.concatL (a:=L[0]) (by omega) ?_
    exact⟨_,_,.sub (List.nil_sublist _) .refl,by rw[htx,nodeR,c0,c1,c2,c3,c7,c8,c6,head_mem hL0];rfl,rfl,rfl⟩
   refine CondOb.mk (fun c9=>?_) (fun c9=>?_)
   ·have k9:d.k=9:=by simpa using c9
    have hL0:0 < L.length:=(hone (by omega)).1
    have hb0:=hLk _ (List.getElem_mem hL0)
    have hts:=hfs.t
    have htl:d.t.data.toList.length=d.t.size:=rfl
    refine CodeOb.draw TryzEOK rfl rfl rfl ?_
    refine BinOb.concatR (a:=[60]) (by simp only[List.length_cons,List.length_nil];omega) ?_
    refine BinOb.concatL (b:=[58,32]) (by simp only[List.length_append,List.length_cons,List.length_nil];omega) ?_
    obtain⟨a0,ha0,hr0⟩:=row (i:=0) hL0
    refine IdxOb.mk a0 0 ha0 rfl (show 0 < os.n by omega) ?_
    refine LoadOb.mk _ (hr0.sub fun y hy=>hy) ?_
    refine BinOb.concatL (b:=L[0]) (by simp only[List.length_append,List.length_cons,List.length_nil];omega) ?_
    refine BinOb.concatL (b:=[62]) (by simp only[List.length_append,List.length_cons,List.length_nil];omega) ?_
    exact⟨_,_,.sub (List.nil_sublist _) .refl,by rw[htx,nodeR,c0,c1,c2,c3,c7,c8,c6,c9,head_mem hL0];rfl,rfl,rfl⟩
   have hL0:0 < L.length:=by
    have:d.k=4∨d.k=5:=by
     have h1:=hfs.k
     have h2:=hdk.k.1
     simp at c0 c1 c2 c3 c7 c8 c6 c9
     omega
    have:=hfm.two this
    omega
   have hcat:∀ sep,(bif decide (d.k=5) then [32,47,32] else [32])=sep→textOf deb t.ns j=catL sep L:=fun sep hsep=>by
    rw[htx,nodeR,c0,c1,c2,c3,c7,c8,c6,c9,hsep]
    rfl
   refine CondOb.mk (fun c5=>?_) (fun c5=>?_)
   ·have htL:=hcat [32,47,32] (by rw[c5];rfl)
    obtain⟨a0,ha0,hr0⟩:=row (i:=0) hL0
    refine IdxOb.mk a0 0 ha0 rfl (show 0 < os.n by omega) ?_
    refine LoadOb.mk _ (hr0.sub fun y hy=>hy) ?_
    refine LoopOb.inv (ι:=Nat×List UInt8) (fun x=>{ fl:=[(6,.val os.val),(9,.val (.string (strOf [32,47,32]))),(10,.val (.string (strOf x.2))),(11,.val (.int .i64 x.1))],gi:=I,mi:=os.blk 9 }) (fun x=>1≤x.1∧x.1≤os.n∧x.2=catL [32,47,32] (L.take x.1)) (fun x=>os.n - x.1) ?_ ?_
    ·refine⟨(1,L[0]),⟨Nat.le_refl _,by simp only;omega,?_⟩,.refl,aF4,.nil⟩
     simp only
     rw[List.take_succ_eq_append_getElem hL0]
     simp[catL]
    rintro⟨i,w⟩ ⟨hi1,hi2,hw⟩
    simp only at hi1 hi2 hw
    have hwl:=catL_take [32,47,32] L i
    have hcl:=hlen
    rw[htL] at hcl
    rw[←hw] at hwl
    refine CondOb.mk (fun h=>?_) (fun h=>?_)
    ·have hlt:i < os.n:=by simpa using h
     have hil:i < L.length:=by omega
     have hb:=hLk _ (List.getElem_mem hil)
     obtain⟨ai,hai,hri⟩:=row hil
     have hne:L.take i≠[]:=by
      intro h
      have:=congrArg List.length h
      rw[List.length_take_of_le (by omega)] at this
      simp at this
      omega
     have hst:=catL_snoc [32,47,32] (L.take i) hne L[i]
     rw[←List.take_succ_eq_append_getElem hil,←hw] at hst
     refine BinOb.concatL (a:=w) (by simp only[List.length_cons,List.length_nil];omega) ?_
     refine IdxOb.mk ai i hai rfl hlt ?_
     refine LoadOb.mk _ (hri.sub fun y hy=>hy) ?_
     refine BinOb.concatL (b:=L[i]) (by simp only[List.length_append,List.length_cons,List.length_nil];omega) ?_
     refine ArithOb.mk _ (next_wr (i:=i) (by omega)) ?_
     refine⟨(i+1,_),⟨⟨by simp only;omega,hlt,?_⟩,by simp only;omega⟩,.refl,aF4,.nil⟩
     exact hst.symm
    ·have hie2:i=L.length:=by simp at h;omega
     rw[List.take_of_length_le (by omega)] at hw
     exact⟨_,_,.sub (List.nil_sublist _) .refl,by rw[htL,hw],rfl,rfl⟩
   ·have htL:=hcat [32] (by rw[c5];rfl)
    obtain⟨a0,ha0,hr0⟩:=row (i:=0) hL0
    refine IdxOb.mk a0 0 ha0 rfl (show 0 < os.n by omega) ?_
    refine LoadOb.mk _ (hr0.sub fun y hy=>hy) ?_
    refine LoopOb.inv (ι:=Nat×List UInt8) (fun x=>{ fl:=[(6,.val os.val),(9,.val (.string (strOf [32]))),(10,.val (.string (strOf x.2))),(11,.val (.int .i64 x.1))],gi:=I,mi:=os.blk 9 }) (fun x=>1≤x.1∧x.1≤os.n∧x.2=catL [32] (L.take x.1)) (fun x=>os.n - x.1) ?_ ?_
    ·refine⟨(1,L[0]),⟨Nat.le_refl _,by simp only;omega,?_⟩,.refl,aF4,.nil⟩
     simp only
     rw[List.take_succ_eq_append_getElem hL0]
     simp[catL]
    rintro⟨i,w⟩ ⟨hi1,hi2,hw⟩
    simp only at hi1 hi2 hw
    have hwl:=catL_take [32] L i
    have hcl:=hlen
    rw[htL] at hcl
    rw[←hw] at hwl
    refine CondOb.mk (fun h=>?_) (fun h=>?_)
    ·have hlt:i < os.n:=by simpa using h
     have hil:i < L.length:=by omega
     have hb:=hLk _ (List.getElem_mem hil)
     obtain⟨ai,hai,hri⟩:=row hil
     have hne:L.take i≠[]:=by
      intro h
      have:=congrArg List.length h
      rw[List.length_take_of_le (by omega)] at this
      simp at this
      omega
     have hst:=catL_snoc [32] (L.take i) hne L[i]
     rw[←List.take_succ_eq_append_getElem hil,←hw] at hst
     refine BinOb.concatL (a:=w) (by simp only[List.length_cons,List.length_nil];omega) ?_
     refine IdxOb.mk ai i hai rfl hlt ?_
     refine LoadOb.mk _ (hri.sub fun y hy=>hy) ?_
     refine BinOb.concatL (b:=L[i]) (by simp only[List.length_append,List.length_cons,List.length_nil];omega) ?_
     refine ArithOb.mk _ (next_wr (i:=i) (by omega)) ?_
     refine⟨(i+1,_),⟨⟨by simp only;omega,hlt,?_⟩,by simp only;omega⟩,.refl,aF4,.nil⟩
     exact hst.symm
    ·have hie2:i=L.length:=by simp at h;omega
     rw[List.take_of_length_le (by omega)] at hw
     exact⟨_,_,.sub (List.nil_sublist _) .refl,by rw[htL,hw],rfl,rfl⟩
theorem countB_ne (lo:Nat) (hi:Int):countB lo hi≠[]:=by
 unfold countB repB
 cases (decide ((0:Int)=lo) && decide (1=hi))<;>cases (decide ((0:Int)=lo) && decide (-1=hi))<;>cases (decide ((1:Int)=lo) && decide (-1=hi))<;>cases decide (hi=lo)<;>cases decide (hi=-1)<;>simp
theorem classB_ne (deb:List Int) (a b c d:Int):classB deb a b c d≠[]:=by
 unfold classB
 cases (a == notV 0 && (b == notV 0 && (c == notV 0 && d == notV 0)))<;>simp
theorem fits_named {d:Nd} {n:Int} (h:fits d n=true) (h3:d.k=3):d.t≠⟨#[]⟩:=by
 unfold fits at h
 rw[h3] at h
 simp[cntLo,cntHi,countsL,mayName] at h
 intro e
 simp[e] at h
theorem nodeR_ne (deb:List Int) {d:Nd} (h0:0≤d.k) (h:fits d d.kids.length=true) {L:List (List UInt8)} (hL:L.length=d.kids.length):nodeR deb d L≠[]:=by
 have hs:=(fits_says h).k
 have hm:=fits_more h0 h
 have hk:d.k=0∨d.k=1∨d.k=2∨d.k=3∨d.k=4∨d.k=5∨d.k=6∨d.k=7∨d.k=8∨d.k=9:=by omega
 have two:d.k=4∨d.k=5→∃ x y zs,L=x::y::zs:=fun q=>by
  have:=hm.two q
  match L,hL with
  | x::y::zs,_=>exact⟨x,y,zs,rfl⟩
  | [],hL=>simp at hL;omega
  | [_],hL=>simp at hL;omega
 unfold nodeR
 rcases hk with e | e | e | e | e | e | e | e | e | e
 ·simp[e]
 ·simp only[e,decide_true,cond_true]
  exact classB_ne deb d.s0 d.s1 d.s2 d.s3
 ·simp[e,litB]
 ·have:=fits_named h e
  simp[e]
  intro q
  exact this (ByteArray.ext (by simpa using q))
 ·obtain⟨x,y,zs,rfl⟩:=two (.inl e)
  simp[e,catL]
 ·obtain⟨x,y,zs,rfl⟩:=two (.inr e)
  simp[e,catL]
 ·have:=countB_ne d.lo.toNat d.hi
  simp[e,this]
 ·simp[e]
 ·simp[e]
 ·simp[e]
theorem treeB_ne (deb:List Int) {I:GH} {t:Tr} (ht:t.ok I) (hr:right t=true):treeB deb t≠[]:=by
 obtain⟨g1,g2⟩:=right_root hr
 obtain⟨r,hr'⟩:=Int.eq_ofNat_of_zero_le g1
 have hrl:r < t.ns.length:=by omega
 have hfit:=right_fits hr hrl
 have h0:=(ht.ns _ (List.getElem_mem hrl)).k.1
 rw[treeB,hr,cond_true,hr',textOf_eq hr hrl,nodeT_eq deb t.ns h0 hfit]
 exact nodeR_ne deb h0 hfit (by simp)
theorem RTree_spec {I:GH} {deb:List Int} (hcl:ClsOk deb) {t:Tr} (ht:t.ok I) {W:Nat} (hf:Fit t W) (hW:W≤1099511627776):Spec Tryz.prog 188 [t.val] I [] fun r I' M'=>r=.string (strOf (treeB deb t))∧I'=I∧M'=[]:=by
 refine spec_of_V [] TryzEOK Tryz.func188 rfl rfl rfl ?_
 intro B h0
 refine CallOb.mk [] [] _ (.refl _) (RRight_gen ht W hf.w hf.b) ?_
 rintro v J N - ⟨rfl,hJ,rfl⟩
 subst J
 refine CondOb.mk (fun h=>?_) (fun h=>?_)
 ·have hr:right t=false:=by simpa using h
  exact⟨_,_,.refl,by rw[treeB,hr];rfl,rfl,rfl⟩
 ·have hr:right t=true:=by simpa using h
  obtain⟨g1,g2⟩:=right_root hr
  obtain⟨r,hr'⟩:=Int.eq_ofNat_of_zero_le g1
  have hn:=hf.n
  have htn:=ht.n
  have hlen:=treeB_len deb t
  have hsp:=Rtext_spec hcl ht hr (fun d hd=>by have:=hf.w d hd;omega) (r+1) r (by omega) (by omega) (by rw[treeB,hr,cond_true,hr'] at hlen;omega)
  rw[←hr'] at hsp
  refine CallOb.mk [] [] _ (.refl _) hsp ?_
  rintro v J N - ⟨rfl,hJ,rfl⟩
  subst J
  exact⟨_,_,.refl,by rw[treeB,hr];rfl,rfl,rfl⟩
theorem strOf_nil_iff (l:List UInt8):decide (strOf l=⟨#[]⟩)=decide (l=[]):=by
 congr 1
 rw[eq_iff_iff]
 constructor
 ·intro h
  have:=congrArg (fun b:ByteArray=>b.data.toList) h
  simpa[strOf] using this
 ·rintro rfl
  rfl
theorem RDef_spec {I:GH} {deb:List Int} (hcl:ClsOk deb) {d:Df} (hd:d.ok I) {W:Nat} (hf:Fit d.t W) (hW:W≤1099511627776):Spec Tryz.prog 145 [d.val] I [] fun r I' M'=>r=.string (strOf (defB deb d))∧I'=I∧M'=[]:=by
 refine spec_of_V [] TryzEOK Tryz.func145 rfl rfl rfl ?_
 intro B h0
 refine CallOb.mk [] [] _ (.refl _) (RMay_spec I d.name) ?_
 rintro v J N - ⟨rfl,hJ,rfl⟩
 subst J
 refine GuardOb.mk (fun h1=>?_) (fun h1=>?_)
 ·have hm:mayName d.name=true:=by simpa using h1
  refine CallOb.mk [] [] _ (.refl _) (RRight_gen hd.t W hf.w hf.b) ?_
  rintro v J N - ⟨rfl,hJ,rfl⟩
  subst J
  refine CondOb.mk (fun h2=>?_) (fun h2=>?_)
  ·have hr:right d.t=false:=by simpa using h2
   exact⟨_,_,.refl,by rw[defB,treeB,hr];rfl,rfl,rfl⟩
  ·have hr:right d.t=true:=by simpa using h2
   have hne:=treeB_ne deb hd.t hr
   have hl:=treeB_len deb d.t
   have hn:=hf.n
   have htn:=hd.t.n
   have hml:=mayName_len hm
   have hnl:d.name.data.toList.length=d.name.size:=rfl
   refine CodeOb.draw TryzEOK rfl rfl rfl ?_
   refine BinOb.concat (a:=d.name) (b:=strOf [32,60,45,32]) (by show _+4≤_;omega) ?_
   refine PCallOb.mk _ (RTree_spec hcl hd.t hf hW) ?_
   rintro v J N - ⟨rfl,hJ,rfl⟩
   subst J
   refine BinOb.concat (a:=d.name++strOf [32,60,45,32]) (b:=strOf (treeB deb d.t)) (by rw[ByteArray.size_append];show _+4+(treeB deb d.t).length≤_;omega) ?_
   refine BinOb.concat (a:=d.name++strOf [32,60,45,32]++strOf (treeB deb d.t)) (b:=strOf [10]) (by rw[ByteArray.size_append,ByteArray.size_append];show _+4+(treeB deb d.t).length+1≤_;omega) ?_
   refine⟨_,_,.refl,congrArg Value.string (bytes_eq ?_),rfl,rfl⟩
   rw[defB,strOf_nil_iff,decide_eq_false hne,hm]
   simp[strOf]
 ·have hm:mayName d.name=false:=by simpa using h1
  exact⟨_,_,.refl,by rw[defB,hm,Bool.not_false,Bool.or_true];rfl,rfl,rfl⟩
theorem RGrammar_spec {I:GH} {deb:List Int} (hcl:ClsOk deb) {g:Gr} (hg:g.ok I) (hn:g.n≤64) {W:Nat} (hf:∀ d∈g.ds,Fit d.t W∧d.t.n≤1024) (hW:W≤1099511627776):Spec Tryz.prog 103 [g.val] I [] fun r I' M'=>r=.string (strOf (gramB deb g.ds []))∧I'=I∧M'=[]:=by
 refine spec_of_V [] TryzEOK Tryz.func103 rfl rfl rfl ?_
 intro B h0
 have hgn:=hg.n
 have htl:∀ d∈g.ds,d.t.ns.length≤1024:=fun d hd=>by rw[(hg.ds d hd).t.n];exact(hf d hd).2
 refine LoopOb.inv (ι:=Nat×List UInt8) (fun p=>{ fl:=[(1,.ref 1 0),(3,.val (.string (strOf p.2))),(4,.val (.int .i64 p.1))],cl:=[(1,[.slice g.a g.n g.c])],gi:=I })
  (fun p=>p.1≤g.n∧p.2.length≤2500000 * p.1∧gramB deb g.ds []=gramB deb (g.ds.drop p.1) p.2) (fun p=>g.n - p.1) ?_ ?_
 ·exact⟨(0,[]),⟨by simp,by simp,rfl⟩,.refl,aF3,.cons rfl .nil⟩
 rintro⟨i,w⟩ ⟨hi,hwl,hw⟩
 simp only at hi hwl hw
 refine CondOb.mk (fun h=>?_) (fun h=>?_)
 ·have hlt:i < g.n:=by simpa using h
  have hlt':i < g.ds.length:=by omega
  obtain⟨ad,had,hrd⟩:=hg.rs.row Df.cells_len hlt hlt'
  have hdm:g.ds[i]∈g.ds:=List.getElem_mem hlt'
  have hdl:=defB_len deb g.ds[i]
  have h9:=htl _ hdm
  have hdrop:g.ds.drop i=g.ds[i]::g.ds.drop (i+1):=List.drop_eq_getElem_cons hlt'
  refine IdxOb.mk ad i had rfl hlt ?_
  refine LoadOb.mk _ (hrd _) ?_
  refine CallOb.mk [] [] _ (.refl _) (RDef_spec hcl (hg.ds _ hdm) (hf _ hdm).1 hW) ?_
  rintro v J N - ⟨rfl,hJ,rfl⟩
  subst J
  refine CondOb.mk (fun h1=>?_) (fun h1=>?_)
  ·exact⟨_,_,.refl,by rw[hw,hdrop,gramB,h1];rfl,rfl,rfl⟩
  ·refine BinOb.concatL (a:=w) (by omega) ?_
   refine ArithOb.mk _ (next_wr (i:=i) (by omega)) ?_
   refine⟨(i+1,_),⟨⟨by simp only;omega,?_,?_⟩,by simp only;omega⟩,.refl,aF3,.cons rfl .nil⟩
   ·simp only[List.length_append]
    omega
   ·simp only
    rw[hw,hdrop,gramB,h1]
    rfl
 ·have hge:g.n≤i:=by simpa using h
  have hdn:g.ds.drop i=[]:=List.drop_eq_nil_of_le (by omega)
  exact⟨_,_,.refl,by rw[hw,hdn];rfl,rfl,rfl⟩
theorem findAt_shift (nm:ByteArray):∀ (ds:List Df) (i:Nat),findAt nm ds i=bif decide (findAt nm ds 0 < 0) then -1 else findAt nm ds 0+i
 | [],i=>rfl
 | d::ds,i=>by
  unfold findAt
  cases h:decide (d.name=nm) with
  | true=>
   have:decide ((((0:Nat):Int)) < 0)=false:=by decide
   simp[this]
  | false=>
   rw[cond_false,cond_false,findAt_shift nm ds (i+1),findAt_shift nm ds (0+1)]
   have hr:findAt nm ds 0 < 0∨0≤findAt nm ds 0:=by omega
   rcases hr with hr | hr
   ·rw[decide_eq_true hr]
    rfl
   ·have e:decide (findAt nm ds 0 < 0)=false:=decide_eq_false (by omega)
    rw[e,cond_false,cond_false]
    have e2:decide (findAt nm ds 0+((0+1:Nat):Int) < 0)=false:=decide_eq_false (by omega)
    rw[e2,cond_false]
    omega
theorem findAt_split (nm:ByteArray) (hs bs:List Df):findAt nm (hs++bs) 0=bif decide (findAt nm hs 0 < 0) then findAt nm bs hs.length else findAt nm hs 0:=by
 have key:∀ (hs:List Df) (i:Nat),findAt nm (hs++bs) i=bif decide (findAt nm hs i < 0) then findAt nm bs (i+hs.length) else findAt nm hs i:=by
  intro hs
  induction hs with
  | nil=>intro i;simp[findAt]
  | cons d hs ih=>
   intro i
   rw[List.cons_append,findAt,findAt]
   cases decide (d.name=nm) with
   | true=>
    have:decide ((i:Int) < 0)=false:=decide_eq_false (by omega)
    rw[cond_true,cond_true,this,cond_false]
   | false=>
    rw[cond_false,cond_false,ih (i+1),List.length_cons]
    rw[show i+1+hs.length=i+(hs.length+1) from by omega]
 have:=key hs 0
 rwa [Nat.zero_add] at this
structure SeenAs (hs:List Df) (acc:List (ByteArray×Int)):Prop where
 look:∀ nm,(lookM nm acc).isSome=decide (0≤findAt nm hs 0)
theorem lookM_app (nm:ByteArray) (p:ByteArray×Int):∀ acc:List (ByteArray×Int),(lookM nm (acc++[p])).isSome=((lookM nm acc).isSome || decide (nm=p.1))
 | []=>by
  show (bif decide (nm=p.1) then some p.2 else none:Option Int).isSome=_
  cases decide (nm=p.1)<;>rfl
 | q::acc=>by
  rw[List.cons_append,lookM,lookM]
  cases decide (nm=q.1) with
  | true=>rfl
  | false=>rw[cond_false,cond_false,lookM_app nm p acc]
theorem SeenAs.snoc {hs:List Df} {acc:List (ByteArray×Int)} (h:SeenAs hs acc) (d:Df) (v:Int):SeenAs (hs++[d]) (acc++[(d.name,v)]):=by
 refine⟨fun nm=>?_⟩
 rw[lookM_app,h.look,findAt_split]
 by_cases hr:findAt nm hs 0 < 0
 ·rw[decide_eq_true hr,cond_true,decide_eq_false (by omega:¬ 0≤findAt nm hs 0),Bool.false_or]
  unfold findAt
  have:decide (d.name=nm)=decide (nm=d.name):=decide_eq_decide.2 ⟨Eq.symm,Eq.symm⟩
  rw[this]
  cases decide (nm=d.name) with
  | true=>simp
  | false=>
   rw[cond_false]
   rfl
 ·rw[decide_eq_false hr,cond_false,decide_eq_true (by omega:0≤findAt nm hs 0),Bool.true_or]
def firstOf (ds:List Df) (i:Nat):Bool:=match ds[i]? with
 | some d=>decide (findAt d.name ds 0=i)
 | none=>true
theorem findAt_self (d:Df) (bs:List Df) (i:Nat):findAt d.name (d::bs) i=i:=by
 rw[findAt,decide_eq_true rfl]
 rfl
theorem dups_spec (bs:List Df):∀ (hs:List Df) (acc:List (ByteArray×Int)),SeenAs hs acc→(∀ i,i < hs.length→firstOf (hs++bs) i=true) →
  match dups acc hs.length bs with
  | none=>∃ i,i < (hs++bs).length∧firstOf (hs++bs) i=false∧∀ k,k < i→firstOf (hs++bs) k=true
  | some r=>SeenAs (hs++bs) r∧∀ i,i < (hs++bs).length→firstOf (hs++bs) i=true:=by
 induction bs with
 | nil=>
  intro hs acc h hf
  rw[List.append_nil] at *
  exact⟨h,hf⟩
 | cons d bs ih=>
  intro hs acc h hf
  have hat:(hs++d::bs)[hs.length]?=some d:=by simp
  have hfi:firstOf (hs++d::bs) hs.length=!(lookM d.name acc).isSome:=by
   unfold firstOf
   rw[hat,h.look]
   simp only
   rw[findAt_split]
   by_cases hr:findAt d.name hs 0 < 0
   ·rw[decide_eq_true hr,cond_true,findAt_self]
    simp;omega
   ·rw[decide_eq_false hr,cond_false]
    have hlt:findAt d.name hs 0 < hs.length:=by
     have:∀ (hs:List Df) (i:Nat),0≤findAt d.name hs i→findAt d.name hs i < i+hs.length:=by
      intro hs
      induction hs with
      | nil=>intro i h;simp[findAt] at h
      | cons e hs ih2=>
       intro i h
       unfold findAt at h ⊢
       cases hc:decide (e.name=d.name) with
       | true=>simp;omega
       | false=>
        rw[hc,cond_false] at h
        rw[cond_false]
        have:=ih2 (i+1) h
        simp
        omega
     have:=this hs 0 (by omega)
     omega
    have e1:decide (findAt d.name hs 0=(hs.length:Int))=false:=decide_eq_false (by omega)
    have e2:decide (0≤findAt d.name hs 0)=true:=decide_eq_true (by omega)
    rw[e1,e2]
    rfl
  rw[dups]
  cases hl:(lookM d.name acc).isSome with
  | true=>
   rw[hl] at hfi
   exact⟨hs.length,by simp,hfi,hf⟩
  | false=>
   rw[hl] at hfi
   have:=ih (hs++[d]) (acc++[(d.name,(hs.length:Int))]) (h.snoc d _) (fun i hi=>by
    rw[List.append_assoc]
    simp at hi
    rcases Nat.lt_or_eq_of_le (Nat.lt_succ_iff.1 (by omega:i < hs.length+1)) with h1 | h1
    ·exact hf i h1
    ·rw[h1];exact hfi)
   rw[List.length_append,List.append_assoc] at this
   exact this
theorem seen0:SeenAs [] []:=⟨fun nm=>by simp[lookM,findAt]⟩
def nodeOk2 (ds:List Df) (n:Nd):Bool:=!decide (n.k=3) || decide (0≤findAt n.t ds 0)
theorem nodePairs_all (p:Nd→Bool):∀ (ds:List Df) (i:Nat),((nodePairs i ds).all fun x=>p x.2)=ds.all fun d=>d.t.ns.all p
 | [],i=>rfl
 | d::ds,i=>by
  rw[nodePairs,List.all_append,List.all_cons,nodePairs_all p ds (i+1),List.all_map]
  rfl
def mayR (deb:List Int) (g:Gr):Int:=
 bif decide ((g.n:Int)=0) then 4 else bif !okDefs g.ds then 4 else bif largeG deb g then 40 else
 bif !(List.range g.ds.length).all (firstOf g.ds) then 6 else bif g.ds.all fun d=>d.t.ns.all (nodeOk2 g.ds) then 0 else 41
theorem mayR_eq (deb:List Int) (g:Gr):mayR deb g=mayG deb g:=by
 unfold mayR mayG
 have h:=dups_spec g.ds [] [] seen0 (fun i hi=>by simp at hi)
 simp only[List.length_nil,List.nil_append] at h
 cases hd:dups [] 0 g.ds with
 | none=>
  rw[hd] at h
  obtain⟨i,h1,h2,_⟩:=h
  have:(List.range g.ds.length).all (firstOf g.ds)=false:=by
   rw[Bool.eq_false_iff]
   intro hall
   rw[List.all_eq_true] at hall
   have:=hall i (List.mem_range.2 h1)
   rw[h2] at this
   cases this
  rw[this]
  rfl
 | some acc=>
  rw[hd] at h
  obtain⟨h1,h2⟩:=h
  have h3:(List.range g.ds.length).all (firstOf g.ds)=true:=by
   rw[List.all_eq_true]
   intro i hi
   exact h2 i (List.mem_range.1 hi)
  rw[h3]
  have h4:(g.ds.all fun d=>d.t.ns.all (nodeOk2 g.ds))=allNamed acc g.ds:=by
   unfold allNamed
   rw[nodePairs_all]
   congr 1
   funext d
   congr 1
   funext n
   unfold nodeOk nodeOk2
   rw[h1.look]
  rw[h4]
  rfl
theorem RFind_spec {I:GH} {g:Gr} (hg:g.ok I) (name:ByteArray):Spec Tryz.prog 104 [g.val,.string name] I [] (fun v I' M'=>v=.int .i64 (findAt name g.ds 0)∧I'=I∧M'=[]):=by
 refine spec_of_V [] TryzEOK Tryz.func104 rfl rfl rfl ?_
 intro B h0
 have hgn:=hg.n
 have hcap:=hg.rs.cap
 refine LoopOb.inv (ι:=Nat) (fun i=>{ fl:=[(1,.val (.string name)),(2,.ref 2 0),(5,.val (.int .i64 i))],cl:=[(2,[.slice g.a g.n g.c])],gi:=I })
  (fun i=>i≤g.n∧findAt name g.ds 0=findAt name (g.ds.drop i) i) (fun i=>g.n - i) ?_ ?_
 ·exact⟨0,⟨by simp,rfl⟩,.refl,aF3,.cons rfl .nil⟩
 rintro i ⟨hi,hf⟩
 refine CondOb.mk (fun h=>?_) (fun h=>?_)
 ·have hlt:i < g.n:=by simpa using h
  have hlt':i < g.ds.length:=by omega
  obtain⟨ad,had,hrd⟩:=hg.rs.row Df.cells_len hlt hlt'
  have hdrop:g.ds.drop i=g.ds[i]::g.ds.drop (i+1):=List.drop_eq_getElem_cons hlt'
  refine IdxOb.mk ad i had rfl hlt ?_
  refine LoadOb.mk _ (Rd.part (k:=0) (m:=1) (hrd _) (by decide)) ?_
  refine CondOb.mk (fun h2=>?_) (fun h2=>?_)
  ·exact⟨_,_,.refl,by rw[hf,hdrop,findAt,h2];rfl,rfl,rfl⟩
  ·refine ArithOb.mk _ (next_wr (i:=i) (by omega)) ?_
   refine⟨i+1,⟨⟨by omega,?_⟩,by omega⟩,.refl,aF3,.cons rfl .nil⟩
   rw[hf,hdrop,findAt,h2]
   rfl
 ·have hge:g.n≤i:=by simpa using h
  have hdn:g.ds.drop i=[]:=List.drop_eq_nil_of_le (by omega)
  exact⟨_,_,.refl,by rw[hf,hdn];rfl,rfl,rfl⟩
theorem sizeT_le {t:Tr}:sizeT t≤t.n:=by
 unfold sizeT
 cases right t<;>simp
theorem RNodes_spec {I:GH} {g:Gr} (hg:g.ok I) {W:Nat} (hf:∀ d∈g.ds,Fit d.t W) (hn:g.n≤1000000):Spec Tryz.prog 101 [g.val] I [] (fun v I' M'=>v=.int .i64 (nodesG g:Nat)∧I'=I∧M'=[]):=by
 refine spec_of_V [] TryzEOK Tryz.func101 rfl rfl rfl ?_
 intro B h0
 have hgn:=hg.n
 refine LoopOb.inv (ι:=Nat×Nat) (fun x=>{ fl:=[(1,.ref 1 0),(3,.val (.int .i64 x.2)),(4,.val (.int .i64 x.1))],cl:=[(1,[.slice g.a g.n g.c])],gi:=I })
  (fun x=>x.1≤g.n∧x.2=((g.ds.take x.1).map fun d=>sizeT d.t).sum∧x.2≤1099511627776 * x.1) (fun x=>g.n - x.1) ?_ ?_
 ·exact⟨(0,0),⟨by simp,by simp,by simp⟩,.refl,aF3,.cons rfl .nil⟩
 rintro⟨i,s⟩ ⟨hi,hs,hb⟩
 simp only at hi hs hb
 refine CondOb.mk (fun h=>?_) (fun h=>?_)
 ·have hlt:i < g.n:=by simpa using h
  have hlt':i < g.ds.length:=by omega
  obtain⟨ad,had,hrd⟩:=hg.rs.row Df.cells_len hlt hlt'
  have hdm:g.ds[i]∈g.ds:=List.getElem_mem hlt'
  have hfi:=hf _ hdm
  have hsz:=sizeT_le (t:=g.ds[i].t)
  have hfn:=hfi.n
  refine IdxOb.mk ad i had rfl hlt ?_
  refine LoadOb.mk _ (Rd.part (k:=1) (m:=2) (hrd _) (by decide)) ?_
  refine CallOb.mk [] [] _ (.refl _) (RSize_spec (hg.ds _ hdm).t hfi) ?_
  rintro v J N - ⟨rfl,hJ,rfl⟩
  subst J
  refine ArithOb.mk ((s+sizeT g.ds[i].t:Nat):Int) (wrap_i64 (x:=((s+sizeT g.ds[i].t:Nat):Int)) ⟨by omega,by omega⟩) ?_
  refine ArithOb.mk _ (next_wr (i:=i) (by omega)) ?_
  refine⟨(i+1,s+sizeT g.ds[i].t),⟨⟨by simp only;omega,?_,by simp only;omega⟩,by simp only;omega⟩,.refl,aF3,.cons rfl .nil⟩
  simp only
  rw[hs,List.take_succ_eq_append_getElem hlt',List.map_append,List.sum_append]
  simp
 ·have hge:g.n≤i:=by simpa using h
  rw[List.take_of_length_le (by omega)] at hs
  exact⟨_,_,.refl,by rw[hs];rfl,rfl,rfl⟩
structure GFit (g:Gr):Prop where
 n:g.n≤1000000
 ds:∀ d∈g.ds,Fit d.t 1000000
theorem okDefs_cons (d:Df) (ds:List Df):okDefs (d::ds)=((mayName d.name && normal d.t) && okDefs ds):=rfl
theorem large_of {deb:List Int} {g:Gr} (h:(decide (1024 < nodesG g) || !g.ds.all fun d=>mayTree d.t)=true):largeG deb g=true:=by
 unfold largeG
 generalize (g.ds.all fun d=>mayTree d.t)=a at *
 generalize decide (1024 < nodesG g)=c at *
 cases a<;>cases c<;>simp at h ⊢
theorem firstOf_lt {ds:List Df} {i:Nat} (h:i < ds.length):firstOf ds i=decide (findAt ds[i].name ds 0=i):=by
 unfold firstOf
 rw[List.getElem?_eq_getElem h]
theorem all_drop_lt {n i:Nat} (p:Nat→Bool) (h:i < n):((List.range n).drop i).all p=(p i && ((List.range n).drop (i+1)).all p):=by
 rw[List.drop_eq_getElem_cons (by simpa using h),List.all_cons]
 simp
theorem small_gram {deb:List Int} {ds:List Df} (h:∀ d∈ds,d.t.ns.length≤1024) (hn:ds.length≤64):(gramB deb ds []).length≤160000000:=by
 have:=gramB_len deb ds [] 0 h (by simp)
 omega
set_option maxRecDepth 100000 in
set_option maxHeartbeats 4000000 in
theorem RMay9_spec {I:GH} {deb:List Int} (hcl:ClsOk deb) {g:Gr} (hg:g.ok I) (hf:GFit g):Spec Tryz.prog 61 [g.val] I [] (fun v I' M'=>v=.int .i64 (mayR deb g)∧I'=I∧M'=[]):=by
 refine spec_of_V [] TryzEOK Tryz.func61 rfl rfl rfl ?_
 intro B h0
 have hgn:=hg.n
 have hfn:=hf.n
 refine CondOb.mk (fun e0=>?_) (fun e0=>?_)
 ·exact⟨_,_,.refl,by rw[mayR,e0];rfl,rfl,rfl⟩
 refine LoopOb.inv (ι:=Nat) (fun i=>{ fl:=[(1,.ref 1 0),(3,.val (.int .i64 i))],cl:=[(1,[.slice g.a g.n g.c])],gi:=I }) (fun i=>i≤g.n∧okDefs g.ds=okDefs (g.ds.drop i)) (fun i=>g.n - i) ?_ ?_
 ·exact⟨0,⟨Nat.zero_le _,rfl⟩,.refl,aF2,.cons rfl .nil⟩
 rintro i ⟨hi,hok⟩
 refine CondOb.mk (fun h=>?_) (fun h=>?_)
 ·have hlt:i < g.n:=by simpa using h
  have hlt':i < g.ds.length:=by omega
  obtain⟨ad,had,hrd⟩:=hg.rs.row Df.cells_len hlt hlt'
  have hdm:g.ds[i]∈g.ds:=List.getElem_mem hlt'
  have hdrop:g.ds.drop i=g.ds[i]::g.ds.drop (i+1):=List.drop_eq_getElem_cons hlt'
  rw[hdrop,okDefs_cons] at hok
  refine IdxOb.mk ad i had rfl hlt ?_
  refine LoadOb.mk _ (Rd.part (k:=0) (m:=1) (hrd _) (by decide)) ?_
  refine CallOb.mk [] [] _ (.refl _) (RMay_spec I g.ds[i].name) ?_
  rintro v J N - ⟨rfl,hJ,rfl⟩
  subst J
  refine GuardOb.mk (fun h1=>?_) (fun h1=>?_)
  ·have hm:mayName g.ds[i].name=true:=by simpa using h1
   refine IdxOb.mk ad i had rfl hlt ?_
   refine LoadOb.mk _ (Rd.part (k:=1) (m:=2) (hrd _) (by decide)) ?_
   refine CallOb.mk [] [] _ (.refl _) (RNormal_spec (hg.ds _ hdm).t (hf.ds _ hdm)) ?_
   rintro v J N - ⟨rfl,hJ,rfl⟩
   subst J
   refine CondOb.mk (fun h2=>?_) (fun h2=>?_)
   ·have hno:normal g.ds[i].t=false:=by simpa using h2
    exact⟨_,_,.refl,by rw[mayR,e0,hok,hno,Bool.and_false];rfl,rfl,rfl⟩
   ·have hno:normal g.ds[i].t=true:=by simpa using h2
    refine ArithOb.mk _ (next_wr (i:=i) (by omega)) ?_
    refine⟨i+1,⟨⟨by omega,?_⟩,by omega⟩,.refl,aF2,.cons rfl .nil⟩
    rw[hok,hm,hno]
    rfl
  ·have hm:mayName g.ds[i].name=false:=by simpa using h1
   exact⟨_,_,.refl,by rw[mayR,e0,hok,hm,Bool.false_and,Bool.false_and];rfl,rfl,rfl⟩
 have hie:i=g.n:=by simp at h;omega
 have hokt:okDefs g.ds=true:=by
  rw[hok,List.drop_of_length_le (by omega)]
  rfl
 have hmr:mayR deb g=bif largeG deb g then 40 else bif !(List.range g.ds.length).all (firstOf g.ds) then 6 else bif g.ds.all fun d=>d.t.ns.all (nodeOk2 g.ds) then 0 else 41:=by
  rw[mayR,e0,hokt]
  rfl
 have pos:0 < g.n:=by simp at e0;omega
 refine GuardOb.mk (fun h1=>?_) (fun h1=>?_)
 ·have hn64:g.n≤64:=by simp at h1;omega
  refine CallOb.mk [] [] _ (.refl _) (RNodes_spec hg hf.ds hfn) ?_
  rintro v J N - ⟨rfl,hJ,rfl⟩
  subst J
  refine LoopOb.inv (ι:=Nat×Bool) (fun x=>{ fl:=[(1,.ref 1 0),(4,.val (.bool x.2)),(5,.val (.int .i64 x.1))],cl:=[(1,[.slice g.a g.n g.c])],gi:=I })
   (fun x=>x.1≤g.n∧(decide (1024 < nodesG g) || !g.ds.all fun d=>mayTree d.t)=(x.2 || !(g.ds.drop x.1).all fun d=>mayTree d.t)) (fun x=>g.n - x.1) ?_ ?_
  ·exact⟨(0,decide (((1024:Nat):Int) < (nodesG g:Nat))),⟨Nat.zero_le _,by simp only[List.drop_zero];congr 1;exact decide_eq_decide.2 (by omega)⟩,.refl,aF3,.cons rfl .nil⟩
  rintro⟨k,b⟩ ⟨hk,hb⟩
  simp only at hk hb
  refine GuardOb.mk (fun k1=>?_) (fun k1=>?_)
  ·have hkl:k < g.n:=by simpa using k1
   have hkl':k < g.ds.length:=by omega
   refine CondOb.mk (fun k2=>?_) (fun k2=>?_)
   ·have hbf:b=false:=by simpa using k2
    obtain⟨ad,had,hrd⟩:=hg.rs.row Df.cells_len hkl hkl'
    have hdm:g.ds[k]∈g.ds:=List.getElem_mem hkl'
    have hdrop:g.ds.drop k=g.ds[k]::g.ds.drop (k+1):=List.drop_eq_getElem_cons hkl'
    refine IdxOb.mk ad k had rfl hkl ?_
    refine LoadOb.mk _ (Rd.part (k:=1) (m:=2) (hrd _) (by decide)) ?_
    refine CallOb.mk [] [] _ (.refl _) (RTMay_spec (hg.ds _ hdm).t (hf.ds _ hdm)) ?_
    rintro v J N - ⟨rfl,hJ,rfl⟩
    subst J
    refine ArithOb.mk _ (next_wr (i:=k) (by omega)) ?_
    refine⟨(k+1,!mayTree g.ds[k].t),⟨⟨by simp only;omega,?_⟩,by simp only;omega⟩,.refl,aF3,.cons rfl .nil⟩
    simp only
    rw[hb,hdrop,List.all_cons,hbf,Bool.false_or,Bool.not_and]
   ·have hbt:b=true:=by simpa using k2
    have hP:(decide (1024 < nodesG g) || !g.ds.all fun d=>mayTree d.t)=b:=by rw[hb,hbt,Bool.true_or]
    refine GuardOb.mk (fun k3=>?_) (fun k3=>?_)
    ·have hbf:b=false:=by simpa using k3
     rw[hbf,Bool.or_eq_false_iff,Bool.not_eq_false',List.all_eq_true] at hP
     have hall:∀ d∈g.ds,Fit d.t 1000000∧d.t.n≤1024:=fun d hd=>by
      have:=hP.2 d hd
      unfold mayTree at this
      simp only[Bool.and_eq_true,decide_eq_true_eq] at this
      exact⟨hf.ds d hd,this.1⟩
     have hgl:=small_gram (deb:=deb) (ds:=g.ds) (fun d hd=>by rw[(hg.ds d hd).t.n];exact(hall d hd).2) (by omega)
     refine CallOb.mk [] [] _ (.refl _) (RGrammar_spec hcl hg hn64 hall (by decide)) ?_
     rintro v J N - ⟨rfl,hJ,rfl⟩
     subst J
     have hlg:largeG deb g=decide (8192 < (gramB deb g.ds []).length):=by
      have e1:decide (64 < g.n)=false:=decide_eq_false (by omega)
      have e2:(g.ds.all fun d=>mayTree d.t)=true:=List.all_eq_true.2 hP.2
      rw[largeG,e1,e2,hP.1]
      rfl
     have hsz:((strOf (gramB deb g.ds [])).size:Int)=((gramB deb g.ds []).length:Int):=rfl
     refine CondOb.mk (fun k4=>?_) (fun k4=>?_)
     ·have:largeG deb g=true:=by
       rw[hlg]
       rw[hsz] at k4
       simp at k4 ⊢
       omega
      exact⟨_,_,.refl,by rw[hmr,this];rfl,rfl,rfl⟩
     have hlf:largeG deb g=false:=by
      rw[hlg]
      rw[hsz] at k4
      simp at k4 ⊢
      omega
     rw[hlf,cond_false] at hmr
     refine LoopOb.inv (ι:=Nat) (fun i=>{ fl:=[(1,.ref 1 0),(6,.val (.int .i64 i))],cl:=[(1,[.slice g.a g.n g.c])],gi:=I }) (fun i=>i≤g.n∧(List.range g.ds.length).all (firstOf g.ds)=((List.range g.ds.length).drop i).all (firstOf g.ds)) (fun i=>g.n - i) ?_ ?_
     ·exact⟨0,⟨Nat.zero_le _,rfl⟩,.refl,aF2,.cons rfl .nil⟩
     rintro u ⟨hu,hfo⟩
     refine CondOb.mk (fun h=>?_) (fun h=>?_)
     ·have hlt:u < g.n:=by simpa using h
      have hlt':u < g.ds.length:=by omega
      obtain⟨ad,had,hrd⟩:=hg.rs.row Df.cells_len hlt hlt'
      rw[all_drop_lt _ hlt',firstOf_lt hlt'] at hfo
      refine CodeOb.draw TryzEOK rfl rfl rfl ?_
      refine IdxOb.mk ad u had rfl hlt ?_
      refine LoadOb.mk _ (Rd.part (k:=0) (m:=1) (hrd _) (by decide)) ?_
      refine PCallOb.mk _ (RFind_spec hg g.ds[u].name) ?_
      rintro v J N - ⟨rfl,hJ,rfl⟩
      subst J
      refine CondOb.mk (fun h2=>?_) (fun h2=>?_)
      ·have e:decide (findAt g.ds[u].name g.ds 0=(u:Int))=false:=by simpa using h2
       exact⟨_,_,.refl,by rw[hmr,hfo,e,Bool.false_and];rfl,rfl,rfl⟩
      ·have e:decide (findAt g.ds[u].name g.ds 0=(u:Int))=true:=by simpa using h2
       refine ArithOb.mk _ (next_wr (i:=u) (by omega)) ?_
       refine⟨u+1,⟨⟨by omega,?_⟩,by omega⟩,.refl,aF2,.cons rfl .nil⟩
       rw[hfo,e,Bool.true_and]
     have hue:u=g.n:=by simp at h;omega
     rw[List.drop_of_length_le (by simp;omega)] at hfo
     rw[hfo,List.all_nil,Bool.not_true,cond_false] at hmr
     refine LoopOb.inv (ι:=Nat) (fun i=>{ fl:=[(1,.ref 1 0),(7,.val (.int .i64 i))],cl:=[(1,[.slice g.a g.n g.c])],gi:=I }) (fun i=>i≤g.n∧(g.ds.all fun d=>d.t.ns.all (nodeOk2 g.ds))=((g.ds.drop i).all fun d=>d.t.ns.all (nodeOk2 g.ds))) (fun i=>g.n - i) ?_ ?_
     ·exact⟨0,⟨Nat.zero_le _,rfl⟩,.refl,aF2,.cons rfl .nil⟩
     rintro p ⟨hp,hpa⟩
     refine CondOb.mk (fun h=>?_) (fun h=>?_)
     ·have hlt:p < g.n:=by simpa using h
      have hlt':p < g.ds.length:=by omega
      obtain⟨ad,had,hrd⟩:=hg.rs.row Df.cells_len hlt hlt'
      have hdrop:g.ds.drop p=g.ds[p]::g.ds.drop (p+1):=List.drop_eq_getElem_cons hlt'
      have ht:=(hg.ds _ (List.getElem_mem hlt')).t
      rw[hdrop,List.all_cons] at hpa
      generalize g.ds[p]=d at hrd hpa ht
      have htn:=ht.n
      refine IdxOb.mk ad p had rfl hlt ?_
      refine LoadOb.mk _ (Rd.part (k:=0) (m:=1) (Rd.part (k:=1) (m:=2) (hrd _) (by decide)) (by decide)) ?_
      refine LoopOb.inv (ι:=Nat) (fun k=>{ fl:=[(1,.ref 1 0),(7,.val (.int .i64 p)),(8,.val (.slice d.t.a d.t.n d.t.c)),(9,.val (.int .i64 k))],cl:=[(1,[.slice g.a g.n g.c])],gi:=I }) (fun k=>k≤d.t.n∧d.t.ns.all (nodeOk2 g.ds)=(d.t.ns.drop k).all (nodeOk2 g.ds)) (fun k=>d.t.n - k) ?_ ?_
      ·exact⟨0,⟨Nat.zero_le _,rfl⟩,.refl,aF4,.cons rfl .nil⟩
      rintro w ⟨hw,hwa⟩
      refine CondOb.mk (fun h3=>?_) (fun h3=>?_)
      ·have hwl:w < d.t.n:=by simpa using h3
       have hwl':w < d.t.ns.length:=by omega
       obtain⟨aq,haq,hrq⟩:=ht.rs.row Nd.cells_len hwl hwl'
       have hcap:=ht.rs.cap
       have hdrop2:d.t.ns.drop w=d.t.ns[w]::d.t.ns.drop (w+1):=List.drop_eq_getElem_cons hwl'
       rw[hdrop2,List.all_cons,nodeOk2] at hwa
       refine CodeOb.draw TryzEOK rfl rfl rfl ?_
       refine IdxOb.mk aq w haq rfl hwl ?_
       refine LoadOb.mk _ (Rd.part (k:=0) (m:=1) (hrq _) (by decide)) ?_
       refine GuardOb.mk (fun c1=>?_) (fun c1=>?_)
       ·have e3:decide (d.t.ns[w].k=3)=true:=c1
        refine IdxOb.mk aq w haq rfl hwl ?_
        refine LoadOb.mk _ (Rd.part (k:=5) (m:=1) (hrq _) (by decide)) ?_
        refine CallOb.mk [] [] _ (.refl _) (RFind_spec hg d.t.ns[w].t) ?_
        rintro v J N - ⟨rfl,hJ,rfl⟩
        subst J
        refine CondOb.mk (fun c2=>?_) (fun c2=>?_)
        ·have e:decide (0≤findAt d.t.ns[w].t g.ds 0)=false:=by simp at c2 ⊢;omega
         exact⟨_,_,.refl,by rw[hmr,hpa,hwa,e3,e];rfl,rfl,rfl⟩
        ·have e:decide (0≤findAt d.t.ns[w].t g.ds 0)=true:=by simp at c2 ⊢;omega
         refine ArithOb.mk _ (next_wr (i:=w) (by omega)) ?_
         refine⟨w+1,⟨⟨by omega,?_⟩,by omega⟩,.refl,aF4,.cons rfl .nil⟩
         rw[hwa,e,Bool.or_true,Bool.true_and]
       ·have e3:decide (d.t.ns[w].k=3)=false:=c1
        refine ArithOb.mk _ (next_wr (i:=w) (by omega)) ?_
        refine⟨w+1,⟨⟨by omega,?_⟩,by omega⟩,.refl,aF4,.cons rfl .nil⟩
        rw[hwa,e3]
        rfl
      ·have hwe:w=d.t.n:=by simp at h3;omega
       rw[List.drop_of_length_le (by omega)] at hwa
       refine ArithOb.mk _ (next_wr (i:=p) (by omega)) ?_
       refine⟨p+1,⟨⟨by omega,?_⟩,by omega⟩,.refl,aF2,.cons rfl .nil⟩
       rw[hpa,hwa,List.all_nil,Bool.true_and]
     ·have hpe:p=g.n:=by simp at h;omega
      rw[List.drop_of_length_le (by omega)] at hpa
      exact⟨_,_,.refl,by rw[hmr,hpa];rfl,rfl,rfl⟩
    ·have hbt:b=true:=by simpa using k3
     exact⟨_,_,.refl,by rw[hmr,large_of (deb:=deb) (hP.trans hbt)];rfl,rfl,rfl⟩
  ·have hke:k=g.n:=by simp at k1;omega
   have hP:(decide (1024 < nodesG g) || !g.ds.all fun d=>mayTree d.t)=b:=by
    rw[hb,hke,List.drop_of_length_le (by omega)]
    simp
   refine GuardOb.mk (fun k3=>?_) (fun k3=>?_)
   ·have hbf:b=false:=by simpa using k3
    rw[hbf,Bool.or_eq_false_iff,Bool.not_eq_false',List.all_eq_true] at hP
    have hall:∀ d∈g.ds,Fit d.t 1000000∧d.t.n≤1024:=fun d hd=>by
     have:=hP.2 d hd
     unfold mayTree at this
     simp only[Bool.and_eq_true,decide_eq_true_eq] at this
     exact⟨hf.ds d hd,this.1⟩
    have hgl:=small_gram (deb:=deb) (ds:=g.ds) (fun d hd=>by rw[(hg.ds d hd).t.n];exact(hall d hd).2) (by omega)
    refine CallOb.mk [] [] _ (.refl _) (RGrammar_spec hcl hg hn64 hall (by decide)) ?_
    rintro v J N - ⟨rfl,hJ,rfl⟩
    subst J
    have hlg:largeG deb g=decide (8192 < (gramB deb g.ds []).length):=by
     have e1:decide (64 < g.n)=false:=decide_eq_false (by omega)
     have e2:(g.ds.all fun d=>mayTree d.t)=true:=List.all_eq_true.2 hP.2
     rw[largeG,e1,e2,hP.1]
     rfl
    have hsz:((strOf (gramB deb g.ds [])).size:Int)=((gramB deb g.ds []).length:Int):=rfl
    refine CondOb.mk (fun k4=>?_) (fun k4=>?_)
    ·have:largeG deb g=true:=by
      rw[hlg]
      rw[hsz] at k4
      simp at k4 ⊢
      omega
     exact⟨_,_,.refl,by rw[hmr,this];rfl,rfl,rfl⟩
    have hlf:largeG deb g=false:=by
     rw[hlg]
     rw[hsz] at k4
     simp at k4 ⊢
     omega
    rw[hlf,cond_false] at hmr
    refine LoopOb.inv (ι:=Nat) (fun i=>{ fl:=[(1,.ref 1 0),(6,.val (.int .i64 i))],cl:=[(1,[.slice g.a g.n g.c])],gi:=I }) (fun i=>i≤g.n∧(List.range g.ds.length).all (firstOf g.ds)=((List.range g.ds.length).drop i).all (firstOf g.ds)) (fun i=>g.n - i) ?_ ?_
    ·exact⟨0,⟨Nat.zero_le _,rfl⟩,.refl,aF2,.cons rfl .nil⟩
    rintro u ⟨hu,hfo⟩
    refine CondOb.mk (fun h=>?_) (fun h=>?_)
    ·have hlt:u < g.n:=by simpa using h
     have hlt':u < g.ds.length:=by omega
     obtain⟨ad,had,hrd⟩:=hg.rs.row Df.cells_len hlt hlt'
     rw[all_drop_lt _ hlt',firstOf_lt hlt'] at hfo
     refine CodeOb.draw TryzEOK rfl rfl rfl ?_
     refine IdxOb.mk ad u had rfl hlt ?_
     refine LoadOb.mk _ (Rd.part (k:=0) (m:=1) (hrd _) (by decide)) ?_
     refine PCallOb.mk _ (RFind_spec hg g.ds[u].name) ?_
     rintro v J N - ⟨rfl,hJ,rfl⟩
     subst J
     refine CondOb.mk (fun h2=>?_) (fun h2=>?_)
     ·have e:decide (findAt g.ds[u].name g.ds 0=(u:Int))=false:=by simpa using h2
      exact⟨_,_,.refl,by rw[hmr,hfo,e,Bool.false_and];rfl,rfl,rfl⟩
     ·have e:decide (findAt g.ds[u].name g.ds 0=(u:Int))=true:=by simpa using h2
      refine ArithOb.mk _ (next_wr (i:=u) (by omega)) ?_
      refine⟨u+1,⟨⟨by omega,?_⟩,by omega⟩,.refl,aF2,.cons rfl .nil⟩
      rw[hfo,e,Bool.true_and]
    have hue:u=g.n:=by simp at h;omega
    rw[List.drop_of_length_le (by simp;omega)] at hfo
    rw[hfo,List.all_nil,Bool.not_true,cond_false] at hmr
    refine LoopOb.inv (ι:=Nat) (fun i=>{ fl:=[(1,.ref 1 0),(7,.val (.int .i64 i))],cl:=[(1,[.slice g.a g.n g.c])],gi:=I }) (fun i=>i≤g.n∧(g.ds.all fun d=>d.t.ns.all (nodeOk2 g.ds))=((g.ds.drop i).all fun d=>d.t.ns.all (nodeOk2 g.ds))) (fun i=>g.n - i) ?_ ?_
    ·exact⟨0,⟨Nat.zero_le _,rfl⟩,.refl,aF2,.cons rfl .nil⟩
    rintro p ⟨hp,hpa⟩
    refine CondOb.mk (fun h=>?_) (fun h=>?_)
    ·have hlt:p < g.n:=by simpa using h
     have hlt':p < g.ds.length:=by omega
     obtain⟨ad,had,hrd⟩:=hg.rs.row Df.cells_len hlt hlt'
     have hdrop:g.ds.drop p=g.ds[p]::g.ds.drop (p+1):=List.drop_eq_getElem_cons hlt'
     have ht:=(hg.ds _ (List.getElem_mem hlt')).t
     rw[hdrop,List.all_cons] at hpa
     generalize g.ds[p]=d at hrd hpa ht
     have htn:=ht.n
     refine IdxOb.mk ad p had rfl hlt ?_
     refine LoadOb.mk _ (Rd.part (k:=0) (m:=1) (Rd.part (k:=1) (m:=2) (hrd _) (by decide)) (by decide)) ?_
     refine LoopOb.inv (ι:=Nat) (fun k=>{ fl:=[(1,.ref 1 0),(7,.val (.int .i64 p)),(8,.val (.slice d.t.a d.t.n d.t.c)),(9,.val (.int .i64 k))],cl:=[(1,[.slice g.a g.n g.c])],gi:=I }) (fun k=>k≤d.t.n∧d.t.ns.all (nodeOk2 g.ds)=(d.t.ns.drop k).all (nodeOk2 g.ds)) (fun k=>d.t.n - k) ?_ ?_
     ·exact⟨0,⟨Nat.zero_le _,rfl⟩,.refl,aF4,.cons rfl .nil⟩
     rintro w ⟨hw,hwa⟩
     refine CondOb.mk (fun h3=>?_) (fun h3=>?_)
     ·have hwl:w < d.t.n:=by simpa using h3
      have hwl':w < d.t.ns.length:=by omega
      obtain⟨aq,haq,hrq⟩:=ht.rs.row Nd.cells_len hwl hwl'
      have hcap:=ht.rs.cap
      have hdrop2:d.t.ns.drop w=d.t.ns[w]::d.t.ns.drop (w+1):=List.drop_eq_getElem_cons hwl'
      rw[hdrop2,List.all_cons,nodeOk2] at hwa
      refine CodeOb.draw TryzEOK rfl rfl rfl ?_
      refine IdxOb.mk aq w haq rfl hwl ?_
      refine LoadOb.mk _ (Rd.part (k:=0) (m:=1) (hrq _) (by decide)) ?_
      refine GuardOb.mk (fun c1=>?_) (fun c1=>?_)
      ·have e3:decide (d.t.ns[w].k=3)=true:=c1
       refine IdxOb.mk aq w haq rfl hwl ?_
       refine LoadOb.mk _ (Rd.part (k:=5) (m:=1) (hrq _) (by decide)) ?_
       refine CallOb.mk [] [] _ (.refl _) (RFind_spec hg d.t.ns[w].t) ?_
       rintro v J N - ⟨rfl,hJ,rfl⟩
       subst J
       refine CondOb.mk (fun c2=>?_) (fun c2=>?_)
       ·have e:decide (0≤findAt d.t.ns[w].t g.ds 0)=false:=by simp at c2 ⊢;omega
        exact⟨_,_,.refl,by rw[hmr,hpa,hwa,e3,e];rfl,rfl,rfl⟩
       ·have e:decide (0≤findAt d.t.ns[w].t g.ds 0)=true:=by simp at c2 ⊢;omega
        refine ArithOb.mk _ (next_wr (i:=w) (by omega)) ?_
        refine⟨w+1,⟨⟨by omega,?_⟩,by omega⟩,.refl,aF4,.cons rfl .nil⟩
        rw[hwa,e,Bool.or_true,Bool.true_and]
      ·have e3:decide (d.t.ns[w].k=3)=false:=c1
       refine ArithOb.mk _ (next_wr (i:=w) (by omega)) ?_
       refine⟨w+1,⟨⟨by omega,?_⟩,by omega⟩,.refl,aF4,.cons rfl .nil⟩
       rw[hwa,e3]
       rfl
     ·have hwe:w=d.t.n:=by simp at h3;omega
      rw[List.drop_of_length_le (by omega)] at hwa
      refine ArithOb.mk _ (next_wr (i:=p) (by omega)) ?_
      refine⟨p+1,⟨⟨by omega,?_⟩,by omega⟩,.refl,aF2,.cons rfl .nil⟩
      rw[hpa,hwa,List.all_nil,Bool.true_and]
    ·have hpe:p=g.n:=by simp at h;omega
     rw[List.drop_of_length_le (by omega)] at hpa
     exact⟨_,_,.refl,by rw[hmr,hpa];rfl,rfl,rfl⟩
   ·have hbt:b=true:=by simpa using k3
    exact⟨_,_,.refl,by rw[hmr,large_of (deb:=deb) (hP.trans hbt)];rfl,rfl,rfl⟩
 ·have hn64:64 < g.n:=by simp at h1;omega
  refine LoopOb.inv (ι:=Nat×Bool) (fun x=>{ fl:=[(1,.ref 1 0),(4,.val (.bool x.2)),(5,.val (.int .i64 x.1))],cl:=[(1,[.slice g.a g.n g.c])],gi:=I })
   (fun x=>x.1≤g.n∧true=(x.2 || !(g.ds.drop x.1).all fun d=>mayTree d.t)) (fun x=>g.n - x.1) ?_ ?_
  ·exact⟨(0,true),⟨Nat.zero_le _,rfl⟩,.refl,.cons .refl (.cons .lit (.cons .refl .nil)),.cons rfl .nil⟩
  rintro⟨k,b⟩ ⟨hk,hb⟩
  simp only at hk hb
  refine GuardOb.mk (fun k1=>?_) (fun k1=>?_)
  ·have hkl:k < g.n:=by simpa using k1
   have hkl':k < g.ds.length:=by omega
   refine CondOb.mk (fun k2=>?_) (fun k2=>?_)
   ·have hbf:b=false:=by simpa using k2
    obtain⟨ad,had,hrd⟩:=hg.rs.row Df.cells_len hkl hkl'
    have hdm:g.ds[k]∈g.ds:=List.getElem_mem hkl'
    have hdrop:g.ds.drop k=g.ds[k]::g.ds.drop (k+1):=List.drop_eq_getElem_cons hkl'
    refine IdxOb.mk ad k had rfl hkl ?_
    refine LoadOb.mk _ (Rd.part (k:=1) (m:=2) (hrd _) (by decide)) ?_
    refine CallOb.mk [] [] _ (.refl _) (RTMay_spec (hg.ds _ hdm).t (hf.ds _ hdm)) ?_
    rintro v J N - ⟨rfl,hJ,rfl⟩
    subst J
    refine ArithOb.mk _ (next_wr (i:=k) (by omega)) ?_
    refine⟨(k+1,!mayTree g.ds[k].t),⟨⟨by simp only;omega,?_⟩,by simp only;omega⟩,.refl,aF3,.cons rfl .nil⟩
    simp only
    rw[hb,hdrop,List.all_cons,hbf,Bool.false_or,Bool.not_and]
   ·have hbt:b=true:=by simpa using k2
    have hP:true=b:=by rw[hb,hbt,Bool.true_or]
    refine GuardOb.mk (fun k3=>?_) (fun k3=>?_)
    ·have hbf:b=false:=by simpa using k3
     rw[hbf] at hP
     cases hP
    ·have hbt:b=true:=by simpa using k3
     exact⟨_,_,.refl,by rw[hmr,show largeG deb g=true from by rw[largeG,decide_eq_true hn64,Bool.true_or]];rfl,rfl,rfl⟩
  ·have hke:k=g.n:=by simp at k1;omega
   have hP:true=b:=by
    rw[hb,hke,List.drop_of_length_le (by omega)]
    simp
   refine GuardOb.mk (fun k3=>?_) (fun k3=>?_)
   ·have hbf:b=false:=by simpa using k3
    rw[hbf] at hP
    cases hP
   ·have hbt:b=true:=by simpa using k3
    exact⟨_,_,.refl,by rw[hmr,show largeG deb g=true from by rw[largeG,decide_eq_true hn64,Bool.true_or]];rfl,rfl,rfl⟩
theorem firstAt_find (nm:ByteArray):∀ (ds:List Df) (i:Nat),firstAt nm ds i=bif decide (findAt nm ds i < 0) then none else some (findAt nm ds i)
 | [],i=>rfl
 | d::ds,i=>by
  unfold firstAt findAt
  rw[show decide (nm=d.name)=decide (d.name=nm) by rw[Bool.eq_iff_iff];simp[eq_comm]]
  cases decide (d.name=nm) with
  | true=>
   rw[cond_true,cond_true,decide_eq_false (by omega)]
   rfl
  | false=>
   rw[cond_false,cond_false]
   exact firstAt_find nm ds (i+1)
theorem look_find (nm:ByteArray) (ds:List Df):lookM nm (placesL ds)=bif decide (findAt nm ds 0 < 0) then none else some (findAt nm ds 0):=by
 rw[places_first,firstAt_find]
theorem nodesF_app (pl:List (ByteArray×Int)) (fl:List Fl):∀ (ds es:List Nd) (acc:List Fl),nodesF pl fl (ds++es) acc=nodesF pl fl es (nodesF pl fl ds acc)
 | [],es,acc=>rfl
 | d::ds,es,acc=>by
  rw[List.cons_append,nodesF,nodesF,nodesF_app]
set_option maxRecDepth 100000 in
set_option maxHeartbeats 16000000 in
theorem RFNodes_spec {I:GH} {M0:List Blk} {g:Gr} (hg:g.ok I) {t:Tr} (ht:t.ok I) {W:Nat} (hf:Fit t W) {la:Option Addr} {ln lc:Nat} {fl:List Fl} (hfl:FsAt I M0 la ln fl) :
  Spec Tryz.prog 146 [g.val,.slice la ln lc,t.val] I M0 fun v I' M'=>I'=I ∧
   ((nodesP g fl t=none∧v=.tuple #[.slice none 0 0,.bool false]∧M'=M0)∨∃ (r:List Fl) (os:OS),nodesP g fl t=some r∧os.ok 3 (r.flatMap Fl.cells)∧v=.tuple #[os.val,.bool true]∧M'=os.blk 161++M0):=by
 refine spec_of_V [] TryzEOK Tryz.func146 rfl rfl rfl ?_
 intro B h0
 have hgn:=hg.n
 have htn:=ht.n
 have hcap:=ht.rs.cap
 have hfn:=hfl.n
 have hfnn:=hf.n
 refine CallOb.mk [] M0 _ (.refl _) (RRight_gen ht W hf.w hf.b) ?_
 rintro v I1 M1 - ⟨rfl,rfl,rfl⟩
 rw[List.nil_append]
 refine GuardOb.mk (fun hr=>?_) (fun hr=>?_)
 rotate_left
 ·refine⟨_,_,.refl,rfl,.inl ⟨?_,rfl,rfl⟩⟩
  have:right t=false:=by simpa using hr
  simp[nodesP,this]
 have hr:right t=true:=by simpa using hr
 refine CondOb.mk (fun h=>?_) (fun h=>?_)
 ·refine⟨_,_,.refl,rfl,.inl ⟨?_,rfl,rfl⟩⟩
  have hne:¬ (ln:Int)=(g.n:Int):=by simpa using h
  have:decide (fl.length=g.n)=false:=decide_eq_false (by omega)
  simp[nodesP,this]
 have hln:ln=g.n:=by
  have:(ln:Int)=(g.n:Int):=by simpa using h
  omega
 have hd1:decide (fl.length=g.n)=true:=decide_eq_true (by omega)
 refine LoopOb.inv (ι:=Nat×OS) (fun x=>{ fl:=[(1,.val (.slice la ln lc)),(3,.ref 3 0),(5,.ref 5 0),(8,.val x.2.val),(9,.val (.int .i64 x.1))],cl:=[(3,[.slice g.a g.n g.c]),(5,t.cells)],gi:=I1,mi:=x.2.blk 161++M0 })
  (fun x=>x.1≤t.n∧x.2.ok 3 ((nodesF (placesL g.ds) fl (t.ns.take x.1) []).flatMap Fl.cells)∧∀ d∈t.ns.take x.1,(!decide (d.k=3) || (lookM d.t (placesL g.ds)).isSome)=true) (fun x=>t.n - x.1) ?_ ?_
 ·exact⟨(0,OS0),⟨Nat.zero_le _,OS0_ok 3,fun d hd=>by simp at hd⟩,.refl,aF5,.cons rfl (.cons rfl (.nil))⟩
 rintro⟨i,os⟩ ⟨hi,hos,hnm⟩
 simp only at hi hos hnm
 refine CondOb.mk (fun h=>?_) (fun h=>?_)
 rotate_left
 ·have hge:i=t.n:=by have:¬ (i:Int) < (t.n:Int):=of_decide_eq_false h;omega
  rw[List.take_of_length_le (by omega)] at hnm hos
  have hno:namedOk (placesL g.ds) t.ns=true:=List.all_eq_true.2 hnm
  exact⟨_,_,.refl,rfl,.inr ⟨_,os,by rw[nodesP,hd1,hr,hno];rfl,hos,rfl,rfl⟩⟩
 have hlt:i < t.n:=by have:(i:Int) < (t.n:Int):=of_decide_eq_true h;omega
 have hlt':i < t.ns.length:=by omega
 obtain⟨ad,had,hrd⟩:=ht.rs.row Nd.cells_len hlt hlt'
 have hdm:=List.getElem_mem hlt'
 have hd:=ht.ns _ hdm
 have hkn:=hd.kn
 have hkc:=hd.rs.cap
 have hkv:=right_kids hr i hlt'
 have hft:=right_fits hr hlt'
 have hacl:=nodesF_len (placesL g.ds) fl (t.ns.take i) []
 rw[List.length_take_of_le (by omega),List.length_nil,Nat.zero_add] at hacl
 have hsn:nodesF (placesL g.ds) fl (t.ns.take (i+1)) []=nodesF (placesL g.ds) fl (t.ns.take i) []++[comeFl t.ns[i] (kidsF (placesL g.ds) fl (nodesF (placesL g.ds) fl (t.ns.take i) []) t.ns[i])]:=by
  rw[List.take_succ_eq_append_getElem hlt',nodesF_app,nodesF,nodesF]
 generalize nodesF (placesL g.ds) fl (t.ns.take i) []=acc at hos hacl hsn
 have hosn:os.n=acc.length:=by have:=hos.len;rw[fl_len] at this;omega
 have hnext:(!decide (t.ns[i].k=3) || (lookM t.ns[i].t (placesL g.ds)).isSome)=true→∀ d∈t.ns.take (i+1),(!decide (d.k=3) || (lookM d.t (placesL g.ds)).isSome)=true:=fun h d hd=>by
  rw[List.take_succ_eq_append_getElem hlt'] at hd
  rcases List.mem_append.1 hd with hd | hd
  ·exact hnm d hd
  ·simp only[List.mem_singleton] at hd
   rw[hd]
   exact h
 have hbad:decide (t.ns[i].k=3)=true→(lookM t.ns[i].t (placesL g.ds)).isSome=false→nodesP g fl t=none:=fun e1 e2=>by
  have h5:namedOk (placesL g.ds) t.ns=false:=by
   rw[namedOk,List.all_eq_false]
   exact⟨_,hdm,by rw[e1,e2];simp⟩
  simp[nodesP,h5]
 generalize t.ns[i]=d at hrd hd hkn hkc hkv hft hsn hnext hbad
 have hk0:=hd.k.1
 have hk10:=fits_k hft
 refine IdxOb.mk ad i had rfl hlt ?_
 refine LoadOb.mk _ (hrd _) ?_
 refine CondOb.mk (fun h3=>?_) (fun h3=>?_)
 ·have e3:d.k=3:=by simpa using h3
  refine CallOb.mk [] (os.blk 161++M0) _ (.refl _) (RFind_spec hg d.t) ?_
  rintro v I2 M2 - ⟨rfl,rfl,rfl⟩
  rw[List.nil_append]
  have hlk:=look_find d.t g.ds
  refine CondOb.mk (fun h4=>?_) (fun h4=>?_)
  ·refine⟨_,M0,.sub (List.sublist_append_right _ _) .refl,rfl,.inl ⟨hbad (decide_eq_true e3) ?_,rfl,rfl⟩⟩
   rw[hlk,show decide (findAt d.t g.ds 0 < 0)=true from h4]
   rfl
  ·have h4':¬ findAt d.t g.ds 0 < 0:=of_decide_eq_false h4
   rw[show decide (findAt d.t g.ds 0 < 0)=false from h4,cond_false] at hlk
   obtain⟨q,hq⟩:=Int.eq_ofNat_of_zero_le (by omega:0≤findAt d.t g.ds 0)
   have hlk':=hlk
   rw[places_first] at hlk'
   obtain⟨j,hj1,hj2⟩:=firstAt_lt hlk'
   have hql:q < fl.length:=by omega
   obtain⟨al,hal,hrl⟩:=hfl.rd q hql
   refine IdxOb.mk al q hal hq (by omega) ?_
   refine LoadOb.mk _ (hrl.sub fun x hx=>by simp[hx]) ?_
   obtain⟨rule,hrule⟩:∃ rule:Fl,rule=fl[q]:=⟨_,rfl⟩
   have hcome:∀ kl:List Fl,kl=d.kids.map (fun k=>acc.getD k.toNat fl0)→comeR d kl rule=comeFl d (kidsF (placesL g.ds) fl acc d):=fun kl hkl=>by
    have h0:d.kids=[]:=by
     have:=(fits_more hk0 hft).leaf (by omega)
     exact List.eq_nil_of_length_eq_zero (by omega)
    rw[comeR,e3,kidsF,h0,e3,hlk,hq]
    simp[comeFl,e3,hrule,List.getD_eq_getElem?_getD,hql]
   have hnx:=hnext (by rw[hlk];simp)
   have hcell:fl[q].cells=rule.cells:=by rw[hrule]
   have hsn':=hsn
   clear hsn hnext hbad hlk hlk' hq hrl hal
   refine LoopOb.inv (ι:=Nat×OS×List Fl) (fun x=>{ fl:=[(1,.val (.slice la ln lc)),(3,.ref 3 0),(5,.ref 5 0),(8,.val os.val),(9,.val (.int .i64 i)),(10,.ref 10 0),(11,.ref 11 0),(13,.val x.2.1.val),(14,.val (.int .i64 x.1))],cl:=[(3,[.slice g.a g.n g.c]),(5,t.cells),(10,d.cells),(11,rule.cells)],gi:=I2,mi:=x.2.1.blk 161++(os.blk 161++M0) })
    (fun x=>x.1≤d.kn∧x.2.1.ok 3 (x.2.2.flatMap Fl.cells)∧x.2.2=(d.kids.take x.1).map fun k=>acc.getD k.toNat fl0) (fun x=>d.kn - x.1) ?_ ?_
   ·exact⟨(0,OS0,[]),⟨Nat.zero_le _,OS0_ok 3,rfl⟩,.refl,aF9,.cons rfl (.cons rfl (.cons rfl (.cons (congrArg some hcell) .nil)))⟩
   rintro⟨k,kl',kl⟩ ⟨hk,hk2,hkl⟩
   simp only at hk hk2 hkl
   have hk2n:kl'.n=kl.length:=by have:=hk2.len;rw[fl_len] at this;omega
   have hkll:kl.length≤k:=by rw[hkl,List.length_map];exact List.length_take_le _ _
   refine CondOb.mk (fun h=>?_) (fun h=>?_)
   ·have hkk:k < d.kn:=by have:(k:Int) < (d.kn:Int):=of_decide_eq_true h;omega
    have hkk':k < d.kids.length:=by omega
    obtain⟨ak,hak,hrk⟩:=hd.rs.one hkk hkk'
    have hq:=hkv _ (List.getElem_mem hkk')
    have hql:d.kids[k].toNat < acc.length:=by omega
    obtain⟨ao,hao,hro⟩:=OS.ok.row (I:=I2) (M:=kl'.blk 161++(os.blk 161++M0)) (e:=161) Fl.cells_len (by decide) hos (fun x hx=>by simp[hx]) hql
    refine IdxOb.mk ak k hak rfl hkk ?_
    refine LoadOb.mk _ (hrk _) ?_
    refine IdxOb.mk ao d.kids[k].toNat hao (by omega) (by omega) ?_
    refine LoadOb.mk _ hro ?_
    refine AllocOb.mk fun b9 hb9 hbM9=>?_
    refine OtherOb.app1 TryzEOK rfl (by simp) (e:=161) rfl rfl rfl kl' hk2 rfl (cs:=acc[d.kids[k].toNat].cells) rfl rfl rfl [] (os.blk 161++M0) rfl (by omega) (by show (kl'.n+1) * 3≤_;omega) ?_
    intro os2 hn2 hI2 hok2
    refine ArithOb.mk _ (next_wr (i:=k) (by omega)) ?_
    refine⟨(k+1,os2,kl++[acc[d.kids[k].toNat]]),⟨⟨by simp only;omega,?_,?_⟩,by simp only;omega⟩,.refl,aF9,.cons rfl (.cons rfl (.cons rfl (.cons rfl (.nil))))⟩
    ·simp only
     rw[flat_snoc]
     exact hok2
    ·simp only
     rw[List.take_succ_eq_append_getElem hkk',List.map_append,←hkl]
     simp[List.getD_eq_getElem?_getD,hql]
   ·have hge:d.kn≤k:=by have:¬ (k:Int) < (d.kn:Int):=of_decide_eq_false h;omega
    rw[List.take_of_length_le (by omega)] at hkl
    have hkln:kl.length=d.kids.length:=by rw[hkl,List.length_map]
    have hks:=OS.fsAt (I:=I2) (M:=kl'.blk 161++(os.blk 161++M0)) (e:=161) hk2 (fun x hx=>by simp[hx])
    refine CallOb.mk (kl'.blk 161++(os.blk 161++M0)) [] _ perm_nil (rNode_spec ⟨hk0,hk10⟩ hks (by omega) (fun h6=>by have:=fits_kid hk0 hft h6;omega) rule) ?_
    rintro v I3 M3 - ⟨rfl,rfl,rfl⟩
    rw[List.append_nil]
    refine AllocOb.mk fun b9 hb9 hbM9=>?_
    refine OtherOb.app1 TryzEOK rfl (by simp) (e:=161) rfl rfl rfl os hos rfl (cs:=(comeR d kl rule).cells) rfl rfl rfl (kl'.blk 161) M0 rfl (by omega) (by show (os.n+1) * 3≤_;omega) ?_
    intro os2 hn2 hI2 hok2
    refine ArithOb.mk _ (next_wr (i:=i) (by omega)) ?_
    refine⟨(i+1,os2),⟨⟨by simp only;omega,?_,hnx⟩,by simp only;omega⟩,.sub (List.sublist_append_right _ _) .refl,aF5,.cons rfl (.cons rfl (.nil))⟩
    simp only
    rw[hsn',flat_snoc,←hcome kl hkl]
    exact hok2
 ·have e3:¬ d.k=3:=by simpa using h3
  obtain⟨rule,hrule⟩:∃ rule:Fl,rule=fl0:=⟨_,rfl⟩
  have hcome:∀ kl:List Fl,kl=d.kids.map (fun k=>acc.getD k.toNat fl0)→comeR d kl rule=comeFl d (kidsF (placesL g.ds) fl acc d):=fun kl hkl=>by
   rw[comeR,kidsF,decide_eq_false e3,cond_false,cond_false,List.append_nil,hkl]
  have hnx:=hnext (by rw[decide_eq_false e3];rfl)
  have hcell:fl0.cells=rule.cells:=by rw[hrule]
  have hsn':=hsn
  clear hsn hnext hbad
  refine LoopOb.inv (ι:=Nat×OS×List Fl) (fun x=>{ fl:=[(1,.val (.slice la ln lc)),(3,.ref 3 0),(5,.ref 5 0),(8,.val os.val),(9,.val (.int .i64 i)),(10,.ref 10 0),(11,.ref 11 0),(13,.val x.2.1.val),(14,.val (.int .i64 x.1))],cl:=[(3,[.slice g.a g.n g.c]),(5,t.cells),(10,d.cells),(11,rule.cells)],gi:=I1,mi:=x.2.1.blk 161++(os.blk 161++M0) })
   (fun x=>x.1≤d.kn∧x.2.1.ok 3 (x.2.2.flatMap Fl.cells)∧x.2.2=(d.kids.take x.1).map fun k=>acc.getD k.toNat fl0) (fun x=>d.kn - x.1) ?_ ?_
  ·exact⟨(0,OS0,[]),⟨Nat.zero_le _,OS0_ok 3,rfl⟩,.refl,aF9,.cons rfl (.cons rfl (.cons rfl (.cons (congrArg some hcell) .nil)))⟩
  rintro⟨k,kl',kl⟩ ⟨hk,hk2,hkl⟩
  simp only at hk hk2 hkl
  have hk2n:kl'.n=kl.length:=by have:=hk2.len;rw[fl_len] at this;omega
  have hkll:kl.length≤k:=by rw[hkl,List.length_map];exact List.length_take_le _ _
  refine CondOb.mk (fun h=>?_) (fun h=>?_)
  ·have hkk:k < d.kn:=by have:(k:Int) < (d.kn:Int):=of_decide_eq_true h;omega
   have hkk':k < d.kids.length:=by omega
   obtain⟨ak,hak,hrk⟩:=hd.rs.one hkk hkk'
   have hq:=hkv _ (List.getElem_mem hkk')
   have hql:d.kids[k].toNat < acc.length:=by omega
   obtain⟨ao,hao,hro⟩:=OS.ok.row (I:=I1) (M:=kl'.blk 161++(os.blk 161++M0)) (e:=161) Fl.cells_len (by decide) hos (fun x hx=>by simp[hx]) hql
   refine IdxOb.mk ak k hak rfl hkk ?_
   refine LoadOb.mk _ (hrk _) ?_
   refine IdxOb.mk ao d.kids[k].toNat hao (by omega) (by omega) ?_
   refine LoadOb.mk _ hro ?_
   refine AllocOb.mk fun b9 hb9 hbM9=>?_
   refine OtherOb.app1 TryzEOK rfl (by simp) (e:=161) rfl rfl rfl kl' hk2 rfl (cs:=acc[d.kids[k].toNat].cells) rfl rfl rfl [] (os.blk 161++M0) rfl (by omega) (by show (kl'.n+1) * 3≤_;omega) ?_
   intro os2 hn2 hI2 hok2
   refine ArithOb.mk _ (next_wr (i:=k) (by omega)) ?_
   refine⟨(k+1,os2,kl++[acc[d.kids[k].toNat]]),⟨⟨by simp only;omega,?_,?_⟩,by simp only;omega⟩,.refl,aF9,.cons rfl (.cons rfl (.cons rfl (.cons rfl (.nil))))⟩
   ·simp only
    rw[flat_snoc]
    exact hok2
   ·simp only
    rw[List.take_succ_eq_append_getElem hkk',List.map_append,←hkl]
    simp[List.getD_eq_getElem?_getD,hql]
  ·have hge:d.kn≤k:=by have:¬ (k:Int) < (d.kn:Int):=of_decide_eq_false h;omega
   rw[List.take_of_length_le (by omega)] at hkl
   have hkln:kl.length=d.kids.length:=by rw[hkl,List.length_map]
   have hks:=OS.fsAt (I:=I1) (M:=kl'.blk 161++(os.blk 161++M0)) (e:=161) hk2 (fun x hx=>by simp[hx])
   refine CallOb.mk (kl'.blk 161++(os.blk 161++M0)) [] _ perm_nil (rNode_spec ⟨hk0,hk10⟩ hks (by omega) (fun h6=>by have:=fits_kid hk0 hft h6;omega) rule) ?_
   rintro v I3 M3 - ⟨rfl,rfl,rfl⟩
   rw[List.append_nil]
   refine AllocOb.mk fun b9 hb9 hbM9=>?_
   refine OtherOb.app1 TryzEOK rfl (by simp) (e:=161) rfl rfl rfl os hos rfl (cs:=(comeR d kl rule).cells) rfl rfl rfl (kl'.blk 161) M0 rfl (by omega) (by show (os.n+1) * 3≤_;omega) ?_
   intro os2 hn2 hI2 hok2
   refine ArithOb.mk _ (next_wr (i:=i) (by omega)) ?_
   refine⟨(i+1,os2),⟨⟨by simp only;omega,?_,hnx⟩,by simp only;omega⟩,.sub (List.sublist_append_right _ _) .refl,aF5,.cons rfl (.cons rfl (.nil))⟩
   simp only
   rw[hsn',flat_snoc,←hcome kl hkl]
   exact hok2
theorem RFTree_spec {I:GH} {M0:List Blk} {g:Gr} (hg:g.ok I) {t:Tr} (ht:t.ok I) {W:Nat} (hf:Fit t W) {la:Option Addr} {ln lc:Nat} {fl:List Fl} (hfl:FsAt I M0 la ln fl) :
  Spec Tryz.prog 105 [g.val,.slice la ln lc,t.val] I M0 fun v I' M'=>I'=I∧M'=M0 ∧
   v=.tuple #[((treeP g fl t).getD fl0).val,.bool (treeP g fl t).isSome]:=by
 refine spec_of_V [] TryzEOK Tryz.func105 rfl rfl rfl ?_
 intro B h0
 have htn:=ht.n
 refine CallOb.mk M0 [] _ perm_nil (RFNodes_spec hg ht hf hfl) ?_
 rintro v I1 M1 - ⟨rfl,⟨hn,rfl,rfl⟩ | ⟨r,os,hn,hos,rfl,rfl⟩⟩
 ·rw[List.append_nil]
  refine CondOb.mk (fun _=>?_) (fun h=>by simp at h)
  exact⟨_,_,.refl,rfl,rfl,by rw[treeP,hn];rfl⟩
 ·obtain⟨hr,hrl⟩:=nodesP_len hn
  have hroot:=right_root hr
  rw[List.append_nil]
  refine CondOb.mk (fun h=>by simp at h) (fun _=>?_)
  have hrl':t.root.toNat < r.length:=by omega
  have hosn:os.n=r.length:=by have:=hos.len;rw[fl_len] at this;omega
  obtain⟨ad,had,hrd⟩:=OS.ok.row (I:=I1) (M:=os.blk 161++M0) Fl.cells_len (by decide) hos (fun x hx=>List.mem_append.2 (.inl hx)) hrl'
  refine IdxOb.mk ad t.root.toNat had (by omega) (by omega) ?_
  refine LoadOb.mk _ hrd ?_
  refine⟨_,M0,.sub (List.sublist_append_right _ _) .refl,rfl,rfl,?_⟩
  rw[treeP,hn]
  simp only[Option.map_some,Option.getD_some,Option.isSome_some,List.getD_eq_getElem?_getD,List.getElem?_eq_getElem hrl']
  rfl
theorem findAt_of {nm:ByteArray} {ds:List Df} (h:(lookM nm (placesL ds)).isSome=true):∃ q:Nat,findAt nm ds 0=q∧q < ds.length∧((lookM nm (placesL ds)).getD 0).toNat=q:=by
 have hlk:=look_find nm ds
 cases hd:decide (findAt nm ds 0 < 0) with
 | true=>
  rw[hd,cond_true] at hlk
  rw[hlk] at h
  cases h
 | false=>
  rw[hd,cond_false] at hlk
  have h4:¬ findAt nm ds 0 < 0:=of_decide_eq_false hd
  obtain⟨q,hq⟩:=Int.eq_ofNat_of_zero_le (by omega:0≤findAt nm ds 0)
  have hlk':=hlk
  rw[places_first] at hlk'
  obtain⟨j,hj1,hj2⟩:=firstAt_lt hlk'
  refine⟨q,hq,by omega,?_⟩
  rw[hlk,hq]
  rfl
theorem RFind_fr {I:GH} {M0:List Blk} {g:Gr} (hg:g.ok I) (name:ByteArray) {q:Nat} (hq:findAt name g.ds 0=q):Spec Tryz.prog 104 [g.val,.string name] I M0 (fun v I' M'=>v=.int .i64 q∧I'=I∧M'=M0):=by
 refine Spec.weakK (Spec.frame (RFind_spec hg name)) ?_
 rintro v J M ⟨M',rfl,-,-,rfl,rfl,rfl⟩
 rw[hq]
 exact⟨rfl,rfl,rfl⟩
def Sy.marks (s:Sy) (i:Nat) (l:List Nat):Sy:=l.foldl (fun s k=>s.mark i k) s
theorem Sy.marks_app (s:Sy) (i:Nat) (l m:List Nat):s.marks i (l++m)=(s.marks i l).marks i m:=List.foldl_append
theorem Sy.marks_len:∀ (l:List Nat) (s:Sy) (i:Nat),(s.marks i l).m.length=s.m.length
 | [],s,i=>rfl
 | k::l,s,i=>by
  have:=Sy.marks_len l (s.mark i k) i
  unfold Sy.marks at this ⊢
  rw[List.foldl_cons,this]
  simp[Sy.mark]
def learnV (b1 b6 b7:Nat):Value:=.func (.func 109) #[] #[ptr b1,ptr b6,ptr b7]
set_option maxRecDepth 100000 in
set_option maxHeartbeats 8000000 in
theorem lefts_spec {I:GH} {g:Gr} (hg:g.ok I) (h64:g.n≤64) {t:Tr} (ht:t.ok I) (hkb:KB t) (hr:right t=true) (hno:namedOk (placesL g.ds) t.ns=true) {F:List Fl} {M1:List Blk} {b1 b6 b7 i:Nat} (hi:i < 64)
  (h1:(⟨b1,.cells #[.slice g.a g.n g.c] 24 (0,0)⟩:Blk)∈M1) (h7:(⟨b7,.cells #[.int .i64 i] 3 (0,0)⟩:Blk)∈M1) {xa:Option Addr} {xc:Nat} (hx:FsAt I M1 xa t.n (nodesF (placesL g.ds) F t.ns [])) :
  ∀ (m j:Nat),j < m→∀ (hj:j < t.ns.length) (s:Sy) (hs:s.m.length=64),Spec Tryz.prog 108 [t.val,.slice xa t.n xc,.int .i64 j,learnV b1 b6 b7] I (sBlk b6 s::M1) fun v I' M'=>I'=I∧M'=sBlk b6 (s.marks i (leftAt (placesL g.ds) F t.ns j).2)::M1
 | 0,j,h,_,_,_=>absurd h (Nat.not_lt_zero _)
 | m+1,j,hjm,hj,s,hs=>by
  have ih:=lefts_spec (b6:=b6) (xc:=xc) hg h64 ht hkb hr hno hi h1 h7 hx m
  have htn:=ht.n
  have hgn:=hg.n
  have hdm:=List.getElem_mem hj
  have hd:=ht.ns _ hdm
  have hkn:=hd.kn
  have hkbd:=hkb _ hdm
  have hfit:=right_fits hr hj
  have hfm:=fits_more hd.k.1 hfit
  have hkv:=right_kids hr j hj
  have hnm:=List.all_eq_true.1 hno _ hdm
  have hle:=left_eq (pl:=placesL g.ds) (F:=F) hr hj
  have hxl:=nodesF_len (placesL g.ds) F t.ns []
  simp only[List.length_nil,Nat.zero_add] at hxl
  obtain⟨ad,had,hrd⟩:=ht.rs.row Nd.cells_len (show j < t.n by omega) hj
  have hl2:(leftAt (placesL g.ds) F t.ns j).2=leftsD (placesL g.ds) t.ns[j] (t.ns[j].kids.map (leftAt (placesL g.ds) F t.ns)):=by rw[hle];rfl
  rw[hl2]
  clear hle hl2
  have hkid:∀ q (h:q < t.ns[j].kids.length),∃ k:Nat,t.ns[j].kids[q]=k∧k < j:=fun q h=>by
   have:=hkv _ (List.getElem_mem h)
   exact⟨t.ns[j].kids[q].toNat,by omega,by omega⟩
  generalize t.ns[j]=d at *
  refine spec_of_V [] TryzEOK Tryz.func108 rfl rfl rfl ?_
  intro B h0
  refine IdxOb.mk ad j had rfl (by omega) ?_
  refine LoadOb.mk _ (hrd _) ?_
  refine CondOb.mk (fun e=>?_) (fun e3=>?_)
  ·have e:d.k=3:=of_decide_eq_true e
   obtain⟨q,hq1,hq2,hq3⟩:=findAt_of (nm:=d.t) (ds:=g.ds) (by simpa[e] using hnm)
   refine CallOb.whole _ (learn1_spec hg hq1 (by omega) hi hs h1 h7) ?_
   rintro v J N - ⟨hJ,hN⟩
   subst J
   subst N
   refine⟨_,_,.refl,rfl,?_⟩
   rw[leftsD,decide_eq_true e,cond_true,hq3]
   rfl
  have e3:¬ d.k=3:=of_decide_eq_false e3
  refine CondOb.mk (fun e=>?_) (fun e4=>?_)
  ·have e:d.k=4:=of_decide_eq_true e
   have hlD:leftsD (placesL g.ds) d (d.kids.map (leftAt (placesL g.ds) F t.ns))=takeZ (d.kids.map (leftAt (placesL g.ds) F t.ns)):=by
    rw[leftsD,decide_eq_false e3,decide_eq_true e]
    rfl
   rw[hlD]
   refine LoopOb.inv (ι:=Nat×Sy) (fun x=>{ fl:=[(1,.val (.slice xa t.n xc)),(3,.val (learnV b1 b6 b7)),(4,.ref 4 0),(42,.val (.slice d.ka d.kn d.kc)),(43,.val (.int .i64 d.kn)),(44,.val (.int .i64 x.1))],cl:=[(4,t.cells)],gi:=I,mi:=sBlk b6 x.2::M1 })
    (fun x=>x.1≤d.kn∧x.2.m.length=64∧s.marks i (takeZ (d.kids.map (leftAt (placesL g.ds) F t.ns)))=x.2.marks i (takeZ ((d.kids.drop x.1).map (leftAt (placesL g.ds) F t.ns)))) (fun x=>d.kn - x.1) ?_ ?_
   ·exact⟨(0,s),⟨Nat.zero_le _,hs,rfl⟩,.refl,aF6,.cons rfl (.nil)⟩
   rintro⟨q,s'⟩ ⟨hq,hs',hgo⟩
   simp only at hq hs' hgo
   refine CondOb.mk (fun h=>?_) (fun h=>?_)
   rotate_left
   ·have hge:d.kids.length≤q:=by have:¬ (q:Int) < (d.kn:Int):=of_decide_eq_false h;omega
    rw[List.drop_of_length_le hge] at hgo
    refine⟨_,_,.refl,rfl,?_⟩
    rw[hgo]
    rfl
   have hlt:q < d.kn:=by have:(q:Int) < (d.kn:Int):=of_decide_eq_true h;omega
   have hlt':q < d.kids.length:=by omega
   obtain⟨ak,hak,hrk⟩:=hd.rs.one hlt hlt'
   obtain⟨k,hk,hkj⟩:=hkid q hlt'
   rw[hk] at hrk
   have hkx:k < (nodesF (placesL g.ds) F t.ns []).length:=by omega
   obtain⟨ax,hax,hrx⟩:=hx.rd k hkx
   have hdr:(d.kids.drop q).map (leftAt (placesL g.ds) F t.ns)=leftAt (placesL g.ds) F t.ns k::(d.kids.drop (q+1)).map (leftAt (placesL g.ds) F t.ns):=by
    rw[List.drop_eq_getElem_cons hlt',List.map_cons,hk]
   have hfl:(leftAt (placesL g.ds) F t.ns k).1=(nodesF (placesL g.ds) F t.ns [])[k]:=by
    rw[left_flow]
    simp[List.getD_eq_getElem?_getD,hkx]
   rw[hdr,takeZ,hfl,Sy.marks_app] at hgo
   refine IdxOb.mk ak q hak rfl hlt ?_
   refine LoadOb.mk _ (hrk _) ?_
   refine CallOb.whole _ (ih k (by omega) (by omega) s' hs') ?_
   rintro v J N - ⟨hJ,hN⟩
   subst J
   subst N
   refine IdxOb.mk ax k hax rfl (by omega) ?_
   refine LoadOb.mk _ ((hrx.sub fun x hx=>.tail _ hx).part (k:=0) (m:=1) (by decide)) ?_
   refine CondOb.mk (fun hz=>?_) (fun hz=>?_)
   ·have hz':(nodesF (placesL g.ds) F t.ns [])[k].z=false:=by simpa using hz
    rw[hz'] at hgo
    refine⟨_,_,.refl,rfl,?_⟩
    rw[hgo]
    rfl
   ·have hz':(nodesF (placesL g.ds) F t.ns [])[k].z=true:=by simpa using hz
    rw[hz'] at hgo
    refine ArithOb.mk _ (next_wr (i:=q) (by omega)) ?_
    exact⟨(q+1,s'.marks i (leftAt (placesL g.ds) F t.ns k).2),⟨⟨hlt,by rw[Sy.marks_len];exact hs',hgo⟩,by simp only;omega⟩,.refl,aF6,.cons rfl (.nil)⟩
  have e4:¬ d.k=4:=of_decide_eq_false e4
  refine CondOb.mk (fun e=>?_) (fun e6=>?_)
  ·have e:d.k=6:=of_decide_eq_true e
   have h1k:=hfm.one (by omega)
   have hk0:0 < d.kids.length:=by omega
   refine CondOb.mk (fun hh=>?_) (fun hh=>?_)
   ·have hh':decide (d.hi=0)=false:=by
     have hh2:(!decide (d.hi=0))=true:=hh
     simpa using hh2
    obtain⟨ak,hak,hrk⟩:=hd.rs.one (j:=0) (by omega) hk0
    obtain⟨k,hk,hkj⟩:=hkid 0 hk0
    rw[hk] at hrk
    have hlD:leftsD (placesL g.ds) d (d.kids.map (leftAt (placesL g.ds) F t.ns))=(leftAt (placesL g.ds) F t.ns k).2:=by
     have hkk:d.kids=[(k:Int)]:=by
      match hx:d.kids,hk0,h1k,hk with
      | [a],_,_,hk=>simp only[List.getElem_cons_zero] at hk;rw[hk]
      | _::_::_,_,h,_=>simp at h;omega
     rw[leftsD,decide_eq_false e3,decide_eq_false e4,hh',hkk]
     simp
    rw[hlD]
    refine CodeOb.draw TryzEOK rfl rfl rfl ?_
    refine IdxOb.mk ak 0 hak rfl (by omega) ?_
    refine LoadOb.mk _ (hrk _) ?_
    refine CallOb.whole _ (ih k (by omega) (by omega) s hs) ?_
    rintro v J N - ⟨hJ,hN⟩
    subst J
    subst N
    exact⟨_,_,.refl,rfl,rfl⟩
   ·have hh':decide (d.hi=0)=true:=by
     have hh2:(!decide (d.hi=0))=false:=hh
     simpa using hh2
    have hlD:leftsD (placesL g.ds) d (d.kids.map (leftAt (placesL g.ds) F t.ns))=[]:=by
     rw[leftsD,decide_eq_false e3,decide_eq_false e4,decide_eq_true e,hh']
     rfl
    rw[hlD]
    exact⟨_,_,.refl,rfl,rfl⟩
  have e6:¬ d.k=6:=of_decide_eq_false e6
  have hlD:leftsD (placesL g.ds) d (d.kids.map (leftAt (placesL g.ds) F t.ns))=(d.kids.map (leftAt (placesL g.ds) F t.ns)).flatMap (·.2):=by
   rw[leftsD,decide_eq_false e3,decide_eq_false e4,decide_eq_false e6]
   rfl
  rw[hlD]
  refine LoopOb.inv (ι:=Nat×Sy) (fun x=>{ fl:=[(1,.val (.slice xa t.n xc)),(3,.val (learnV b1 b6 b7)),(4,.ref 4 0),(21,.val (.slice d.ka d.kn d.kc)),(22,.val (.int .i64 d.kn)),(23,.val (.int .i64 x.1))],cl:=[(4,t.cells)],gi:=I,mi:=sBlk b6 x.2::M1 })
   (fun x=>x.1≤d.kn∧x.2.m.length=64∧s.marks i ((d.kids.map (leftAt (placesL g.ds) F t.ns)).flatMap (·.2))=x.2.marks i (((d.kids.drop x.1).map (leftAt (placesL g.ds) F t.ns)).flatMap (·.2))) (fun x=>d.kn - x.1) ?_ ?_
  ·exact⟨(0,s),⟨Nat.zero_le _,hs,rfl⟩,.refl,aF6,.cons rfl (.nil)⟩
  rintro⟨q,s'⟩ ⟨hq,hs',hgo⟩
  simp only at hq hs' hgo
  refine CondOb.mk (fun h=>?_) (fun h=>?_)
  rotate_left
  ·have hge:d.kids.length≤q:=by have:¬ (q:Int) < (d.kn:Int):=of_decide_eq_false h;omega
   rw[List.drop_of_length_le hge] at hgo
   refine⟨_,_,.refl,rfl,?_⟩
   rw[hgo]
   rfl
  have hlt:q < d.kn:=by have:(q:Int) < (d.kn:Int):=of_decide_eq_true h;omega
  have hlt':q < d.kids.length:=by omega
  obtain⟨ak,hak,hrk⟩:=hd.rs.one hlt hlt'
  obtain⟨k,hk,hkj⟩:=hkid q hlt'
  rw[hk] at hrk
  rw[List.drop_eq_getElem_cons hlt',List.map_cons,hk,List.flatMap_cons,Sy.marks_app] at hgo
  refine IdxOb.mk ak q hak rfl hlt ?_
  refine LoadOb.mk _ (hrk _) ?_
  refine CallOb.whole _ (ih k (by omega) (by omega) s' hs') ?_
  rintro v J N - ⟨hJ,hN⟩
  subst J
  subst N
  refine ArithOb.mk _ (next_wr (i:=q) (by omega)) ?_
  exact⟨(q+1,s'.marks i (leftAt (placesL g.ds) F t.ns k).2),⟨⟨hlt,by rw[Sy.marks_len];exact hs',hgo⟩,by simp only;omega⟩,.refl,aF6,.cons rfl (.nil)⟩
theorem Holds.permW {I:GH} {M N:List Blk} {w:World} (h:Holds I M w) (hp:M.Perm N):Holds I N w:=
 ⟨h.i,fun x hx=>h.m x (hp.mem_iff.2 hx),fun x hx=>h.d x (hp.mem_iff.2 hx),((hp.map (·.num)).nodup_iff).1 h.nd⟩
theorem Kept.permW {I I':GH} {M N M' N':List Blk} {w w':World} (h:Kept I M w I' M' w') (hp:M.Perm N) (hp':M'.Perm N'):Kept I N w I' N' w':=
 ⟨h.le,h.newI,fun x hx=>by
  rcases h.newM x (hp'.mem_iff.2 hx) with ⟨y,hy,e⟩ | h1
  ·exact .inl ⟨y,hp.mem_iff.1 hy,e⟩
  ·exact .inr h1,fun b hb hy=>h.old b hb fun y hy'=>hy y (hp.mem_iff.1 hy'),h.out,h.sz⟩
theorem Spec.permW {P:Program} {f:Nat} {args:List Value} {I:GH} {M N:List Blk} {p q:Value→GH→List Blk→Prop} (hp:M.Perm N) (hq:∀ v I' M',p v I' M'→∃ N',M'.Perm N'∧q v I' N') (h:Spec P f args I M p):Spec P f args I N q:=by
 rcases h with ⟨h1,h2⟩ | h2
 ·refine .inl ⟨h1,fun w hw=>(h2 w (hw.permW hp.symm)).mono ?_⟩
  rintro e w' ⟨v,I',M',h3,h4,h5,h6⟩
  obtain⟨N',h7,h8⟩:=hq _ _ _ h4
  exact⟨v,I',N',h3,h8,h5.permW h7,h6.permW hp h7⟩
 ·refine .inr fun w hw=>?_
  obtain⟨v,w',I',M',h3,h4,h5,h6⟩:=h2 w (hw.permW hp.symm)
  obtain⟨N',h7,h8⟩:=hq _ _ _ h4
  exact⟨v,w',I',N',h3,h8,h5.permW h7,h6.permW hp h7⟩
def Sy.loop (s:Sy) (i:Nat):Sy:=⟨s.n,s.m,s.w ||| bitW i⟩
def stepS (pl:List (ByteArray×Int)) (F:List Fl) (s:Sy) (i:Nat) (d:Df):Sy:=
 bif endlessN d.t.ns (nodesF pl F d.t.ns []) then (s.marks i (leftAt pl F d.t.ns d.t.root).2).loop i else s.marks i (leftAt pl F d.t.ns d.t.root).2
def sy0 (n:Nat):Sy:=⟨n,List.replicate 64 0,0⟩
def syGo (pl:List (ByteArray×Int)) (F:List Fl):Nat→List Df→Sy→Sy
 | _,[],s=>s
 | i,d::ds,s=>syGo pl F (i+1) ds (stepS pl F s i d)
def syOf (ds:List Df) (F:List Fl):Sy:=syGo (placesL ds) F 0 ds (sy0 ds.length)
theorem stepS_len (pl:List (ByteArray×Int)) (F:List Fl) (s:Sy) (i:Nat) (d:Df):(stepS pl F s i d).m.length=s.m.length:=by
 unfold stepS
 cases endlessN d.t.ns (nodesF pl F d.t.ns []) with
 | true=>exact Sy.marks_len _ s i
 | false=>exact Sy.marks_len _ s i
theorem syGo_snoc (pl:List (ByteArray×Int)) (F:List Fl):∀ (l:List Df) (i:Nat) (s:Sy) (d:Df),syGo pl F i (l++[d]) s=stepS pl F (syGo pl F i l s) (i+l.length) d
 | [],i,s,d=>rfl
 | a::l,i,s,d=>by
  rw[List.cons_append,syGo,syGo,syGo_snoc pl F l]
  congr 1
  simp
  omega
theorem syGo_len (pl:List (ByteArray×Int)) (F:List Fl):∀ (l:List Df) (i:Nat) (s:Sy),(syGo pl F i l s).m.length=s.m.length
 | [],i,s=>rfl
 | d::l,i,s=>by rw[syGo,syGo_len pl F l,stepS_len]
theorem sBlk_w {I:GH} {M:List Blk} {b:Nat} {s:Sy} (hM:sBlk b s∈M):Rd I M ((⟨b,0,none⟩:Addr).add 65) 1 [wordV s.w]:=by
 rw[addr_add _ rfl]
 refine⟨rfl,_,_,_,.inr ⟨_,hM,rfl,rfl⟩,?_,rfl⟩
 show (s.cells.drop (0+65)).take 1=_
 rw[Sy.cells,Nat.zero_add,List.drop_succ_cons,List.drop_left' (rowC_len _)]
 rfl
theorem sBlk_loop (s:Sy) (i:Nat):splice s.cells (0+65) [wordV (s.w ||| bitW i)]=(s.loop i).cells:=by
 unfold Sy.cells Sy.loop splice
 simp only[Nat.zero_add,List.length_cons,List.length_nil]
 rw[List.take_succ_cons,List.take_left' (rowC_len _),List.drop_succ_cons,List.drop_of_length_le (by simp[rowC_len])]
 simp
theorem sBlk_all {I:GH} {M:List Blk} {b:Nat} {s:Sy} (hM:sBlk b s∈M):Rd I M (⟨b,0,none⟩:Addr) 66 s.cells:=
 ⟨rfl,_,_,_,.inr ⟨_,hM,rfl,rfl⟩,by simp only[List.drop_zero];exact List.take_of_length_le (show s.cells.length≤66 by rw[Sy.cells_len];exact Nat.le_refl _),Sy.cells_len s⟩
set_option maxRecDepth 100000 in
set_option maxHeartbeats 8000000 in
theorem learn_spec {I:GH} {deb:List Int} (hT:Tabs I deb) {g:Gr} (hg:g.ok I) (hkb:∀ d∈g.ds,KB d.t) (h64:mayG deb g=0→g.n≤64):Spec Tryz.prog 65 [g.val] I [] fun v I' M'=>(∀ b o,I b=some o→I' b=some o)∧M'=[] ∧
  ((mayG deb g≠0∧v=.tuple #[(sy0 0).val,.int .i64 (mayG deb g)])∨(mayG deb g=0∧∃ F,IsFlow g.ds F∧v=.tuple #[(syOf g.ds F).val,.int .i64 0])):=by
 refine spec_of_V [1,2,6,7] TryzEOK Tryz.func65 rfl rfl rfl ?_
 intro B h0
 have hgn:=hg.n
 have hcap:=hg.rs.cap
 refine AllocOb.mk fun b1 hb1 hbM1=>?_
 refine AllocOb.mk fun b2 hb2 hbM2=>?_
 refine LoadOb.mk [.slice g.a g.n g.c] (blk_rd (cs:=[.slice g.a g.n g.c]) (k:=0) (n:=1) (.tail _ (.head _)) (by simp)) ?_
 refine CallOb.mk [] [sBlk b2 (sy0 0),⟨b1,.cells #[.slice g.a g.n g.c] 24 (0,0)⟩] _ (.refl _) (FOf_spec hT hg) ?_
 rintro v I1 N - ⟨hI1,⟨hm,rfl,rfl⟩ | ⟨hm,bf,F,rfl,rfl,hF⟩⟩
 ·refine CondOb.mk (fun _=>?_) (fun h=>absurd h (by simp[hm]))
  refine StoreOb.to [] _ _ _ rfl rfl rfl rfl (sy0 0).cells rfl ?_
  refine LoadOb.mk _ (sBlk_all (.head _)) ?_
  exact⟨_,_,.sub (List.nil_sublist _) .refl,hI1,rfl,.inl ⟨hm,rfl⟩⟩
 refine CondOb.mk (fun h=>absurd h (by simp)) (fun _=>?_)
 have hM:=mayF_of hgn hm
 have hFn:F.length=g.n:=by rw[hF.len,hgn]
 have hn64:=h64 hm
 refine LoadOb.mk [.slice g.a g.n g.c] (blk_rd (cs:=[.slice g.a g.n g.c]) (k:=0) (n:=1) (.tail _ (.tail _ (.head _))) (by simp)) ?_
 refine AllocOb.mk fun b6 hb6 hbM6=>?_
 refine StoreOb.to [] _ _ _ rfl rfl rfl rfl (sy0 g.n).cells rfl ?_
 refine LoadOb.mk [.slice g.a g.n g.c] (blk_rd (cs:=[.slice g.a g.n g.c]) (k:=0) (n:=1) (.tail _ (.tail _ (.tail _ (.head _)))) (by simp)) ?_
 refine LoopOb.inv (ι:=Nat×GH) (fun x=>{ fl:=[(1,.val (ptr b1)),(2,.val (ptr b2)),(4,.val (.slice (some ⟨bf,0,none⟩) g.n g.n)),(6,.val (ptr b6)),(25,.val (.slice g.a g.n g.c)),(26,.val (.int .i64 g.n)),(27,.val (.int .i64 x.1))],cl:=[],gi:=x.2,mi:=[sBlk b6 (syGo (placesL g.ds) F 0 (g.ds.take x.1) (sy0 g.n)),flRow bf F,sBlk b2 (sy0 0),⟨b1,.cells #[.slice g.a g.n g.c] 24 (0,0)⟩] })
  (fun x=>x.1≤g.n∧∀ b o,I b=some o→x.2 b=some o) (fun x=>g.n - x.1) ?_ ?_
 ·exact⟨(0,I1),⟨Nat.zero_le _,hI1⟩,.refl,aF7,.nil⟩
 rintro⟨i,J⟩ ⟨hi,hJ⟩
 simp only at hi hJ
 refine CondOb.mk (fun h=>?_) (fun h=>?_)
 rotate_left
 ·have hge:i=g.n:=by have:¬ (i:Int) < (g.n:Int):=of_decide_eq_false h;omega
  refine LoadOb.mk _ (sBlk_all (.head _)) ?_
  refine StoreOb.to [sBlk b6 (syGo (placesL g.ds) F 0 (g.ds.take i) (sy0 g.n)),flRow bf F] _ _ _ rfl rfl rfl rfl (syGo (placesL g.ds) F 0 (g.ds.take i) (sy0 g.n)).cells ?_ ?_
  ·rfl
  refine LoadOb.mk _ (sBlk_all (.tail _ (.tail _ (.head _)))) ?_
  refine⟨_,_,.sub (List.nil_sublist _) .refl,hJ,rfl,.inr ⟨hm,F,hF,?_⟩⟩
  rw[hge,List.take_of_length_le (l:=g.ds) (by omega),syOf,hgn]
  rfl
 have hlt:i < g.n:=by have:(i:Int) < (g.n:Int):=of_decide_eq_true h;omega
 have hlt':i < g.ds.length:=by omega
 have hgJ:=hg.mono hJ
 have hTJ:=hT.mono hJ
 obtain⟨ad,had,hrd⟩:=hgJ.rs.row Df.cells_len hlt hlt'
 have hdm:=List.getElem_mem hlt'
 have hd:=hgJ.ds _ hdm
 have hr:=hM.right _ hdm
 have hno:=hM.named _ hdm
 have hkbd:=hkb _ hdm
 have hsn:syGo (placesL g.ds) F 0 (g.ds.take (i+1)) (sy0 g.n)=stepS (placesL g.ds) F (syGo (placesL g.ds) F 0 (g.ds.take i) (sy0 g.n)) i g.ds[i]:=by
  rw[List.take_succ_eq_append_getElem hlt',syGo_snoc,List.length_take_of_le (by omega),Nat.zero_add]
 have hsl:(syGo (placesL g.ds) F 0 (g.ds.take i) (sy0 g.n)).m.length=64:=by rw[syGo_len];rfl
 generalize g.ds[i]=d at hrd hd hr hno hkbd hsn
 refine IdxOb.mk ad i had rfl hlt ?_
 refine LoadOb.mk _ (hrd _) ?_
 refine AllocOb.mk fun b7 hb7 hbM7=>?_
 refine StoreOb.to [] _ _ _ rfl rfl rfl rfl [.int .i64 i] rfl ?_
 refine LoadOb.mk [.slice g.a g.n g.c] (blk_rd (cs:=[.slice g.a g.n g.c]) (k:=0) (n:=1) (.tail _ (.tail _ (.tail _ (.tail _ (.head _))))) (by simp)) ?_
 generalize hsv:syGo (placesL g.ds) F 0 (g.ds.take i) (sy0 g.n)=s at hsl hsn ⊢
 have hat:∀ {M:List Blk},flRow bf F∈M→FsAt J M (some ⟨bf,0,none⟩) g.n F:=fun hM'=>by
  have:=flRow_at (I:=J) hM'
  rwa [hFn] at this
 have hnp:nodesP g F d.t=some (nodesF (placesL g.ds) F d.t.ns []):=by
  rw[nodesP,hr,hno,decide_eq_true hFn]
  rfl
 refine CallOb.whole _ (FNodes_spec (lc:=g.n) hTJ hgJ hd.t (hat (.tail _ (.tail _ (.head _))))) ?_
 rintro v J2 M2 - ⟨hJ2,⟨hn,-,-⟩ | ⟨r,bx,hn,rfl,rfl⟩⟩
 ·rw[hnp] at hn;cases hn
 rw[hnp] at hn
 obtain rfl:=Option.some.inj hn
 refine GuardOb.mk (fun h=>?_) (fun h=>?_)
 rotate_left
 ·cases h
 refine CondOb.mk (fun h=>absurd h (by simp)) (fun _=>?_)
 have hroot:=right_root hr
 have hls:=lefts_spec (b1:=b1) (b6:=b6) (b7:=b7) (i:=i) (xa:=some ⟨bx,0,none⟩) (xc:=d.t.n) (F:=F) (hgJ.mono hJ2) hn64 (hd.t.mono hJ2) hkbd hr hno (by omega) (M1:=[flRow bx (nodesF (placesL g.ds) F d.t.ns []),⟨b7,.cells #[.int .i64 i] 3 (0,0)⟩,flRow bf F,sBlk b2 (sy0 0),⟨b1,.cells #[.slice g.a g.n g.c] 24 (0,0)⟩]) (.tail _ (.tail _ (.tail _ (.tail _ (.head _))))) (.tail _ (.head _)) (by
  have:=flRow_at (I:=J2) (M:=[flRow bx (nodesF (placesL g.ds) F d.t.ns []),⟨b7,.cells #[.int .i64 i] 3 (0,0)⟩,flRow bf F,sBlk b2 (sy0 0),⟨b1,.cells #[.slice g.a g.n g.c] 24 (0,0)⟩]) (b:=bx) (l:=nodesF (placesL g.ds) F d.t.ns []) (.head _)
  rw[nodesF_len,hd.t.n] at this
  simpa using this) d.t.ns.length d.t.root.toNat (by omega) (by omega) s hsl
 rw[Int.toNat_of_nonneg hroot.1] at hls
 have hls2:=Spec.permW (q:=fun v I' M'=>I'=J2∧M'=sBlk b6 (s.marks i (leftAt (placesL g.ds) F d.t.ns d.t.root.toNat).2)::[flRow bx (nodesF (placesL g.ds) F d.t.ns []),⟨b7,.cells #[.int .i64 i] 3 (0,0)⟩,flRow bf F,sBlk b2 (sy0 0),⟨b1,.cells #[.slice g.a g.n g.c] 24 (0,0)⟩]) (List.perm_middle (a:=sBlk b6 s) (l₁:=[flRow bx (nodesF (placesL g.ds) F d.t.ns []),⟨b7,.cells #[.int .i64 i] 3 (0,0)⟩]) (l₂:=[flRow bf F,sBlk b2 (sy0 0),⟨b1,.cells #[.slice g.a g.n g.c] 24 (0,0)⟩])).symm (fun v I' M' h=>⟨M',.refl _,h⟩) hls
 refine CallOb.whole _ hls2 ?_
 rintro v J3 N - ⟨hJ3,hN⟩
 subst J3
 subst N
 generalize hs1:s.marks i (leftAt (placesL g.ds) F d.t.ns d.t.root.toNat).2=s1 at *
 have hs1l:s1.m.length=64:=by rw[←hs1,Sy.marks_len,hsl]
 refine CallOb.whole _ (endless_spec (xs:=nodesF (placesL g.ds) F d.t.ns []) (hd.t.mono hJ2) hr ?_) ?_
 ·have:=flRow_at (I:=J2) (M:=sBlk b6 s1::[flRow bx (nodesF (placesL g.ds) F d.t.ns []),⟨b7,.cells #[.int .i64 i] 3 (0,0)⟩,flRow bf F,sBlk b2 (sy0 0),⟨b1,.cells #[.slice g.a g.n g.c] 24 (0,0)⟩]) (b:=bx) (l:=nodesF (placesL g.ds) F d.t.ns []) (.tail _ (.head _))
  rw[nodesF_len,hd.t.n] at this
  simpa using this
 rintro v J3 N - ⟨hv,hJ3,hN⟩
 subst J3
 subst N
 subst v
 have hst:(sBlk b6 (stepS (placesL g.ds) F s i d))=(sBlk b6 (bif endlessN d.t.ns (nodesF (placesL g.ds) F d.t.ns []) then s1.loop i else s1)):=by
  rw[stepS,←hs1]
  rfl
 refine CondOb.mk (fun he=>?_) (fun he=>?_)
 rotate_left
 ·have he':endlessN d.t.ns (nodesF (placesL g.ds) F d.t.ns [])=false:=he
  refine ArithOb.mk _ (next_wr (i:=i) (by omega)) ?_
  refine⟨(i+1,J2),⟨⟨hlt,fun b o h=>hJ2 _ _ (hJ _ _ h)⟩,by simp only;omega⟩,.sub (.cons_cons _ (.cons _ (.cons _ (.refl _)))) (.eqM ?_),aF7,.nil⟩
  simp only
  rw[hsn,hst,he']
  rfl
 have he':endlessN d.t.ns (nodesF (placesL g.ds) F d.t.ns [])=true:=he
 refine CodeOb.draw TryzEOK rfl rfl rfl ?_
 refine LoadOb.mk _ (sBlk_w (.head _)) ?_
 refine LoadOb.mk [.int .i64 i] (blk_rd (cs:=[.int .i64 i]) (k:=0) (n:=1) (.tail _ (.tail _ (.head _))) (by simp)) ?_
 refine ShOb.mk i rfl ?_
 refine ArithOb.mk _ (shl_wr (by omega)) ?_
 refine StoreOb.addTo [] _ s1.cells _ rfl ?_ rfl (s1.loop i).cells ?_ ?_
 ·rw[Sy.cells_len]
  rfl
 ·show splice s1.cells (0+65) [Value.int .u64 (worV s1.w.toNat (bitW i).toNat)]=_
  rw[worV_bv]
  exact sBlk_loop s1 i
 refine ArithOb.mk _ (next_wr (i:=i) (by omega)) ?_
 refine⟨(i+1,J2),⟨⟨hlt,fun b o h=>hJ2 _ _ (hJ _ _ h)⟩,by simp only;omega⟩,.sub (.cons_cons _ (.cons _ (.cons _ (.refl _)))) (.eqM ?_),aF7,.nil⟩
 simp only
 rw[hsn,hst,he']
 rfl
def intsV (l:List Nat):List Value:=l.map fun n:Nat=>Value.int .i64 n
def wLefts (s:Sy) (k:Nat):List Nat:=bitsOf (s.m.getD k 0) 64
def wLoops (s:Sy):List Nat:=bitsOf s.w 64
open Classical in
noncomputable def wLeft (s:Sy):List Nat:=(List.range 64).filter fun i=>decide (ComesM s.m i i)
theorem wLeft_of {s:Sy} {b:W64} (h:∀ i,i < 64→(b.getLsbD i=true ↔ ComesM s.m i i)):bitsOf b 64=wLeft s:=by
 unfold bitsOf wLeft
 apply List.filter_congr
 intro i hi
 have:=h i (by simpa using hi)
 by_cases hc:ComesM s.m i i
 ·simp[hc,this.2 hc]
 ·have:b.getLsbD i=false:=by
   cases hb:b.getLsbD i with
   | false=>rfl
   | true=>exact absurd (this.1 hb) hc
  simp[hc,this]
theorem syGo_n (pl:List (ByteArray×Int)) (F:List Fl):∀ (l:List Df) (i:Nat) (s:Sy),(syGo pl F i l s).n=s.n
 | [],i,s=>rfl
 | d::l,i,s=>by
  rw[syGo,syGo_n pl F l]
  have hm:∀ (q:List Nat) (s:Sy),(s.marks i q).n=s.n:=fun q=>by
   induction q with
   | nil=>exact fun s=>rfl
   | cons k q ih=>exact fun s=>ih (s.mark i k)
  unfold stepS
  cases endlessN d.t.ns (nodesF pl F d.t.ns []) with
  | true=>exact hm _ s
  | false=>exact hm _ s
theorem syOf_n (ds:List Df) (F:List Fl):(syOf ds F).n=ds.length:=syGo_n _ _ _ _ _
theorem syOf_len (ds:List Df) (F:List Fl):(syOf ds F).m.length=64:=by rw[syOf,syGo_len];rfl
theorem sBlk_n {I:GH} {M:List Blk} {b:Nat} {s:Sy} (hM:sBlk b s∈M):Rd I M (⟨b,0,none⟩:Addr) 1 [.int .i64 s.n]:=
 ⟨rfl,_,_,_,.inr ⟨_,hM,rfl,rfl⟩,rfl,rfl⟩
set_option maxHeartbeats 4000000 in
theorem WLefts_spec {I:GH} {deb:List Int} (hT:Tabs I deb) {g:Gr} (hg:g.ok I) (hkb:∀ d∈g.ds,KB d.t) (h64:mayG deb g=0→g.n≤64) (r:Int):Spec Tryz.prog 26 [g.val,.int .i64 r] I [] fun v I' M'=>(∀ b o,I b=some o→I' b=some o) ∧
  ∃ (os:OS) (l:List Nat),os.ok 1 (intsV l)∧v=os.val∧M'=os.blk 3++[]∧(((mayG deb g≠0∨r < 0∨(g.n:Int)≤r)∧l=[])∨(mayG deb g=0∧∃ F k,r=(k:Nat)∧k < g.n∧IsFlow g.ds F∧l=wLefts (syOf g.ds F) k)):=by
 refine spec_of_V [5] TryzEOK Tryz.func26 rfl rfl rfl ?_
 intro B h0
 have hgn:=hg.n
 refine CallOb.mk [] [] _ (.refl _) (learn_spec hT hg hkb h64) ?_
 rintro v I1 N - ⟨hI1,rfl,⟨hm,rfl⟩ | ⟨hm,F,hF,rfl⟩⟩
 ·refine AllocOb.mk fun b5 hb5 hbM5=>?_
  refine StoreOb.to [] _ _ _ rfl rfl rfl rfl (sy0 0).cells rfl ?_
  refine GuardOb.mk (fun h=>?_) (fun h=>?_)
  ·exact absurd h (by simp[hm])
  exact⟨_,_,.sub (List.nil_sublist _) .refl,hI1,OS0,[],OS0_ok 1,rfl,rfl,.inl ⟨.inl hm,rfl⟩⟩
 refine AllocOb.mk fun b5 hb5 hbM5=>?_
 refine StoreOb.to [] _ _ _ rfl rfl rfl rfl (syOf g.ds F).cells rfl ?_
 have hsn:=syOf_n g.ds F
 have hsl:=syOf_len g.ds F
 generalize hs:syOf g.ds F=s at hsn hsl
 refine GuardOb.mk (fun _=>?_) (fun h=>by cases h)
 refine GuardOb.mk (fun h1=>?_) (fun h1=>?_)
 rotate_left
 ·have h1':r < 0:=by have:decide (r < 0)=true:=h1;simpa using this
  exact⟨_,_,.sub (List.nil_sublist _) .refl,hI1,OS0,[],OS0_ok 1,rfl,rfl,.inl ⟨.inr (.inl h1'),rfl⟩⟩
 have h1':¬ r < 0:=by have:decide (r < 0)=false:=h1;simpa using this
 refine LoadOb.mk _ (sBlk_n (.head _)) ?_
 refine CondOb.mk (fun h2=>?_) (fun h2=>?_)
 ·have h2':(s.n:Int)≤r:=of_decide_eq_true h2
  exact⟨_,_,.sub (List.nil_sublist _) .refl,hI1,OS0,[],OS0_ok 1,rfl,rfl,.inl ⟨.inr (.inr (by omega)),rfl⟩⟩
 have h2':¬ (s.n:Int)≤r:=of_decide_eq_false h2
 have hn:=h64 hm
 obtain⟨k,rfl⟩:∃ k:Nat,r=k:=⟨r.toNat,by omega⟩
 refine ArrOb.mk k rfl (by omega) ?_
 refine LoadOb.mk _ (sBlk_m (.head _) (by omega)) ?_
 refine CallOb.whole _ (wlist_spec (s.m.getD k 0)) ?_
 rintro v J N - ⟨rfl,os,hos,rfl,rfl⟩
 refine⟨_,_,.sub (List.sublist_append_left _ _) .refl,hI1,os,_,hos,rfl,by rw[List.append_nil],.inr ⟨hm,F,k,rfl,by omega,hF,?_⟩⟩
 rw[hs]
 rfl
set_option maxHeartbeats 4000000 in
theorem WLeft_spec {I:GH} {deb:List Int} (hT:Tabs I deb) {g:Gr} (hg:g.ok I) (hkb:∀ d∈g.ds,KB d.t) (h64:mayG deb g=0→g.n≤64):Spec Tryz.prog 24 [g.val] I [] fun v I' M'=>(∀ b o,I b=some o→I' b=some o) ∧
  ∃ (os:OS) (l:List Nat),os.ok 1 (intsV l)∧v=os.val∧M'=os.blk 3++[]∧((mayG deb g≠0∧l=[])∨(mayG deb g=0∧∃ F,IsFlow g.ds F∧l=wLeft (syOf g.ds F))):=by
 refine spec_of_V [3] TryzEOK Tryz.func24 rfl rfl rfl ?_
 intro B h0
 have hgn:=hg.n
 refine CallOb.mk [] [] _ (.refl _) (learn_spec hT hg hkb h64) ?_
 rintro v I1 N - ⟨hI1,rfl,⟨hm,rfl⟩ | ⟨hm,F,hF,rfl⟩⟩
 ·refine AllocOb.mk fun b5 hb5 hbM5=>?_
  refine StoreOb.to [] _ _ _ rfl rfl rfl rfl (sy0 0).cells rfl ?_
  refine CondOb.mk (fun h=>?_) (fun h=>absurd h (by simp[hm]))
  exact⟨_,_,.sub (List.nil_sublist _) .refl,hI1,OS0,[],OS0_ok 1,rfl,rfl,.inl ⟨hm,rfl⟩⟩
 refine AllocOb.mk fun b5 hb5 hbM5=>?_
 refine StoreOb.to [] _ _ _ rfl rfl rfl rfl (syOf g.ds F).cells rfl ?_
 have hsn:=syOf_n g.ds F
 have hsl:=syOf_len g.ds F
 have hn:=h64 hm
 generalize hs:syOf g.ds F=s at hsn hsl
 refine CondOb.mk (fun h=>absurd h (by simp)) (fun _=>?_)
 refine LoadOb.mk _ (sBlk_all (.head _)) ?_
 refine CallOb.whole _ (left_spec s ⟨hsl,by omega⟩) ?_
 rintro v J N - ⟨rfl,rfl,b,rfl,hb⟩
 refine CallOb.whole _ (wlist_spec b) ?_
 rintro v J N - ⟨rfl,os,hos,rfl,rfl⟩
 refine⟨_,_,.sub (List.sublist_append_left _ _) .refl,hI1,os,_,hos,rfl,by rw[List.append_nil],.inr ⟨hm,F,hF,?_⟩⟩
 rw[hs]
 exact wLeft_of hb
set_option maxHeartbeats 4000000 in
theorem WLoops_spec {I:GH} {deb:List Int} (hT:Tabs I deb) {g:Gr} (hg:g.ok I) (hkb:∀ d∈g.ds,KB d.t) (h64:mayG deb g=0→g.n≤64):Spec Tryz.prog 25 [g.val] I [] fun v I' M'=>(∀ b o,I b=some o→I' b=some o) ∧
  ∃ (os:OS) (l:List Nat),os.ok 1 (intsV l)∧v=os.val∧M'=os.blk 3++[]∧((mayG deb g≠0∧l=[])∨(mayG deb g=0∧∃ F,IsFlow g.ds F∧l=wLoops (syOf g.ds F))):=by
 refine spec_of_V [3] TryzEOK Tryz.func25 rfl rfl rfl ?_
 intro B h0
 have hgn:=hg.n
 refine CallOb.mk [] [] _ (.refl _) (learn_spec hT hg hkb h64) ?_
 rintro v I1 N - ⟨hI1,rfl,⟨hm,rfl⟩ | ⟨hm,F,hF,rfl⟩⟩
 ·refine AllocOb.mk fun b5 hb5 hbM5=>?_
  refine StoreOb.to [] _ _ _ rfl rfl rfl rfl (sy0 0).cells rfl ?_
  refine CondOb.mk (fun h=>?_) (fun h=>absurd h (by simp[hm]))
  exact⟨_,_,.sub (List.nil_sublist _) .refl,hI1,OS0,[],OS0_ok 1,rfl,rfl,.inl ⟨hm,rfl⟩⟩
 refine AllocOb.mk fun b5 hb5 hbM5=>?_
 refine StoreOb.to [] _ _ _ rfl rfl rfl rfl (syOf g.ds F).cells rfl ?_
 have hsn:=syOf_n g.ds F
 have hsl:=syOf_len g.ds F
 have hn:=h64 hm
 generalize hs:syOf g.ds F=s at hsn hsl
 refine CondOb.mk (fun h=>absurd h (by simp)) (fun _=>?_)
 refine LoadOb.mk _ (sBlk_w (.head _)) ?_
 refine CallOb.whole _ (wlist_spec s.w) ?_
 rintro v J N - ⟨rfl,os,hos,rfl,rfl⟩
 refine⟨_,_,.sub (List.sublist_append_left _ _) .refl,hI1,os,_,hos,rfl,by rw[List.append_nil],.inr ⟨hm,F,hF,?_⟩⟩
 rw[hs]
 rfl
noncomputable def whereW (e:Int) (s:Sy):Int×Int:=
 if e≠0 then (0,e) else if 0 < (wLeft s).length then (((wLeft s).headD 0:Nat),42) else if 0 < (wLoops s).length then (((wLoops s).headD 0:Nat),43) else (0,0)
theorem OS.pos {os:OS} {l:List Nat} (h:os.ok 1 (intsV l)):l.length=os.n:=by
 have:=h.len
 simpa[intsV] using this
theorem os_head {I:GH} {M M0:List Blk} {os:OS} {l:List Nat} {e:Nat} (h:os.ok 1 (intsV l)) (hl:0 < l.length) (hM:os.blk e++M0=M):∃ ad,os.a.map (fun g=>(⟨g,0,none⟩:Addr))=some ad∧Rd I M (ad.add (0 * 1)) 1 [.int .i64 (l.headD 0:Nat)]:=by
 have hp:=OS.pos h
 cases ha:os.a with
 | none=>have:=(h.nil ha).1;omega
 | some b=>
  obtain⟨h1,h2,h3,h4⟩:=h.cap b ha
  refine⟨⟨b,0,none⟩,rfl,?_⟩
  subst hM
  cases l with
  | nil=>simp at hl
  | cons a l=>
   cases hc:os.cur with
   | nil=>rw[hc] at h4;simp[intsV] at h4
   | cons x xs=>
    rw[hc] at h4
    have hn:os.n * 1=(os.n - 1)+1:=by omega
    rw[hn,List.take_succ_cons] at h4
    have hx:x=.int .i64 a:=(List.cons.inj h4).1
    refine⟨rfl,_,_,_,.inr ⟨⟨b,.cells os.cur.toArray e (0,0)⟩,?_,rfl,rfl⟩,?_,rfl⟩
    ·unfold OS.blk
     rw[ha]
     exact .head _
    ·rw[hc,hx]
     rfl
set_option maxHeartbeats 4000000 in
theorem WWhere_spec {I:GH} {deb:List Int} (hT:Tabs I deb) {g:Gr} (hg:g.ok I) (hkb:∀ d∈g.ds,KB d.t) (h64:mayG deb g=0→g.n≤64):Spec Tryz.prog 20 [g.val] I [] fun v I' M'=>(∀ b o,I b=some o→I' b=some o)∧M'=[] ∧
  ∃ r:Int×Int,v=.tuple #[.int .i64 r.1,.int .i64 r.2]∧((mayG deb g≠0∧r=(0,mayG deb g))∨(mayG deb g=0∧∃ F,IsFlow g.ds F∧r=whereW 0 (syOf g.ds F))):=by
 refine spec_of_V [4] TryzEOK Tryz.func20 rfl rfl rfl ?_
 intro B h0
 have hgn:=hg.n
 refine CallOb.mk [] [] _ (.refl _) (learn_spec hT hg hkb h64) ?_
 rintro v I1 N - ⟨hI1,rfl,⟨hm,rfl⟩ | ⟨hm,F,hF,rfl⟩⟩
 ·refine AllocOb.mk fun b5 hb5 hbM5=>?_
  refine StoreOb.to [] _ _ _ rfl rfl rfl rfl (sy0 0).cells rfl ?_
  refine CondOb.mk (fun h=>?_) (fun h=>absurd h (by simp[hm]))
  exact⟨_,_,.sub (List.nil_sublist _) .refl,hI1,rfl,(0,mayG deb g),rfl,.inl ⟨hm,rfl⟩⟩
 refine AllocOb.mk fun b5 hb5 hbM5=>?_
 refine StoreOb.to [] _ _ _ rfl rfl rfl rfl (syOf g.ds F).cells rfl ?_
 have hsn:=syOf_n g.ds F
 have hsl:=syOf_len g.ds F
 have hn:=h64 hm
 generalize hs:syOf g.ds F=s at hsn hsl
 refine CondOb.mk (fun h=>absurd h (by simp)) (fun _=>?_)
 refine LoadOb.mk _ (sBlk_all (.head _)) ?_
 refine CallOb.whole _ (left_spec s ⟨hsl,by omega⟩) ?_
 rintro v J N - ⟨rfl,rfl,b,rfl,hb⟩
 refine CallOb.whole _ (wlist_spec b) ?_
 rintro v J N - ⟨rfl,os,hos,rfl,rfl⟩
 have hos:os.ok 1 (intsV (wLeft s)):=by rw[←wLeft_of hb];exact hos
 have hp:=OS.pos hos
 refine CondOb.mk (fun h=>?_) (fun h=>?_)
 ·have h':0 < (wLeft s).length:=by have:(0:Int) < (os.n:Int):=of_decide_eq_true h;omega
  obtain⟨ad,had,hrd⟩:=os_head (I:=J) hos h' rfl
  refine IdxOb.mk ad 0 had rfl (by omega) ?_
  refine LoadOb.mk _ hrd ?_
  exact⟨_,_,.sub (List.nil_sublist _) .refl,hI1,rfl,(((wLeft s).headD 0:Nat),42),rfl,.inr ⟨hm,F,hF,by rw[hs,whereW,if_neg (by simp),if_pos h']⟩⟩
 have h':¬ 0 < (wLeft s).length:=by have:¬ (0:Int) < (os.n:Int):=of_decide_eq_false h;omega
 refine LoadOb.mk _ (sBlk_w (List.mem_append_right _ (.head _))) ?_
 refine CallOb.whole _ (wlist_spec s.w) ?_
 rintro v J2 N - ⟨rfl,ot,hot,rfl,rfl⟩
 have hot:ot.ok 1 (intsV (wLoops s)):=hot
 have hp2:=OS.pos hot
 refine CondOb.mk (fun h=>?_) (fun h=>?_)
 ·have h2:0 < (wLoops s).length:=by have:(0:Int) < (ot.n:Int):=of_decide_eq_true h;omega
  obtain⟨ad,had,hrd⟩:=os_head (I:=J2) hot h2 rfl
  refine IdxOb.mk ad 0 had rfl (by omega) ?_
  refine LoadOb.mk _ hrd ?_
  exact⟨_,_,.sub (List.nil_sublist _) .refl,hI1,rfl,(((wLoops s).headD 0:Nat),43),rfl,.inr ⟨hm,F,hF,by rw[hs,whereW,if_neg (by simp),if_neg h',if_pos h2]⟩⟩
 have h2:¬ 0 < (wLoops s).length:=by have:¬ (0:Int) < (ot.n:Int):=of_decide_eq_false h;omega
 exact⟨_,_,.sub (List.nil_sublist _) .refl,hI1,rfl,(0,0),rfl,.inr ⟨hm,F,hF,by rw[hs,whereW,if_neg (by simp),if_neg h',if_neg h2]⟩⟩
def orW (l:List Nat) (w:W64):W64:=l.foldl (fun w k=>w ||| bitW k) w
theorem orW_get (l:List Nat) (w:W64) {i:Nat} (hi:i < 64):(orW l w).getLsbD i=(w.getLsbD i || l.contains i):=foldl_bits l w hi
theorem set_self (m:List W64) (i:Nat):m.set i (m.getD i 0)=m:=by
 apply List.ext_getElem?
 intro j
 rw[List.getElem?_set]
 by_cases h:i=j
 ·subst h
  by_cases hl:i < m.length
  ·simp[hl,List.getD_eq_getElem?_getD]
  ·simp[hl]
 ·simp[h]
theorem marks_m (i:Nat):∀ (l:List Nat) (s:Sy),i < s.m.length→(s.marks i l).m=s.m.set i (orW l (s.m.getD i 0))
 | [],s,h=>(set_self s.m i).symm
 | k::l,s,h=>by
  have ih:=marks_m i l (s.mark i k) (by simpa[Sy.mark] using h)
  show ((s.mark i k).marks i l).m=_
  rw[ih,Sy.mark]
  simp only
  rw[List.set_set,set_get (by simpa using h)]
  rfl
theorem marks_w (i:Nat):∀ (l:List Nat) (s:Sy),(s.marks i l).w=s.w
 | [],s=>rfl
 | k::l,s=>marks_w i l (s.mark i k)
theorem stepS_m (pl:List (ByteArray×Int)) (F:List Fl) (s:Sy) (i:Nat) (d:Df) (h:i < s.m.length):(stepS pl F s i d).m=s.m.set i (orW (leftAt pl F d.t.ns d.t.root).2 (s.m.getD i 0)):=by
 unfold stepS
 rw[←marks_m i _ s h]
 cases endlessN d.t.ns (nodesF pl F d.t.ns [])<;>rfl
theorem stepS_w (pl:List (ByteArray×Int)) (F:List Fl) (s:Sy) (i:Nat) (d:Df):(stepS pl F s i d).w=bif endlessN d.t.ns (nodesF pl F d.t.ns []) then s.w ||| bitW i else s.w:=by
 unfold stepS
 cases endlessN d.t.ns (nodesF pl F d.t.ns [])
 ·exact marks_w i _ s
 ·show (s.marks i _).w ||| bitW i=_
  rw[marks_w]
  rfl
theorem syGo_bits (pl:List (ByteArray×Int)) (F:List Fl):∀ (l:List Df) (i:Nat) (s:Sy),s.m.length=64→i+l.length≤64 →
  (∀ j,j < i∨i+l.length≤j→(syGo pl F i l s).m.getD j 0=s.m.getD j 0) ∧
  (∀ q (h:q < l.length),(syGo pl F i l s).m.getD (i+q) 0=orW (leftAt pl F l[q].t.ns l[q].t.root).2 (s.m.getD (i+q) 0)) ∧
  (∀ j,j < 64→j < i∨i+l.length≤j→(syGo pl F i l s).w.getLsbD j=s.w.getLsbD j) ∧
  (∀ q (h:q < l.length),(syGo pl F i l s).w.getLsbD (i+q)=(s.w.getLsbD (i+q) || endlessN l[q].t.ns (nodesF pl F l[q].t.ns [])))
 | [],i,s,_,_=>⟨fun _ _=>rfl,fun _ h=>absurd h (by simp),fun _ _ _=>rfl,fun _ h=>absurd h (by simp)⟩
 | d::l,i,s,hs,hl=>by
  rw[List.length_cons] at hl
  obtain⟨h1,h2,h3,h4⟩:=syGo_bits pl F l (i+1) (stepS pl F s i d) (by rw[stepS_len,hs]) (by omega)
  have hm:∀ j,j≠i→(stepS pl F s i d).m.getD j 0=s.m.getD j 0:=fun j hj=>by
   rw[stepS_m pl F s i d (by omega)]
   simp[List.getD_eq_getElem?_getD,List.getElem?_set,Ne.symm hj]
  have hw:∀ j,j < 64→j≠i→(stepS pl F s i d).w.getLsbD j=s.w.getLsbD j:=fun j hj hne=>by
   rw[stepS_w]
   cases endlessN d.t.ns (nodesF pl F d.t.ns [])
   ·rfl
   ·rw[cond_true,BitVec.getLsbD_or,bitW_get hj]
    simp[hne]
  refine⟨fun j hj=>?_,fun q h=>?_,fun j hj hj2=>?_,fun q h=>?_⟩
  ·rw[List.length_cons] at hj
   rw[syGo,h1 j (by omega),hm j (by omega)]
  ·cases q with
   | zero=>
    rw[syGo,h1 _ (by omega),stepS_m pl F s i d (by omega)]
    rw[Nat.add_zero,set_get (by omega)]
    rfl
   | succ q=>
    have:=h2 q (by simpa using h)
    rw[show i+1+q=i+(q+1) by omega] at this
    rw[syGo,this,hm _ (by omega)]
    rfl
  ·rw[List.length_cons] at hj2
   rw[syGo,h3 j hj (by omega),hw j hj (by omega)]
  ·cases q with
   | zero=>
    rw[syGo,h3 _ (by omega) (by omega),stepS_w,Nat.add_zero,List.getElem_cons_zero]
    cases he:endlessN d.t.ns (nodesF pl F d.t.ns [])
    ·simp
    ·rw[cond_true,BitVec.getLsbD_or,bitW_get (by omega)]
     simp
   | succ q=>
    have hq:q < l.length:=by simpa using h
    have:=h4 q hq
    rw[show i+1+q=i+(q+1) by omega] at this
    rw[syGo,this,hw _ (by omega) (by omega)]
    rfl
def rawL (ds:List Df) (F:List Fl) (i:Nat):List Nat:=match ds[i]? with
 | some d=>(leftAt (placesL ds) F d.t.ns d.t.root).2
 | none=>[]
def rawE (ds:List Df) (F:List Fl) (i:Nat):Bool:=match ds[i]? with
 | some d=>endlessN d.t.ns (nodesF (placesL ds) F d.t.ns [])
 | none=>false
theorem syOf_m {ds:List Df} {F:List Fl} (hn:ds.length≤64) {i k:Nat} (hk:k < 64):((syOf ds F).m.getD i 0).getLsbD k=(rawL ds F i).contains k:=by
 obtain⟨h1,h2,-,-⟩:=syGo_bits (placesL ds) F ds 0 (sy0 ds.length) (by rfl) (by omega)
 have h0:∀ j,(sy0 ds.length).m.getD j 0=0#64:=fun j=>by
  simp only[sy0,List.getD_eq_getElem?_getD,List.getElem?_replicate]
  by_cases h:j < 64<;>simp[h]
 unfold rawL syOf
 by_cases h:i < ds.length
 ·have:=h2 i h
  rw[Nat.zero_add] at this
  rw[this,h0,orW_get _ _ hk,List.getElem?_eq_getElem h]
  simp
 ·rw[h1 i (by omega),h0,List.getElem?_eq_none (by omega)]
  simp
theorem syOf_w {ds:List Df} {F:List Fl} (hn:ds.length≤64) {i:Nat} (hi:i < 64):(syOf ds F).w.getLsbD i=rawE ds F i:=by
 obtain⟨-,-,h1,h2⟩:=syGo_bits (placesL ds) F ds 0 (sy0 ds.length) (by rfl) (by omega)
 unfold rawE syOf
 by_cases h:i < ds.length
 ·have:=h2 i h
  rw[Nat.zero_add] at this
  rw[this,List.getElem?_eq_getElem h]
  simp[sy0]
 ·rw[h1 i hi (by omega),List.getElem?_eq_none (by omega)]
  simp[sy0]
def allR {α:Type} (n:Nat) (body:List α→Nat→α) (l:List α):List α:=(List.range n).map (body l)
theorem allR_len {α:Type} (n:Nat) (body:List α→Nat→α) (l:List α):(allR n body l).length=n:=by simp[allR]
theorem allR_get {α:Type} {n:Nat} (body:List α→Nat→α) (l:List α) (b:α) {i:Nat} (h:i < n):(allR n body l).getD i b=body l i:=by simp[allR,List.getD_eq_getElem?_getD,h]
section
variable {α:Type} {O:OrdB α} {n:Nat} {body:List α→Nat→α} (hmono:∀ {l m:List α},LeR O l m→∀ i,i < n→O.le (body l i) (body m i))
include hmono
theorem PreR.all {l:List α} (h:PreR O n body l):PreR O n body (allR n body l)∧LeR O l (allR n body l):=by
 have hle:LeR O l (allR n body l):=.of (by rw[allR_len,h.len]) fun i hi=>by
  rw[allR_get _ _ _ (by rw[←h.len];exact hi)]
  exact h.up i (by rw[←h.len];exact hi)
 refine⟨⟨allR_len _ _ _,fun i hi=>?_,fun m hm hc=>?_⟩,hle⟩
 ·rw[allR_get _ _ _ hi]
  exact hmono hle i hi
 ·refine .of (by rw[allR_len,hm]) fun i hi=>?_
  rw[allR_len] at hi
  rw[allR_get _ _ _ hi]
  exact O.trans (hmono (h.least m hm hc) i hi) (hc i hi)
end
section
variable {n:Nat} {body:List Fi→Nat→Fi} (hmono:∀ {l m:List Fi},LeR OI l m→∀ i,i < n→OI.le (body l i) (body m i))
include hmono
end
def ofL (d:Nd) (ls:List (List Nd)):List Nd:=ofNds d (ls.map cleanL)
structure TrSmall (t:Tr):Prop where
 n:t.n < 2500
 ns:∀ nd∈t.ns,NdSmall nd
theorem TrW.ok {I:GH} {t:Tr} (h:TrW I t) (hs:TrSmall t):t.ok I:=
 ⟨h.rs.big (by have:=hs.n;omega),fun nd hnd=>(h.ns nd hnd).ok (hs.ns nd hnd),h.root⟩
theorem TrW.mono {I I':GH} {t:Tr} (h:TrW I t) (hI:∀ b o,I b=some o→I' b=some o):TrW I' t:=⟨h.rs.mono hI,fun nd hnd=>(h.ns nd hnd).mono hI,h.root⟩
def bodies (g:Gr) (L0:List Tr) (i:Nat):List Tr:=L0++(g.ds.take i).map Df.t
structure L1 (g:Gr) (L0:List Tr) (x:Nat×Nat×OS):Prop where
 i:x.2.1≤g.n
 n:x.1≤6000
 five:5 * x.2.1≤x.1
 os:x.2.2.ok 2 ((bodies g L0 x.2.1).flatMap Tr.cells)
 small:x.1 < 2500→∀ j (h:j < g.ds.length),j < x.2.1→g.ds[j].name.size < 2500
structure L2 (L:List Tr) (n0:Nat) (x:Nat×Nat):Prop where
 i:x.2≤L.length
 n:x.1≤6000
 ge:n0≤x.1
 small:x.1 < 2500→x.2≤x.1∧∀ j (h:j < L.length),j < x.2→TrSmall L[j]
structure L3 (L:List Tr) (t:Tr) (n0 i:Nat) (x:Nat×Nat):Prop where
 k:x.2≤t.n
 n:x.1≤6000
 ge:n0≤x.1
 small:x.1 < 2500→i+1≤x.1∧x.2≤x.1∧(∀ j (h:j < L.length),j < i→TrSmall L[j])∧∀ j (h:j < t.ns.length),j < x.2→NdSmall t.ns[j]
structure FA where
 l:List Fl
 a:Option Addr
 n:Nat
 c:Nat
def FA.val (x:FA):Value:=.slice x.a x.n x.c
structure FlW (I:GH) (x:FA):Prop where
 at_:FsAt I [] x.a x.n x.l
 n:x.n≤9223372036854775807
theorem FlW.mono {I I':GH} {x:FA} (h:FlW I x) (hI:∀ b o,I b=some o→I' b=some o):FlW I' x:=⟨h.at_.mono hI,h.n⟩
theorem treeP_body {g:Gr} (h:MayF g) {m:List Fl} (hm:m.length=g.n) {d:Df} (hd:d∈g.ds):treeP g m d.t=some (bodyF (placesL g.ds) m d):=by
 unfold treeP nodesP bodyF
 rw[h.right d hd,h.named d hd]
 simp[hm]
def jacF (ds:List Df):Nat→List Fl
 | 0=>List.replicate ds.length fl0
 | n+1=>ds.map (bodyF (placesL ds) (jacF ds n))
theorem map_getD {ds:List Df} {f:Df→Fl} {i:Nat} (h:i < ds.length):(ds.map f).getD i fl0=f ds[i]:=by simp[List.getD_eq_getElem?_getD,h]
theorem PreF.all {ds:List Df} {l:List Fl} (h:PreF ds l):PreF ds (ds.map (bodyF (placesL ds) l))∧LeL l (ds.map (bodyF (placesL ds) l)):=by
 have hle:LeL l (ds.map (bodyF (placesL ds) l)):=LeL.of (by simp[h.len]) fun i hi=>by
  rw[map_getD (by rw[←h.len];exact hi)]
  exact h.up i _
 refine⟨⟨by simp,fun i hi=>?_,fun m hm hc=>LeL.of (by simp[hm]) fun i hi=>?_⟩,hle⟩
 ·rw[map_getD hi]
  exact body_mono hle _
 ·have hi':i < ds.length:=by simpa using hi
  rw[map_getD hi']
  exact(body_mono (h.least m hm hc) _).trans (hc i hi')
theorem jacF_pre (ds:List Df):∀ n,PreF ds (jacF ds n)
 | 0=>.start ds
 | n+1=>(jacF_pre ds n).all.1
theorem offs_rep (n:Nat):offs (List.replicate n fl0)=3 * n:=by
 induction n with
 | zero=>rfl
 | succ n ih=>
  rw[List.replicate_succ]
  simp only[offs,List.map_cons,List.sum_cons] at ih ⊢
  rw[ih,show offF fl0=3 from rfl]
  omega
theorem jacF_stable (ds:List Df):∀ n,jacF ds (n+1)=jacF ds n∨offs (jacF ds n)+n≤3 * ds.length
 | 0=>.inr (by rw[jacF,offs_rep];omega)
 | n+1=>by
  rcases jacF_stable ds n with h | h
  ·left
   rw[jacF,h]
   exact h
  ·by_cases e:jacF ds (n+1)=jacF ds n
   ·left
    rw[jacF,e]
    exact e
   ·right
    have:=offs_lt (jacF_pre ds n).all.2 e
    have e2:ds.map (bodyF (placesL ds) (jacF ds n))=jacF ds (n+1):=rfl
    rw[e2] at this
    omega
theorem jacF_flow (ds:List Df) {n:Nat} (hn:3 * ds.length < n):IsFlow ds (jacF ds n):=by
 have h:jacF ds (n+1)=jacF ds n:=by
  rcases jacF_stable ds n with h | h
  ·exact h
  ·omega
 have hp:=jacF_pre ds n
 refine⟨hp.len,fun i hi=>?_,hp.least⟩
 have:(jacF ds (n+1)).getD i fl0=(jacF ds n).getD i fl0:=by rw[h]
 rw[←this,jacF,map_getD hi]
def flRowR (b:Nat) (l:List Fl):Blk:=⟨b,.cells (l.flatMap Fl.cells).toArray 161 (0,0)⟩
theorem flRowR_at {I:GH} {M:List Blk} {b:Nat} {l:List Fl} (hM:flRowR b l∈M):FsAt I M (some ⟨b,0,none⟩) l.length l:=
 ⟨rfl,fun j hj=>⟨_,rfl,by
  have:=blk_rd (I:=I) (cs:=l.flatMap Fl.cells) (k:=j * 3) (n:=3) hM (by rw[fl_len];omega)
  rwa [flat_at Fl.cells 3 Fl.cells_len l j hj] at this⟩⟩
theorem jac_set (f:Df→Fl) (ds:List Df) (i:Nat) (hi:i < ds.length):((ds.take i).map f++List.replicate (ds.length - i) fl0).set i (f ds[i])=(ds.take (i+1)).map f++List.replicate (ds.length - (i+1)) fl0:=by
 rw[rep_at _ ds.length i (by simp;omega) hi,List.take_succ_eq_append_getElem hi,List.map_append]
 rfl
set_option maxHeartbeats 8000000 in
theorem ROf_spec {I:GH} {deb:List Int} (hcl:ClsOk deb) {g:Gr} (hg:g.ok I) (hf:GFit g):Spec Tryz.prog 63 [g.val] I [] fun v I' M'=>I'=I ∧
  ((mayG deb g≠0∧v=.tuple #[.slice none 0 0,.int .i64 (mayG deb g)]∧M'=[])∨(mayG deb g=0∧∃ b l,v=.tuple #[.slice (some ⟨b,0,none⟩) g.n g.n,.int .i64 0]∧M'=[flRowR b l]∧IsFlow g.ds l)):=by
 refine spec_of_V [] TryzEOK Tryz.func63 rfl rfl rfl ?_
 intro B h0
 have hgn:=hg.n
 have hcap:=hg.rs.cap
 have hfn:=hf.n
 refine CallOb.mk [] [] _ (.refl _) (RMay9_spec hcl hg hf) ?_
 rintro v I1 M1 - ⟨rfl,rfl,rfl⟩
 have hme:mayR deb g=mayG deb g:=mayR_eq deb g
 refine CondOb.mk (fun h=>?_) (fun h=>?_)
 ·have hm:mayR deb g≠0:=by simpa using h
  rw[hme] at hm
  exact⟨_,_,.refl,rfl,.inl ⟨hm,by rw[←hme],rfl⟩⟩
 have hm:mayG deb g=0:=by rw[←hme];simpa using h
 have hM:=mayF_of hgn hm
 refine MakeOb.mk g.n g.n rfl rfl (Nat.le_refl _) (by show 3 * g.n≤_;omega) (by omega) ?_
 refine AllocOb.mk fun b0 hb0 hbM0=>?_
 have e:rowOf fl0.cells (g.n * 3)=(List.replicate g.ds.length fl0).flatMap Fl.cells:=by rw[hgn];exact rowOf_fl g.n
 refine LoopOb.inv (ι:=Nat×Nat) (fun x=>{ fl:=[(1,.ref 1 0),(5,.val (.slice (some ⟨x.2,0,none⟩) g.n g.n)),(6,.val (.int .i64 x.1))],cl:=[(1,[.slice g.a g.n g.c])],gi:=I1,mi:=[flRowR x.2 (jacF g.ds x.1)] })
  (fun x=>x.1≤3 * g.n+1) (fun x=>3 * g.n+1 - x.1) ?_ ?_
 ·refine⟨(0,b0),Nat.zero_le _,.eqM ?_,aF3,.cons rfl (.nil)⟩
  simp only[flRowR,jacF]
  rw[←e]
  rfl
 rintro⟨k,b⟩ hk
 simp only at hk
 refine ArithOb.mk ((3 * g.n:Nat):Int) (wr_eq (by simp) (by omega)) ?_
 refine CondOb.mk (fun h=>?_) (fun h=>?_)
 rotate_left
 ·have hge:k=3 * g.n+1:=by have:¬ (k:Int)≤((3 * g.n:Nat):Int):=of_decide_eq_false h;omega
  exact⟨_,_,.refl,rfl,.inr ⟨hm,b,_,rfl,rfl,jacF_flow g.ds (by omega)⟩⟩
 have hlt:k≤3 * g.n:=by have:(k:Int)≤((3 * g.n:Nat):Int):=of_decide_eq_true h;omega
 have hjl:(jacF g.ds k).length=g.n:=by rw[(jacF_pre g.ds k).len,hgn]
 refine MakeOb.mk g.n g.n rfl rfl (Nat.le_refl _) (by show 3 * g.n≤_;omega) (by omega) ?_
 refine AllocOb.mk fun b2 hb2 hbM2=>?_
 refine LoopOb.inv (ι:=Nat) (fun i=>{ fl:=[(1,.ref 1 0),(5,.val (.slice (some ⟨b,0,none⟩) g.n g.n)),(6,.val (.int .i64 k)),(7,.val (.slice (some ⟨b2,0,none⟩) g.n g.n)),(8,.val (.int .i64 i))],cl:=[(1,[.slice g.a g.n g.c])],gi:=I1,mi:=[flRowR b2 ((g.ds.take i).map (bodyF (placesL g.ds) (jacF g.ds k))++List.replicate (g.ds.length - i) fl0),flRowR b (jacF g.ds k)] })
  (fun i=>i≤g.n) (fun i=>g.n - i) ?_ ?_
 ·refine⟨0,Nat.zero_le _,.eqM ?_,aF5,.cons rfl (.nil)⟩
  simp only[List.take_zero,List.map_nil,List.nil_append,Nat.sub_zero]
  unfold flRowR
  rw[←e]
  rfl
 rintro i hi
 refine CondOb.mk (fun h=>?_) (fun h=>?_)
 rotate_left
 ·have hge:i=g.n:=by have:¬ (i:Int) < (g.n:Int):=of_decide_eq_false h;omega
  refine ArithOb.mk _ (next_wr (i:=k) (by omega)) ?_
  refine⟨(k+1,b2),⟨by simp only;omega,by simp only;omega⟩,.sub (.cons_cons _ (List.nil_sublist _)) (.eqM ?_),aF3,.cons rfl (.nil)⟩
  rw[hge,←hgn,List.take_length,Nat.sub_self,List.replicate_zero,List.append_nil]
  rfl
 have hil:i < g.n:=by have:(i:Int) < (g.n:Int):=of_decide_eq_true h;omega
 have hil':i < g.ds.length:=by omega
 obtain⟨ad,had,hrd⟩:=hg.rs.row Df.cells_len hil hil'
 have hdm:=List.getElem_mem hil'
 have htb:=treeP_body hM hjl hdm
 refine CodeOb.draw TryzEOK rfl rfl rfl ?_
 refine IdxOb.mk ad i had rfl hil ?_
 refine LoadOb.mk _ ((hrd _).part (k:=1) (m:=2) (by decide)) ?_
 have hfs:=flRowR_at (I:=I1) (M:=[flRowR b2 ((g.ds.take i).map (bodyF (placesL g.ds) (jacF g.ds k))++List.replicate (g.ds.length - i) fl0),flRowR b (jacF g.ds k)]) (b:=b) (l:=jacF g.ds k) (.tail _ (.head _))
 rw[hjl] at hfs
 have hsp:=RFTree_spec hg (hg.ds _ hdm).t (hf.ds _ hdm) (lc:=g.n) hfs
 rw[htb] at hsp
 refine PCallOb.mkR _ [] _ perm_nil hsp (fun v I' M' h x hx=>by rw[h.2.1];exact hx) ?_
 rintro v I2 M2 - ⟨rfl,rfl,rfl⟩
 rw[List.append_nil]
 refine IdxOb.mk ⟨b2,0,none⟩ i rfl rfl hil ?_
 refine StoreOb.addTo [] [flRowR b (jacF g.ds k)] (((g.ds.take i).map (bodyF (placesL g.ds) (jacF g.ds k))++List.replicate (g.ds.length - i) fl0).flatMap Fl.cells) _ rfl ?_ rfl (((g.ds.take (i+1)).map (bodyF (placesL g.ds) (jacF g.ds k))++List.replicate (g.ds.length - (i+1)) fl0).flatMap Fl.cells) ?_ ?_
 ·exact ble_fl (by simp;omega) hil' (bodyF (placesL g.ds) (jacF g.ds k) g.ds[i])
 ·rw[Nat.zero_add]
  have:=flRow_set ((g.ds.take i).map (bodyF (placesL g.ds) (jacF g.ds k))++List.replicate (g.ds.length - i) fl0) i (by simp;omega) (bodyF (placesL g.ds) (jacF g.ds k) g.ds[i])
  rw[jac_set _ _ _ hil'] at this
  exact this
 refine ArithOb.mk _ (next_wr (i:=i) (by omega)) ?_
 exact⟨i+1,⟨by omega,by omega⟩,.refl,aF5,.cons rfl (.nil)⟩
def rowV (b:Nat) (n:Nat):Value:=.slice (some ⟨b,0,none⟩) n n
structure RowsF (I:GH) (pl:List (ByteArray×Int)) (F:List Fl) (ds:List Df) (k:Nat) (rows:List Value):Prop where
 len:rows.length=ds.length
 row:∀ i (h:i < ds.length),i < k→∃ b,rows[i]?=some (rowV b ds[i].t.n)∧I b=some (flRow b (nodesF pl F ds[i].t.ns [])).obj
theorem RowsF.mono {I I':GH} {pl:List (ByteArray×Int)} {F:List Fl} {ds:List Df} {k:Nat} {rows:List Value} (h:RowsF I pl F ds k rows) (hI:∀ b o,I b=some o→I' b=some o):RowsF I' pl F ds k rows:=
 ⟨h.len,fun i hi hk=>by
  obtain⟨b,h1,h2⟩:=h.row i hi hk
  exact⟨b,h1,hI _ _ h2⟩⟩
def okI (deb:List Int) (g:Gr) (l:List Fi) (t:Tr):Bool:=decide (l.length=g.n) && (decide (mayG deb g=0) && (right t && namedOk (placesL g.ds) t.ns))
theorem RMay_fr {I:GH} {M0:List Blk} {deb:List Int} (hcl:ClsOk deb) {g:Gr} (hg:g.ok I) (hf:GFit g):Spec Tryz.prog 61 [g.val] I M0 (fun v I' M'=>v=.int .i64 (mayG deb g)∧I'=I∧M'=M0):=by
 refine Spec.weakK (Spec.frame (RMay9_spec hcl hg hf)) ?_
 rintro v J M ⟨M',rfl,-,-,rfl,rfl,rfl⟩
 rw[mayR_eq]
 exact⟨rfl,rfl,rfl⟩
theorem RFOf_fr {I:GH} {M0:List Blk} {deb:List Int} (hcl:ClsOk deb) {g:Gr} (hg:g.ok I) (hf:GFit g):Spec Tryz.prog 63 [g.val] I M0 fun v I' M'=>I'=I ∧
  ((mayG deb g≠0∧v=.tuple #[.slice none 0 0,.int .i64 (mayG deb g)]∧M'=M0)∨(mayG deb g=0∧∃ b F,v=.tuple #[.slice (some ⟨b,0,none⟩) g.n g.n,.int .i64 0]∧M'=flRowR b F::M0∧IsFlow g.ds F)):=by
 refine Spec.weakK (Spec.frame (ROf_spec hcl hg hf)) ?_
 rintro v J M ⟨M',rfl,-,-,rfl,⟨h1,rfl,rfl⟩ | ⟨h1,b,F,rfl,rfl,h2⟩⟩
 ·exact⟨rfl,.inl ⟨h1,rfl,rfl⟩⟩
 ·exact⟨rfl,.inr ⟨h1,b,F,rfl,rfl,h2⟩⟩
def cutL (b:Bool) (xs:List (Fl×List Nat)):List Nat:=bif b then takeZ xs else xs.flatMap (·.2)
theorem cutL_nil (b:Bool):cutL b []=[]:=by cases b<;>rfl
theorem cutL_cons (b:Bool) (x:Fl×List Nat) (xs:List (Fl×List Nat)):cutL b (x::xs)=x.2++bif b && !x.1.z then [] else cutL b xs:=by
 cases b with
 | true=>
  cases hz:x.1.z<;>simp[cutL,takeZ,hz]
 | false=>simp[cutL]
theorem leftsD_cut {pl:List (ByteArray×Int)} {d:Nd} {xs:List (Fl×List Nat)} (h3:¬ d.k=3) (h6:¬ (d.k=6∧d.hi=0)):leftsD pl d xs=cutL (decide (d.k=4)) xs:=by
 unfold leftsD cutL
 rw[decide_eq_false h3,cond_false]
 cases h4:decide (d.k=4) with
 | true=>rfl
 | false=>
  rw[cond_false,cond_false]
  by_cases a:d.k=6
  ·have b:¬ d.hi=0:=fun e=>h6 ⟨a,e⟩
   rw[decide_eq_true a,decide_eq_false b]
   rfl
  ·rw[decide_eq_false a]
   rfl
theorem cut_len {b:Bool} {f:Int→Fl×List Nat} {g:Int→Nat}:∀ (ks:List Int),(∀ k∈ks,(f k).2.length≤g k)→(cutL b (ks.map f)).length≤sumOf g ks
 | [],_=>by rw[List.map_nil,cutL_nil];exact Nat.zero_le _
 | k::ks,h=>by
  have h1:=h k (.head _)
  have h2:=cut_len (b:=b) ks fun q hq=>h q (.tail _ hq)
  rw[List.map_cons,cutL_cons,List.length_append]
  unfold sumOf at h2 ⊢
  rw[List.map_cons,List.sum_cons]
  cases b && !(f k).1.z
  ·rw[cond_false];omega
  ·rw[cond_true,List.length_nil];omega
theorem left_len {pl:List (ByteArray×Int)} {F:List Fl} {t:Tr} (hr:right t=true):∀ (m j:Nat),j < m→j < t.ns.length→(leftAt pl F t.ns j).2.length≤szOf t.ns j
 | 0,j,h,_=>absurd h (Nat.not_lt_zero _)
 | m+1,j,hm,hj=>by
  rw[left_eq hr hj,szOf_eq hr hj]
  have hk:=right_kids hr j hj
  have hle:∀ k∈t.ns[j].kids,(leftAt pl F t.ns k).2.length≤szOf t.ns k:=fun k hkm=>by
   obtain⟨h1,h2⟩:=hk k hkm
   obtain⟨q,rfl⟩:=Int.eq_ofNat_of_zero_le h1
   exact left_len hr m q (by omega) (by omega)
  show (leftsD pl t.ns[j] (t.ns[j].kids.map (leftAt pl F t.ns))).length≤_
  by_cases h3:t.ns[j].k=3
  ·rw[leftsD,decide_eq_true h3,cond_true]
   simp
  by_cases h6:t.ns[j].k=6∧t.ns[j].hi=0
  ·rw[leftsD,decide_eq_false h3,cond_false,decide_eq_false (show ¬ t.ns[j].k=4 by omega),cond_false,decide_eq_true h6.1,decide_eq_true h6.2]
   simp
  ·rw[leftsD_cut h3 h6]
   have:=cut_len (b:=decide (t.ns[j].k=4)) t.ns[j].kids hle
   omega
theorem left_root {pl:List (ByteArray×Int)} {F:List Fl} {t:Tr} (hr:right t=true):(leftAt pl F t.ns t.root).2.length≤t.ns.length:=by
 obtain⟨h1,h2⟩:=right_root hr
 obtain⟨q,hq⟩:=Int.eq_ofNat_of_zero_le h1
 have:=left_len (pl:=pl) (F:=F) hr (q+1) q (by omega) (by omega)
 have h:=sz_root hr
 rw[hq] at h ⊢
 omega
theorem intsV_app (a b:List Nat):intsV (a++b)=intsV a++intsV b:=List.map_append
theorem intsV_one (l:List Nat):allOne (intsV l)=true:=by
 induction l with
 | nil=>rfl
 | cons a l ih=>exact ih
theorem intsV_len (l:List Nat):(intsV l).length=l.length:=List.length_map _
theorem intsV_flat (l:List Nat):l.flatMap (fun n:Nat=>[Value.int .i64 n])=intsV l:=by
 unfold intsV
 induction l with
 | nil=>rfl
 | cons a l ih=>rw[List.flatMap_cons,ih];rfl
theorem os_ints {I:GH} {M:List Blk} {os:OS} {l:List Nat} {e:Nat} (h:os.ok 1 (intsV l)) (hM:∀ z∈os.blk e,z∈M) {j:Nat} (hj:j < l.length):∃ ad,os.a.map (fun g=>(⟨g,0,none⟩:Addr))=some ad∧Rd I M (ad.add (j * 1)) 1 [.int .i64 l[j]]:=by
 have h':os.ok 1 (l.flatMap fun n:Nat=>[Value.int .i64 n]):=by
  rw[intsV_flat]
  exact h
 exact OS.ok.row (f:=fun n:Nat=>[Value.int .i64 n]) (size:=1) (fun _=>rfl) (by decide) h' hM hj
theorem os_whole {I:GH} {M:List Blk} {os:OS} {xs:List Value} {e:Nat} (h:os.ok 1 xs) (h0:0 < os.n) (hM:∀ z∈os.blk e,z∈M):∃ ad,os.a.map (fun g=>(⟨g,0,none⟩:Addr))=some ad∧Rd I M ad (os.n * 1) xs:=by
 cases ha:os.a with
 | none=>have:=(h.nil ha).1;omega
 | some b=>
  obtain⟨h1,h2,h3,h4⟩:=h.cap b ha
  refine⟨⟨b,0,none⟩,rfl,rfl,_,_,_,.inr ⟨⟨b,.cells os.cur.toArray e (0,0)⟩,hM _ (by unfold OS.blk;rw[ha];exact .head _),rfl,rfl⟩,?_,h.len⟩
  simp only[List.drop_zero]
  exact h4
set_option maxHeartbeats 4000000 in
theorem RIn_spec {I:GH} {M0:List Blk} (n:Nat) {os:OS} {l:List Nat} (h:os.ok 1 (intsV l)) (hM:∀ z∈os.blk 3,z∈M0) (hc:l.length≤140737488355328):Spec Tryz.prog 62 [.int .i64 n,os.val] I M0 fun v I' M'=>v=.bool (l.contains n)∧I'=I∧M'=M0:=by
 refine spec_of_V [] TryzEOK Tryz.func62 rfl rfl rfl ?_
 intro B h0
 have hp:=OS.pos h
 refine LoopOb.inv (ι:=Nat) (fun i=>{ fl:=[(0,.val (.int .i64 n)),(1,.val os.val),(5,.val (.int .i64 i))],gi:=I,mi:=M0 }) (fun i=>i≤l.length∧l.contains n=(l.drop i).contains n) (fun i=>l.length - i) ?_ ?_
 ·exact⟨0,⟨Nat.zero_le _,rfl⟩,.refl,aF3,.nil⟩
 rintro i ⟨hi,hgo⟩
 refine CondOb.mk (fun h=>?_) (fun h=>?_)
 rotate_left
 ·have hge:l.length≤i:=by have:¬ (i:Int) < (os.n:Int):=of_decide_eq_false h;omega
  rw[List.drop_of_length_le hge] at hgo
  exact⟨_,_,.refl,by rw[hgo];rfl,rfl,rfl⟩
 have hlt:i < l.length:=by have:(i:Int) < (os.n:Int):=of_decide_eq_true h;omega
 obtain⟨ad,had,hrd⟩:=os_ints (I:=I) (by assumption) hM hlt
 rw[List.drop_eq_getElem_cons hlt,List.contains_cons] at hgo
 refine IdxOb.mk ad i had rfl (by omega) ?_
 refine LoadOb.mk _ hrd ?_
 refine CondOb.mk (fun he=>?_) (fun he=>?_)
 ·have he':(l[i]:Int)=(n:Int):=of_decide_eq_true he
  have he2:n=l[i]:=by omega
  exact⟨_,_,.refl,by rw[hgo,←he2];simp,rfl,rfl⟩
 ·have he':¬ (l[i]:Int)=(n:Int):=of_decide_eq_false he
  refine ArithOb.mk _ (next_wr (i:=i) (by omega)) ?_
  refine⟨i+1,⟨⟨hlt,?_⟩,by omega⟩,.refl,aF3,.nil⟩
  rw[hgo]
  have:(n == l[i])=false:=by simpa using fun e:n=l[i]=>he' (by omega)
  rw[this,Bool.false_or]
set_option maxRecDepth 100000 in
set_option maxHeartbeats 8000000 in
theorem RLefts_rec {g:Gr} {F:List Fl} (hFn:F.length=g.n) {W:Nat}:∀ (m:Nat) {I:GH} {M0:List Blk} (hg:g.ok I) {t:Tr} (ht:t.ok I) (hr:right t=true) (hf:Fit t W) (hno:namedOk (placesL g.ds) t.ns=true) {fa:Option Addr} {fc:Nat} (hF:FsAt I M0 fa g.n F),t.ns.length≤m →
  Spec Tryz.prog 68 [g.val,.slice fa g.n fc,t.val] I M0 fun v I' M'=>(∀ b o,I b=some o→I' b=some o)∧∃ os:OS,os.ok 1 (intsV (leftAt (placesL g.ds) F t.ns t.root).2)∧v=os.val∧M'=os.blk 3++M0
 | 0,_,_,_,t,_,hr,_,_,_,_,_,hm=>by
  have:=right_root hr
  omega
 | m+1,I,M0,hg,t,ht,hr,hf,hno,fa,fc,hF,hm=>by
  have ih:=@RLefts_rec g F hFn W m
  have htn:=ht.n
  have hgn:=hg.n
  obtain⟨hr0,hr1⟩:=right_root hr
  obtain⟨r,hrr⟩:=Int.eq_ofNat_of_zero_le hr0
  have hrl:r < t.ns.length:=by omega
  have hdm:=List.getElem_mem hrl
  have hd:=ht.ns _ hdm
  have hfit:=right_fits hr hrl
  have hfm:=fits_more hd.k.1 hfit
  have hkv:=right_kids hr r hrl
  have hnm:=List.all_eq_true.1 hno _ hdm
  have hfn:=hf.n
  have hpe:leftAt (placesL g.ds) F t.ns t.root=leftF (placesL g.ds) F t.ns[r] (t.ns[r].kids.map (leftAt (placesL g.ds) F t.ns)):=by
   rw[hrr]
   exact left_eq hr hrl
  have hlen:=left_root (pl:=placesL g.ds) (F:=F) hr
  have hkids:=RKids_spec (M0:=M0) ht hr hf
  have hroot:=RRoot_spec (M0:=M0) ht hr hf
  have hsz:=szOf_eq hr hrl
  have hsl:=sz_le hr t.ns.length r hrl (by omega)
  have hna:nodeAt t.ns t.root.toNat=t.ns[r]:=by
   rw[hrr]
   exact nodeAt_eq hrl
  have hKW:t.ns[r].kids.length≤t.ns.length:=by
   have h3:t.ns[r].kids.length≤sumOf (szOf t.ns) t.ns[r].kids:=len_le_sum hr fun k hk=>by
    have:=hkv k hk
    omega
   omega
  rw[hna] at hkids hroot
  rw[hpe] at hlen ⊢
  generalize t.ns[r]=d at *
  refine spec_of_V [11] TryzEOK Tryz.func68 rfl rfl rfl ?_
  intro B h0
  refine CallOb.whole _ hroot ?_
  rintro v J N - ⟨rfl,hJ,hN⟩
  subst J
  subst N
  refine CallOb.whole _ hkids ?_
  rintro v J N - ⟨hJ,os,L,hos,rfl,hN,hLl,hL⟩
  subst N
  have hgJ:=hg.mono hJ
  have hks:d.kids.map (leftAt (placesL g.ds) F t.ns)=L.map fun t'=>leftAt (placesL g.ds) F t'.ns t'.root:=by
   apply List.ext_getElem
   ·simp[hLl]
   ·intro q h1 h2
    have hq:q < d.kids.length:=by simpa using h1
    have hql:q < L.length:=by omega
    obtain⟨-,hS⟩:=hL q hql
    have e:d.kids.getD q 0=d.kids[q]:=by simp[List.getD_eq_getElem?_getD,hq]
    rw[e] at hS
    have hv:=hkv _ (List.getElem_mem hq)
    obtain⟨k,hk⟩:=Int.eq_ofNat_of_zero_le hv.1
    rw[hk] at hS
    have:=subAt_left (pl:=placesL g.ds) (F:=F) hr (j:=k) (by omega) hS
    simp only[List.getElem_map]
    rw[this,hk]
  have hkid:∀ q (h:q < L.length),(L[q]).ok J∧right L[q]=true∧Fit L[q] W∧namedOk (placesL g.ds) L[q].ns=true∧L[q].ns.length≤m:=fun q hql=>by
   obtain⟨hok,hS⟩:=hL q hql
   have hq:q < d.kids.length:=by omega
   have e:d.kids.getD q 0=d.kids[q]:=by simp[List.getD_eq_getElem?_getD,hq]
   have hmem:=List.getElem_mem hq
   rw[e] at hS
   have hv:=hkv _ hmem
   obtain⟨k,hk⟩:=Int.eq_ofNat_of_zero_le hv.1
   have hs1:=sumOf_mem (g:=szOf t.ns) hmem
   rw[hk] at hS hs1
   have hkl:k < t.ns.length:=by omega
   have h1:=subAt_right hr hkl hS
   have h2:=subAt_fit hr hf ht hkl hS hok
   have h3:=subAt_named hr hno hkl hS
   have h4:=subAt_len hr hkl hS
   exact⟨hok,h1,h2,h3,by omega⟩
  rw[hks] at hlen ⊢
  have hon:os.n=L.length:=by
   have:=hos.len
   rw[flat_len Tr.cells 2 (fun _=>rfl)] at this
   omega
  have hcall:∀ {K:GH} {M:List Blk} q (h:q < L.length),(∀ b o,J b=some o→K b=some o)→(∀ z∈M0,z∈M)→Spec Tryz.prog 68 [g.val,.slice fa g.n fc,L[q].val] K M fun v I' M'=>(∀ b o,K b=some o→I' b=some o)∧∃ os:OS,os.ok 1 (intsV (leftAt (placesL g.ds) F L[q].ns L[q].root).2)∧v=os.val∧M'=os.blk 3++M:=fun {K M} q hq hK hM=>by
   obtain⟨h1,h2,h3,h4,h5⟩:=hkid q hq
   exact ih (hgJ.mono hK) (h1.mono hK) h2 h3 h4 (((hF.mono hJ).mono hK).sub hM) h5
  have htree:∀ {K:GH} {M:List Blk} q (h:q < L.length),(∀ b o,J b=some o→K b=some o)→(∀ z∈M0,z∈M)→Spec Tryz.prog 105 [g.val,.slice fa g.n fc,L[q].val] K M fun v I' M'=>I'=K∧M'=M∧v=.tuple #[(leftAt (placesL g.ds) F L[q].ns L[q].root).1.val,.bool true]:=fun {K M} q hq hK hM=>by
   obtain⟨h1,h2,h3,h4,h5⟩:=hkid q hq
   have hsp:=RFTree_spec (hgJ.mono hK) (h1.mono hK) h3 (lc:=fc) (((hF.mono hJ).mono hK).sub hM)
   have htp:treeP g F L[q]=some (leftAt (placesL g.ds) F L[q].ns L[q].root).1:=by
    rw[treeP,nodesP,decide_eq_true hFn,h2,h4,left_flow]
    rfl
   rw[htp] at hsp
   exact hsp
  have hrow:∀ {K:GH} {M:List Blk} q (h:q < L.length),(∀ z∈os.blk 43,z∈M)→∃ ad,(os.a.map fun g=>(⟨g,0,none⟩:Addr))=some ad∧Rd K M (ad.add (q * 2)) 2 L[q].cells:=fun {K M} q hq hM=>
   OS.ok.row (I:=K) (M:=M) (e:=43) (f:=Tr.cells) (size:=2) (fun _=>rfl) (by decide) hos hM hq
  have hlD:(leftF (placesL g.ds) F d (L.map fun t'=>leftAt (placesL g.ds) F t'.ns t'.root)).2=leftsD (placesL g.ds) d (L.map fun t'=>leftAt (placesL g.ds) F t'.ns t'.root):=rfl
  rw[hlD] at hlen ⊢
  clear hlD
  have fin:∀ {K:GH} {M:List Blk} {v:Value} {l:List Nat} {q:OS},(∀ b o,J b=some o→K b=some o)→q.ok 1 (intsV l)→v=q.val→M=q.blk 3++M0→l=leftsD (placesL g.ds) d (L.map fun t'=>leftAt (placesL g.ds) F t'.ns t'.root)→(∀ b o,I b=some o→K b=some o)∧∃ os:OS,os.ok 1 (intsV (leftsD (placesL g.ds) d (L.map fun t'=>leftAt (placesL g.ds) F t'.ns t'.root)))∧v=os.val∧M=os.blk 3++M0:=fun {K M v l q} h1 h2 h3 h4 h5=>by
   subst h5
   exact⟨fun b o h=>h1 _ _ (hJ _ _ h),q,h2,h3,h4⟩
  refine CondOb.mk (fun e=>?_) (fun e3=>?_)
  ·have e:d.k=3:=of_decide_eq_true e
   obtain⟨q,hq1,hq2,hq3⟩:=findAt_of (nm:=d.t) (ds:=g.ds) (by simpa[e] using hnm)
   refine CallOb.whole _ (RFind_fr hgJ d.t hq1) ?_
   rintro v K N - ⟨rfl,hK,hN⟩
   subst K
   subst N
   refine AllocOb.mk fun b9 hb9 hbM9=>?_
   refine⟨_,⟨b9,.cells #[.int .i64 q] 3 (0,0)⟩::M0,.sub (.cons_cons _ (List.sublist_append_right _ _)) .refl,fin (fun _ _ h=>h) (q:=⟨some b9,1,1,[.int .i64 q]⟩) (l:=[q]) ⟨rfl,fun h=>by simp at h,fun g h=>⟨rfl,Nat.le_refl 1,show 1≤maxLen by unfold maxLen;omega,rfl⟩⟩ rfl rfl ?_⟩
   rw[leftsD,decide_eq_true e,cond_true,hq3]
   try rfl
  have e3:¬ d.k=3:=of_decide_eq_false e3
  refine GuardOb.mk (fun h6=>CondOb.mk (fun hh=>?y) (fun hh=>?n1)) (fun h6=>?n2)
  case y=>
   have e6:d.k=6:=of_decide_eq_true h6
   have hh':d.hi=0:=of_decide_eq_true hh
   refine⟨_,M0,.sub (List.sublist_append_right _ _) .refl,fin (fun _ _ h=>h) (q:=OS0) (l:=[]) (OS0_ok 1) rfl rfl ?_⟩
   rw[leftsD,decide_eq_false e3,cond_false,decide_eq_false (show ¬ d.k=4 by omega),cond_false,decide_eq_true e6,decide_eq_true hh']
   rfl
  case' n1=>
   have hcut:leftsD (placesL g.ds) d (L.map fun t'=>leftAt (placesL g.ds) F t'.ns t'.root)=cutL (decide (d.k=4)) (L.map fun t'=>leftAt (placesL g.ds) F t'.ns t'.root):=leftsD_cut e3 fun h=>(show ¬ d.hi=0 from of_decide_eq_false hh) h.2
  case' n2=>
   have hcut:leftsD (placesL g.ds) d (L.map fun t'=>leftAt (placesL g.ds) F t'.ns t'.root)=cutL (decide (d.k=4)) (L.map fun t'=>leftAt (placesL g.ds) F t'.ns t'.root):=leftsD_cut e3 fun h=>(show ¬ d.k=6 from of_decide_eq_false h6) h.1
  all_goals
   rw[hcut] at hlen fin ⊢
   refine LoopOb.inv (ι:=Nat×OS×List Nat×GH) (fun x=>{ fl:=[(1,.val (.slice fa g.n fc)),(3,.ref 3 0),(7,.ref 7 0),(8,.val os.val),(9,.val x.2.1.val),(10,.val (.int .i64 x.1))],cl:=[(3,[.slice g.a g.n g.c]),(7,(d.withKids []).cells)],gi:=x.2.2.2,mi:=x.2.1.blk 3++(os.blk 43++M0) })
    (fun x=>(x.1≤L.length∧x.2.1.ok 1 (intsV x.2.2.1))∧(∀ b o,J b=some o→x.2.2.2 b=some o)∧cutL (decide (d.k=4)) (L.map fun t'=>leftAt (placesL g.ds) F t'.ns t'.root)=x.2.2.1++cutL (decide (d.k=4)) ((L.drop x.1).map fun t'=>leftAt (placesL g.ds) F t'.ns t'.root)) (fun x=>L.length - x.1) ?_ ?_
   ·exact⟨(0,OS0,[],J),⟨⟨Nat.zero_le _,OS0_ok 1⟩,fun _ _ h=>h,rfl⟩,.refl,aF6,.cons rfl (.cons rfl (.nil))⟩
   rintro⟨i,oq,done,K⟩ ⟨⟨hi,hoq⟩,hK,hgo⟩
   simp only at hi hoq hK hgo
   have hp:=OS.pos hoq
   refine CondOb.mk (fun h=>?_) (fun h=>?_)
   rotate_left
   ·have hge:L.length≤i:=by have:¬ (i:Int) < (os.n:Int):=of_decide_eq_false h;omega
    rw[List.drop_of_length_le hge,List.map_nil,cutL_nil,List.append_nil] at hgo
    exact⟨_,oq.blk 3++M0,.sub (List.Sublist.append (.refl _) (List.sublist_append_right _ _)) .refl,fin hK hoq rfl rfl hgo.symm⟩
   have hlt:i < L.length:=by have:(i:Int) < (os.n:Int):=of_decide_eq_true h;omega
   rw[List.drop_eq_getElem_cons hlt,List.map_cons,cutL_cons,←List.append_assoc] at hgo
   have hll:=congrArg List.length hgo
   rw[List.length_append,List.length_append] at hll
   obtain⟨hok1,-⟩:=hkid i hlt
   obtain⟨ad,had,hrd⟩:=hrow (K:=K) (M:=oq.blk 3++(os.blk 43++M0)) i hlt (fun z hz=>List.mem_append_right _ (List.mem_append_left _ hz))
   have hc1:=hcall (K:=K) (M:=oq.blk 3++(os.blk 43++M0)) i hlt hK (fun z hz=>List.mem_append_right _ (List.mem_append_right _ hz))
   refine CodeOb.draw TryzEOK rfl rfl rfl ?_
   refine IdxOb.mk ad i had rfl (by omega) ?_
   refine LoadOb.mk _ hrd ?_
   refine PCallOb.whole _ hc1 (fun v I' M' h x hx=>by
    obtain⟨-,o2,-,-,rfl⟩:=h
    exact List.mem_append_right _ hx) ?_
   rintro v K2 N - ⟨hK2,op,hop,rfl,hN⟩
   subst N
   have hpp:=OS.pos hop
   have hbig:done.length+(leftAt (placesL g.ds) F L[i].ns L[i].root).2.length≤1099511627776:=by omega
   refine OtherOb.appL TryzEOK rfl (by simp) (e:=3) rfl rfl rfl oq hoq rfl (sa:=op.a.map fun g=>(⟨g,0,none⟩:Addr)) (m:=op.n) (c':=op.c) (news:=intsV (leftAt (placesL g.ds) F L[i].ns L[i].root).2) rfl (by rw[intsV_len];show _=op.n * 1;omega) (fun h0=>?_) (intsV_one _) (op.blk 3) (os.blk 43++M0) rfl (by omega) (by show (oq.n+op.n) * 8≤_;omega) ?_
   ·obtain⟨ad2,hd2,hr2⟩:=os_whole (I:=K2) (M:=op.blk 3++(oq.blk 3++(os.blk 43++M0))) hop h0 (fun z hz=>List.mem_append_left _ hz)
    exact⟨ad2,hd2,hr2⟩
   intro os2 hn2 hI2 hok2
   rw[←intsV_app] at hok2
   have hK12:∀ b o,J b=some o→K2 b=some o:=fun b o h=>hK2 _ _ (hK _ _ h)
   have ht1:=fun (M:List Blk) (hM:∀ z∈M0,z∈M)=>htree (K:=K2) (M:=M) i hlt hK12 hM
   obtain⟨ad3,had3,hrd3⟩:=hrow (K:=K2) (M:=op.blk 3++(os2.blk 3++(os.blk 43++M0))) i hlt (fun z hz=>by simp[hz])
   generalize leftAt (placesL g.ds) F L[i].ns L[i].root=x at *
   refine CodeOb.drawC TryzEOK rfl rfl rfl (ι:=Nat) (fun b11=>{ fl:=[(1,.val (.slice fa g.n fc)),(3,.ref 3 0),(7,.ref 7 0),(8,.val os.val),(9,.val os2.val),(10,.val (.int .i64 i)),(11,.val (ptr b11))],cl:=[(3,[.slice g.a g.n g.c]),(7,(d.withKids []).cells)],gi:=K2,mi:=⟨b11,.cells x.1.cells.toArray 161 (0,0)⟩::(op.blk 3++(os2.blk 3++(os.blk 43++M0))) }) (fun _=>True) ?_ ?_
   ·refine IdxOb.mk ad3 i had3 rfl (by omega) ?_
    refine LoadOb.mk _ hrd3 ?_
    refine⟨?_,?_⟩
    ·refine CallOb.whole _ (ht1 _ (fun z hz=>by simp[hz])) ?_
     rintro v K3 N - ⟨hK3,hN,rfl⟩
     subst K3
     subst N
     refine AllocOb.mk fun b11 hb11 hbM11=>?_
     refine StoreOb.mk [] _ _ _ rfl rfl (Nat.le_of_ble_eq_true rfl) rfl ?_
     exact⟨b11,trivial,.refl,aF7,.cons rfl (.cons rfl (.nil))⟩
    ·refine AllocOb.mk fun b11 hb11 hbM11=>?_
     refine PCallOb.whole _ (ht1 _ (fun z hz=>by simp[hz])) (fun v I' M' h x hx=>by rw[h.2.1];exact hx) ?_
     rintro v K3 N - ⟨hK3,hN,rfl⟩
     subst K3
     subst N
     refine StoreOb.mk [] _ _ _ rfl rfl (Nat.le_of_ble_eq_true rfl) rfl ?_
     exact⟨b11,trivial,.refl,aF7,.cons rfl (.cons rfl (.nil))⟩
   rintro b11 -
   refine GuardOb.mk (fun h4=>?_) (fun h4=>?_)
   ·refine LoadOb.mk [.bool x.1.z] (blk_rd (cs:=x.1.cells) (k:=0) (n:=1) (.head _) (Nat.le_of_ble_eq_true rfl)) ?_
    refine CondOb.mk (fun hz=>?_) (fun hz=>?_)
    ·have h4':decide (d.k=4)=true:=h4
     have hz':x.1.z=false:=by
      have:(!x.1.z)=true:=hz
      simpa using this
     rw[h4',hz'] at hgo
     simp only[Bool.not_false,Bool.and_true,cond_true,List.append_nil] at hgo
     rw[←h4'] at hgo
     exact⟨_,os2.blk 3++M0,.sub (.cons _ (List.Sublist.trans (List.Sublist.append (.refl _) (List.sublist_append_right _ _)) (List.sublist_append_right _ _))) .refl,fin hK12 hok2 rfl rfl hgo.symm⟩
    ·refine ArithOb.mk _ (next_wr (i:=i) (by omega)) ?_
     refine⟨(i+1,os2,done++x.2,K2),⟨⟨⟨hlt,hok2⟩,hK12,?_⟩,by simp only;omega⟩,.sub (.cons _ (List.sublist_append_right _ _)) .refl,aF6,.cons rfl (.cons rfl (.nil))⟩
     have hz':x.1.z=true:=by
      have:(!x.1.z)=false:=hz
      simpa using this
     simp only
     rw[hgo,hz']
     simp
   ·refine ArithOb.mk _ (next_wr (i:=i) (by omega)) ?_
    refine⟨(i+1,os2,done++x.2,K2),⟨⟨⟨hlt,hok2⟩,hK12,?_⟩,by simp only;omega⟩,.sub (.cons _ (List.sublist_append_right _ _)) .refl,aF6,.cons rfl (.cons rfl (.nil))⟩
    have h4':decide (d.k=4)=false:=h4
    simp only
    rw[hgo,h4']
    rfl
def endF (pl:List (ByteArray×Int)) (F:List Fl) (d:Nd) (xs:List ((Fl×List Nat)×Bool)):Bool:=xs.any fun x=>(decide (d.k=6) && (decide (d.hi=-1) && x.1.1.z)) || x.2
def endG (pl:List (ByteArray×Int)) (F:List Fl) (d:Nd) (xs:List ((Fl×List Nat)×Bool)):(Fl×List Nat)×Bool:=(leftF pl F d (xs.map (·.1)),endF pl F d xs)
def endAt (pl:List (ByteArray×Int)) (F:List Fl) (ns:List Nd) (j:Int):(Fl×List Nat)×Bool:=tabOf ((fl0,[]),false) (fun d g=>endG pl F d (d.kids.map g)) ns j
theorem endG_kids (pl:List (ByteArray×Int)) (F:List Fl) (d:Nd) (ks:List Int):endG pl F (d.withKids ks)=endG pl F d:=rfl
theorem end_eq {pl:List (ByteArray×Int)} {F:List Fl} {t:Tr} (hr:right t=true) {j:Nat} (hj:j < t.ns.length):endAt pl F t.ns j=endG pl F t.ns[j] (t.ns[j].kids.map (endAt pl F t.ns)):=
 tabOf_eq (fun d g g' h=>by rw[List.map_congr_left h]) hr hj
theorem end_left {pl:List (ByteArray×Int)} {F:List Fl} {t:Tr} (hr:right t=true):∀ (m j:Nat),j < m→j < t.ns.length→(endAt pl F t.ns j).1=leftAt pl F t.ns j
 | 0,j,h,_=>absurd h (Nat.not_lt_zero _)
 | m+1,j,hm,hj=>by
  rw[end_eq hr hj,left_eq hr hj]
  have:(t.ns[j].kids.map (endAt pl F t.ns)).map (·.1)=t.ns[j].kids.map (leftAt pl F t.ns):=by
   rw[List.map_map]
   refine List.map_congr_left fun k hk=>?_
   obtain⟨h1,h2⟩:=right_kids hr j hj k hk
   obtain⟨q,rfl⟩:=Int.eq_ofNat_of_zero_le h1
   exact end_left hr m q (by omega) (by omega)
  show leftF pl F t.ns[j] _=_
  rw[this]
theorem end_ct (pl:List (ByteArray×Int)) (F:List Fl) (ns:List Nd) (j:Int):endAt pl F (ns.map Nd.ct) j=endAt pl F ns j:=by
 unfold endAt tabOf
 rw[tab_ct (f:=fun d g=>endG pl F d (d.kids.map g)) (g:=fun d g=>endG pl F d (d.kids.map g)) (fun d q=>rfl)]
theorem subAt_end {pl:List (ByteArray×Int)} {F:List Fl} {t:Tr} (hr:right t=true) {j:Nat} (hj:j < t.ns.length) {t':Tr} (h:SubAt t j t'):endAt pl F t'.ns t'.root=endAt pl F t.ns j:=by
 have hl:=congrArg List.length h.ct
 rw[List.length_map] at hl
 rw[←end_ct,h.ct,h.root,hl]
 exact sub_tab (right_iff.1 hr) (F:=endG pl F) (fun d ks=>endG_kids pl F d ks) hj
set_option maxRecDepth 100000 in
set_option maxHeartbeats 8000000 in
theorem REndless_rec {g:Gr} {F:List Fl} (hFn:F.length=g.n) {W:Nat}:∀ (m:Nat) {I:GH} {M0:List Blk} (hg:g.ok I) {t:Tr} (ht:t.ok I) (hr:right t=true) (hf:Fit t W) (hno:namedOk (placesL g.ds) t.ns=true) {fa:Option Addr} {fc:Nat} (hF:FsAt I M0 fa g.n F),t.ns.length≤m →
  Spec Tryz.prog 64 [g.val,.slice fa g.n fc,t.val] I M0 fun v I' M'=>(∀ b o,I b=some o→I' b=some o)∧v=.bool (endAt (placesL g.ds) F t.ns t.root).2∧M'=M0
 | 0,_,_,_,t,_,hr,_,_,_,_,_,hm=>by
  have:=right_root hr
  omega
 | m+1,I,M0,hg,t,ht,hr,hf,hno,fa,fc,hF,hm=>by
  have ih:=@REndless_rec g F hFn W m
  have htn:=ht.n
  have hgn:=hg.n
  obtain⟨hr0,hr1⟩:=right_root hr
  obtain⟨r,hrr⟩:=Int.eq_ofNat_of_zero_le hr0
  have hrl:r < t.ns.length:=by omega
  have hdm:=List.getElem_mem hrl
  have hd:=ht.ns _ hdm
  have hfit:=right_fits hr hrl
  have hfm:=fits_more hd.k.1 hfit
  have hkv:=right_kids hr r hrl
  have hfn:=hf.n
  have hpe:(endAt (placesL g.ds) F t.ns t.root).2=endF (placesL g.ds) F t.ns[r] (t.ns[r].kids.map (endAt (placesL g.ds) F t.ns)):=by
   rw[hrr,end_eq hr hrl]
   rfl
  have hkids:=RKids_spec (M0:=M0) ht hr hf
  have hroot:=RRoot_spec (M0:=M0) ht hr hf
  have hsz:=szOf_eq hr hrl
  have hsl:=sz_le hr t.ns.length r hrl (by omega)
  have hna:nodeAt t.ns t.root.toNat=t.ns[r]:=by
   rw[hrr]
   exact nodeAt_eq hrl
  have hKW:t.ns[r].kids.length≤t.ns.length:=by
   have h3:t.ns[r].kids.length≤sumOf (szOf t.ns) t.ns[r].kids:=len_le_sum hr fun k hk=>by
    have:=hkv k hk
    omega
   omega
  rw[hna] at hkids hroot
  rw[hpe]
  generalize t.ns[r]=d at *
  refine spec_of_V [10] TryzEOK Tryz.func64 rfl rfl rfl ?_
  intro B h0
  refine CallOb.whole _ hroot ?_
  rintro v J N - ⟨rfl,hJ,hN⟩
  subst J
  subst N
  refine CallOb.whole _ hkids ?_
  rintro v J N - ⟨hJ,os,L,hos,rfl,hN,hLl,hL⟩
  subst N
  have hgJ:=hg.mono hJ
  have hks:d.kids.map (endAt (placesL g.ds) F t.ns)=L.map fun t'=>endAt (placesL g.ds) F t'.ns t'.root:=by
   apply List.ext_getElem
   ·simp[hLl]
   ·intro q h1 h2
    have hq:q < d.kids.length:=by simpa using h1
    have hql:q < L.length:=by omega
    obtain⟨-,hS⟩:=hL q hql
    have e:d.kids.getD q 0=d.kids[q]:=by simp[List.getD_eq_getElem?_getD,hq]
    rw[e] at hS
    have hv:=hkv _ (List.getElem_mem hq)
    obtain⟨k,hk⟩:=Int.eq_ofNat_of_zero_le hv.1
    rw[hk] at hS
    have:=subAt_end (pl:=placesL g.ds) (F:=F) hr (j:=k) (by omega) hS
    simp only[List.getElem_map]
    rw[this,hk]
  have hkid:∀ q (h:q < L.length),(L[q]).ok J∧right L[q]=true∧Fit L[q] W∧namedOk (placesL g.ds) L[q].ns=true∧L[q].ns.length≤m:=fun q hql=>by
   obtain⟨hok,hS⟩:=hL q hql
   have hq:q < d.kids.length:=by omega
   have e:d.kids.getD q 0=d.kids[q]:=by simp[List.getD_eq_getElem?_getD,hq]
   have hmem:=List.getElem_mem hq
   rw[e] at hS
   have hv:=hkv _ hmem
   obtain⟨k,hk⟩:=Int.eq_ofNat_of_zero_le hv.1
   have hs1:=sumOf_mem (g:=szOf t.ns) hmem
   rw[hk] at hS hs1
   have hkl:k < t.ns.length:=by omega
   have h1:=subAt_right hr hkl hS
   have h2:=subAt_fit hr hf ht hkl hS hok
   have h3:=subAt_named hr hno hkl hS
   have h4:=subAt_len hr hkl hS
   exact⟨hok,h1,h2,h3,by omega⟩
  rw[hks]
  have hon:os.n=L.length:=by
   have:=hos.len
   rw[flat_len Tr.cells 2 (fun _=>rfl)] at this
   omega
  have hcall:∀ {K:GH} {M:List Blk} q (h:q < L.length),(∀ b o,J b=some o→K b=some o)→(∀ z∈M0,z∈M)→Spec Tryz.prog 64 [g.val,.slice fa g.n fc,L[q].val] K M fun v I' M'=>(∀ b o,K b=some o→I' b=some o)∧v=.bool (endAt (placesL g.ds) F L[q].ns L[q].root).2∧M'=M:=fun {K M} q hq hK hM=>by
   obtain⟨h1,h2,h3,h4,h5⟩:=hkid q hq
   exact ih (hgJ.mono hK) (h1.mono hK) h2 h3 h4 (((hF.mono hJ).mono hK).sub hM) h5
  have htree:∀ {K:GH} {M:List Blk} q (h:q < L.length),(∀ b o,J b=some o→K b=some o)→(∀ z∈M0,z∈M)→Spec Tryz.prog 105 [g.val,.slice fa g.n fc,L[q].val] K M fun v I' M'=>I'=K∧M'=M∧v=.tuple #[(endAt (placesL g.ds) F L[q].ns L[q].root).1.1.val,.bool true]:=fun {K M} q hq hK hM=>by
   obtain⟨h1,h2,h3,h4,h5⟩:=hkid q hq
   have hsp:=RFTree_spec (hgJ.mono hK) (h1.mono hK) h3 (lc:=fc) (((hF.mono hJ).mono hK).sub hM)
   obtain⟨p0,p1⟩:=right_root h2
   obtain⟨p,hp⟩:=Int.eq_ofNat_of_zero_le p0
   have hel:(endAt (placesL g.ds) F L[q].ns L[q].root).1=leftAt (placesL g.ds) F L[q].ns L[q].root:=by
    rw[hp]
    exact end_left h2 (p+1) p (by omega) (by omega)
   have htp:treeP g F L[q]=some (endAt (placesL g.ds) F L[q].ns L[q].root).1.1:=by
    rw[hel,treeP,nodesP,decide_eq_true hFn,h2,h4,left_flow]
    rfl
   rw[htp] at hsp
   exact hsp
  have hrow:∀ {K:GH} {M:List Blk} q (h:q < L.length),(∀ z∈os.blk 43,z∈M)→∃ ad,(os.a.map fun g=>(⟨g,0,none⟩:Addr))=some ad∧Rd K M (ad.add (q * 2)) 2 L[q].cells:=fun {K M} q hq hM=>
   OS.ok.row (I:=K) (M:=M) (e:=43) (f:=Tr.cells) (size:=2) (fun _=>rfl) (by decide) hos hM hq
  refine LoopOb.inv (ι:=Nat×GH) (fun x=>{ fl:=[(1,.val (.slice fa g.n fc)),(3,.ref 3 0),(7,.ref 7 0),(8,.val os.val),(9,.val (.int .i64 x.1))],cl:=[(3,[.slice g.a g.n g.c]),(7,(d.withKids []).cells)],gi:=x.2,mi:=os.blk 43++M0 })
   (fun x=>x.1≤L.length∧(∀ b o,J b=some o→x.2 b=some o)∧endF (placesL g.ds) F d (L.map fun t'=>endAt (placesL g.ds) F t'.ns t'.root)=endF (placesL g.ds) F d ((L.drop x.1).map fun t'=>endAt (placesL g.ds) F t'.ns t'.root)) (fun x=>L.length - x.1) ?_ ?_
  ·exact⟨(0,J),⟨Nat.zero_le _,fun _ _ h=>h,rfl⟩,.refl,aF5,.cons rfl (.cons rfl (.nil))⟩
  rintro⟨i,K⟩ ⟨hi,hK,hgo⟩
  simp only at hi hK hgo
  refine CondOb.mk (fun h=>?_) (fun h=>?_)
  rotate_left
  ·have hge:L.length≤i:=by have:¬ (i:Int) < (os.n:Int):=of_decide_eq_false h;omega
   rw[List.drop_of_length_le hge] at hgo
   exact⟨_,M0,.sub (List.sublist_append_right _ _) .refl,fun b o h=>hK _ _ (hJ _ _ h),by rw[hgo];rfl,rfl⟩
  have hlt:i < L.length:=by have:(i:Int) < (os.n:Int):=of_decide_eq_true h;omega
  rw[List.drop_eq_getElem_cons hlt,List.map_cons] at hgo
  have ht1:=fun (M:List Blk) (hM:∀ z∈M0,z∈M)=>htree (K:=K) (M:=M) i hlt hK hM
  have hc1:=fun (M:List Blk) (hM:∀ z∈M0,z∈M)=>hcall (K:=K) (M:=M) i hlt hK hM
  have hr1:=fun (M:List Blk) (hM:∀ z∈os.blk 43,z∈M)=>hrow (K:=K) (M:=M) i hlt hM
  obtain⟨ad3,had3,hrd3⟩:=hr1 (os.blk 43++M0) (fun z hz=>by simp[hz])
  generalize endAt (placesL g.ds) F L[i].ns L[i].root=x at *
  refine CodeOb.drawC TryzEOK rfl rfl rfl (ι:=Nat) (fun b10=>{ fl:=[(1,.val (.slice fa g.n fc)),(3,.ref 3 0),(7,.ref 7 0),(8,.val os.val),(9,.val (.int .i64 i)),(10,.val (ptr b10))],cl:=[(3,[.slice g.a g.n g.c]),(7,(d.withKids []).cells)],gi:=K,mi:=⟨b10,.cells x.1.1.cells.toArray 161 (0,0)⟩::(os.blk 43++M0) }) (fun _=>True) ?_ ?_
  ·refine IdxOb.mk ad3 i had3 rfl (by omega) ?_
   refine LoadOb.mk _ hrd3 ?_
   refine⟨?_,?_⟩
   ·refine CallOb.whole _ (ht1 _ (fun z hz=>by simp[hz])) ?_
    rintro v K3 N - ⟨hK3,hN,rfl⟩
    subst K3
    subst N
    refine AllocOb.mk fun b10 hb10 hbM10=>?_
    refine StoreOb.mk [] _ _ _ rfl rfl (Nat.le_of_ble_eq_true rfl) rfl ?_
    exact⟨b10,trivial,.refl,aF6,.cons rfl (.cons rfl (.nil))⟩
   ·refine AllocOb.mk fun b10 hb10 hbM10=>?_
    refine PCallOb.whole _ (ht1 _ (fun z hz=>by simp[hz])) (fun v I' M' h x hx=>by rw[h.2.1];exact hx) ?_
    rintro v K3 N - ⟨hK3,hN,rfl⟩
    subst K3
    subst N
    refine StoreOb.mk [] _ _ _ rfl rfl (Nat.le_of_ble_eq_true rfl) rfl ?_
    exact⟨b10,trivial,.refl,aF6,.cons rfl (.cons rfl (.nil))⟩
  rintro b10 -
  have hcons:endF (placesL g.ds) F d (x::(L.drop (i+1)).map fun t'=>endAt (placesL g.ds) F t'.ns t'.root)=(((decide (d.k=6) && (decide (d.hi=-1) && x.1.1.z)) || x.2) || endF (placesL g.ds) F d ((L.drop (i+1)).map fun t'=>endAt (placesL g.ds) F t'.ns t'.root)):=by
   simp[endF]
  rw[hcons] at hgo
  clear hcons
  obtain⟨ad4,had4,hrd4⟩:=hr1 (⟨b10,.cells x.1.1.cells.toArray 161 (0,0)⟩::(os.blk 43++M0)) (fun z hz=>by simp[hz])
  refine CodeOb.draw TryzEOK rfl rfl rfl ?_
  refine GuardOb.mk (fun h6=>?_) (fun h6=>?_)
  ·have h6':decide (d.k=6)=true:=h6
   refine GuardOb.mk (fun hh=>?_) (fun hh=>?_)
   ·have hh':decide (d.hi=-1)=true:=hh
    refine LoadOb.mk [.bool x.1.1.z] (blk_rd (cs:=x.1.1.cells) (k:=0) (n:=1) (.head _) (Nat.le_of_ble_eq_true rfl)) ?_
    refine GuardOb.mk (fun hz=>?_) (fun hz=>?_)
    ·have hz':x.1.1.z=false:=hz
     have hcf:(decide (d.k=6) && (decide (d.hi=-1) && x.1.1.z))=false:=by rw[hz'];simp
     rw[hcf,Bool.false_or] at hgo
     refine IdxOb.mk ad4 i had4 rfl (by omega) ?_
     refine LoadOb.mk _ hrd4 ?_
     refine CallOb.whole _ (hc1 _ (fun z hz=>by simp[hz])) ?_
     rintro v K3 N - ⟨hK3,rfl,hN⟩
     subst N
     have hK13:∀ b o,J b=some o→K3 b=some o:=fun b o h=>hK3 _ _ (hK _ _ h)
     refine CondOb.mk (fun he=>?_) (fun he=>?_)
     ·have he':x.2=true:=he
      refine⟨_,M0,.sub (.cons _ (List.sublist_append_right _ _)) .refl,fun b o h=>hK13 _ _ (hJ _ _ h),?_,rfl⟩
      rw[hgo,he']
      rfl
     ·have he':x.2=false:=he
      refine ArithOb.mk _ (next_wr (i:=i) (by omega)) ?_
      refine⟨(i+1,K3),⟨⟨hlt,hK13,?_⟩,by simp only;omega⟩,.sub (.cons _ (.refl _)) .refl,aF5,.cons rfl (.cons rfl (.nil))⟩
      simp only
      rw[hgo,he',Bool.false_or]
    ·have hz':x.1.1.z=true:=by
      have:x.1.1.z=!false:=hz
      simpa using this
     refine⟨_,M0,.sub (.cons _ (List.sublist_append_right _ _)) .refl,fun b o h=>hK _ _ (hJ _ _ h),?_,rfl⟩
     rw[hgo,h6',hh',hz']
     rfl
   ·have hh':decide (d.hi=-1)=false:=hh
    have hcf:(decide (d.k=6) && (decide (d.hi=-1) && x.1.1.z))=false:=by rw[hh'];simp
    rw[hcf,Bool.false_or] at hgo
    refine IdxOb.mk ad4 i had4 rfl (by omega) ?_
    refine LoadOb.mk _ hrd4 ?_
    refine CallOb.whole _ (hc1 _ (fun z hz=>by simp[hz])) ?_
    rintro v K3 N - ⟨hK3,rfl,hN⟩
    subst N
    have hK13:∀ b o,J b=some o→K3 b=some o:=fun b o h=>hK3 _ _ (hK _ _ h)
    refine CondOb.mk (fun he=>?_) (fun he=>?_)
    ·have he':x.2=true:=he
     refine⟨_,M0,.sub (.cons _ (List.sublist_append_right _ _)) .refl,fun b o h=>hK13 _ _ (hJ _ _ h),?_,rfl⟩
     rw[hgo,he']
     rfl
    ·have he':x.2=false:=he
     refine ArithOb.mk _ (next_wr (i:=i) (by omega)) ?_
     refine⟨(i+1,K3),⟨⟨hlt,hK13,?_⟩,by simp only;omega⟩,.sub (.cons _ (.refl _)) .refl,aF5,.cons rfl (.cons rfl (.nil))⟩
     simp only
     rw[hgo,he',Bool.false_or]
  ·have h6':decide (d.k=6)=false:=h6
   have hcf:(decide (d.k=6) && (decide (d.hi=-1) && x.1.1.z))=false:=by rw[h6'];simp
   rw[hcf,Bool.false_or] at hgo
   refine IdxOb.mk ad4 i had4 rfl (by omega) ?_
   refine LoadOb.mk _ hrd4 ?_
   refine CallOb.whole _ (hc1 _ (fun z hz=>by simp[hz])) ?_
   rintro v K3 N - ⟨hK3,rfl,hN⟩
   subst N
   have hK13:∀ b o,J b=some o→K3 b=some o:=fun b o h=>hK3 _ _ (hK _ _ h)
   refine CondOb.mk (fun he=>?_) (fun he=>?_)
   ·have he':x.2=true:=he
    refine⟨_,M0,.sub (.cons _ (List.sublist_append_right _ _)) .refl,fun b o h=>hK13 _ _ (hJ _ _ h),?_,rfl⟩
    rw[hgo,he']
    rfl
   ·have he':x.2=false:=he
    refine ArithOb.mk _ (next_wr (i:=i) (by omega)) ?_
    refine⟨(i+1,K3),⟨⟨hlt,hK13,?_⟩,by simp only;omega⟩,.sub (.cons _ (.refl _)) .refl,aF5,.cons rfl (.cons rfl (.nil))⟩
    simp only
    rw[hgo,he',Bool.false_or]
end Go.V
