/-
  Part 6 of what the proofs of this seat share: the executor, data in memory, walks.
-/
import Derived.Test.YtjiljjappjmlkaaGreatDoorK5
import Derived.Test.YtjiljjappjmlkaaGreatDoorK3
import Derived.Test.YtjiljjappjmlkaaGreatDoorK2
set_option linter.all false
namespace Go.V
open Go
section
variable {X:Ctx} {G:GT} {pr:PR} {D:Nm} {m:Me} {F:Fr} {fr:Tri EV} {C:Bx} {I:GH} {M:List Blk} {V:SV→Prop} {O:Prop}
theorem pickV_val (c:Bool) (a b:Value):pickV c (.val a) (.val b)=.val (bif c then a else b):=by
 cases a<;>cases b<;>cases c<;>rfl
theorem optN_ok {o:Option Operand} {xs:List Operand} (H:OR D F fr xs) (hx:∀ y,o=some y→y∈xs) {r:Option Nat} (h:optN (o.map (rdO fr))=some r) :
  (o.map (evq (evr F))=none∧r=none)∨∃ k n,o.map (evq (evr F))=some (.val (.int k (Int.ofNat n)))∧r=some n:=by
 cases o with
 | none=>simp[optN] at h;exact .inl ⟨rfl,h.symm⟩
 | some y=>
  simp only[Option.map_some,optN] at h
  cases hv:rdO fr y with
  | none=>rw[hv] at h;cases h
  | some v=>
   rw[hv] at h
   simp only at h
   split at h
   ·rename_i n hn
    cases h
    obtain⟨k,rfl⟩:=natE hn
    obtain⟨u,hu,hr⟩:=H.ev (hx y rfl) hv
    rw[hr.int] at hu
    exact .inr ⟨k,n,by simp only[Option.map_some];exact congrArg some hu,rfl⟩
   ·cases h
theorem partS_eq (l:List UInt8) (lo hi:Nat):(⟨(partS l lo hi).toArray⟩:ByteArray)=(⟨l.toArray⟩:ByteArray).extract lo hi:=by
 apply ByteArray.ext
 apply Array.ext'
 unfold partS
 rw[dropE_eq]
 simp[ByteArray.data_extract,List.extract_eq_take_drop]
theorem lenS_ok {v:EV} {n:Nat} {u:Value} (h:lenS v=some n) (hv:VR D v u):∃ a c,u=.slice a n c:=by
 unfold lenS at h
 split at h
 ·cases h;exact⟨_,_,hv.sln⟩
 ·cases h;obtain⟨a,c,rfl⟩:=hv.slo;exact⟨_,_,rfl⟩
 ·cases h;obtain⟨a,_,rfl⟩:=hv.sli;exact⟨_,_,rfl⟩
 ·cases h;obtain⟨a,_,_,rfl⟩:=hv.slx;exact⟨_,_,rfl⟩
 ·cases h;exact⟨_,_,hv.sgl⟩
 ·cases h
theorem q_call_ok (hE:EOK X.P X.E) {b:Builtin} {args:Array Operand} {ts:Array TypeId} {v:EV} (h:q_call X.E b ts.toList (rdL fr args.toList)=some v) (H:OR D F fr args.toList) (k:∀ x,SvE D x v→V x) :
  V_q X (.call { callee:=.builtin b,args:=args,argTypes:=ts }) (evr F) C I M V O:=by
 unfold q_call at h
 split at h
 ·
  unfold q_len at h
  split at h
  ·rename_i t w ht hl
   obtain⟨us,e1,g1⟩:=H.evs (fun _ h=>h) hl
   obtain⟨u,xs,g2,g3,rfl⟩:=g1.uncons
   have:=g3.unnil
   subst this
   have e1':evqs (evr F) args.toList=some [u]:=e1
   simp only[V_q,ht,e1']
   split at h
   ·rename_i a b z e v' hE1
    unfold nO at h
    obtain⟨n,hn,h⟩:=opn_eq h
    have h9:some (EV.i .i64 (.ofNat n))=some v:=h
    cases h9
    obtain⟨a',c,rfl⟩:=lenS_ok hn g2
    simp only[hE1]
    exact k _ (.val (by simp only[VR];rfl))
   ·rename_i a b z l hE1
    cases h
    rw[g2.str]
    simp only[hE1]
    refine k _ (.val ?_)
    simp only[VR]
    simp[ByteArray.size]
   ·rename_i a b z n e v' hE1
    cases h
    cases u<;>(simp only[hE1];exact k _ (.val (by simp only[VR];rfl)))
   ·cases h
  ·cases h
 ·unfold q_max at h
  split at h
  ·rename_i k1 a k2 b hl
   obtain⟨us,e1,g1⟩:=H.evs (fun _ h=>h) hl
   obtain⟨u,xs,g2,g3,rfl⟩:=g1.uncons
   obtain⟨w,ys,g4,g5,rfl⟩:=g3.uncons
   have:=g5.unnil
   subst this
   have e1':evqs (evr F) args.toList=some [u,w]:=e1
   rw[g2.int,g4.int] at e1'
   simp only[V_q,e1']
   cases h
   refine k _ (.val ?_)
   simp only[VR]
   rw[cnd_eq,leI_eq]
   by_cases hab:a≤b
   ·simp[hab];omega
   ·simp[hab];omega
  ·cases h
 ·unfold q_min at h
  split at h
  ·rename_i k1 a k2 b hl
   obtain⟨us,e1,g1⟩:=H.evs (fun _ h=>h) hl
   obtain⟨u,xs,g2,g3,rfl⟩:=g1.uncons
   obtain⟨w,ys,g4,g5,rfl⟩:=g3.uncons
   have:=g5.unnil
   subst this
   have e1':evqs (evr F) args.toList=some [u,w]:=e1
   rw[g2.int,g4.int] at e1'
   simp only[V_q,e1']
   cases h
   refine k _ (.val ?_)
   simp only[VR]
   rw[cnd_eq,leI_eq]
   by_cases hab:a≤b
   ·simp[hab];omega
   ·simp[hab];omega
  ·cases h
 ·unfold q_cap at h
  split at h
  ·rename_i t id off n c ht hl
   split at h
   ·rename_i a b z e hE1
    cases h
    obtain⟨us,e1,g1⟩:=H.evs (fun _ h=>h) hl
    obtain⟨u,xs,g2,g3,rfl⟩:=g1.uncons
    have:=g3.unnil
    subst this
    obtain⟨a',ha,rfl⟩:=g2.sli
    have e1':evqs (evr F) args.toList=some [_]:=e1
    simp only[V_q,ht,e1',hE1]
    exact k _ (.val (by simp only[VR];rfl))
   ·cases h
  ·cases h
 ·unfold q_data at h
  split at h
  ·rename_i hl
   cases h
   obtain⟨us,e1,g1⟩:=H.evs (fun _ h=>h) hl
   obtain⟨u,xs,g2,g3,rfl⟩:=g1.uncons
   have:=g3.unnil
   subst this
   rw[g2.sln] at e1
   have e1':evqs (evr F) args.toList=some [_]:=e1
   simp only[V_q,e1']
   exact k _ (.val (by simp only[VR]))
  ·rename_i id off n c hl
   obtain⟨h0,h⟩:=cnd_none h
   cases h
   obtain⟨us,e1,g1⟩:=H.evs (fun _ h=>h) hl
   obtain⟨u,xs,g2,g3,rfl⟩:=g1.uncons
   have:=g3.unnil
   subst this
   obtain⟨a',ha,rfl⟩:=g2.sli
   have e1':evqs (evr F) args.toList=some [_]:=e1
   simp only[V_q,e1']
   refine⟨fun e=>?_,k _ (.val ?_)⟩
   ·have:c=0:=by omega
    subst this
    cases h0
   ·simp only[VR]
    exact⟨a',ha,rfl⟩
  ·rename_i id off e n hl
   obtain⟨h0,h⟩:=cnd_none h
   cases h
   obtain⟨us,e1,g1⟩:=H.evs (fun _ h=>h) hl
   obtain⟨u,xs,g2,g3,rfl⟩:=g1.uncons
   have:=g3.unnil
   subst this
   obtain⟨a',ha,hle,rfl⟩:=g2.slx
   have e1':evqs (evr F) args.toList=some [_]:=e1
   simp only[V_q,e1']
   refine⟨fun e'=>?_,k _ (.val ?_)⟩
   ·have:n=0:=by omega
    subst this
    cases h0
   ·simp only[VR]
    exact⟨a',ha,rfl⟩
  ·cases h
 ·cases h
theorem E_q_ok (hE:EOK X.P X.E) {op:Op} {v:EV} (h:E_q X.P X.E G m.t op fr=some v) (H:OR D F fr op.operands.toList) (hm:MS (RX X G pr) D m I M) (k:∀ x,SvE D x v→V x):V_q X op (evr F) C I M V O:=by
 unfold E_q at h
 split at h
 ·
  exact k _ (H _ (by simp[Op.operands]) _ h)
 ·exact k _ (H _ (by simp[Op.operands]) _ h)
 ·
  rename_i c a b
  unfold q_pick at h
  split at h
  ·rename_i q u w h1 h2 h3
   cases h
   have hc:=H c (by simp[Op.operands]) _ h1
   have ha:=H a (by simp[Op.operands]) _ h2
   have hb:=H b (by simp[Op.operands]) _ h3
   simp only[V_q]
   rcases hc with ⟨uc,ec,hc⟩ | ⟨q',e',ec⟩
   ·rw[hc.bool] at ec
    simp only[ec]
    obtain⟨ua,ea,ga⟩:=ha.evq
    obtain⟨ub,eb,gb⟩:=hb.evq
    have ea':evq (evr F) a=.val ua:=ea
    have eb':evq (evr F) b=.val ub:=eb
    rw[ea',eb']
    refine k _ (.inl ⟨bif q then ua else ub,?_,?_⟩)
    ·exact pickV_val q ua ub
    ·cases q
     ·exact gb
     ·exact ga
   ·cases e'
    simp only[ec]
    cases q
    ·exact k _ hb
    ·exact k _ ha
  ·cases h
 ·
  rename_i uop t x
  unfold q_un at h
  split at h
  ·rename_i b h1
   cases h
   have hx:=H x (by simp[Op.operands]) _ h1
   simp only[V_q]
   rcases hx with ⟨u,e,hu⟩ | ⟨q,e1,e⟩
   ·rw[hu.bool] at e
    simp only[e]
    exact k _ (.val (by simp only[VR];rw[cnd_not]))
   ·cases e1
    simp only[e]
    exact k _ (.inr ⟨!b,by rw[cnd_not],rfl⟩)
  ·rename_i kk n h1
   cases h
   have hx:=H x (by simp[Op.operands]) _ h1
   obtain⟨u,e,hu⟩:=hx.nb (by simp)
   rw[hu.int] at e
   simp only[V_q,e]
   exact⟨_,rfl,k _ (.val (by simp only[VR];rw[wrapE_eq]))⟩
  ·cases h
 ·
  rename_i bop t x y t'
  unfold q_bin at h
  obtain⟨a,h1,h⟩:=opn_eq h
  obtain⟨b,h2,h⟩:=opn_eq h
  obtain⟨u,e1,g1⟩:=H.ev (x:=x) (by simp[Op.operands]) h1
  obtain⟨w,e2,g2⟩:=H.ev (x:=y) (by simp[Op.operands]) h2
  have e1':evq (evr F) x=.val u:=e1
  have e2':evq (evr F) y=.val w:=e2
  simp only[V_q,e1',e2']
  exact E_bin_ok hE h g1 g2 fun r hr=>k _ (.val hr)
 ·
  rename_i t x
  unfold q_load at h
  obtain⟨i,hi,h⟩:=opn_eq h
  obtain⟨a,h1,h⟩:=opn_eq h
  have hx:=H x (by simp[Op.operands]) _ h1
  have hnb:∀ q,a≠.b q:=fun q e=>by subst e;cases h
  obtain⟨u,e1,g1⟩:=hx.nb hnb
  obtain⟨ad,l,vs,rfl,hrd,hl,hp⟩:=loadE_ok hm g1 h
  simp only[V_q,hi,e1]
  exact⟨vs,hrd,k _ (.val (packE_ok hp hl))⟩
 ·
  rename_i x
  unfold q_nil at h
  split at h
  ·rename_i id off h1
   cases h
   obtain⟨u,e1,g1⟩:=(H x (by simp[Op.operands]) _ h1).nb (by simp)
   obtain⟨a,ha,rfl⟩:=g1.ptr
   simp only[V_q,e1]
   exact k _ (.val g1)
  ·rename_i id off h1
   cases h
   obtain⟨u,e1,g1⟩:=(H x (by simp[Op.operands]) _ h1).nb (by simp)
   have:=g1.glo
   subst this
   simp only[V_q,e1]
   exact k _ (.val g1)
  ·cases h
 ·
  rename_i t x i
  unfold q_faddr at h
  obtain⟨r,hr,h⟩:=opn_eq h
  obtain⟨a,h1,h⟩:=opn_eq h
  obtain⟨off,fi⟩:=r
  obtain⟨hz,h⟩:=cnd_none h
  obtain⟨sa,sb,sz,fs,ft,ht,hf,hft⟩:=offOf_ok hr
  have hx:=H x (by simp[Op.operands]) _ h1
  have hnb:∀ q,a≠.b q:=fun q e=>by subst e;cases h
  obtain⟨u,e1,g1⟩:=hx.nb hnb
  obtain⟨ad,rfl,hs,hv⟩:=addE_ok h g1
  have hz':Nat.beq fi.size 0=false:=hz
  simp only[V_q,ht,hf,hft,e1,hz',cond_false]
  exact k _ (.val hv)
 ·
  rename_i t x i
  unfold q_field at h
  split at h
  ·rename_i off fi cs h0 h1
   obtain⟨sa,sb,sz,fs,ft,ht,hf,hft⟩:=offOf_ok h0
   obtain⟨u,e1,g1⟩:=H.ev (x:=x) (by simp[Op.operands]) h1
   obtain⟨us,hus,rfl⟩:=g1.agg
   obtain⟨h2,h3⟩:=q_part_ok h hus
   have e1':evq (evr F) x=.val (.agg us.toArray):=e1
   simp only[V_q,ht,e1',hf,hft]
   rw[show Nat.ble (off+fi.size) us.toArray.size=true from Nat.ble_eq_true_of_le (by simpa using h2)]
   exact k _ (.val h3)
  ·cases h
 ·
  rename_i t x i
  unfold q_iaddr at h
  obtain⟨r,hr,h⟩:=opn_eq h
  obtain⟨a,h1,h⟩:=opn_eq h
  obtain⟨b,h2,h⟩:=opn_eq h
  obtain⟨j,hj,h⟩:=opn_eq h
  obtain⟨kk,rfl⟩:=natE hj
  obtain⟨u,e2,g2⟩:=H.ev (x:=i) (by simp[Op.operands]) h2
  rw[g2.int] at e2
  have e2':evq (evr F) i=.val (.int kk (.ofNat j)):=e2
  obtain⟨rn,ei⟩:=r
  rcases elOf_ok hr with ⟨sa,sb,sz,e,ht,he,rfl⟩ | ⟨sa,sb,sz,n,e,ht,he,rfl⟩
  ·have h':elemE a j ei.size=some v:=h
   obtain⟨w,e1,g1⟩:=H.ev (x:=x) (by simp[Op.operands]) h1
   obtain⟨ad,n,c,rfl,hlt,hv⟩:=elemE_ok h' g1
   have e1':evq (evr F) x=.val (.slice (some ad) n c):=e1
   simp only[V_q,ht,e2',he,e1']
   exact⟨ad,j,rfl,rfl,hlt,k _ (.val hv)⟩
  ·have h':cnd (Nat.blt j n) (addE a (Nat.mul j ei.size)) none=some v:=h
   obtain⟨hb,h'⟩:=cnd_some h'
   have hx:=H x (by simp[Op.operands]) _ h1
   have hnb:∀ q,a≠.b q:=fun q e=>by subst e;cases h'
   obtain⟨w,e1,g1⟩:=hx.nb hnb
   obtain⟨ad,rfl,hs,hv⟩:=addE_ok h' g1
   simp only[V_q,ht,e2',he,e1]
   exact⟨j,rfl,Nat.le_of_ble_eq_true hb,k _ (.val hv)⟩
 ·
  rename_i t x i
  cases h1:rdO fr x with
  | none=>rw[h1] at h;unfold q_index at h;split at h<;>first | cases h | (rename_i e _;cases e)
  | some a=>
   cases h2:rdO fr i with
   | none=>rw[h2] at h;unfold q_index at h;split at h<;>first | cases h | (rename_i e;cases e)
   | some b=>
    rw[h1,h2] at h
    obtain⟨u,e1,g1⟩:=H.ev (x:=x) (by simp[Op.operands]) h1
    obtain⟨w,e2,g2⟩:=H.ev (x:=i) (by simp[Op.operands]) h2
    exact q_index_ok h g1 g2 e1 e2 k
 ·
  rename_i t parts
  unfold q_build at h
  split at h
  ·rename_i i vs ht hp
   obtain⟨z,hz,h⟩:=opn_eq h
   have hz':=VRs.ofL (D:=D) hz
   obtain⟨us,e1,g1⟩:=H.parts (l:=parts.toList) (by intro y hy;simpa[Op.operands] using hy) hp
   have e1':evqParts (evr F) parts.toList=some us:=e1
   try simp only at h
   split at h
   ·rename_i fs hsh
    obtain⟨hpl,h⟩:=cnd_some h
    unfold aO at h
    obtain⟨cs,h3,h4⟩:=opn_eq h
    have h9:some (EV.a cs)=some v:=h4
    cases h9
    obtain⟨rs,h5,h6⟩:=fillE_ok h3 hz' g1
    simp only[V_q,ht,e1',hsh,hpl,cond_true,h5]
    exact k _ (.val (.mkAgg h6))
   ·rename_i n e hsh
    obtain⟨ei,he,h⟩:=opn_eq h
    have h':aO (fillE (fun j=>some (j * ei.size,ei.size)) z vs)=some v:=h
    unfold aO at h'
    obtain⟨cs,h3,h4⟩:=opn_eq h'
    have h9:some (EV.a cs)=some v:=h4
    cases h9
    obtain⟨rs,h5,h6⟩:=fillE_ok h3 hz' g1
    simp only[V_q,ht,e1',hsh,he,h5]
    exact k _ (.val (.mkAgg h6))
   ·cases h
  ·cases h
 ·
  rename_i f first captured
  unfold q_fun at h
  split at h
  ·rename_i g fs cs h1 h2
   cases h
   obtain⟨us,e1,g1⟩:=H.evs (l:=first.toList) (by intro y hy;simp[Op.operands];exact .inl (by simpa using hy)) h1
   obtain⟨ws,e2,g2⟩:=H.evs (l:=captured.toList) (by intro y hy;simp[Op.operands];exact .inr (by simpa using hy)) h2
   have e1':evqs (evr F) first.toList=some us:=e1
   have e2':evqs (evr F) captured.toList=some ws:=e2
   simp only[V_q,e1',e2']
   exact k _ (.val (by simp only[VR];exact⟨us,ws,g1,g2,rfl⟩))
  ·cases h
 ·
  rename_i t x lo hi
  cases h1:rdO fr x with
  | none=>rw[h1] at h;unfold q_slice at h;split at h<;>first | cases h | (rename_i e _ _;cases e)
  | some a=>
   rw[h1] at h
   cases h2:optN (lo.map (rdO fr)) with
   | none=>rw[h2] at h;unfold q_slice at h;split at h<;>first | cases h | (rename_i e _;cases e)
   | some l=>
    rw[h2] at h
    cases h3:optN (hi.map (rdO fr)) with
    | none=>rw[h3] at h;unfold q_slice at h;split at h<;>first | cases h | (rename_i e;cases e)
    | some hh=>
     rw[h3] at h
     obtain⟨u,e1,g1⟩:=H.ev (x:=x) (by simp[Op.operands]) h1
     have e1':evq (evr F) x=.val u:=e1
     have hlo:=optN_ok H (fun y hy=>by subst hy;simp[Op.operands]) h2
     have hhi:=optN_ok H (fun y hy=>by subst hy;simp[Op.operands]) h3
     unfold q_slice at h
     split at h
     ·rename_i sa sb sz e x' lo' hi' ht e3 e4 e5
      cases e3
      cases e4
      cases e5
      obtain⟨ei,he,h⟩:=opn_eq h
      have h':q_cut ei a l hh=some v:=h
      unfold q_cut at h'
      split at h'
      ·have el:lo.map (evq (evr F))=none:=by
        rcases hlo with ⟨el,_⟩ | ⟨_,_,_,el⟩
        ·exact el
        ·cases el
       have eh:hi.map (evq (evr F))=none:=by
        rcases hhi with ⟨eh,_⟩ | ⟨_,_,_,eh⟩
        ·exact eh
        ·cases eh
       have hsl:∃ q n c,u=.slice q n c∧VR D v u:=by
        split at h'
        ·cases h';exact⟨_,_,_,g1.sln,g1⟩
        ·cases h';obtain⟨q,_,rfl⟩:=g1.sli;exact⟨_,_,_,rfl,g1⟩
        ·cases h';obtain⟨q,_,_,rfl⟩:=g1.slx;exact⟨_,_,_,rfl,g1⟩
        ·cases h';obtain⟨q,c,rfl⟩:=g1.slo;exact⟨_,_,_,rfl,g1⟩
        ·cases h'
       obtain⟨q,n,c,rfl,hv⟩:=hsl
       simp only[V_q,ht,e1',he,el,eh]
       exact k _ (.val hv)
      ·obtain⟨q,n,c,rfl,c1,c2,c3,hv⟩:=subE_ok h' g1
       simp only[V_q,ht,e1',he]
       rcases hlo with ⟨el,rfl⟩ | ⟨kl,nl,el,rfl⟩<;>rcases hhi with ⟨eh,rfl⟩ | ⟨kh,nh,eh,rfl⟩<;>simp only[el,eh]
       ·rename_i hne
        exact(hne rfl rfl).elim
       ·simp only[Option.getD_none,Option.getD_some] at c1 c2 hv
        refine⟨0,nh,rfl,rfl,Nat.zero_le _,c2,k _ (.val ?_)⟩
        simp only[Nat.zero_mul,Nat.sub_zero] at hv
        have e0:(if c=0 then q else q.map fun x=>x.add 0)=q:=by
         split
         ·rfl
         ·cases q with
          | none=>rfl
          | some q=>simp[Addr.add]
        rw[e0] at hv
        exact hv
       ·simp only[Option.getD_none,Option.getD_some] at c1 c2 hv
        exact⟨nl,n,rfl,rfl,c1,Nat.le_refl _,k _ (.val hv)⟩
       ·simp only[Option.getD_none,Option.getD_some] at c1 c2 hv
        exact⟨nl,nh,rfl,rfl,c1,c2,k _ (.val hv)⟩
     ·rename_i sa sb sz str lo' hi' ht e3 e4 e5
      cases e3
      cases e4
      cases e5
      rw[g1.str] at e1'
      have h':q_scut str l hh=some v:=h
      unfold q_scut at h'
      split at h'
      ·have el:lo.map (evq (evr F))=none:=by
        rcases hlo with ⟨el,_⟩ | ⟨_,_,_,el⟩
        ·exact el
        ·cases el
       have eh:hi.map (evq (evr F))=none:=by
        rcases hhi with ⟨eh,_⟩ | ⟨_,_,_,eh⟩
        ·exact eh
        ·cases eh
       cases h'
       simp only[V_q,ht,e1',el,eh]
       exact k _ (.val (by simp only[VR]))
      ·obtain⟨hb,h'⟩:=cnd_some h'
       cases h'
       rw[Bool.and_eq_true] at hb
       have b1:=Nat.le_of_ble_eq_true hb.1
       have b2:=Nat.le_of_ble_eq_true hb.2
       have hsz:(⟨str.toArray⟩:ByteArray).size=str.length:=by simp[ByteArray.size]
       simp only[V_q,ht,e1']
       rcases hlo with ⟨el,rfl⟩ | ⟨kl,nl,el,rfl⟩<;>rcases hhi with ⟨eh,rfl⟩ | ⟨kh,nh,eh,rfl⟩<;>simp only[el,eh]
       ·rename_i hne
        exact(hne rfl rfl).elim
       ·simp only[Option.getD_none,Option.getD_some] at b1 b2
        exact⟨0,nh,rfl,rfl,Nat.zero_le _,by rw[hsz];exact b2,k _ (.val (by simp only[VR,Option.getD_none,Option.getD_some,partS_eq]))⟩
       ·simp only[Option.getD_none,Option.getD_some] at b1 b2
        exact⟨nl,str.length,rfl,by rw[hsz];rfl,b1,by rw[hsz];exact Nat.le_refl _,k _ (.val (by simp only[VR,Option.getD_none,Option.getD_some,partS_eq,hsz]))⟩
       ·simp only[Option.getD_none,Option.getD_some] at b1 b2
        exact⟨nl,nh,rfl,rfl,b1,by rw[hsz];exact b2,k _ (.val (by simp only[VR,Option.getD_none,Option.getD_some,partS_eq]))⟩
     ·cases h
 ·
  rename_i x i
  unfold q_ext at h
  split at h
  ·rename_i vs h1
   obtain⟨u,e1,g1⟩:=H.ev (x:=x) (by simp[Op.operands]) h1
   obtain⟨us,hus,rfl⟩:=g1.tup
   rw[nthE_eq] at h
   obtain⟨w,hw,hv⟩:=hus.get h
   have e1':evq (evr F) x=.val (.tuple us.toArray):=e1
   simp only[V_q,e1',hw]
   exact k _ (.val hv)
  ·cases h
 ·
  rename_i s d x
  unfold q_conv at h
  split at h
  ·rename_i kk k1 n hs hd h1
   cases h
   obtain⟨u,e1,g1⟩:=H.ev (x:=x) (by simp[Op.operands]) h1
   rw[g1.int] at e1
   have e1':evq (evr F) x=.val (.int k1 n):=e1
   simp only[V_q,hs,hd,e1']
   exact⟨_,rfl,k _ (.val (by simp only[VR];rw[wrapE_eq]))⟩
  ·cases h
 ·
  rename_i b args ts
  exact q_call_ok hE h (by simpa[Op.operands,Call.operands] using H) k
 ·cases h
end
def Nm.set (D:Nm) (id:Nat) (a:Loc):Nm:=fun i=>if i=id then some a else D i
theorem Nm.set_self (D:Nm) (id:Nat) (a:Loc):(D.set id a) id=some a:=by simp[Nm.set]
theorem Nm.le_refl (D:Nm):D.le D:=fun _ _ h=>h
theorem Nm.le_trans {D D' D'':Nm} (h:D.le D') (k:D'.le D''):D.le D'':=fun i a e=>k _ _ (h _ _ e)
theorem Nm.le_set {D:Nm} {id:Nat} (a:Loc) (h:D id=none):D.le (D.set id a):=fun i b hb=>by
 unfold Nm.set
 split
 ·rename_i e;subst e;rw[h] at hb;cases hb
 ·exact hb
def Nm.ext (D D':Nm) (n:Nat):Prop:=∀ i,i < n→D' i=D i
theorem Nm.ext_refl {D:Nm} {n:Nat}:D.ext D n:=fun _ _=>rfl
theorem Nm.ext_set {D:Nm} {n:Nat} {a:Loc}:D.ext (D.set n a) n:=fun i hi=>by
 unfold Nm.set
 rw[if_neg (by omega)]
section
variable {Y:RK} {D D':Nm} {m:Me} {I I':GH} {M M':List Blk} {R:Type}
theorem GI.mono {G:GT} (h:GI G I) (hI:∀ b o,I b=some o→I' b=some o):GI G I':=fun g cs hg=>by
 obtain⟨arr,T,f,h1,h2⟩:=h g cs hg
 exact⟨arr,T,f,hI _ _ h1,h2⟩
theorem MS.le (h:MS Y D m I M) (hD:D.ext D' m.n):D.le D':=fun i a ha=>by rw[hD i (h.dom _ _ ha)];exact ha
theorem MS.step (h:MS Y D m I M) {t':Tri Ent} {n' j:Nat} {e0:Ent} {a:Loc} (ht:∀ id e,t'.get id=some e→(id=j∧e0=e)∨(id≠j∧m.t.get id=some e)) (hj:D' j=some a) (hle:D.le D') (hD:∀ i,i≠j→D' i=D i)
  (hdom:∀ id a,D' id=some a→id < n') (hI:∀ b o,I b=some o→I' b=some o) (keep:∀ id e a',id≠j→m.t.get id=some e→D id=some a'→∀ x∈M,x.num=a'.b→x∈M')
  (he:EntR D' Y.E M' a e0) (hinj:∀ id e a',id≠j→m.t.get id=some e→D id=some a'→a'.b≠a.b):MS Y D' ⟨t',n'⟩ I' M' where
 ent id e a1 hg h1:=by
  rcases ht id e hg with ⟨e1,e2⟩ | ⟨hne,hg⟩
  ·subst e1
   subst e2
   rw[hj] at h1
   cases h1
   exact he
  ·rw[hD id hne] at h1
   exact(h.ent id e a1 hg h1).mono hle fun x hx hn=>keep id e a1 hne hg h1 x hx hn
 inj id id' e e' a1 a2 hg hg' h1 h2 hb:=by
  rcases ht id e hg with ⟨e1,e2⟩ | ⟨hne,hg⟩
  ·rcases ht id' e' hg' with ⟨e3,e4⟩ | ⟨hne',hg'⟩
   ·rw[e1,e3]
   ·rw[hD id' hne'] at h2
    subst e1
    rw[hj] at h1
    cases h1
    exact(hinj id' e' a2 hne' hg' h2 hb.symm).elim
  ·rw[hD id hne] at h1
   rcases ht id' e' hg' with ⟨e3,e4⟩ | ⟨hne',hg'⟩
   ·subst e3
    rw[hj] at h2
    cases h2
    exact(hinj id e a1 hne hg h1 hb).elim
   ·rw[hD id' hne'] at h2
    exact h.inj id id' e e' a1 a2 hg hg' h1 h2 hb
 dom:=hdom
 glo:=h.glo.mono hI
theorem MS.fresh (h:MS Y D m I M):D m.n=none:=by
 cases hD:D m.n with
 | none=>rfl
 | some a=>exact absurd (h.dom _ _ hD) (Nat.lt_irrefl _)
theorem MS.blk (h:MS Y D m I M) {id:Nat} {e:Ent} {a:Loc} (hg:m.t.get id=some e) (ha:D id=some a):∃ x∈M,x.num=a.b:=by
 cases h.ent id e a hg ha with
 | cells arr h0 h1=>exact⟨_,h1,rfl⟩
 | map l c h1=>exact⟨_,h1,rfl⟩
 | loop L h1=>exact⟨_,h1,rfl⟩
 | done L h1=>exact⟨_,h1,rfl⟩
theorem MS.new (h:MS Y D m I M) {t':Tri Ent} {e0:Ent} {a:Loc} {o:Obj} (ht:∀ id e,t'.get id=some e→(id=m.n∧some e0=some e)∨(id≠m.n∧m.t.get id=some e)) (hf:∀ x∈M,x.num≠a.b)
  (he:EntR (D.set m.n a) Y.E (⟨a.b,o⟩::M) a e0):MS Y (D.set m.n a) ⟨t',m.n+1⟩ I (⟨a.b,o⟩::M):=
 h.step (fun id e hg=>(ht id e hg).imp (fun h=>⟨h.1,some_inj' h.2⟩) fun h=>h) (D.set_self _ _) (Nm.le_set a h.fresh) (fun i hi=>by unfold Nm.set;rw[if_neg hi])
  (fun id b hb=>by
   unfold Nm.set at hb
   split at hb
   ·omega
   ·have:=h.dom _ _ hb;omega)
  (fun _ _ h=>h) (fun _ _ _ _ _ _ x hx _=>List.mem_cons_of_mem _ hx) he
  (fun id e a' _ hg ha' hb=>by
   obtain⟨x,hx,hn⟩:=h.blk hg ha'
   exact hf x hx (hn.trans hb))
theorem EntR.new {l:List EV} {vs cur:List Value} {T c:Nat} {b:Nat} {cs:Tri EV} (hcs:∀ j x,cs.get j=some x→(0≤j∧l[j - 0]?=some x)∨((j < 0∨0+l.length≤j)∧(Tri.nil:Tri EV).get j=some x)) (hl:VRs D l vs)
  (hk:∀ i,Y.E T=some i→(vs++cur).length=c * i.size) (hc:c≤maxLen):EntR D Y.E (⟨b,.cells (vs++cur).toArray T (0,0)⟩::M) ⟨b,0,c⟩ (.cells cs T l.length):=by
 refine .cells (vs++cur).toArray rfl (by simp) (by simp[hl.len]) (fun i v hi hg=>?_) (fun i hi=>by simpa using hk i hi) hc
 rcases hcs i v hg with ⟨_,h1⟩ | ⟨_,h1⟩
 ·obtain⟨x,h2,h3⟩:=hl.get (i:=i) (by simpa using h1)
  have hlt:=(List.getElem?_eq_some_iff.1 h2).1
  exact⟨x,by simp only[Nat.zero_add,List.getElem?_toArray];rw[List.getElem?_append_left hlt];exact h2,h3⟩
 ·cases h1
theorem newE_ok {e:Ent} {K:Nat→Me→Option R} {r:R} (h:newE m e K=some r):∃ t',(∀ id e',t'.get id=some e'→(id=m.n∧some e=some e')∨(id≠m.n∧m.t.get id=some e'))∧K m.n ⟨t',m.n+1⟩=some r:=by
 unfold newE at h
 rw[forceN_eq] at h
 obtain⟨t',h1,h2⟩:=Tri.set_ok (some e) m.t m.n
 rw[h1] at h
 exact⟨t',h2,h⟩
theorem newC_ok {l:List EV} {T:Nat} {K:Nat→Me→Option R} {r:R} (h:newC m l T K=some r):∃ m',K m.n m'=some r∧m'.n=m.n+1 ∧
  ∀ {D:Nm} {I:GH} {M:List Blk} {vs:List Value} (cur:List Value) {b c:Nat},MS Y D m I M→(∀ x∈M,x.num≠b)→VRs D l vs→(∀ i,Y.E T=some i→(vs++cur).length=c * i.size)→c≤maxLen →
   MS Y (D.set m.n ⟨b,0,c⟩) m' I (⟨b,.cells (vs++cur).toArray T (0,0)⟩::M):=by
 unfold newC at h
 obtain⟨cs,h1,h2⟩:=Tri.puts_ok l (.nil:Tri EV) 0
 rw[h1] at h
 obtain⟨t',h3,h4⟩:=newE_ok h
 refine⟨_,h4,rfl,fun {D I M vs} cur {b c} hm hf hl hk hc=>?_⟩
 exact hm.new (a:=⟨b,0,c⟩) h3 hf (.new h2 (hl.mono (Nm.le_set _ hm.fresh)) hk hc)
end
theorem rowOf_add (z:List Value) (n:Nat):rowOf z (z.length+n)=rowOf z z.length++rowOf z n:=by
 unfold rowOf
 rw[List.range_add,List.map_append,List.map_map]
 congr 1
 apply List.map_congr_left
 intro i _
 simp[Nat.add_mod_left]
theorem rowOf_oneK (z:List Value):rowOf z z.length=z:=by
 unfold rowOf
 apply List.ext_getElem
 ·simp
 ·intro i h1 h2
  simp only[List.getElem_map,List.getElem_range,Nat.mod_eq_of_lt h2]
  simp[h2]
theorem rowOf_rep (z:List Value):∀ n,rowOf z (n * z.length)=(List.replicate n z).flatten
 | 0=>by simp[rowOf]
 | n+1=>by
  rw[Nat.succ_mul,Nat.add_comm,rowOf_add,rowOf_oneK,rowOf_rep z n,List.replicate_succ,List.flatten_cons]
theorem fillL_len (place:Nat→Option (Nat×Nat)):∀ (vs:List (Nat×Value)) (cs r:List Value),fillL place cs vs=some r→r.length=cs.length
 | [],cs,r,h=>by simp only[fillL] at h;cases h;rfl
 |(i,v)::vs,cs,r,h=>by
  simp only[fillL] at h
  split at h
  ·cases h
  ·rename_i off size hp
   cases hb:(Nat.beq v.cells.size size && Nat.ble (off+size) cs.length) with
   | false=>rw[hb] at h;cases h
   | true=>
    rw[hb] at h
    simp only[cond_true] at h
    rw[fillL_len place vs _ _ h]
    rw[Bool.and_eq_true] at hb
    have h1:=Nat.eq_of_beq_eq_true hb.1
    have h2:=Nat.le_of_ble_eq_true hb.2
    simp[splice]
    omega
def PF (dst:Option Nat) (u:Value) (F F':Fr):Prop:=(∀ d,dst=some d→F' d=.val u)∧∀ (D:Nm) t v,dst≠some t→SvE D (F t) v→SvE D (F' t) v
theorem PF.put (dst:Option Nat) (u:Value) (F:Fr):PF dst u F (put dst (.val u) F):=by
 constructor
 ·rintro d rfl
  simp[Go.V.put,upd]
 ·intro D t v hne h
  cases dst with
  | none=>exact h
  | some d=>
   have:t≠d:=fun e=>hne (by rw[e])
   simp only[Go.V.put,upd,beq_ne this,cond_false]
   exact h
theorem PF.clr (d:Nat) (u:Value) (F:Fr):PF (some d) u F (upd (clr F d) d (.val u)):=by
 constructor
 ·rintro _ ⟨⟩
  simp[upd]
 ·intro D t v hne h
  have:t≠d:=fun e=>hne (by rw[e])
  simp only[upd,beq_ne this,cond_false]
  unfold Go.V.clr
  rcases h with ⟨u',e,h⟩ | ⟨q,e,h⟩
  ·rw[e];exact .inl ⟨u',rfl,h⟩
  ·rw[h];exact .inr ⟨q,e,rfl⟩
section
variable {X:Ctx} {G:GT} {pr:PR} {D:Nm} {m:Me} {F:Fr} {fr:Tri EV} {C:Bx} {I:GH} {M:List Blk} {K:KS} {o:Oper}
theorem E_a_ok (hE:EOK X.P X.E) (hesc:∀ d,d < X.n→X.esc.contains d=true) (hd:∀ d,o.dst=some d→d < X.n) {l:List EV} {T c:Nat} {mk:Nat→EV} (h:E_a X.E o fr=some (l,T,c,mk)) (hdst:o.dst.isSome=true) (H:OR D F fr o.op.operands.toList)
  (k:∀ b vs u F' C',I b=none→(∀ x∈M,x.num≠b)→VRs D l vs→(∀ i,X.E T=some i→vs.length=c * i.size)→c≤maxLen→(∀ (D':Nm) id,D' id=some ⟨b,0,c⟩→VR D' (mk id) u)→PF o.dst u F F' →
   K F' C' I (⟨b,.cells vs.toArray T (0,0)⟩::M)):V_op X o F C I M K:=by
 obtain⟨dst,op,ty,pos,after,guard⟩:=o
 cases dst with
 | none=>cases hdst
 | some d=>
  have hed:X.esc.contains d=true:=hesc d (hd d rfl)
  have ptr0:∀ (b c:Nat) (D':Nm) id,D' id=some ⟨b,0,c⟩→VR D' (.p id 0) (.pointer (some ⟨b,0,none⟩)):=fun b c D' id hid=>by
   simp only[VR]
   exact⟨_,hid,rfl⟩
  unfold E_a at h
  simp only at h H
  split at h
  ·rename_i t x
   unfold a_box at h
   obtain⟨i,hi,h⟩:=opn_eq h
   obtain⟨v,hv,h⟩:=opn_eq h
   obtain⟨hb,h⟩:=cnd_some h
   cases h
   obtain⟨u,e1,g1⟩:=H.ev (x:=x) (by simp[Op.operands]) hv
   have hc:=g1.cells
   simp only[V_op,e1,hed,cond_true]
   refine⟨fun b h1 h2=>?_⟩
   have:=k b u.cells.toList (.pointer (some ⟨b,0,none⟩)) _ (updB C d none) h1 h2 hc (fun i' hi'=>?_) (by decide) (ptr0 b 1) (.clr d _ F)
   ·simpa using this
   ·rw[hi] at hi'
    cases hi'
    rw[hc.len,Nat.one_mul]
    exact Nat.eq_of_beq_eq_true hb
  ·rename_i t
   unfold a_alloc at h
   obtain⟨i,hi,h⟩:=opn_eq h
   obtain⟨z,hz,h⟩:=opn_eq h
   cases h
   simp only[V_op,hi,hed,cond_true]
   refine⟨fun b h1 h2=>?_⟩
   exact k b i.zero (.pointer (some ⟨b,0,none⟩)) _ (updB C d none) h1 h2 (.ofL hz) (fun i' hi'=>by
    rw[hi] at hi'
    cases hi'
    rw[(hE _ _ hi).len,Nat.one_mul]) (by decide) (ptr0 b 1) (.clr d _ F)
  ·rename_i t len parts
   unfold a_row at h
   split at h
   ·rename_i sa sb sz e vs ht hp
    obtain⟨ei,he,h⟩:=opn_eq h
    obtain⟨z,hz,h⟩:=opn_eq h
    obtain⟨us,e1,g1⟩:=H.parts (l:=parts.toList) (by intro y hy;simpa[Op.operands] using hy) hp
    simp only[V_op,ht,e1,he]
    have hzl:=(hE _ _ he).len
    cases hb:(Nat.ble (len * ei.size) 16777216 && Nat.blt 0 (len * ei.size)) with
    | true=>
     have hb':(Nat.ble (Nat.mul len ei.size) 16777216 && Nat.blt 0 (Nat.mul len ei.size))=true:=hb
     rw[cnd_eq,hb'] at h
     simp only[cond_true] at h ⊢
     obtain⟨cs,h3,h4⟩:=opn_eq h
     have h9:some (cs,e,len,fun id=>EV.sl id 0 len len)=some (l,T,c,mk):=h4
     cases h9
     have hrep:VRs D (repE c z) (rowOf ei.zero (c * ei.size)):=by
      rw[←hzl,rowOf_rep]
      exact(VRs.ofL hz).rep c
     obtain⟨rs,h5,h6⟩:=fillE_ok h3 hrep g1
     rw[h5]
     refine⟨fun b h1 h2=>?_⟩
     have hlen:rs.length=c * ei.size:=by
      rw[fillL_len _ _ _ _ h5]
      simp[rowOf]
     rw[Bool.and_eq_true] at hb
     have hb1:=Nat.le_of_ble_eq_true hb.1
     have hb2:0 < c * ei.size:=Nat.le_of_ble_eq_true hb.2
     exact k b rs (.slice (some ⟨b,0,none⟩) c c) _ C h1 h2 h6 (fun i' hi'=>by rw[he] at hi';cases hi';exact hlen)
      (by
       have h7:0 < ei.size:=Nat.pos_of_mul_pos_left hb2
       have:c≤c * ei.size:=Nat.le_mul_of_pos_right _ h7
       simp only[maxLen]
       omega)
      (fun D' id hid=>by simp only[VR];exact⟨_,hid,rfl⟩) (.put _ _ F)
    | false=>
     have hb':(Nat.ble (Nat.mul len ei.size) 16777216 && Nat.blt 0 (Nat.mul len ei.size))=false:=hb
     rw[cnd_eq,hb'] at h
     simp only[cond_false] at h ⊢
     obtain⟨hc,h⟩:=cnd_some h
     cases h
     rw[Bool.and_eq_true] at hc
     have h3:=Nat.eq_of_beq_eq_true hc.1
     subst h3
     have h4:vs=[]:=by simpa using hc.2
     subst h4
     cases g1
     simp only
     refine⟨fun b h1 h2=>?_⟩
     exact k b [] (.slice (some ⟨b,0,none⟩) 0 0) _ C h1 h2 .nil (fun i' hi'=>by simp) (by decide) (fun D' id hid=>by simp only[VR];exact⟨_,hid,rfl⟩) (.put _ _ F)
   ·cases h
  ·rename_i t l' c'
   unfold a_make at h
   split at h
   ·rename_i sa sb sz e lv cv ht h1 h2
    obtain⟨ei,he,h⟩:=opn_eq h
    obtain⟨n,hn,h⟩:=opn_eq h
    obtain⟨q,hq,h⟩:=opn_eq h
    obtain⟨z,hz,h⟩:=opn_eq h
    obtain⟨hb,h⟩:=cnd_some h
    cases h
    obtain⟨k1,rfl⟩:=natE hn
    obtain⟨k2,rfl⟩:=natE hq
    obtain⟨u1,e1,g1⟩:=H.ev (x:=l') (by simp[Op.operands]) h1
    obtain⟨u2,e2,g2⟩:=H.ev (x:=c') (by simp[Op.operands]) h2
    rw[g1.int] at e1
    rw[g2.int] at e2
    simp only[Bool.and_eq_true] at hb
    simp only[V_op,ht,e1,e2,he]
    refine⟨n,c,rfl,rfl,Nat.le_of_ble_eq_true hb.1,Nat.le_of_ble_eq_true hb.2.1,Nat.le_of_ble_eq_true hb.2.2,⟨fun b h3 h4=>?_⟩⟩
    have hzl:=(hE _ _ he).len
    have hrep:VRs D (repE c z) (rowOf ei.zero (c * ei.size)):=by
     rw[←hzl,rowOf_rep]
     exact(VRs.ofL hz).rep c
    exact k b _ (.slice (some ⟨b,0,none⟩) n c) _ C h3 h4 hrep (fun i' hi'=>by rw[he] at hi';cases hi';simp[rowOf]) (Nat.le_of_ble_eq_true hb.2.2) (fun D' id hid=>by simp only[VR];exact⟨_,hid,rfl⟩) (.put _ _ F)
   ·cases h
  ·cases h
end
theorem splice_get {cs vs:List Value} {off i:Nat} (h:off+vs.length≤cs.length):(splice cs off vs)[i]?=if off≤i∧i < off+vs.length then vs[i - off]? else cs[i]?:=by
 unfold splice
 by_cases h1:i < off
 ·rw[if_neg (by omega),List.getElem?_append_left (by simp;omega),List.getElem?_append_left (by simp;omega),List.getElem?_take,if_pos h1]
 ·by_cases h2:i < off+vs.length
  ·rw[if_pos ⟨by omega,h2⟩,List.getElem?_append_left (by simp;omega),List.getElem?_append_right (by simp;omega)]
   simp
   congr 1
   omega
  ·rw[if_neg (by omega),List.getElem?_append_right (by simp;omega),List.getElem?_drop]
   congr 1
   simp
   omega
theorem splice_len {cs vs:List Value} {off:Nat} (h:off+vs.length≤cs.length):(splice cs off vs).length=cs.length:=by
 simp[splice];omega
section
variable {Y:RK} {D:Nm} {m:Me} {I:GH} {M:List Blk} {R:Type}
theorem storeE_ok {x:EV} {l:List EV} {K:Me→Option R} {r:R} (h:storeE m x l K=some r):∃ m',K m'=some r∧m'.n=m.n∧(∀ id,m'.t.get id≠none→m.t.get id≠none∨True) ∧
  ∀ {D:Nm} {I:GH} {M:List Blk} {u:Value} {vs:List Value},MS Y D m I M→VR D x u→VRs D l vs →
   ∃ (g off:Nat) (pre post:List Blk) (arr:Array Value) (T:Nat),u=.pointer (some ⟨g,off,none⟩)∧M=pre++⟨g,.cells arr T (0,0)⟩::post∧off+vs.length≤arr.size∧allOne vs=true ∧
    (∃ id e a,m.t.get id=some e∧D id=some a∧a.b=g) ∧
    MS Y D m' I (pre++⟨g,.cells (splice arr.toList off vs).toArray T (0,0)⟩::post):=by
 unfold storeE at h
 split at h
 ·rename_i id off
  split at h
  ·rename_i cs T lim hg
   cases hb:(Nat.ble (Nat.add off l.length) lim && l.all EV.one) with
   | false=>rw[hb] at h;cases h
   | true=>
    rw[hb] at h
    simp only[cond_true] at h
    rw[Bool.and_eq_true] at hb
    have hlim:off+l.length≤lim:=Nat.le_of_ble_eq_true hb.1
    obtain⟨cs',h1,h2⟩:=Tri.puts_ok l cs off
    rw[h1] at h
    obtain⟨t',h3,h4⟩:=Tri.set_ok (some (Ent.cells cs' T lim)) m.t id
    rw[h3] at h
    refine⟨_,h,rfl,fun _ _=>.inr trivial,fun {D I M u vs} hm hx hl=>?_⟩
    obtain⟨a,ha,rfl⟩:=hx.ptr
    have he:=hm.ent _ _ _ hg ha
    obtain⟨arr,ho,hM,hsz,hc,hk,hmx⟩:=he
    have hlen:=hl.len
    obtain⟨pre,post,hsp⟩:=List.append_of_mem hM
    have hfit:off+vs.length≤arr.size:=by omega
    refine⟨a.b,off,pre,post,arr,T,by rw[ho,Nat.zero_add],hsp,hfit,hl.one hb.2,⟨id,_,a,hg,ha,rfl⟩,?_⟩
    have hnew:∀ x∈M,x.num≠a.b→x∈pre++⟨a.b,.cells (splice arr.toList off vs).toArray T (0,0)⟩::post:=fun x hx hn=>by
     rw[hsp] at hx
     rcases List.mem_append.1 hx with hx | hx
     ·exact List.mem_append.2 (.inl hx)
     ·rcases List.mem_cons.1 hx with rfl | hx
      ·exact(hn rfl).elim
      ·exact List.mem_append.2 (.inr (List.mem_cons_of_mem _ hx))
    refine hm.step (fun i e hi=>(h4 i e hi).imp (fun q=>⟨q.1,some_inj' q.2⟩) fun q=>q) ha (Nm.le_refl D) (fun _ _=>rfl) hm.dom (fun _ _ h=>h) (fun i e a' hne hi hai x hx hn=>hnew x hx ?_) ?_ ?_
    ·rw[hn]
     exact fun hb=>hne (hm.inj _ _ _ _ _ _ hi hg hai ha hb)
    ·have hls:(splice arr.toList off vs).length=arr.size:=by rw[splice_len (by simpa using hfit)];simp
     refine .cells (splice arr.toList off vs).toArray ho (by simp) (by simp[hls];exact hsz) (fun i v hi hgi=>?_) (fun i hi=>by simp[hls];exact hk i hi) hmx
     rw[ho,Nat.zero_add]
     simp only[List.getElem?_toArray]
     rw[splice_get (by simpa using hfit)]
     rcases h2 i v hgi with ⟨g1,g2⟩ | ⟨g1,g2⟩
     ·have hlt:=(List.getElem?_eq_some_iff.1 g2).1
      rw[if_pos ⟨g1,by omega⟩]
      exact hl.get g2
     ·rw[if_neg (by omega)]
      have:=hc i v hi g2
      rw[ho,Nat.zero_add] at this
      simpa using this
    ·intro i e a' hne hi hai hb
     exact hne (hm.inj _ _ _ _ _ _ hi hg hai ha hb)
  ·cases h
 ·cases h
theorem bytesE_ok:∀ {l:List EV} {bs:List UInt8} {vs:List Value},bytesE l=some bs→VRs D l vs→vs=bs.map (fun b=>.int .u8 b.toNat)
 | [],bs,vs,h,hl=>by simp only[bytesE] at h;cases h;exact hl.unnil
 | v::l,bs,vs,h,hl=>by
  unfold bytesE at h
  split at h
  ·rename_i e;cases e
  ·rename_i n l' e
   cases e
   cases hb:Nat.ble n 255 with
   | false=>rw[hb] at h;cases h
   | true=>
    rw[hb] at h
    simp only[cond_true] at h
    split at h
    ·rename_i r hr
     cases h
     obtain⟨x,xs,h1,h2,rfl⟩:=hl.uncons
     have hn:=Nat.le_of_ble_eq_true hb
     rw[bytesE_ok hr h2,h1.int]
     simp only[List.map_cons,List.cons.injEq,and_true,Value.int.injEq,true_and]
     rw[UInt8.toNat_ofNat_of_lt' (show n < 256 by omega)]
     rfl
    ·cases h
  ·cases h
inductive KeyT:TypeDesc→EV→Prop
 | int {k n}:KeyT (.int k) (.i k n)
 | str {l}:KeyT .string (.s l)
theorem keyT_of {E:Env} {P:Program} (hE:EOK P E) {k:Nat} {y:EV} (h:keyE (E k) y=true):∃ d,P.underlying k=some d∧KeyT d y:=by
 unfold keyE at h
 split at h
 ·rename_i kk k' n hk
  have:=IntKind.eqb_eq h
  subst this
  obtain⟨d,hu,hd⟩:=(hE _ _ hk).und
  refine⟨d,hu,?_⟩
  have:d=.int kk:=by cases d<;>simp_all[shOf]
  subst this
  exact .int
 ·rename_i l hk
  obtain⟨d,hu,hd⟩:=(hE _ _ hk).und
  refine⟨d,hu,?_⟩
  have:d=.string:=by cases d<;>simp_all[shOf]
  subst this
  exact .str
 ·cases h
theorem KeyT.isKey {d:TypeDesc} {y:EV} {u:Value} (h:KeyT d y) (hy:VR D y u):MapKept.IsKey d u:=by
 cases h with
 | int=>rw[hy.int];rfl
 | str=>rw[hy.str];trivial
theorem bbeq (a b:ByteArray):(a == b)=decide (a=b):=by
 rw[Bool.eq_iff_iff,MapKept.bytes_beq]
 simp
theorem eq1_ok {d:TypeDesc} {y x:EV} {u w:Value} {r:Bool} (h:KeyT d y) (hy:VR D y u) (hx:VR D x w) (he:eq1E y x=some r):Instr.sameNow d u w=some r:=by
 cases h with
 | @int k n=>
  rw[hy.int]
  unfold eq1E at he
  split at he
  ·rename_i e;cases e
  ·rename_i k1 a k2 b e
   cases e
   obtain⟨h1,h2⟩:=cnd_some he
   have:=IntKind.eqb_eq h1
   subst this
   cases h2
   rw[hx.int]
   simp only[Instr.sameNow,if_true,eqI_eq]
   congr 1
  ·rename_i e;cases e
  ·cases he
 | @str l=>
  rw[hy.str]
  unfold eq1E at he
  split at he
  ·rename_i e;cases e
  ·rename_i e;cases e
  ·rename_i a b e
   cases e
   cases he
   rw[hx.str]
   simp only[Instr.sameNow]
   rw[bbeq,str_eq,eqS_eq]
  ·cases he
theorem lookE_ok {d:TypeDesc} {y:EV} {u:Value} (h:KeyT d y) (hy:VR D y u):∀ {es:List (EV×EV)} {l:List MapEntry} {r:Option EV} (i:Nat),MpR D es l→lookE y es=some r →
  match r with
  | none=>Instr.findNow d u l i=some none
  | some v=>∃ j w,Instr.findNow d u l i=some (some (j,w))∧VR D v w
 | [],_,r,i,.nil,hl=>by simp only[lookE] at hl;cases hl;rfl
 |(x,v)::es,_,r,i,.cons (e:=e) (l:=l) hk hv t,hl=>by
  simp only[lookE] at hl
  split at hl
  ·rename_i he
   cases hl
   refine⟨i,e.val,?_,hv⟩
   simp only[Instr.findNow,eq1_ok h hy hk he]
  ·rename_i he
   have ih:=lookE_ok h hy (i+1) t hl
   simp only[Instr.findNow,eq1_ok h hy hk he]
   exact ih
  ·cases hl
theorem updE_ok {d:TypeDesc} {y v:EV} {u w:Value} (h:KeyT d y) (hy:VR D y u) (hv:VR D v w):∀ {es es':List (EV×EV)} {l:List MapEntry} (i:Nat),MpR D es l→updE y v es=some es' →
  (Instr.findNow d u l i=some none∧∀ b,MpR D es' (l++[{ key:=u,val:=w,born:=b }])) ∨
  ∃ j e,Instr.findNow d u l i=some (some (i+j,e.val))∧l[j]?=some e∧Instr.sameNow d u e.key=some true∧MpR D es' (l.modify j fun e=>{ e with key:=u,val:=w })
 | [],es',_,i,.nil,hl=>by
  simp only[updE] at hl
  cases hl
  exact .inl ⟨rfl,fun b=>.cons hy hv .nil⟩
 |(x,v')::es,es',_,i,.cons (e:=e) (l:=l) hk hv' t,hl=>by
  simp only[updE] at hl
  split at hl
  ·rename_i he
   cases hl
   refine .inr ⟨0,e,?_,rfl,eq1_ok h hy hk he,?_⟩
   ·simp only[Instr.findNow,eq1_ok h hy hk he,Nat.add_zero]
   ·simp only[List.modify_zero_cons]
    exact .cons hy hv t
  ·rename_i he
   split at hl
   ·rename_i r hr
    cases hl
    rcases updE_ok h hy hv (i+1) t hr with ⟨h1,h2⟩ | ⟨j,e',h1,h2,h3,h4⟩
    ·refine .inl ⟨?_,fun b=>.cons hk hv' (h2 b)⟩
     simp only[Instr.findNow,eq1_ok h hy hk he]
     exact h1
    ·refine .inr ⟨j+1,e',?_,by simpa using h2,h3,?_⟩
     ·simp only[Instr.findNow,eq1_ok h hy hk he]
      rw[h1]
      congr 3
      omega
     ·simp only[List.modify_succ_cons]
      exact .cons hk hv' h4
   ·cases hl
  ·cases hl
end
section
variable {P:Program} {w:World}
theorem lookup_gen {t k e:Nat} (ht:P.underlying t=some (.map k e)) {d:TypeDesc} (hk:P.underlying k=some d) {u:Value} (hkey:MapKept.IsKey d u) {g:Nat} {l:List MapEntry} {clock:Nat} (hg:w.heap[g]?=some (.map l.toArray clock))
  {q:Option (Nat×Value)} (hf:Instr.findNow d u l 0=some q) {inf:TypeInfo} {z:Value} (hi:P.info? e=some inf) (hz:inf.zero=some z) (ok:Bool) :
  (Instr.lookup t (.map (some g)) u ok).run P w=.ok (bif ok then .tuple #[(q.map (·.2)).getD z,.bool q.isSome] else (q.map (·.2)).getD z) w:=by
 have hc:(Instr.checkKey l.toArray.isEmpty 10000 k u).run P w=.ok () w:=MapKept.run_checkKey hk hkey _ 9999
 have hfk:(Instr.findKey k u l).run P w=.ok q w:=MapKept.run_findKey hk hf
 have hzr:(zeroValue e).run P w=.ok z w:=by simp[zeroValue,typeInfo,hi,hz]
 unfold Instr.lookup
 simp only[Sem.run_bind,run_underlying ht,Result.andThen_ok,MapKept.run_getObj_map hg,Sem.run_pure,hc,hfk]
 cases q with
 | none=>cases ok<;>simp[hzr]
 | some p=>cases ok<;>simp
theorem upd_new {t k e:Nat} (ht:P.underlying t=some (.map k e)) {d:TypeDesc} (hk:P.underlying k=some d) {u v:Value} (hkey:MapKept.IsKey d u) {g:Nat} {l:List MapEntry} {clock:Nat} (hg:w.heap[g]?=some (.map l.toArray clock))
  (hf:Instr.findNow d u l 0=some none):(Instr.mapUpdate t (.map (some g)) u v).run P w=.ok () { w with heap:=w.heap.setIfInBounds g (.map (l++[({ key:=u,val:=v,born:=clock }:MapEntry)]).toArray (clock+1)) }:=by
 have hc:(Instr.checkKey false 10000 k u).run P w=.ok () w:=MapKept.run_checkKey hk hkey _ 9999
 have hfk:(Instr.findKey k u l).run P w=.ok none w:=MapKept.run_findKey hk hf
 unfold Instr.mapUpdate
 simp only[Sem.run_bind,run_underlying ht,Result.andThen_ok,MapKept.run_getObj_map hg,hc,hfk,MapKept.run_setObj_map _ hg]
 congr 3
 simp
theorem upd_old {t k e:Nat} (ht:P.underlying t=some (.map k e)) {d:TypeDesc} (hk:P.underlying k=some d) {u v:Value} (hkey:MapKept.IsKey d u) {g:Nat} {l:List MapEntry} {clock:Nat} (hg:w.heap[g]?=some (.map l.toArray clock))
  {j:Nat} {e':MapEntry} (hf:Instr.findNow d u l 0=some (some (j,e'.val))) (hj:l[j]?=some e') (hs:e'.key=u) :
  (Instr.mapUpdate t (.map (some g)) u v).run P w=.ok () { w with heap:=w.heap.setIfInBounds g (.map (l.modify j fun e=>{ e with key:=u,val:=v }).toArray clock) }:=by
 have hc:(Instr.checkKey false 10000 k u).run P w=.ok () w:=MapKept.run_checkKey hk hkey _ 9999
 have hfk:(Instr.findKey k u l).run P w=.ok (some (j,e'.val)) w:=MapKept.run_findKey hk hf
 have hst:(Instr.keyThatStays u u).run P w=.ok u w:=MapKept.run_keyThatStays hkey
 unfold Instr.mapUpdate
 simp only[Sem.run_bind,run_underlying ht,Result.andThen_ok,MapKept.run_getObj_map hg,hc,hfk]
 simp only[List.getElem?_toArray,hj,Option.map_some,Option.getD_some,hs,hst,Result.andThen_ok,MapKept.run_setObj_map _ hg]
 congr 3
 show Obj.map _ _=Obj.map _ _
 congr 1
 apply Array.ext'
 simp
end
section
variable {X:Ctx} {G:GT} {pr:PR} {D:Nm} {m m':Me} {F:Fr} {fr:Tri EV} {C:Bx} {I:GH} {M:List Blk} {K:KS} {o:Oper} {v:EV}
def NextK (X:Ctx) (G:GT) (pr:PR) (D:Nm) (m:Me) (I:GH) (M:List Blk) (v:EV) (m':Me) (dst:Option Nat) (F:Fr) (C:Bx) (K:KS):Prop:=
 ∀ D' u M',D.ext D' m.n→VR D' v u→MS (RX X G pr) D' m' I M'→K (put dst (.val u) F) C I M'
theorem x_store_ok {t:Nat} {x y:Operand} (ho:o.op=.store t x y) (h:opn o.dst (x_store (X.E t) m (rdO fr x) (rdO fr y)) (fun _=>none)=some (v,m')) (H:OR D F fr o.op.operands.toList) (hm:MS (RX X G pr) D m I M)
  (k:NextK X G pr D m I M v m' o.dst F C K):V_op X o F C I M K:=by
 obtain⟨dst,op,ty,pos,after,guard⟩:=o
 simp only at ho
 subst ho
 cases dst with
 | some d=>cases h
 | none=>
  have h1:x_store (X.E t) m (rdO fr x) (rdO fr y)=some (v,m'):=h
  unfold x_store at h1
  obtain⟨i,hi,h1⟩:=opn_eq h1
  obtain⟨a,hx,h1⟩:=opn_eq h1
  obtain⟨b,hy,h1⟩:=opn_eq h1
  obtain⟨hb,h1⟩:=cnd_some h1
  obtain⟨m2,h2,-,-,h3⟩:=storeE_ok (Y:=RX X G pr) h1
  cases h2
  simp only at H
  have hxo:=H x (by simp[Op.operands]) _ hx
  have hnb:∀ q,a≠.b q:=fun q e=>by subst e;cases h1
  obtain⟨u,e1,g1⟩:=hxo.nb hnb
  obtain⟨w,e2,g2⟩:=H.ev (x:=y) (by simp[Op.operands]) hy
  obtain⟨g,off,pre,post,arr,T,rfl,hM,hfit,hone,⟨id,e,al,hid,hal,hg⟩,hms⟩:=h3 hm g1 g2.cells
  simp only[V_op,hi,e2,e1]
  have hsz:Nat.beq w.cells.size i.size=true:=by
   have:=g2.cells.len
   rw[Array.length_toList] at this
   rw[this]
   exact hb
  rw[hsz]
  simp only[cond_true]
  refine⟨pre,post,arr,T,hM,rfl,hfit,hone,?_⟩
  exact k D (.tuple #[]) _ Nm.ext_refl (by simp only[VR];exact⟨[],.nil,rfl⟩) hms
theorem other_val (hd:∀ d,o.dst=some d→d < X.n) (hnd:∀ c,o.op≠.defer c)
  (h:∀ (β:Nat→Nat) (a:Act) (w:World),RelB X β a w F C I M→∃ u w' I' M',(execOp a.eval o).run X.P w=.ok (.value u) w'∧RelB X β a w' F C I' M'∧K (put o.dst (.val u) F) C I' M'):OtherOb X o F C I M K:=by
 refine⟨fun a w Q ⟨β,hR⟩=>?_⟩
 obtain⟨u,w',I',M',h1,h2,h3⟩:=h β a w hR
 exact wpIn_val hnd h1 ⟨_,_,_,_,⟨β,h2.put (x:=.val u) hd rfl⟩,h3⟩
theorem other_skip (hd:o.dst=none) (hnd:∀ c,o.op≠.defer c)
  (h:∀ (β:Nat→Nat) (a:Act) (w:World),RelB X β a w F C I M→∃ w' I' M',(execOp a.eval o).run X.P w=.ok .skip w'∧RelB X β a w' F C I' M'∧K F C I' M'):OtherOb X o F C I M K:=by
 refine⟨fun a w Q ⟨β,hR⟩=>?_⟩
 obtain⟨w',I',M',h1,h2,h3⟩:=h β a w hR
 refine wpIn_skip' hnd h1 ⟨_,_,_,_,⟨β,?_⟩,h3⟩
 rw[hd]
 exact h2
theorem x_map_ok (hE:EOK X.P X.E) (hd:∀ d,o.dst=some d→d < X.n) {t:Nat} {r:Option Operand} (ho:o.op=.makeMap t r) (h:x_map (X.E t) m=some (v,m')) (hr:∀ x,r=some x→∃ k n,ev F x=.val (.int k n)) (hm:MS (RX X G pr) D m I M)
  (k:NextK X G pr D m I M v m' o.dst F C K):OtherOb X o F C I M K:=by
 unfold x_map at h
 split at h
 ·rename_i sa sb sz kk e ht
  obtain⟨d,hud,hdd⟩:=(hE _ _ ht).und
  have h1:d=.map kk e:=by cases d<;>simp_all[shOf]
  subst h1
  obtain⟨t',h2,h3⟩:=newE_ok h
  cases h3
  refine other_val hd (by rw[ho];simp) fun β a w hR=>?_
  refine⟨.map (some w.heap.size),w.alloc (.map #[] 0),I,⟨w.heap.size,.map #[] 0⟩::M,?_,hR.alloc_blk _,?_⟩
  ·unfold execOp
   cases r with
   | none=>simp[ho,Instr.makeMap]
   | some x=>
    obtain⟨k1,n1,hx⟩:=hr x rfl
    have er:=eval_of_ev hR.fr hx
    simp[ho,er,Instr.makeMap,run_underlying hud,asInt,asIntOf_int]
  ·have hf:∀ x∈M,x.num≠w.heap.size:=hR.holds.freshM
   refine k _ _ _ Nm.ext_set (by simp only[VR];exact⟨_,Nm.set_self _ _ ⟨w.heap.size,0,0⟩,rfl⟩) (hm.new (a:=⟨w.heap.size,0,0⟩) h2 hf ?_)
   exact .map [] 0 (by simp) .nil
 ·cases h
theorem EntR.mapE {D:Nm} {E:Env} {M:List Blk} {a:Loc} {es:List (EV×EV)} (h:EntR D E M a (.map es)):∃ l clock,(⟨a.b,.map l.toArray clock⟩:Blk)∈M∧MpR D es l:=by
 cases h with
 | map l clock h1 h2=>exact⟨l,clock,h1,h2⟩
theorem VR.map' {id:Nat} {u:Value} (h:VR D (.m id) u):∃ a,D id=some a∧u=.map (some a.b):=by simpa only[VR] using h
theorem x_look_ok (hE:EOK X.P X.E) (hd:∀ d,o.dst=some d→d < X.n) {t:Nat} {x y:Operand} {ok:Bool} (ho:o.op=.lookup t x y ok) (h:x_look X.P X.E t m (rdO fr x) (rdO fr y) ok=some (v,m')) (H:OR D F fr o.op.operands.toList)
  (hm:MS (RX X G pr) D m I M) (k:NextK X G pr D m I M v m' o.dst F C K):OtherOb X o F C I M K:=by
 unfold x_look at h
 split at h
 ·rename_i sa sb sz kk e id yv ht h1 h2
  obtain⟨hkey,h⟩:=cnd_some h
  split at h
  ·rename_i es hg
   obtain⟨r,hr,h⟩:=opn_eq h
   obtain⟨inf,hi,h⟩:=opn_eq h
   obtain⟨z,hz,h⟩:=opn_eq h
   obtain⟨zv,hzv,h⟩:=opn_eq h
   cases h
   obtain⟨d,hud,hdd⟩:=(hE _ _ ht).und
   have hd':d=.map kk e:=by cases d<;>simp_all[shOf]
   subst hd'
   obtain⟨dk,huk,hkt⟩:=keyT_of hE hkey
   rw[ho] at H
   obtain⟨u1,e1,g1⟩:=H.ev (x:=x) (by simp[Op.operands]) h1
   obtain⟨u2,e2,g2⟩:=H.ev (x:=y) (by simp[Op.operands]) h2
   obtain⟨a,ha,rfl⟩:=g1.map'
   have he:=hm.ent _ _ _ hg ha
   obtain⟨l,clock,hM,hmp⟩:=he.mapE
   have hlk:=lookE_ok hkt g2 0 hmp hr
   have hzr:VR D zv z:=.of hzv
   have fin:∀ {q:Option (Nat×Value)},Instr.findNow dk u2 l 0=some q→(r=none∧q=none∨∃ rv j w,r=some rv∧q=some (j,w)∧VR D rv w)→OtherOb X o F C I M K:=fun {q} hf hq=>by
    refine other_val hd (by rw[ho];simp) fun β ac w hR=>?_
    have hrun:=lookup_gen (P:=X.P) (w:=w) hud huk (hkt.isKey g2) (hR.holds.m _ hM) hf hi hz ok
    have ex:=eval_of_ev hR.fr e1
    have ey:=eval_of_ev hR.fr e2
    refine⟨bif ok then .tuple #[(q.map (·.2)).getD z,.bool q.isSome] else (q.map (·.2)).getD z,w,I,M,?_,hR,k D _ M Nm.ext_refl ?_ hm⟩
    ·unfold execOp
     simp only[ho,ex,ey,Sem.run_bind,hrun,Result.andThen_ok,Sem.run_pure]
    ·unfold lookR
     rcases hq with ⟨rfl,rfl⟩ | ⟨rv,j,w',rfl,rfl,hv⟩
     ·cases ok
      ·exact hzr
      ·exact .mkTup (.cons hzr (.cons (by simp only[VR];rfl) .nil))
     ·cases ok
      ·exact hv
      ·exact .mkTup (.cons hv (.cons (by simp only[VR];rfl) .nil))
   cases r with
   | none=>exact fin hlk (.inl ⟨rfl,rfl⟩)
   | some rv=>
    obtain⟨j,w,hf,hv⟩:=hlk
    exact fin hf (.inr ⟨rv,j,w,rfl,rfl,hv⟩)
  ·cases h
 ·cases h
theorem x_upd_ok (hE:EOK X.P X.E) {t:Nat} {x y z:Operand} (ho:o.op=.mapUpdate t x y z∨o.op=.insert t x y z) (h:opn o.dst (x_upd X.E t m (rdO fr x) (rdO fr y) (rdO fr z)) (fun _=>none)=some (v,m')) (H:OR D F fr o.op.operands.toList)
  (hm:MS (RX X G pr) D m I M) (k:NextK X G pr D m I M v m' o.dst F C K):OtherOb X o F C I M K:=by
 cases hdst:o.dst with
 | some d=>rw[hdst] at h;cases h
 | none=>
  rw[hdst] at h k
  have h0:x_upd X.E t m (rdO fr x) (rdO fr y) (rdO fr z)=some (v,m'):=h
  have hops:∀ q,q=x∨q=y∨q=z→q∈o.op.operands.toList:=fun q hq=>by
   rcases ho with ho | ho<;>rw[ho]<;>simp[Op.operands]<;>exact hq
  unfold x_upd at h0
  split at h0
  ·rename_i sa sb sz kk e id yv zv ht h1 h2 h3
   obtain⟨hkey,h0⟩:=cnd_some h0
   split at h0
   ·rename_i es hg
    obtain⟨es',hes,h0⟩:=opn_eq h0
    obtain⟨t',h4,h5⟩:=Tri.set_ok (some (Ent.map es')) m.t id
    have h0':(m.t.setK (some (Ent.map es')) id fun t=>some (EV.t [],(⟨t,m.n⟩:Me)))=some (v,m'):=h0
    rw[h4] at h0'
    cases h0'
    obtain⟨d,hud,hdd⟩:=(hE _ _ ht).und
    have hd':d=.map kk e:=by cases d<;>simp_all[shOf]
    subst hd'
    obtain⟨dk,huk,hkt⟩:=keyT_of hE hkey
    obtain⟨u1,e1,g1⟩:=H.ev (x:=x) (hops x (.inl rfl)) h1
    obtain⟨u2,e2,g2⟩:=H.ev (x:=y) (hops y (.inr (.inl rfl))) h2
    obtain⟨u3,e3,g3⟩:=H.ev (x:=z) (hops z (.inr (.inr rfl))) h3
    obtain⟨a,ha,rfl⟩:=g1.map'
    have he:=hm.ent _ _ _ hg ha
    obtain⟨l,clock,hM,hmp⟩:=he.mapE
    have fin:∀ (l':List MapEntry) (clock':Nat),MpR D es' l'→(∀ w:World,w.heap[a.b]?=some (.map l.toArray clock)→(Instr.mapUpdate t (.map (some a.b)) u2 u3).run X.P w=.ok () { w with heap:=w.heap.setIfInBounds a.b (.map l'.toArray clock') }) →
      OtherOb X o F C I M K:=fun l' clock' hl' hrun=>by
     obtain⟨pre,post,hsp⟩:=List.append_of_mem hM
     have hperm:M.Perm (⟨a.b,.map l.toArray clock⟩::(pre++post)):=by rw[hsp];exact List.perm_middle
     refine other_skip hdst (by rcases ho with ho | ho<;>rw[ho]<;>simp) fun β ac w hR0=>?_
     have hR:RelB X β ac w F C I (⟨a.b,.map l.toArray clock⟩::(pre++post)):=hR0.wk (.perm hperm .refl)
     have hgw:=hR0.holds.m _ hM
     have ex:=eval_of_ev hR.fr e1
     have ey:=eval_of_ev hR.fr e2
     have ez:=eval_of_ev hR.fr e3
     have hset:=MapKept.heap_set (o':=Obj.map l'.toArray clock') hgw
     refine⟨_,I,⟨a.b,.map l'.toArray clock'⟩::(pre++post),?_,hR.swap (w':={ w with heap:=w.heap.setIfInBounds a.b (.map l'.toArray clock') }) (by simp) hset.1 hset.2 ⟨rfl,rfl⟩,?_⟩
     ·unfold execOp
      rcases ho with ho | ho<;>simp only[ho,ex,ey,ez,Sem.run_bind,hrun w hgw,Result.andThen_ok,Sem.run_pure]
     ·have hkeep:∀ q∈M,q.num≠a.b→q∈(⟨a.b,.map l'.toArray clock'⟩:Blk)::(pre++post):=fun q hq hn=>by
       rcases List.mem_cons.1 (hperm.mem_iff.1 hq) with rfl | hq
       ·exact(hn rfl).elim
       ·exact List.mem_cons_of_mem _ hq
      refine k D (.tuple #[]) _ Nm.ext_refl (by simp only[VR];exact⟨[],.nil,rfl⟩) ?_
      refine hm.step (fun i e hi=>(h5 i e hi).imp (fun q=>⟨q.1,some_inj' q.2⟩) fun q=>q) ha (Nm.le_refl D) (fun _ _=>rfl) hm.dom (fun _ _ h=>h) (fun i e a' hne hi hai q hq hn=>hkeep q hq ?_) (.map l' clock' (by simp) hl') ?_
      ·rw[hn]
       exact fun hb=>hne (hm.inj _ _ _ _ _ _ hi hg hai ha hb)
      ·exact fun i e a' hne hi hai hb=>hne (hm.inj _ _ _ _ _ _ hi hg hai ha hb)
    rcases updE_ok hkt g2 g3 0 hmp hes with ⟨hf,hnew⟩ | ⟨j,e',hf,hj,hs,hmod⟩
    ·exact fin _ (clock+1) (hnew clock) fun w hgw=>upd_new hud huk (hkt.isKey g2) hgw hf
    ·rw[Nat.zero_add] at hf
     have hke:e'.key=u2:=by
      cases hkt with
      | int=>
       have:=g2.int
       subst this
       cases hk:e'.key<;>rw[hk] at hs<;>simp[Instr.sameNow] at hs
       obtain⟨rfl,h⟩:=hs
       rw[h]
      | str=>
       have:=g2.str
       subst this
       cases hk:e'.key<;>rw[hk] at hs<;>simp[Instr.sameNow,bbeq] at hs
       rw[hs]
     exact fin _ clock hmod fun w hgw=>upd_old hud huk (hkt.isKey g2) hgw hf hj hke
   ·cases h0
  ·cases h0
end
section
variable {X:Ctx} {G:GT} {pr:PR} {D:Nm} {m m':Me} {F:Fr} {fr:Tri EV} {C:Bx} {I:GH} {M:List Blk} {K:KS} {o:Oper} {v:EV}
theorem x_str_ok (hE:EOK X.P X.E) (hd:∀ d,o.dst=some d→d < X.n) {s d e:Nat} {x:Operand} (ho:o.op=.convert s d x) {a1 b1 a2 b2:Nat} {z1 z2:List Value} (hs:X.E s=some ⟨a1,b1,z1,.slice e⟩) (hd':X.E d=some ⟨a2,b2,z2,.string⟩) (hb:byteT (X.E e)=true)
  {id off n:Nat} (h:x_str G m id off n=some (v,m')) (hx:∃ a c,D id=some a∧ev F x=.val (.slice (some ⟨a.b,a.o+off,none⟩) n c)) (hm:MS (RX X G pr) D m I M)
  (k:NextK X G pr D m I M v m' o.dst F C K):OtherOb X o F C I M K:=by
 unfold x_str at h
 obtain⟨a,c,ha,ex⟩:=hx
 obtain⟨ad,l,vs,e1,hrd,hl,h⟩:=loadE_ok (u:=.pointer (some ⟨a.b,a.o+off,none⟩)) hm (by simp only[VR];exact⟨a,ha,rfl⟩) h
 cases e1
 obtain⟨bs,hbs,h⟩:=opn_eq h
 cases h
 have hvs:=bytesE_ok hbs hl
 have hlen:bs.length=n:=by
  have:=hrd.2
  obtain⟨_,_,_,_,_,h2⟩:=this
  rw[←h2,hvs]
  simp
 subst hvs
 obtain⟨ei,he,hes⟩:∃ ei,X.E e=some ei∧ei.sh=.int .u8:=by
  unfold byteT at hb
  split at hb
  ·rename_i h;exact⟨_,h,rfl⟩
  ·cases hb
 refine OtherOb.bytesS hE ho hd hs rfl he hes hd' rfl ex hlen hrd ?_
 exact k D _ M Nm.ext_refl (by simp only[VR]) hm
theorem x_conv_ok (hE:EOK X.P X.E) (hd:∀ d,o.dst=some d→d < X.n) {s d:Nat} {x:Operand} (ho:o.op=.convert s d x) (h:x_conv (RX X G pr) m s d (rdO fr x)=some (v,m')) (H:OR D F fr o.op.operands.toList) (hm:MS (RX X G pr) D m I M)
  (k:NextK X G pr D m I M v m' o.dst F C K):OtherOb X o F C I M K:=by
 unfold x_conv at h
 rw[ho] at H
 split at h
 ·rename_i h1 h2 h3
  obtain⟨hb,h⟩:=cnd_some h
  obtain⟨u,e1,g1⟩:=H.ev (x:=x) (by simp[Op.operands]) h3
  obtain⟨a,ha,rfl⟩:=g1.sli
  exact x_str_ok hE hd ho h1 h2 hb h ⟨a,_,ha,e1⟩ hm k
 ·rename_i h1 h2 h3
  obtain⟨hb,h⟩:=cnd_some h
  obtain⟨u,e1,g1⟩:=H.ev (x:=x) (by simp[Op.operands]) h3
  obtain⟨a,ha,_,rfl⟩:=g1.slx
  exact x_str_ok hE hd ho h1 h2 hb h ⟨a,_,ha,e1⟩ hm k
 ·rename_i h1 h2 h3
  obtain⟨hb,h⟩:=cnd_some h
  obtain⟨u,e1,g1⟩:=H.ev (x:=x) (by simp[Op.operands]) h3
  cases h
  simp only[VR] at g1
  subst g1
  obtain⟨ei,he,hes⟩:∃ ei,X.E _=some ei∧ei.sh=.int .u8:=by
   unfold byteT at hb
   split at hb
   ·rename_i h;exact⟨_,h,rfl⟩
   ·cases hb
  refine OtherOb.bytesN hE ho hd h1 rfl he hes h2 rfl e1 ?_
  exact k D _ M Nm.ext_refl (by simp only[VR]) hm
 ·cases h
theorem text_ok (q:List UInt8):VRs D (q.map fun b=>EV.i .u8 (.ofNat b.toNat)) (byteVals ⟨q.toArray⟩):=by
 unfold byteVals
 simp only
 induction q with
 | nil=>exact .nil
 | cons b q ih=>exact .cons (by simp only[VR];rfl) ih
theorem rdL_two {l:List Operand} {a b:EV} (h:rdL fr l=some [a,b]):∃ x y,l=[x,y]∧rdO fr x=some a∧rdO fr y=some b:=by
 match l,h with
 | [],h=>simp[rdL] at h
 | [x],h=>
  simp only[rdL] at h
  split at h
  ·rename_i e1 e2;cases e2;cases h
  ·cases h
 | [x,y],h=>
  simp only[rdL] at h
  split at h
  ·rename_i e1 e2
   split at e2
   ·rename_i e3 e4;cases e4;cases e2;cases h;exact⟨x,y,rfl,e1,e3⟩
   ·cases e2
  ·cases h
 | x::y::z::l,h=>
  simp only[rdL] at h
  split at h
  ·rename_i e1 e2
   split at e2
   ·rename_i e3 e4
    split at e4
    ·cases e4;cases e2;cases h
    ·cases e4
   ·cases e2
  ·cases h
theorem MS.sub {M':List Blk} (h:MS (RX X G pr) D m I M) (hs:∀ x∈M,x∈M'):MS (RX X G pr) D m I M':=
 ⟨fun id e a hi ha=>(h.ent id e a hi ha).mono (Nm.le_refl D) (fun x hx _=>hs x hx),h.inj,h.dom,h.glo⟩
theorem x_copy_ok (hE:EOK X.P X.E) (hd:∀ d,o.dst=some d→d < X.n) {args:Array Operand} {ts:Array Nat} (ho:o.op=.call { callee:=.builtin .copy,args:=args,argTypes:=ts }) (h:x_copy (RX X G pr) m ts.toList (rdL fr args.toList)=some (v,m'))
  (H:OR D F fr args.toList) (hm:MS (RX X G pr) D m I M) (k:NextK X G pr D m I M v m' o.dst F C K):OtherOb X o F C I M K:=by
 unfold x_copy at h
 split at h
 ·rename_i t u id off n c q ht hl
  split at h
  ·rename_i sa sb sz e hE1
   obtain⟨ei,he,h⟩:=opn_eq h
   obtain⟨hb,h⟩:=cnd_some h
   rw[Bool.and_eq_true] at hb
   obtain⟨m2,h2,-,-,h3⟩:=storeE_ok (Y:=RX X G pr) h
   cases h2
   obtain⟨x,y,hargs,hx1,hy1⟩:=rdL_two hl
   obtain⟨u1,hx,g2⟩:=H.ev (x:=x) (by rw[hargs];simp) hx1
   obtain⟨u2,hy,g4⟩:=H.ev (x:=y) (by rw[hargs];simp) hy1
   obtain⟨a,ha,rfl⟩:=g2.sli
   have hstr:=g4.str
   subst hstr
   obtain⟨g,off',pre,post,arr,T,e3,hM,hfit,hone,⟨id',e',al,hid,hal,hg⟩,hms⟩:=h3 hm (u:=.pointer (some ⟨a.b,a.o+off,none⟩)) (by simp only[VR];exact⟨a,ha,rfl⟩) (text_ok q)
   cases e3
   have hperm:M.Perm (⟨a.b,.cells arr T (0,0)⟩::(pre++post)):=by rw[hM];exact List.perm_middle
   have hargs':args=#[x,y]:=by apply Array.ext';simpa using hargs
   have hts':ts=#[t,u]:=by apply Array.ext';simpa using ht
   have hsz:(⟨q.toArray⟩:ByteArray).size=q.length:=by simp[ByteArray.size]
   have hbl:(byteVals ⟨q.toArray⟩).length=q.length:=by simp[byteVals]
   refine OtherOb.copyS hE (by rw[ho,hargs',hts']) hd hE1 rfl he (Nat.eq_of_beq_eq_true hb.1) hx hy (by rw[hsz];exact Nat.le_of_ble_eq_true hb.2) (by rw[hsz,←hbl];exact hfit) hperm ?_
   rw[hsz]
   have hpm2:(pre++(⟨a.b,.cells (splice arr.toList (a.o+off) (byteVals ⟨q.toArray⟩)).toArray T (0,0)⟩:Blk)::post).Perm (⟨a.b,.cells (splice arr.toList (a.o+off) (byteVals ⟨q.toArray⟩)).toArray T (0,0)⟩::(pre++post)):=List.perm_middle
   exact k D (.int .i64 q.length) _ Nm.ext_refl (by simp only[VR];rfl) (hms.sub fun x hx=>hpm2.mem_iff.1 hx)
  ·cases h
 ·cases h
end
section
variable {P:Program} {w:World}
theorem app_in (t u ty e:Nat) (i:TypeInfo) (ht:P.underlying t=some (.slice e)) {du:TypeDesc} (hu:P.underlying u=some du) (hdu:∀ k,du≠.int k) (hi:P.info? e=some i)
  {g off n c T:Nat} {arr:Array Value} (hg:w.heap[g]?=some (.cells arr T (0,0))) {x:Value} {m:Nat} {news:List Value} (h1:∀ v∈news,v.oneCell'=true)
  (hlen:∀ w',(Builtin.lenOf x).run P w'=.ok m w') (hnew:(Builtin.firstCells i.size m x).run P w=.ok news.toArray w) (hroom:n+m≤c) (hfit:off+n * i.size+news.length≤arr.size) :
  (Builtin.append_ #[t,u] ty #[.slice (some ⟨g,off,none⟩) n c,x]).run P w=.ok (.slice (some ⟨g,off,none⟩) (n+m) c) (w.setRow g (splice arr.toList (off+n * i.size) news).toArray):=by
 have hdu':(match du with | .int _=>true | _=>false)=false:=by cases du<;>first | rfl | exact(hdu _ rfl).elim
 have hst:=run_storeCells_at P g (off+n * i.size) T news 0 arr w hg (by simpa using hfit) h1
 simp only[Nat.add_zero] at hst
 have hadd:(Addr.add ⟨g,off,none⟩ (n * i.size))=⟨g,off+n * i.size,none⟩:=addr_add _ rfl _
 simp[Builtin.append_,run_underlying ht,run_underlying hu,sizeOf,typeInfo,hi,hlen,hroom,hnew,hadd,hst,splice]
theorem app_new (t u ty e:Nat) (i:TypeInfo) (z:Value) (ht:P.underlying t=some (.slice e)) {du:TypeDesc} (hu:P.underlying u=some du) (hdu:∀ k,du≠.int k) (hi:P.info? e=some i) (hz:i.zero=some z) (hzs:z.cells.size=i.size)
  {base:Option Addr} {n c:Nat} {xs:List Value} (hold:(Builtin.firstCells i.size n (.slice base n c)).run P w.drew=.ok xs.toArray w.drew) (hxs:xs.length=n * i.size) {x:Value} {m:Nat} {news:List Value} (hl:news.length=m * i.size)
  (hlen:∀ w',(Builtin.lenOf x).run P w'=.ok m w') (hnew:(Builtin.firstCells i.size m x).run P w.drew=.ok news.toArray w.drew) (hroom:c < n+m) (b1:n+m≤maxLen) (b2:(n+m) * i.bytes≤140737488355328) :
  ∃ cap cur,(Builtin.append_ #[t,u] ty #[.slice base n c,x]).run P w=.ok (.slice (some ⟨w.heap.size,0,none⟩) (n+m) cap) (w.drew.alloc (.cells (xs++news++cur).toArray e (0,0)))∧n+m≤cap∧cap≤maxLen∧(xs++news++cur).length=cap * i.size:=by
 have hdu':(match du with | .int _=>true | _=>false)=false:=by cases du<;>first | rfl | exact(hdu _ rfl).elim
 have hn:¬ (n+m≤c):=by omega
 have hb1:n+m≤9223372036854775807:=by simp only[maxLen] at b1;exact b1
 have h63':¬ (9223372036854775807 < ((n:Int)+(m:Int))):=by omega
 have h48':¬ (281474976710656 < Builtin.nextslicecap (n+m) c * i.bytes):=by have:=growslice_fits (by omega:c < n+m) b2;omega
 have hge:=grownCap_ge w (n+m) c e
 have hcm:grownCap w (n+m) c e≤maxLen:=grownCap_le_maxLen w (n+m) c e b1
 refine⟨grownCap w (n+m) c e,(Builtin.zeroCells z.cells (grownCap w (n+m) c e - (n+m))).toList,?_,hge,hcm,?_⟩
 ·simp[Builtin.append_,run_underlying ht,run_underlying hu,sizeOf,typeInfo,zeroValue,hi,hz,hlen,hn,h63',h48',Question.forced,hnew,hold,newRow,grownCap]
  congr 2
  apply Array.ext'
  simp
 ·rw[List.length_append,List.length_append,hxs,hl,Array.length_toList,size_zeroCells,hzs,←Nat.add_mul,←Nat.add_mul]
  congr 1
  omega
end
section
variable {X:Ctx} {G:GT} {pr:PR} {D:Nm} {m m':Me} {F:Fr} {fr:Tri EV} {C:Bx} {I:GH} {M:List Blk} {K:KS} {o:Oper} {v:EV}
theorem Rd.cells' {ad:Addr} {n:Nat} {vs:List Value} (h:Rd I M ad n vs) {w:World} (hH:Holds I M w) (j:Nat) (v:Value) (hj:vs[j]?=some v):w.cell? (ad.add j)=some v:=by
 obtain⟨hsp,cs,T,fr,hkn,hv,hl⟩:=h
 rw[addr_add _ hsp,cell_of_block (hkn.heap hH)]
 rw[←hv,List.getElem?_take] at hj
 split at hj
 ·rw[List.getElem?_drop] at hj
  simpa using hj
 ·cases hj
theorem news_ok {x:EV} {u:Value} {ut:Option TI} {ei:TI} {k:Nat} {R:Type} {K:List EV→Option R} {r:R} (h:newsE G m.t x ei.size K=some r) (hs:srcE ut ei x=true) (hx:VR D x u) (hm:MS (RX X G pr) D m I M) (hk:lenE x=some k) (h0:k≠0) :
  ∃ l vs,K l=some r∧VRs D l vs∧(∀ w',(Builtin.lenOf u).run X.P w'=.ok k w')∧(∀ w,Holds I M w→(Builtin.firstCells ei.size k u).run X.P w=.ok vs.toArray w)∧vs.length=k * ei.size ∧
   ((∃ a b z e,ut=some ⟨a,b,z,.slice e⟩)∨∃ a b z,ut=some ⟨a,b,z,.string⟩):=by
 have hty:(∃ a b z e,ut=some ⟨a,b,z,.slice e⟩)∨∃ a b z,ut=some ⟨a,b,z,.string⟩:=by
  unfold srcE at hs
  split at hs<;>first | exact .inl ⟨_,_,_,_,rfl⟩ | exact .inr ⟨_,_,_,rfl⟩ | cases hs
 cases x<;>simp only[newsE] at h<;>first | cases h | skip
 case sn=>simp[lenE,lenS] at hk;exact(h0 hk.symm).elim
 case so=>simp[lenE,lenS] at hk;exact(h0 hk.symm).elim
 case sl id off n c=>
  simp only[lenE,lenS,Option.some.injEq] at hk
  subst hk
  obtain⟨a,ha,rfl⟩:=hx.sli
  obtain⟨ad,l,vs,e1,hrd,hl,h⟩:=loadE_ok (u:=.pointer (some ⟨a.b,a.o+off,none⟩)) hm (by simp only[VR];exact⟨a,ha,rfl⟩) h
  cases e1
  have hrd':=hrd
  obtain⟨_,_,_,_,_,_,hlen⟩:=hrd'
  exact⟨l,vs,h,hl,fun _=>rfl,fun w hw=>run_firstCells_some (P:=X.P) w ei.size n _ n c vs hlen (fun j v hj=>hrd.cells' hw j v hj),hlen,hty⟩
 case sx id off e n=>
  simp only[lenE,lenS,Option.some.injEq] at hk
  subst hk
  obtain⟨a,ha,_,rfl⟩:=hx.slx
  obtain⟨ad,l,vs,e1,hrd,hl,h⟩:=loadE_ok (u:=.pointer (some ⟨a.b,a.o+off,none⟩)) hm (by simp only[VR];exact⟨a,ha,rfl⟩) h
  cases e1
  have hrd':=hrd
  obtain⟨_,_,_,_,_,_,hlen⟩:=hrd'
  exact⟨l,vs,h,hl,fun _=>rfl,fun w hw=>run_firstCells_some (P:=X.P) w ei.size n _ n _ vs hlen (fun j v hj=>hrd.cells' hw j v hj),hlen,hty⟩
 case s q=>
  simp only[lenE,Option.some.injEq] at hk
  subst hk
  have hsz1:ei.size=1:=by
   unfold srcE at hs
   split at hs<;>first | exact Nat.eq_of_beq_eq_true hs | (rename_i e;cases e) | cases hs
  have:=hx.str
  subst this
  have hq:(⟨q.toArray⟩:ByteArray).size=q.length:=by simp[ByteArray.size]
  refine⟨_,byteVals ⟨q.toArray⟩,h,text_ok q,fun w=>?_,fun w hw=>?_,by simp[byteVals,hsz1],hty⟩
  ·show Result.ok _ _=_
   rw[hq]
  ·have:=Lib.run_firstCells_string w ei.size (P:=X.P) ⟨q.toArray⟩
   rw[hq] at this
   exact this
theorem app_ob (hE:EOK X.P X.E) (hd:∀ d,o.dst=some d→d < X.n) {s x:Operand} {t u:Nat} (ho:o.op=.call { callee:=.builtin .append,args:=#[s,x],argTypes:=#[t,u] })
  {e:Nat} {a1 b1:Nat} {z1:List Value} {tu ei:TI} (ht:X.E t=some ⟨a1,b1,z1,.slice e⟩) (hu:X.E u=some tu) (hus:∀ k,tu.sh≠.int k) (he:X.E e=some ei)
  {base:Option Addr} {n c k:Nat} {xu:Value} (hs:ev F s=.val (.slice base n c)) (hx:ev F x=.val xu) {xs news:List Value} (hxs:xs.length=n * ei.size) (hnl:news.length=k * ei.size) (h1:allOne news=true)
  (hlen:∀ w',(Builtin.lenOf xu).run X.P w'=.ok k w') (hnew:∀ w,Holds I M w→(Builtin.firstCells ei.size k xu).run X.P w=.ok news.toArray w)
  (hold:∀ w,Holds I M w→(Builtin.firstCells ei.size n (.slice base n c)).run X.P w=.ok xs.toArray w) (b1:n+k≤maxLen) (b2:(n+k) * ei.bytes≤140737488355328)
  (kin:n+k≤c→∃ g off T arr pre post,base=some ⟨g,off,none⟩∧M=pre++⟨g,.cells arr T (0,0)⟩::post∧off+n * ei.size+news.length≤arr.size ∧
   K (put o.dst (.val (.slice base (n+k) c)) F) C I (pre++⟨g,.cells (splice arr.toList (off+n * ei.size) news).toArray T (0,0)⟩::post))
  (knew:c < n+k→∀ b cap cur,I b=none→(∀ y∈M,y.num≠b)→n+k≤cap→cap≤maxLen→(xs++news++cur).length=cap * ei.size →
   K (put o.dst (.val (.slice (some ⟨b,0,none⟩) (n+k) cap)) F) C I (⟨b,.cells (xs++news++cur).toArray e (0,0)⟩::M)):OtherOb X o F C I M K:=by
 refine⟨fun a w Q ⟨β,hR⟩=>?_⟩
 obtain⟨inf,z,hi,hi1,hi2,hi3,hi4⟩:=(hE _ _ he).inf
 obtain⟨d,hud,hdd⟩:=(hE _ _ hu).und
 obtain⟨dt,htd,hdt⟩:=(hE _ _ ht).und
 have hdt':dt=.slice e:=by cases dt<;>simp_all[shOf]
 subst hdt'
 have hzs:z.cells.size=inf.size:=by
  rw[hi1,←(hE _ _ he).len,←hi4]
  simp
 have es:=eval_of_ev hR.fr hs
 have ex:=eval_of_ev hR.fr hx
 have hdu:∀ k,d≠.int k:=fun k e'=>hus k (by rw[←hdd,e'];rfl)
 rw[←hi1] at hxs hnl hold hnew
 by_cases hroom:n+k≤c
 ·obtain⟨g,off,T,arr,pre,post,rfl,hM,hfit,hk⟩:=kin hroom
  rw[←hi1] at hfit hk
  have hg:w.heap[g]?=some (.cells arr T (0,0)):=hR.holds.m ⟨g,.cells arr T (0,0)⟩ (by rw[hM];simp)
  have hrun:=app_in (P:=X.P) (w:=w) t u o.type e inf htd hud hdu hi hg (allOne_spec h1) hlen (hnew w hR.holds) hroom hfit
  refine wpIn_val (by rw[ho];simp) ?_ ⟨_,_,_,_,⟨β,RelB.put (x:=.val (.slice (some ⟨g,off,none⟩) (n+k) c)) (hR.store_blk hM) hd rfl⟩,hk⟩
  unfold execOp
  simp only[ho,resolve,invoke,builtin,Sem.run_bind,Sem.run_pure,Result.andThen_ok,List.map_toArray,List.map_cons,List.map_nil,es,ex,hrun]
 ·have hH:Holds I M w.drew:=hR.holds.heap rfl
  obtain⟨cap,cur,hrun,h2,h3,h4⟩:=app_new (P:=X.P) (w:=w) t u o.type e inf z htd hud hdu hi hi3 hzs (hold w.drew hH) hxs hnl hlen (hnew w.drew hH) (by omega) b1 (by rw[hi2];exact b2)
  have hR2:RelB X β a w.drew F C I M:=hR.world rfl
  rw[hi1] at h4
  refine wpIn_val (by rw[ho];simp) ?_ ⟨_,_,_,_,⟨β,RelB.put (x:=.val (.slice (some ⟨w.heap.size,0,none⟩) (n+k) cap)) (hR2.alloc_blk (.cells (xs++news++cur).toArray e (0,0))) hd rfl⟩,knew (by omega) w.heap.size cap cur hR.holds.freshI hR.holds.freshM h2 h3 h4⟩
  unfold execOp
  simp only[ho,resolve,invoke,builtin,Sem.run_bind,Sem.run_pure,Result.andThen_ok,List.map_toArray,List.map_cons,List.map_nil,es,ex,hrun]
theorem src_ty {u:Nat} {ei:TI} {x:EV} (h:srcE (X.E u) ei x=true):∃ tu,X.E u=some tu∧∀ k,tu.sh≠.int k:=by
 unfold srcE at h
 split at h<;>first | (cases h;done) | (rename_i e;exact⟨_,e,by simp⟩) | (rename_i e _;exact⟨_,e,by simp⟩) | (rename_i e _ _;exact⟨_,e,by simp⟩)
theorem capE_ok {s:EV} {u:Value} (h:capE s=true) (hs:VR D s u):∃ a n c,u=.slice a n c∧n≤c:=by
 cases s<;>simp only[capE,Bool.false_eq_true] at h
 case sn=>exact⟨_,_,_,hs.sln,Nat.le_refl _⟩
 case so=>obtain⟨a,c,rfl⟩:=hs.slo;exact⟨_,_,_,rfl,Nat.zero_le _⟩
 case sl=>obtain⟨a,_,rfl⟩:=hs.sli;exact⟨_,_,_,rfl,Nat.le_of_ble_eq_true h⟩
 case sx=>obtain⟨a,_,hle,rfl⟩:=hs.slx;exact⟨_,_,_,rfl,by omega⟩
theorem zero_src {x:EV} {u:Value} {ut:Option TI} {ei:TI} (hs:srcE ut ei x=true) (hx:VR D x u) (hk:lenE x=some 0):(∃ b c,u=.slice b 0 c)∨u=.string .empty:=by
 cases x<;>simp[lenE,lenS] at hk
 case sn=>exact .inl ⟨_,_,hx.sln⟩
 case so=>obtain⟨a,c,rfl⟩:=hx.slo;exact .inl ⟨_,_,rfl⟩
 case sl=>subst hk;obtain⟨a,_,rfl⟩:=hx.sli;exact .inl ⟨_,_,rfl⟩
 case sx=>subst hk;obtain⟨a,_,_,rfl⟩:=hx.slx;exact .inl ⟨_,_,rfl⟩
 case gs=>subst hk;exact .inl ⟨_,_,hx.sgl⟩
 case s=>subst hk;exact .inr hx.str
noncomputable abbrev appK (X:Ctx) (G:GT) (m:Me) (s x:EV) (ei:TI) (kn e:Nat):List EV→Option (EV×Me):=fun l=>opn (some kn) none fun k=>cnd (Nat.beq k 0) (cnd (capE s) (some (s,m)) none) (cnd (l.all EV.one) (appE G m s l k ei.size ei.bytes e) none)
theorem app_zero (hE:EOK X.P X.E) (hd:∀ d,o.dst=some d→d < X.n) {os ox:Operand} {t u:Nat} (ho:o.op=.call { callee:=.builtin .append,args:=#[os,ox],argTypes:=#[t,u] })
  {e a1 b1:Nat} {z1:List Value} {ei:TI} (ht:X.E t=some ⟨a1,b1,z1,.slice e⟩) {s x:EV} (hsrc:srcE (X.E u) ei x=true) (he:X.E e=some ei) (hk:lenE x=some 0) {us ux:Value}
  (es:ev F os=.val us) (gs:VR D s us) (ex:ev F ox=.val ux) (gx:VR D x ux) (h:newsE G m.t x ei.size (appK X G m s x ei 0 e)=some (v,m'))
  (hm:MS (RX X G pr) D m I M) (k:NextK X G pr D m I M v m' o.dst F C K):OtherOb X o F C I M K:=by
 have h2:∃ l,appK X G m s x ei 0 e l=some (v,m'):=by
  cases x<;>simp only[newsE] at h<;>first | cases h | exact⟨_,h⟩ | skip
  case sl=>obtain⟨a,ha,rfl⟩:=gx.sli;obtain⟨_,l,_,_,_,_,h⟩:=loadE_ok (u:=.pointer (some ⟨a.b,a.o+_,none⟩)) hm (by simp only[VR];exact⟨a,ha,rfl⟩) h;exact⟨l,h⟩
  case sx=>obtain⟨a,ha,_,rfl⟩:=gx.slx;obtain⟨_,l,_,_,_,_,h⟩:=loadE_ok (u:=.pointer (some ⟨a.b,a.o+_,none⟩)) hm (by simp only[VR];exact⟨a,ha,rfl⟩) h;exact⟨l,h⟩
 obtain⟨l,h2⟩:=h2
 have h3:cnd (capE s) (some (s,m)) none=some (v,m'):=h2
 obtain⟨hc,h3⟩:=cnd_some h3
 cases h3
 obtain⟨a,n,c,rfl,hnc⟩:=capE_ok hc gs
 obtain⟨tu,hu,hus⟩:=src_ty hsrc
 exact OtherOb.append0 hE ho hd ht rfl hu hus he es hnc ex (zero_src hsrc gx hk) (k D _ M Nm.ext_refl gs hm)
theorem app_sl (hE:EOK X.P X.E) (hd:∀ d,o.dst=some d→d < X.n) {os ox:Operand} {t u:Nat} (ho:o.op=.call { callee:=.builtin .append,args:=#[os,ox],argTypes:=#[t,u] })
  {e a1 b1:Nat} {z1:List Value} {tu ei:TI} (ht:X.E t=some ⟨a1,b1,z1,.slice e⟩) (hu:X.E u=some tu) (hus:∀ k,tu.sh≠.int k) (he:X.E e=some ei) {us ux:Value} {id off n c kn:Nat}
  (es:ev F os=.val us) (gs:VR D (.sl id off n c) us) (ex:ev F ox=.val ux) {l:List EV} {vs:List Value} (h:app_l G m id off n c l kn ei.size e=some (v,m')) (hb1:n+kn≤maxLen) (hb2:(n+kn) * ei.bytes≤140737488355328)
  (hl:VRs D l vs) (hvl:vs.length=kn * ei.size) (h1:allOne vs=true) (hlen:∀ w',(Builtin.lenOf ux).run X.P w'=.ok kn w') (hnew:∀ w,Holds I M w→(Builtin.firstCells ei.size kn ux).run X.P w=.ok vs.toArray w)
  (hm:MS (RX X G pr) D m I M) (k:NextK X G pr D m I M v m' o.dst F C K):OtherOb X o F C I M K:=by
 have hTe:∀ {q:List Value} {c:Nat},q.length=c * ei.size→∀ i,(RX X G pr).E e=some i→q.length=c * i.size:=fun hq i hi=>by
  have:X.E e=some i:=hi
  rw[he] at this
  cases this
  exact hq
 obtain⟨a,ha,rfl⟩:=gs.sli
 unfold app_l at h
 by_cases hr:n+kn≤c
 ·have hb:Nat.ble (Nat.add n kn) c=true:=Nat.ble_eq_true_of_le hr
  rw[hb] at h
  have h':storeE m (.p id (Nat.add off (Nat.mul n ei.size))) l (fun m=>some (EV.sl id off (Nat.add n kn) c,m))=some (v,m'):=h
  obtain⟨m2,h2,-,-,h3⟩:=storeE_ok (Y:=RX X G pr) h'
  cases h2
  obtain⟨g,off',pre,post,arr,T,e1,hM,hfit,hone,⟨id',e',al,hid,hal,hg⟩,hms⟩:=h3 hm (u:=.pointer (some ⟨a.b,a.o+(off+n * ei.size),none⟩)) (by simp only[VR];exact⟨a,ha,rfl⟩) hl
  cases e1
  refine⟨fun ac w Q ⟨β,hR⟩=>?_⟩
  obtain⟨inf,z,hi,hi1,hi2,hi3,hi4⟩:=(hE _ _ he).inf
  obtain⟨d,hud,hdd⟩:=(hE _ _ hu).und
  obtain⟨dt,htd,hdt⟩:=(hE _ _ ht).und
  have hdt':dt=.slice e:=by cases dt<;>simp_all[shOf]
  subst hdt'
  have hg:w.heap[a.b]?=some (.cells arr T (0,0)):=hR.holds.m ⟨a.b,.cells arr T (0,0)⟩ (by rw[hM];simp)
  have es':=eval_of_ev hR.fr es
  have ex':=eval_of_ev hR.fr ex
  rw[←hi1] at hnew
  have hrun:=app_in (P:=X.P) (w:=w) t u o.type e inf htd hud (fun k e'=>hus k (by rw[←hdd,e'];rfl)) hi hg (allOne_spec h1) hlen (hnew w hR.holds) hr (off:=a.o+off) (by rw[hi1];omega)
  rw[hi1,Nat.add_assoc] at hrun
  have hR2:=hR.store_blk (cs':=(splice arr.toList (a.o+(off+n * ei.size)) vs).toArray) hM
  refine wpIn_val (by rw[ho];simp) ?_ ⟨_,_,_,_,⟨β,RelB.put (x:=.val (.slice (some ⟨a.b,a.o+off,none⟩) (n+kn) c)) hR2 hd rfl⟩,?_⟩
  ·unfold execOp
   simp only[ho,resolve,invoke,builtin,Sem.run_bind,Sem.run_pure,Result.andThen_ok,List.map_toArray,List.map_cons,List.map_nil,es',ex',hrun]
  ·exact k D _ _ Nm.ext_refl (by simp only[VR];exact⟨a,ha,rfl⟩) hms
 ·have hb:Nat.ble (Nat.add n kn) c=false:=by
   cases hb:Nat.ble (Nat.add n kn) c with
   | false=>rfl
   | true=>exact absurd (Nat.le_of_ble_eq_true hb) hr
  rw[hb] at h
  have h':loadE G m.t (.p id off) (Nat.mul n ei.size) (fun old=>newC m (old++l) e fun id m=>some (EV.sx id 0 0 (Nat.add n kn),m))=some (v,m'):=h
  obtain⟨ad,old,xs,e1,hrd,hlo,h2⟩:=loadE_ok (u:=.pointer (some ⟨a.b,a.o+off,none⟩)) hm (by simp only[VR];exact⟨a,ha,rfl⟩) h'
  cases e1
  obtain⟨m2,h6,hn,h7⟩:=newC_ok (Y:=RX X G pr) h2
  cases h6
  have hrd':=hrd
  obtain⟨_,_,_,_,_,_,hxl⟩:=hrd'
  refine app_ob hE hd ho ht hu hus he es ex hxl hvl h1 hlen hnew (fun w hw=>run_firstCells_some (P:=X.P) w ei.size n _ n c xs hxl (fun j v hj=>hrd.cells' hw j v hj)) hb1 hb2 (fun hr'=>(hr hr').elim) fun _ b cap cur hI hf hc1 hc2 hlen2=>?_
  refine k _ _ _ Nm.ext_set ?_ (h7 cur hm hf (hlo.append hl) (hTe hlen2) hc2)
  simp only[VR]
  exact⟨_,Nm.set_self _ _ _,by simpa using hc1,by simp⟩
theorem app_sx (hE:EOK X.P X.E) (hd:∀ d,o.dst=some d→d < X.n) {os ox:Operand} {t u:Nat} (ho:o.op=.call { callee:=.builtin .append,args:=#[os,ox],argTypes:=#[t,u] })
  {e a1 b1:Nat} {z1:List Value} {tu ei:TI} (ht:X.E t=some ⟨a1,b1,z1,.slice e⟩) (hu:X.E u=some tu) (hus:∀ k,tu.sh≠.int k) (he:X.E e=some ei) {us ux:Value} {id n lim kn:Nat} {cs:Tri EV}
  (es:ev F os=.val us) (gs:VR D (.sx id 0 0 n) us) (ex:ev F ox=.val ux) (hg:m.t.get id=some (.cells cs e lim)) {l:List EV} {vs:List Value} (h:app_x m id n cs lim l kn ei.size e=some (v,m')) (hb1:n+kn≤maxLen) (hb2:(n+kn) * ei.bytes≤140737488355328)
  (hl:VRs D l vs) (hvl:vs.length=kn * ei.size) (h1:allOne vs=true) (hlen:∀ w',(Builtin.lenOf ux).run X.P w'=.ok kn w') (hnew:∀ w,Holds I M w→(Builtin.firstCells ei.size kn ux).run X.P w=.ok vs.toArray w)
  (hm:MS (RX X G pr) D m I M) (k:NextK X G pr D m I M v m' o.dst F C K):OtherOb X o F C I M K:=by
 obtain⟨a,ha,hle,rfl⟩:=gs.slx
 have hent:=hm.ent _ _ _ hg ha
 obtain⟨arr,ho0,hM,hsz,hc,hk,hmx⟩:=hent
 unfold app_x at h
 obtain⟨hlim,h⟩:=cnd_some h
 have hlim':n * ei.size≤lim:=Nat.le_of_ble_eq_true hlim
 obtain⟨t1,h2,h3⟩:=Tri.set_ok (none:Option Ent) m.t id
 rw[h2] at h
 obtain⟨cs',h4,h5⟩:=Tri.puts_ok l cs (Nat.mul n ei.size)
 have h':Tri.putsK l cs (Nat.mul n ei.size) (fun cs=>newE (⟨t1,m.n⟩:Me) (.cells cs e (Nat.mul (Nat.add n kn) ei.size)) fun id m=>some (EV.sx id 0 0 (Nat.add n kn),m))=some (v,m'):=h
 rw[h4] at h'
 obtain⟨t2,h6,h7⟩:=newE_ok h'
 cases h7
 have hsub:∀ i en,t1.get i=some en→i≠id∧m.t.get i=some en:=fun i en hi=>by
  rcases h3 i en hi with ⟨_,h8⟩ | h8
  ·cases h8
  ·exact h8
 have hgive:MS (RX X G pr) D ⟨t1,m.n⟩ I M:=⟨fun i en b hi=>hm.ent i en b (hsub i en hi).2,fun i i' en en' b b' hi hi'=>hm.inj i i' en en' b b' (hsub i en hi).2 (hsub i' en' hi').2,hm.dom,hm.glo⟩
 have hasz:arr.size=a.c * ei.size:=by
  have:=hk ei he
  rw[ho0,Nat.zero_add] at this
  exact this
 have hlb:=hl.len
 have hxs:((arr.toList.take (n * ei.size)).length=n * ei.size):=by
  rw[List.length_take,Array.length_toList]
  omega
 have hcell:∀ j,j < n * ei.size→∀ v,cs.get j=some v→∃ x,(arr.toList.take (n * ei.size))[j]?=some x∧VR D v x:=fun j hj v hv=>by
  obtain⟨x,g1,g2⟩:=hc j v (by omega) hv
  rw[ho0,Nat.zero_add] at g1
  exact⟨x,by rw[List.getElem?_take,if_pos hj];simpa using g1,g2⟩
 have hnewent:∀ (D':Nm) (M':List Blk) (b cp:Nat) (rest:List Value),D.le D'→(⟨b,.cells (arr.toList.take (n * ei.size)++vs++rest).toArray e (0,0)⟩:Blk)∈M'→(arr.toList.take (n * ei.size)++vs++rest).length=cp * ei.size→cp≤maxLen →
   EntR D' X.E M' ⟨b,0,cp⟩ (.cells cs' e (Nat.mul (Nat.add n kn) ei.size)):=by
  intro D' M' b cp rest hD hM' hlen' hcp
  have hmul:(n+kn) * ei.size=n * ei.size+kn * ei.size:=Nat.add_mul _ _ _
  refine .cells _ rfl hM' ?_ (fun i v hi hgi=>?_) (fun i hi=>?_) hcp
  ·show 0+(n+kn) * ei.size≤_
   rw[List.size_toArray,List.length_append,List.length_append,hxs,hvl]
   omega
  ·have hi':i < n * ei.size+kn * ei.size:=by
    have:i < (n+kn) * ei.size:=hi
    omega
   simp only[Nat.zero_add,List.getElem?_toArray]
   rcases h5 i v hgi with ⟨g1,g2⟩ | ⟨g1,g2⟩
   ·have g1':n * ei.size≤i:=g1
    obtain⟨x,g3,g4⟩:=hl.get (i:=i - n * ei.size) g2
    refine⟨x,?_,g4.mono hD⟩
    rw[List.append_assoc,List.getElem?_append_right (by omega),hxs,List.getElem?_append_left (by omega)]
    exact g3
   ·have g1':i < n * ei.size:=by
     rcases g1 with g1 | g1
     ·exact g1
     ·have:n * ei.size+l.length≤i:=g1
      omega
    obtain⟨x,g3,g4⟩:=hcell i g1' v g2
    refine⟨x,?_,g4.mono hD⟩
    rw[List.append_assoc,List.getElem?_append_left (by omega)]
    exact g3
  ·rw[he] at hi
   cases hi
   simpa using hlen'
 refine app_ob hE hd ho ht hu hus he es ex hxs hvl h1 hlen hnew (fun w hw=>?_) hb1 hb2 (fun hr=>?_) fun _ b cap cur hI hf hc1 hc2 hlen2=>?_
 ·refine run_firstCells_some (P:=X.P) w ei.size n _ n _ _ hxs fun j v hj=>?_
  rw[addr_add _ rfl,cell_of_block (hw.m _ hM)]
  rw[List.getElem?_take] at hj
  split at hj
  ·rw[ho0];simpa using hj
  ·cases hj
 ·
  obtain⟨pre,post,hsp⟩:=List.append_of_mem hM
  rw[Nat.sub_zero] at hr
  have hfit:a.o+0+n * ei.size+vs.length≤arr.size:=by
   have h9:=Nat.mul_le_mul_right ei.size hr
   rw[Nat.add_mul] at h9
   rw[ho0,hasz,hvl]
   omega
  refine⟨a.b,a.o+0,e,arr,pre,post,rfl,hsp,hfit,?_⟩
  have hsplice:splice arr.toList (a.o+0+n * ei.size) vs=arr.toList.take (n * ei.size)++vs++arr.toList.drop (n * ei.size+vs.length):=by
   rw[ho0]
   simp only[splice,Nat.zero_add]
  rw[hsplice]
  have hkeep:∀ q∈M,q.num≠a.b→q∈pre++(⟨a.b,.cells (arr.toList.take (n * ei.size)++vs++arr.toList.drop (n * ei.size+vs.length)).toArray e (0,0)⟩:Blk)::post:=fun q hq hn=>by
   rw[hsp] at hq
   rcases List.mem_append.1 hq with hq | hq
   ·exact List.mem_append.2 (.inl hq)
   ·rcases List.mem_cons.1 hq with rfl | hq
    ·exact(hn rfl).elim
    ·exact List.mem_append.2 (.inr (List.mem_cons_of_mem _ hq))
  have hother:∀ i en b,t1.get i=some en→D i=some b→b.b≠a.b:=fun i en b hi hb hbb=>(hsub i en hi).1 (hm.inj _ _ _ _ _ _ (hsub i en hi).2 hg hb ha hbb)
  refine k _ _ _ Nm.ext_set ?_ (hgive.step (m:=⟨t1,m.n⟩) (j:=m.n) (fun i en hi=>(h6 i en hi).imp (fun q=>⟨q.1,some_inj' q.2⟩) fun q=>q) (D.set_self _ ⟨a.b,0,a.c⟩) (Nm.le_set _ hm.fresh) (fun i hi=>by unfold Nm.set;rw[if_neg hi]) (fun i b hb=>?_) (fun _ _ h=>h)
   (fun i en b hne hi hb q hq hn=>hkeep q hq (by rw[hn];exact hother i en b hi hb)) (hnewent _ _ _ _ (arr.toList.drop (n * ei.size+vs.length)) (Nm.le_set _ hm.fresh) (by simp) ?_ hmx) fun i en b hne hi hb=>hother i en b hi hb)
  ·simp only[VR]
   exact⟨_,Nm.set_self _ _ _,by simpa using hr,by rw[ho0];rfl⟩
  ·unfold Nm.set at hb
   split at hb
   ·show i < m.n+1;omega
   ·have:=hm.dom _ _ hb;show i < m.n+1;omega
  ·rw[←hsplice,splice_len (by simpa using hfit)]
   simpa using hasz
 ·
  refine k _ _ _ Nm.ext_set ?_ (hgive.new (m:=⟨t1,m.n⟩) (a:=⟨b,0,cap⟩) h6 hf (hnewent _ _ _ _ _ (Nm.le_set _ hm.fresh) (by simp) hlen2 hc2))
  simp only[VR]
  exact⟨_,Nm.set_self _ _ _,by simpa using hc1,by simp⟩
theorem app_some (hE:EOK X.P X.E) (hd:∀ d,o.dst=some d→d < X.n) {os ox:Operand} {t u:Nat} (ho:o.op=.call { callee:=.builtin .append,args:=#[os,ox],argTypes:=#[t,u] })
  {e a1 b1:Nat} {z1:List Value} {ei:TI} (ht:X.E t=some ⟨a1,b1,z1,.slice e⟩) {s x:EV} (hsrc:srcE (X.E u) ei x=true) (he:X.E e=some ei) {kn:Nat} (hk:lenE x=some kn) (h0:kn≠0) {us ux:Value}
  (es:ev F os=.val us) (gs:VR D s us) (ex:ev F ox=.val ux) (gx:VR D x ux) (h:newsE G m.t x ei.size (appK X G m s x ei kn e)=some (v,m'))
  (hm:MS (RX X G pr) D m I M) (k:NextK X G pr D m I M v m' o.dst F C K):OtherOb X o F C I M K:=by
 obtain⟨l,vs,h2,hl,hlen,hnew,hvl,_⟩:=news_ok (ut:=X.E u) h hsrc gx hm hk h0
 have h3:cnd (Nat.beq kn 0) (cnd (capE s) (some (s,m)) none) (cnd (l.all EV.one) (appE G m s l kn ei.size ei.bytes e) none)=some (v,m'):=h2
 rw[beq_ne h0] at h3
 have h4:cnd (l.all EV.one) (appE G m s l kn ei.size ei.bytes e) none=some (v,m'):=h3
 obtain⟨hone,h4⟩:=cnd_some h4
 have h1:=hl.one hone
 obtain⟨tu,hu,hus⟩:=src_ty hsrc
 have hTe:∀ {q:List Value} {c:Nat},q.length=c * ei.size→∀ i,(RX X G pr).E e=some i→q.length=c * i.size:=fun hq i hi=>by
  have:X.E e=some i:=hi
  rw[he] at this
  cases this
  exact hq
 cases s<;>simp only[appE] at h4<;>first | cases h4 | skip
 case sn=>
  obtain⟨hb,h5⟩:=cnd_some h4
  rw[Bool.and_eq_true] at hb
  obtain⟨m2,h6,hn,h7⟩:=newC_ok (Y:=RX X G pr) h5
  cases h6
  have hsn:=gs.sln
  subst hsn
  have hb1:0+kn≤maxLen:=by rw[Nat.zero_add];exact Nat.le_of_ble_eq_true hb.2
  have hb2:(0+kn) * ei.bytes≤140737488355328:=by rw[Nat.zero_add];exact Nat.le_of_ble_eq_true hb.1
  refine app_ob hE hd ho ht hu hus he (n:=0) (c:=0) (xs:=[]) es ex (by simp) hvl h1 hlen hnew (fun w _=>by simp[run_firstCells_none]) hb1 hb2 (fun hr=>by omega) fun _ b cap cur hI hf hc1 hc2 hlen2=>?_
  refine k _ _ _ Nm.ext_set ?_ (h7 cur hm hf hl (hTe hlen2) hc2)
  simp only[VR]
  exact⟨_,Nm.set_self _ _ _,by simpa using hc1,by simp⟩
 case sl=>
  obtain⟨hb,h5⟩:=cnd_some h4
  rw[Bool.and_eq_true] at hb
  exact app_sl hE hd ho ht hu hus he es gs ex h5 (Nat.le_of_ble_eq_true hb.2) (Nat.le_of_ble_eq_true hb.1) hl hvl h1 hlen hnew hm k
 case sx=>
  split at h4
  ·rename_i hg
   obtain⟨hb,h5⟩:=cnd_some h4
   simp only[Bool.and_eq_true] at hb
   obtain⟨⟨c1,c2⟩,c3,c4,c5⟩:=hb
   have d1:=Nat.eq_of_beq_eq_true c1
   have d2:=Nat.eq_of_beq_eq_true c2
   have d3:=Nat.eq_of_beq_eq_true c3
   subst d1
   subst d2
   subst d3
   exact app_sx hE hd ho ht hu hus he es gs ex hg h5 (Nat.le_of_ble_eq_true c5) (Nat.le_of_ble_eq_true c4) hl hvl h1 hlen hnew hm k
  ·cases h4
theorem x_app_ok (hE:EOK X.P X.E) (hd:∀ d,o.dst=some d→d < X.n) {args:Array Operand} {ts:Array Nat} (ho:o.op=.call { callee:=.builtin .append,args:=args,argTypes:=ts }) (h:x_app (RX X G pr) m ts.toList (rdL fr args.toList)=some (v,m'))
  (H:OR D F fr args.toList) (hm:MS (RX X G pr) D m I M) (k:NextK X G pr D m I M v m' o.dst F C K):OtherOb X o F C I M K:=by
 unfold x_app at h
 split at h
 ·rename_i t u s x ht hl
  split at h
  ·rename_i sa sb sz e hE1
   obtain⟨ei,he,h⟩:=opn_eq h
   obtain⟨hsrc,h⟩:=cnd_some h
   obtain⟨os,ox,hargs,hs1,hx1⟩:=rdL_two hl
   obtain⟨us,es,gs⟩:=H.ev (x:=os) (by rw[hargs];simp) hs1
   obtain⟨ux,ex,gx⟩:=H.ev (x:=ox) (by rw[hargs];simp) hx1
   have hargs':args=#[os,ox]:=by apply Array.ext';simpa using hargs
   have hts':ts=#[t,u]:=by apply Array.ext';simpa using ht
   have ho':o.op=.call { callee:=.builtin .append,args:=#[os,ox],argTypes:=#[t,u] }:=by rw[ho,hargs',hts']
   cases hk:lenE x with
   | none=>
    exfalso
    unfold srcE at hsrc
    split at hsrc<;>first | (cases hsrc;done) | (simp[lenE,lenS] at hk;done)
   | some kn=>
    rw[hk] at h
    by_cases h0:kn=0
    ·subst h0
     exact app_zero hE hd ho' hE1 hsrc he hk es gs ex gx h hm k
    ·exact app_some hE hd ho' hE1 hsrc he hk h0 es gs ex gx h hm k
  ·cases h
 ·cases h
end
section
variable {X:Ctx} {G:GT} {pr:PR} {D:Nm} {m m':Me} {F:Fr} {fr:Tri EV} {C:Bx} {I:GH} {M:List Blk} {K:KS} {o:Oper} {v:EV}
theorem x_ustr_ok (hE:EOK X.P X.E) (hd:∀ d,o.dst=some d→d < X.n) {args:Array Operand} {ts:Array Nat} (ho:o.op=.call { callee:=.builtin .unsafeString,args:=args,argTypes:=ts }) (h:x_ustr (RX X G pr) m ts.toList (rdL fr args.toList)=some (v,m'))
  (H:OR D F fr args.toList) (hm:MS (RX X G pr) D m I M) (k:NextK X G pr D m I M v m' o.dst F C K):OtherOb X o F C I M K:=by
 unfold x_ustr at h
 split at h
 ·rename_i pt it ht hl
  cases h
  obtain⟨op,on,hargs,h1,h2⟩:=rdL_two hl
  obtain⟨u1,e1,g1⟩:=H.ev (x:=op) (by rw[hargs];simp) h1
  obtain⟨u2,e2,g2⟩:=H.ev (x:=on) (by rw[hargs];simp) h2
  have hargs':args=#[op,on]:=by apply Array.ext';simpa using hargs
  have hts':ts=#[pt,it]:=by apply Array.ext';simpa using ht
  have g1':u1=.pointer none:=by simpa only[VR] using g1
  subst g1'
  rw[g2.int] at e2
  refine OtherOb.ustring0 (by rw[ho,hargs',hts']) hd e1 e2 (k D _ M Nm.ext_refl ?_ hm)
  simp only[VR]
  rfl
 ·rename_i pt it id n ht hl
  split at h
  ·rename_i sa sb sz e cs T lim hpt hg
   obtain⟨ei,he,h7⟩:=opn_eq h
   obtain⟨hb,h8⟩:=cnd_some h7
   simp only[Bool.and_eq_true] at hb
   obtain⟨op,on,hargs,h1,h2⟩:=rdL_two hl
   obtain⟨u1,e1,g1⟩:=H.ev (x:=op) (by rw[hargs];simp) h1
   obtain⟨u2,e2,g2⟩:=H.ev (x:=on) (by rw[hargs];simp) h2
   have hargs':args=#[op,on]:=by apply Array.ext';simpa using hargs
   have hts':ts=#[pt,it]:=by apply Array.ext';simpa using ht
   rw[g2.int] at e2
   obtain⟨a,ha,rfl⟩:=g1.ptr
   have hent:=hm.ent _ _ _ hg ha
   obtain⟨arr,ho0,hM,hsz,hc,hk,hmx⟩:=hent
   have hTe:=Nat.eq_of_beq_eq_true hb.2.1
   subst hTe
   unfold loadE at h8
   simp only[hg] at h8
   cases hbl0:Nat.ble (Nat.add 0 n) lim with
   | false=>rw[hbl0] at h8;cases h8
   | true=>
   rw[hbl0] at h8
   simp only[cond_true] at h8
   have hnl:0+n≤lim:=Nat.le_of_ble_eq_true hbl0
   obtain⟨l,c1,c2,h9⟩:=Tri.many_ok cs n 0 _ _ h8
   obtain⟨bs,hbs,h10⟩:=opn_eq h9
   obtain⟨h63,h11⟩:=cnd_some h10
   obtain⟨t1,h4,h5⟩:=Tri.set_ok (none:Option Ent) m.t id
   rw[h4] at h11
   cases h11
   have htl:(arr.toList.take n).length=n:=by rw[List.length_take,Array.length_toList];omega
   have hlv:VRs D l (arr.toList.take n):=VRs.of_get (by rw[htl,c1]) fun i v hi=>by
    have hin:i < n:=by rw[←c1];exact(List.getElem?_eq_some_iff.1 hi).1
    obtain⟨x,g3,g4⟩:=hc i v (by omega) (by have:=c2 i hin;rw[Nat.zero_add] at this;rw[this,hi])
    rw[ho0,Nat.zero_add] at g3
    exact⟨x,by rw[List.getElem?_take,if_pos hin];simpa using g3,g4⟩
   have hvs:=bytesE_ok hbs hlv
   have hbl:bs.length=n:=by
    have:=congrArg List.length hvs
    rw[htl] at this
    simpa using this.symm
   obtain⟨pre,post,hsp⟩:=List.append_of_mem hM
   have hperm:M.Perm (⟨a.b,.cells arr T (0,0)⟩::(pre++post)):=by rw[hsp];exact List.perm_middle
   have hcs:arr.toList.take bs.length=bs.map fun b=>Value.int .u8 b.toNat:=by rw[hbl];exact hvs
   have h0:bs≠[]:=fun e'=>by
    subst e'
    have:0 < n:=Nat.le_of_ble_eq_true hb.2.2
    simp at hbl
    omega
   have e1':ev F op=.val (.pointer (some ⟨a.b,0,none⟩)):=by rw[e1,ho0]
   have e2':ev F on=.val (.int .i64 bs.length):=by rw[e2,hbl];rfl
   refine OtherOb.ustring hE (by rw[ho,hargs',hts']) hd hpt rfl he (Nat.eq_of_beq_eq_true hb.1) e1' e2' h0 (by rw[hbl];exact Nat.le_of_ble_eq_true h63) hperm hcs ?_
   have hsub:∀ i en,t1.get i=some en→i≠id∧m.t.get i=some en:=fun i en hi=>by
    rcases h5 i en hi with ⟨_,h8⟩ | h8
    ·cases h8
    ·exact h8
   refine k D _ _ Nm.ext_refl (by simp only[VR]) ⟨fun i en b hi hb1=>?_,fun i i' en en' b b' hi hi'=>hm.inj i i' en en' b b' (hsub i en hi).2 (hsub i' en' hi').2,hm.dom,hm.glo⟩
   refine(hm.ent i en b (hsub i en hi).2 hb1).mono (Nm.le_refl D) fun q hq hn=>?_
   rcases List.mem_cons.1 (hperm.mem_iff.1 hq) with rfl | hq
   ·exact((hsub i en hi).1 (hm.inj _ _ _ _ _ _ (hsub i en hi).2 hg hb1 ha hn.symm)).elim
   ·exact hq
  ·cases h
 ·cases h
def isOther:Op→Bool
 | .makeMap .. | .lookup .. | .mapUpdate .. | .insert ..=>true
 | .call { callee:=.builtin .append,.. }=>true
 | .call { callee:=.builtin .copy,.. }=>true
 | .call { callee:=.builtin .unsafeString,.. }=>true
 | _=>false
theorem other_op {op:Op} (ho:o.op=op) (h:isOther op=true) (k:OtherOb X o F C I M K):V_op X o F C I M K:=by
 obtain⟨dst,op',ty,pos,after,guard⟩:=o
 simp only at ho
 subst ho
 unfold isOther at h
 split at h<;>first | exact k | cases h
theorem E_x_ok (hE:EOK X.P X.E) (hd:∀ d,o.dst=some d→d < X.n) (h:E_x (RX X G pr) m o fr=some (v,m')) (H:OR D F fr o.op.operands.toList) (hm:MS (RX X G pr) D m I M) (k:NextK X G pr D m I M v m' o.dst F C K):V_op X o F C I M K:=by
 unfold E_x at h
 split at h
 ·rename_i t x y ho
  exact x_store_ok ho h H hm k
 ·rename_i t ho
  exact other_op ho rfl (x_map_ok hE hd ho h (by simp) hm k)
 ·rename_i t x ho
  split at h
  ·rename_i kk n hx
   refine other_op ho rfl (x_map_ok hE hd ho h (fun y hy=>?_) hm k)
   cases hy
   obtain⟨u,e1,g1⟩:=H.ev (x:=x) (by rw[ho];simp[Op.operands]) hx
   rw[g1.int] at e1
   exact⟨_,_,e1⟩
  ·cases h
 ·rename_i t x y ok ho
  exact other_op ho rfl (x_look_ok hE hd ho h H hm k)
 ·rename_i t x y z ho
  exact other_op ho rfl (x_upd_ok hE (.inl ho) h H hm k)
 ·rename_i t x y z ho
  exact other_op ho rfl (x_upd_ok hE (.inr ho) h H hm k)
 ·rename_i s d x ho
  have hob:=x_conv_ok hE hd ho h H hm k
  obtain⟨dst,op',ty,pos,after,guard⟩:=o
  simp only at ho
  subst ho
  have hd2:∃ a b z,X.E d=some ⟨a,b,z,.string⟩:=by
   unfold x_conv at h
   split at h
   ·exact⟨_,_,_,by assumption⟩
   ·exact⟨_,_,_,by assumption⟩
   ·exact⟨_,_,_,by assumption⟩
   ·cases h
  obtain⟨a,b,z,hd2⟩:=hd2
  simp only[V_op,V_q,hd2]
  split
  ·rename_i e _
   cases e
  ·exact hob
 ·rename_i b args ts ho
  have H':OR D F fr args.toList:=by rw[ho] at H;simpa[Op.operands,Call.operands] using H
  unfold x_bi at h
  split at h
  ·exact other_op ho rfl (x_app_ok hE hd ho h H' hm k)
  ·exact other_op ho rfl (x_copy_ok hE hd ho h H' hm k)
  ·exact other_op ho rfl (x_ustr_ok hE hd ho h H' hm k)
  ·cases h
 ·cases h
end
def CallOK (Y:RK) (call:EV→List EV→Me→Option (EV×Me)):Prop:=∀ f l m v m',call f l m=some (v,m')→∀ (D:Nm) (I:GH) (M:List Blk) (u:Value) (us:List Value),VR D f u→VRs D l us→MS Y D m I M →
 (∃ g fs cs,u=.func (.func g) fs cs∧Spec Y.P g (fs.toList++us++cs.toList) I M fun r I' M'=>∃ D',D.ext D' m.n∧VR D' v r∧MS Y D' m' I' M') ∨
 ∃ q,u=.func (.yield q) #[] #[]∧SpecY Y.P q us I M fun r I' M'=>∃ D',D.ext D' m.n∧VR D' v r∧MS Y D' m' I' M'
def PFv (dst:Option Nat) (v:EV) (D:Nm) (F F':Fr):Prop:=(∀ d,dst=some d→SvE D (F' d) v)∧∀ (D:Nm) t v',dst≠some t→SvE D (F t) v'→SvE D (F' t) v'
theorem PFv.put {dst:Option Nat} {v:EV} {D:Nm} {x:SV} (F:Fr) (h:SvE D x v):PFv dst v D F (put dst x F):=by
 constructor
 ·rintro d rfl
  simpa[Go.V.put,upd] using h
 ·intro D t v' hne h
  cases dst with
  | none=>exact h
  | some d=>
   have:t≠d:=fun e=>hne (by rw[e])
   simp only[Go.V.put,upd,beq_ne this,cond_false]
   exact h
theorem PF.v {dst:Option Nat} {u:Value} {F F':Fr} (h:PF dst u F F') {D:Nm} {v:EV} (hv:VR D v u):PFv dst v D F F':=⟨fun d hd=>by rw[h.1 d hd];exact .val hv,h.2⟩
section
variable {X:Ctx} {G:GT} {pr:PR} {D:Nm} {m m':Me} {F:Fr} {fr:Tri EV} {C:Bx} {I:GH} {M:List Blk} {K:KS} {o:Oper} {v:EV}
def CoreOK (X:Ctx) (G:GT) (pr:PR) (o:Oper) (fr:Tri EV) (m:Me) (v:EV) (m':Me):Prop:=m.n≤m'.n∧∀ (D:Nm) (F:Fr) (C:Bx) (I:GH) (M:List Blk) (K:KS),OR D F fr o.op.operands.toList→MS (RX X G pr) D m I M →
 (∀ D' F' C' I' M',D.ext D' m.n→PFv o.dst v D' F F'→MS (RX X G pr) D' m' I' M'→K F' C' I' M')→V_op X o F C I M K
theorem V_op_q {op:Op} (ho:o.op=op) (hk:kindE X.E op=0) (h:V_q X op (evr F) C I M (fun x=>K (put o.dst x F) C I M) (OtherOb X o F C I M K)):V_op X o F C I M K:=by
 obtain⟨dst,op',ty,pos,after,guard⟩:=o
 simp only at ho
 subst ho
 cases op' with
 | call c=>
  obtain⟨callee,args,ts⟩:=c
  cases callee with
  | value f=>simp[kindE] at hk
  | invoke r n=>exact h
  | builtin b=>exact h
 | alloc t=>simp[kindE] at hk
 | box t x=>simp[kindE] at hk
 | store t x y=>simp[kindE] at hk
 | buildSlice t l ps=>simp[kindE] at hk
 | makeSlice t l c=>simp[kindE] at hk
 | _=>exact h
theorem putE_ok {R:Type} {dst:Option Nat} {K:Tri EV→Option R} {r:R} (h:putE dst fr v K=some r):∃ fr',K fr'=some r∧(dst=none→fr'=fr)∧∀ d,dst=some d→∀ t w,fr'.get t=some w→(t=d∧w=v)∨(t≠d∧fr.get t=some w):=by
 unfold putE at h
 cases dst with
 | none=>exact⟨fr,h,fun _=>rfl,fun d hd=>by cases hd⟩
 | some d=>
  have h':(forceV v fun v=>fr.setK (some v) d K)=some r:=h
  rw[forceV_eq] at h'
  obtain⟨fr',h1,h2⟩:=Tri.set_ok (some v) fr d
  rw[h1] at h'
  refine⟨fr',h',(fun e=>by cases e),fun d' hd t w hw=>?_⟩
  cases hd
  rcases h2 t w hw with ⟨e1,e2⟩ | ⟨e1,e2⟩
  ·exact .inl ⟨e1,(some_inj' e2).symm⟩
  ·exact .inr ⟨e1,e2⟩
theorem E_op_ok {R:Type} (hE:EOK X.P X.E) (hesc:∀ d,d < X.n→X.esc.contains d=true) (hd:∀ d,o.dst=some d→d < X.n) {call:EV→List EV→Me→Option (EV×Me)} (hcall:CallOK (RX X G pr) call) {K:Tri EV→Me→Option R} {r:R}
  (h:E_op (RX X G pr) call o fr m K=some r):∃ v m' fr',CoreOK X G pr o fr m v m'∧(putE o.dst fr v fun fr=>K fr m')=some r∧K fr' m'=some r∧(o.dst=none→fr'=fr)∧∀ d,o.dst=some d→∀ t w,fr'.get t=some w→(t=d∧w=v)∨(t≠d∧fr.get t=some w):=by
 have fin:∀ {v:EV} {m':Me},CoreOK X G pr o fr m v m'→(putE o.dst fr v fun fr=>K fr m')=some r→∃ v m' fr',CoreOK X G pr o fr m v m'∧(putE o.dst fr v fun fr=>K fr m')=some r∧K fr' m'=some r∧(o.dst=none→fr'=fr)∧∀ d,o.dst=some d→∀ t w,fr'.get t=some w→(t=d∧w=v)∨(t≠d∧fr.get t=some w):=fun {v m'} hc hp=>by
  obtain⟨fr',h1,h2,h3⟩:=putE_ok hp
  exact⟨v,m',fr',hc,hp,h1,h2,h3⟩
 unfold E_op at h
 split at h
 ·
  rename_i f args ts ho
  unfold op_call at h
  obtain⟨fv,hf,h⟩:=opn_eq h
  obtain⟨l,hl,h⟩:=opn_eq h
  obtain⟨⟨v,m'⟩,hc,h⟩:=opn_eq h
  obtain⟨hn,h⟩:=cnd_some h
  refine fin ⟨Nat.le_of_ble_eq_true hn,fun D F C I M K hO hm hk=>?_⟩ h
  rw[ho] at hO
  obtain⟨u,e1,g1⟩:=hO.ev (x:=f) (by simp[Op.operands,Call.operands]) hf
  obtain⟨us,e2,g2⟩:=hO.evs (l:=args.toList) (by intro y hy;simp[Op.operands,Call.operands];exact .inr (by simpa using hy)) hl
  obtain⟨dst,op',ty,pos,after,guard⟩:=o
  simp only at ho
  subst ho
  rcases hcall _ _ _ _ _ hc D I M u us g1 g2 hm with ⟨g,fs,cs,rfl,hs⟩ | ⟨q,rfl,hs⟩
  ·simp only[V_op,e1,e2]
   exact CallOb.whole _ hs fun r I' M' hI hx=>by
    obtain⟨D',h1,h2,h3⟩:=hx
    exact hk D' _ C I' M' h1 (.put F (.val h2)) h3
  ·simp only[V_op,e1,e2]
   refine OtherOb.yield rfl hd e1 e2 ⟨M,[],_,by simp,hs,fun r I' M' hI hx=>?_⟩
   obtain⟨D',h1,h2,h3⟩:=hx
   rw[List.append_nil]
   exact hk D' _ C I' M' h1 (.put F (.val h2)) h3
 ·rename_i op hno
  unfold op_k at h
  split at h
  ·rename_i hk0
   unfold op_v at h
   obtain⟨v,hv,h⟩:=opn_eq h
   refine fin ⟨Nat.le_refl _,fun D F C I M K hO hm hk=>?_⟩ h
   exact V_op_q rfl hk0 (E_q_ok hE hv hO hm fun x hx=>hk D _ C I M Nm.ext_refl (.put F hx) hm)
  ·unfold op_a at h
   obtain⟨d,hdd,h⟩:=opn_eq h
   obtain⟨⟨l,T,c,mk⟩,ha,h⟩:=opn_eq h
   obtain⟨m2,h2,hn,h3⟩:=newC_ok (Y:=RX X G pr) h
   refine fin (v:=mk m.n) (m':=m2) ⟨by omega,fun D F C I M K hO hm hk=>?_⟩ (by rw[hdd];exact h2)
   refine E_a_ok hE hesc hd ha (by rw[hdd];rfl) hO fun b vs u F' C' hI hf hvs hlen hc hu hpf=>?_
   have h4:=h3 (vs:=vs) [] (b:=b) (c:=c) hm hf hvs (by simpa using hlen) hc
   rw[List.append_nil] at h4
   exact hk _ F' C' I _ Nm.ext_set (hpf.v (hu _ _ (Nm.set_self _ _ _))) h4
  ·unfold op_x at h
   obtain⟨⟨v,m'⟩,hx,h⟩:=opn_eq h
   obtain⟨hn,h⟩:=cnd_some h
   refine fin ⟨Nat.le_of_ble_eq_true hn,fun D F C I M K hO hm hk=>?_⟩ h
   exact E_x_ok hE hd hx hO hm fun D' u M' h1 h2 h3=>hk D' _ C I M' h1 (.put F (.val h2)) h3
end
def St (X:Ctx) (G:GT) (pr:PR) (D0:Nm) (n0:Nat) (fr:Tri EV) (m:Me) (a:Act) (w:World):Prop:=
 ∃ D F C I M,Rel X a w F C I M∧FR D F fr∧MS (RX X G pr) D m I M∧D0.ext D n0∧n0≤m.n
section
variable {X:Ctx} {G:GT} {pr:PR} {D0:Nm} {n0:Nat} {m m':Me} {fr fr':Tri EV} {a:Act} {w:World}
theorem Nm.ext_trans {D D' D'':Nm} {n n':Nat} (h:D.ext D' n) (h':D'.ext D'' n') (hn:n≤n'):D.ext D'' n:=fun i hi=>by rw[h' i (by omega),h i hi]
theorem wantE_ok {ops:Array Oper} {o:Oper} {b:Bool} {D:Nm} {F:Fr} {β:Nat→Nat} (h:wantE ops.toList o fr=some b) (hF:∀ t,SVok β (F t) (a.tmps.getD t undef)) (hfr:FR D F fr):Region.wanted o (yielded ops a.tmps)=b:=by
 unfold wantE at h
 split at h
 ·rename_i hg
  cases h
  simp[Region.wanted,hg]
 ·rename_i j c hg
  split at h
  ·cases h
  ·rename_i d hj
   have hj':(ops[j]?).bind (·.dst)=some d:=by
    rw[nthE_eq] at hj
    simpa using hj
   have hy:=yielded_of hj' a.tmps
   split at h
   ·rename_i q hq
    cases h
    have hs:=hfr _ _ hq
    have hv:a.tmps.getD d undef=.bool q:=by
     have h1:=hF d
     rcases hs with ⟨u,e,hu⟩ | ⟨q',e',e⟩
     ·rw[e] at h1
      rw[h1,hu.bool]
     ·cases e'
      rw[e] at h1
      exact h1
    simp[Region.wanted,hg,hy,getD_bool hv]
   ·rename_i l hq
    cases h
    have hs:=hfr _ _ hq
    obtain⟨u,e,hu⟩:=hs.nb (by simp)
    obtain⟨vs,_,rfl⟩:=hu.tup
    have h1:=hF d
    rw[e] at h1
    have hnone:yielded ops a.tmps j=none:=by
     rw[hy]
     cases hg':a.tmps[d]? with
     | none=>rfl
     | some v=>
      simp only[SVok,Array.getD_eq_getD_getElem?,hg',Option.getD_some] at h1
      subst h1
      rfl
    simp[Region.wanted,hg,hnone]
   ·cases h
theorem skip_ok {R:Type} {o:Oper} {K:Tri EV→Option R} {r:R} (h:E_skip o fr K=some r):∃ fr',K fr'=some r∧(o.dst=none→fr'=fr)∧∀ d,o.dst=some d→∀ t w,fr'.get t=some w→(t=d∧w=.t [])∨(t≠d∧fr.get t=some w):=by
 unfold E_skip at h
 cases hd:o.dst with
 | none=>rw[hd] at h;exact⟨fr,h,fun _=>rfl,fun d e=>by cases e⟩
 | some d=>
  rw[hd] at h
  obtain⟨fr',h1,h2⟩:=Tri.set_ok (some (EV.t [])) fr d
  simp only[h1] at h
  refine⟨fr',h,(fun e=>by cases e),fun d' hd' t w hw=>?_⟩
  cases hd'
  rcases h2 t w hw with ⟨e1,e2⟩ | ⟨e1,e2⟩
  ·exact .inl ⟨e1,(some_inj' e2).symm⟩
  ·exact .inr ⟨e1,e2⟩
theorem FR.step {D D':Nm} {F F':Fr} {dst:Option Nat} {v:EV} (h:FR D F fr) (hle:D.le D') (hp:PFv dst v D' F F') (h1:dst=none→fr'=fr) (h2:∀ d,dst=some d→∀ t w,fr'.get t=some w→(t=d∧w=v)∨(t≠d∧fr.get t=some w)):FR D' F' fr':=fun t u ht=>by
 cases hd:dst with
 | none=>
  rw[h1 hd] at ht
  exact hp.2 D' t u (by rw[hd];simp) ((h t u ht).mono hle)
 | some d=>
  rcases h2 d hd t u ht with ⟨rfl,rfl⟩ | ⟨hne,hg⟩
  ·exact hp.1 _ hd
  ·exact hp.2 D' t u (by rw[hd];intro e;cases e;exact hne rfl) ((h t u hg).mono hle)
theorem E_ops_ok (hE:EOK X.P X.E) (hesc:∀ d,d < X.n→X.esc.contains d=true) {call:EV→List EV→Me→Option (EV×Me)} (hcall:CallOK (RX X G pr) call) (ops:Array Oper) (Q:Exit→Act→World→Prop)
  (hQ:∀ a w,St X G pr D0 n0 fr' m' a w→Q .normal a w):∀ (l:List Oper) (k:Nat),(∀ j,l[j]?=ops[k+j]?)→(∀ o∈l,∀ d,o.dst=some d→d < X.n)→∀ {fr m a w},E_ops (RX X G pr) call ops.toList l fr m=some (fr',m') →
   St X G pr D0 n0 fr m a w→wpOpsIn (fen X) 0 X.P ops Q (List.range' k l.length) a w
 | [],k,_,_,fr,m,a,w,h,hs=>by
  have h':some (fr,m)=some (fr',m'):=h
  cases h'
  exact hQ _ _ hs
 | o::rest,k,hl,hd,fr,m,a,w,h,hs=>by
  have h0:ops[k]?=some o:=by simpa using (hl 0).symm
  have hl':∀ j,rest[j]?=ops[k+1+j]?:=fun j=>by have:=hl (j+1);simpa[Nat.add_assoc,Nat.add_comm 1 j] using this
  have hd':∀ o∈rest,∀ d,o.dst=some d→d < X.n:=fun o ho=>hd o (by simp[ho])
  have hd0:=hd o (by simp)
  have h':opn (wantE ops.toList o fr) none (fun w=>cnd w (E_op (RX X G pr) call o fr m fun fr m=>E_ops (RX X G pr) call ops.toList rest fr m) (E_skip o fr fun fr=>E_ops (RX X G pr) call ops.toList rest fr m))=some (fr',m'):=h
  obtain⟨b,hb,h'⟩:=opn_eq h'
  obtain⟨D,F,C,I,M,⟨β,hR⟩,hF,hm,hx,hn⟩:=hs
  have hw:=wantE_ok hb hR.fr hF
  simp only[List.length_cons,List.range'_succ,wpOpsIn,h0]
  rw[hw]
  cases b with
  | true=>
   have h2:E_op (RX X G pr) call o fr m (fun fr m=>E_ops (RX X G pr) call ops.toList rest fr m)=some (fr',m'):=h'
   obtain⟨v,m1,fr1,⟨hmn,hcore⟩,-,h3,g1,g2⟩:=E_op_ok hE hesc hd0 hcall h2
   simp only[if_true]
   refine Oper.wpIn_mono (fun a' w'=>?_) (V_op_sound hE hd0 ⟨β,hR⟩ (hcore D F C I M (fun F' C' I' M'=>∃ D',D.ext D' m.n∧FR D' F' fr1∧MS (RX X G pr) D' m1 I' M') (hF.op _) hm
    fun D' F' C' I' M' e1 e2 e3=>⟨D',e1,hF.step (hm.le e1) e2 g1 g2,e3⟩))
   rintro⟨F',C',I',M',hr',D',e1,e2,e3⟩
   exact E_ops_ok hE hesc hcall ops Q hQ rest (k+1) hl' hd' h3 ⟨D',F',C',I',M',hr',e2,e3,Nm.ext_trans hx e1 hn,Nat.le_trans hn hmn⟩
  | false=>
   have h2:E_skip o fr (fun fr=>E_ops (RX X G pr) call ops.toList rest fr m)=some (fr',m'):=h'
   obtain⟨fr1,h3,g1,g2⟩:=skip_ok h2
   simp only[Bool.false_eq_true,if_false]
   refine⟨fun _ _=>trivial,E_ops_ok hE hesc hcall ops Q hQ rest (k+1) hl' hd' h3 ⟨D,put o.dst (.val undef) F,C,I,M,⟨β,hR.put (x:=.val undef) hd0 rfl⟩,hF.step (Nm.le_refl D) (.put F (.val .undef)) g1 g2,hm,hx,hn⟩⟩
end
theorem any_inv {X:Ctx} {ops:List Oper} {Q:Exit→Act→World→Prop} (hlt:∀ j e,Dep ops j e→e < j) (J:(Nat→Prop)→Act→World→Prop)
  (step:∀ (L:Nat→Prop) a w q o,J L a w→Closed ops L→(∀ i,L i→i < ops.length)→ops[q]?=some o→¬ L q→(∀ e,Dep ops q e→L e) →
   (Region.wanted o (yielded ops.toArray a.tmps)=true→o.wpIn (fen X) 0 X.P a w (J fun j=>L j∨j=q) Q)∧(Region.wanted o (yielded ops.toArray a.tmps)=false→J (fun j=>L j∨j=q) (a.put o.dst undef) w))
  (fin:∀ a w,J (fun i=>i < ops.length) a w→Q .normal a w):∀ (fuel:Nat) (listed:Array Bool) (a:Act) (w:World),listed.size=ops.length→todo ops listed≤fuel→Closed ops (fun i=>listed.getD i false=true) →
   J (fun i=>listed.getD i false=true) a w→wpAnyIn (fen X) 0 X.P .any ops.toArray Q fuel listed a w:=by
 have lim:∀ (listed:Array Bool) (i:Nat),listed.getD i false=true→i < listed.size:=fun listed i h=>by
  refine Classical.byContradiction fun hn=>?_
  simp[Array.getD,hn] at h
 have full:∀ (listed:Array Bool) a w,listed.size=ops.length→Region.ready .any ops.toArray listed=[]→J (fun i=>listed.getD i false=true) a w→Q .normal a w:=fun listed a w hsz hnil hJ=>by
  have all:∀ i,i < ops.length→listed.getD i false=true:=fun i=>by
   induction i using Nat.strongRecOn with
   | ind i ih=>
    intro hi
    refine Classical.byContradiction fun hn=>?_
    have ho:ops[i]?=some ops[i]:=List.getElem?_eq_getElem hi
    have:i∈Region.ready .any ops.toArray listed:=(mem_ready hsz).2 ⟨_,ho,hn,fun e he=>by
     have h1:=hlt i e he
     exact ih e h1 (by omega)⟩
    rw[hnil] at this
    cases this
  have e:(fun i=>listed.getD i false=true)=fun i=>i < ops.length:=by
   funext i
   simp only[eq_iff_iff]
   exact⟨fun h=>by have:=lim listed i h;omega,all i⟩
  rw[e] at hJ
  exact fin a w hJ
 intro fuel
 induction fuel with
 | zero=>
  intro listed a w hsz hf hcl hJ
  have hnil:Region.ready .any ops.toArray listed=[]:=by
   cases hr:Region.ready .any ops.toArray listed with
   | nil=>rfl
   | cons i l=>
    obtain⟨o,ho,hn,_⟩:=(mem_ready hsz).1 (by rw[hr];simp:i∈Region.ready .any ops.toArray listed)
    have:=todo_set (List.getElem?_eq_some_iff.1 ho).1 hsz hn
    omega
  exact⟨hnil,full listed a w hsz hnil hJ⟩
 | succ fuel ih=>
  intro listed a w hsz hf hcl hJ
  refine⟨fun hnil=>full listed a w hsz hnil hJ,fun q hq=>?_⟩
  obtain⟨o,ho,hn,hd⟩:=(mem_ready hsz).1 hq
  have hlt':=(List.getElem?_eq_some_iff.1 ho).1
  have hset:=listed_set (listed:=listed) (i:=q) (by omega)
  have next:∀ a' w',J (fun j=>listed.getD j false=true∨j=q) a' w'→wpAnyIn (fen X) 0 X.P .any ops.toArray Q fuel (listed.setIfInBounds q true) a' w':=fun a' w' h=>by
   refine ih _ a' w' (by simpa using hsz) ?_ ?_ (by rw[hset];exact h)
   ·have:=todo_set hlt' hsz hn
    omega
   ·rw[hset]
    rintro j e (hj | rfl) he
    ·exact .inl (hcl j e hj he)
    ·exact .inl (hd e he)
  obtain⟨s1,s2⟩:=step _ a w q o hJ hcl (fun i hi=>by have:=lim listed i hi;omega) ho hn hd
  have hidx:ops.toArray[q]?=some o:=by simpa using ho
  unfold wpOpIn
  simp only[hidx]
  cases hw:Region.wanted o (yielded ops.toArray a.tmps) with
  | true=>
   simp only[if_true]
   exact Oper.wpIn_mono next (s1 hw)
  | false=>
   simp only[Bool.false_eq_true,if_false]
   exact⟨fun _ _=>trivial,next _ _ (s2 hw)⟩
theorem atAll_ok {S:List Me} {lo hi j:Nat} {p:Me→Bool} {m:Me} (h:atAll S lo hi p=true) (h1:lo≤j) (h2:j≤hi) (hj:S[j]?=some m):p m=true:=by
 unfold atAll at h
 refine List.all_eq_true.1 h m ?_
 refine List.mem_of_getElem? (i:=j - lo) ?_
 rw[List.getElem?_take,if_pos (by omega),List.getElem?_drop,show lo+(j - lo)=j by omega]
 exact hj
theorem filter_le {α:Type} {p:α→Bool} {j:Nat}:∀ {l:List α},(∀ q e,l[q]?=some e→p e=true→q < j)→(l.filter p).length≤j:=by
 intro l h
 have e1:l.filter p=(l.take j).filter p:=by
  conv=>lhs;rw[←List.take_append_drop j l]
  rw[List.filter_append]
  have:(l.drop j).filter p=[]:=by
   rw[List.filter_eq_nil_iff]
   intro a ha hp
   obtain⟨q,hq⟩:=List.getElem?_of_mem ha
   rw[List.getElem?_drop] at hq
   have:=h _ _ hq hp
   omega
  rw[this,List.append_nil]
 rw[e1]
 refine Nat.le_trans (List.length_filter_le _ _) ?_
 simp
 omega
theorem le_filter {α:Type} {p:α→Bool} {j:Nat} {l:List α} (hj:j≤l.length) (h:∀ q e,q < j→l[q]?=some e→p e=true):j≤(l.filter p).length:=by
 have e1:(l.take j).filter p=l.take j:=by
  rw[List.filter_eq_self]
  intro a ha
  obtain⟨q,hq⟩:=List.getElem?_of_mem ha
  rw[List.getElem?_take] at hq
  split at hq
  ·exact h q a (by assumption) hq
  ·cases hq
 have e2:l.filter p=(l.take j).filter p++(l.drop j).filter p:=by
  conv=>lhs;rw[←List.take_append_drop j l]
  rw[List.filter_append]
 rw[e2,e1,List.length_append,List.length_take]
 omega
mutual
theorem sameE_ok {D:Nm}:∀ {x y:EV} {u:Value},sameE x y=true→VR D x u→VR D y u
 | x,y,u,h,hx=>by
  cases x<;>cases y<;>simp only[sameE,Bool.false_eq_true,Bool.and_eq_true] at h
  case b.b=>
   have:=eq_of_beq h
   subst this;exact hx
  case i.i=>
   obtain⟨h1,h2⟩:=h
   have:=IntKind.eqb_eq h1
   subst this
   rw[eqI_eq,decide_eq_true_eq] at h2
   subst h2;exact hx
  case s.s=>
   rw[eqS_eq,decide_eq_true_eq] at h
   subst h;exact hx
  case pn.pn=>exact hx
  case p.p=>
   obtain⟨h1,h2⟩:=h
   have:=Nat.eq_of_beq_eq_true h1;subst this
   have:=Nat.eq_of_beq_eq_true h2;subst this;exact hx
  case g.g=>
   obtain⟨h1,h2⟩:=h
   have:=Nat.eq_of_beq_eq_true h1;subst this
   have:=Nat.eq_of_beq_eq_true h2;subst this;exact hx
  case sn.sn=>exact hx
  case sl.sl=>
   obtain⟨h1,h2,h3,h4⟩:=h
   have:=Nat.eq_of_beq_eq_true h1;subst this
   have:=Nat.eq_of_beq_eq_true h2;subst this
   have:=Nat.eq_of_beq_eq_true h3;subst this
   have:=Nat.eq_of_beq_eq_true h4;subst this;exact hx
  case sx.sx=>
   obtain⟨h1,h2,h3,h4⟩:=h
   have:=Nat.eq_of_beq_eq_true h1;subst this
   have:=Nat.eq_of_beq_eq_true h2;subst this
   have:=Nat.eq_of_beq_eq_true h3;subst this
   have:=Nat.eq_of_beq_eq_true h4;subst this;exact hx
  case gs.gs=>
   obtain⟨h1,h2,h3,h4⟩:=h
   have:=Nat.eq_of_beq_eq_true h1;subst this
   have:=Nat.eq_of_beq_eq_true h2;subst this
   have:=Nat.eq_of_beq_eq_true h3;subst this
   have:=Nat.eq_of_beq_eq_true h4;subst this;exact hx
  case mn.mn=>exact hx
  case m.m=>have:=Nat.eq_of_beq_eq_true h;subst this;exact hx
  case f.f=>
   obtain⟨h1,h2,h3⟩:=h
   have:=Nat.eq_of_beq_eq_true h1;subst this
   simp only[VR] at hx ⊢
   obtain⟨vs,ws,g1,g2,g3⟩:=hx
   exact⟨vs,ws,sameLE_ok h2 g1,sameLE_ok h3 g2,g3⟩
  case y.y=>have:=Nat.eq_of_beq_eq_true h;subst this;exact hx
  case fn.fn=>exact hx
  case ni.ni=>exact hx
  case t.t=>
   simp only[VR] at hx ⊢
   obtain⟨vs,g1,g2⟩:=hx
   exact⟨vs,sameLE_ok h g1,g2⟩
  case a.a=>
   simp only[VR] at hx ⊢
   obtain⟨vs,g1,g2⟩:=hx
   exact⟨vs,sameLE_ok h g1,g2⟩
theorem sameLE_ok {D:Nm}:∀ {x y:List EV} {us:List Value},sameLE x y=true→VRs D x us→VRs D y us
 | [],[],us,h,hx=>hx
 | [],_::_,us,h,hx=>by simp[sameLE] at h
 | _::_,[],us,h,hx=>by simp[sameLE] at h
 | x::l,y::m,us,h,hx=>by
  simp only[sameLE,Bool.and_eq_true] at h
  obtain⟨u,us,g1,g2,rfl⟩:=hx.uncons
  exact .cons (sameE_ok h.1 g1) (sameLE_ok h.2 g2)
end
def PutR (dst:Option Nat) (fr:Tri EV) (v:EV) (fr':Tri EV):Prop:=(dst=none→fr'=fr)∧∀ d,dst=some d→∀ t w,fr'.get t=some w→(t=d∧w=v)∨(t≠d∧fr.get t=some w)
def NewR (m m':Me) (l:List EV) (T:Nat):Prop:=m'.n=m.n+1∧(∀ id e,m'.t.get id=some e→id=m.n∨m.t.get id=some e)
def Grow (m m':Me):Prop:=m.n≤m'.n∧∀ id e,id < m.n→m'.t.get id=some e→m.t.get id=some e
theorem Grow.refl (m:Me):Grow m m:=⟨Nat.le_refl _,fun _ _ _ h=>h⟩
theorem Grow.trans {a b c:Me} (h:Grow a b) (k:Grow b c):Grow a c:=⟨Nat.le_trans h.1 k.1,fun id e hi he=>h.2 id e hi (k.2 id e (Nat.lt_of_lt_of_le hi h.1) he)⟩
theorem NewR.grow {m m':Me} {l:List EV} {T:Nat} (h:NewR m m' l T):Grow m m':=⟨by rw[h.1];omega,fun id e hi he=>by
 rcases h.2 id e he with h1 | h1
 ·omega
 ·exact h1⟩
theorem newC_raw {m:Me} {l:List EV} {T:Nat} {R:Type} {K:Nat→Me→Option R} {r:R} (h:newC m l T K=some r):∃ m',K m.n m'=some r∧NewR m m' l T:=by
 unfold newC at h
 obtain⟨cs,h1,h2⟩:=Tri.puts_ok l (.nil:Tri EV) 0
 rw[h1] at h
 obtain⟨t',h3,h4⟩:=newE_ok h
 exact⟨_,h4,rfl,fun id e hi=>(h3 id e hi).imp (fun q=>q.1) fun q=>q.2⟩
theorem MS.grow {Y:RK} {D:Nm} {m m':Me} {I:GH} {M:List Blk} (h:MS Y D m I M) (hg:Grow m m'):MS Y D m' I M where
 ent id e a h1 h2:=h.ent id e a (hg.2 id e (h.dom _ _ h2) h1) h2
 inj id id' e e' a a' h1 h1' h2 h2' hb:=h.inj id id' e e' a a' (hg.2 id e (h.dom _ _ h2) h1) (hg.2 id' e' (h.dom _ _ h2') h1') h2 h2' hb
 dom id a h2:=Nat.lt_of_lt_of_le (h.dom _ _ h2) hg.1
 glo:=h.glo
inductive Trc (X:Ctx) (G:GT) (pr:PR) (ops:List Oper):List (Nat×Nat)→Tri EV→Me→List (Nat×EV)→Tri EV→Me→List Me→List Hold→Prop
 | nil {fr m}:Trc X G pr ops [] fr m [] fr m [m] []
 | q {i o rest fr m v fr' vs frE mE S A} (ho:ops[i]?=some o) (hk:kindE X.E o.op=0) (hw:wantE ops o fr=some true) (hv:E_q X.P X.E G m.t o.op fr=some v) (hp:PutR o.dst fr v fr') (t:Trc X G pr ops rest fr' m vs frE mE S A) :
   Trc X G pr ops ((i,0)::rest) fr m ((i,v)::vs) frE mE S (bif isLoad o.op then .load i o fr v::A else A)
 | a {i o d rest fr m m' l T c mk fr' vs frE mE S A} (ho:ops[i]?=some o) (hk:kindE X.E o.op=1) (hw:wantE ops o fr=some true) (hd:o.dst=some d) (hv:E_a X.E o fr=some (l,T,c,mk)) (hn:NewR m m' l T) (hp:PutR o.dst fr (mk m.n) fr') (t:Trc X G pr ops rest fr' m' vs frE mE S A) :
   Trc X G pr ops ((i,1)::rest) fr m ((i,mk m.n)::vs) frE mE S (.made i m.n l T::A)
 | e {i o rest fr m m' v fr' vs frE mE S A} (ho:ops[i]?=some o) (hk:kindE X.E o.op=2) (hw:wantE ops o fr=some true) (hc:CoreOK X G pr o fr m v m') (hp:PutR o.dst fr v fr') (t:Trc X G pr ops rest fr' m' vs frE mE S A) :
   Trc X G pr ops ((i,2)::rest) fr m ((i,v)::vs) frE mE (m::S) A
 | skip {i k o rest fr m fr' vs frE mE S A} (ho:ops[i]?=some o) (hk:kindE X.E o.op=k) (hw:wantE ops o fr=some false) (hp:PutR o.dst fr (.t []) fr') (t:Trc X G pr ops rest fr' m vs frE mE S A) :
   Trc X G pr ops ((i,k)::rest) fr m ((i,.t [])::vs) frE mE (bif Nat.beq k 2 then m::S else S) A
section
variable {X:Ctx} {G:GT} {pr:PR} {ops:List Oper}
theorem draw_tr (hE:EOK X.P X.E) (hesc:∀ d,d < X.n→X.esc.contains d=true) (hdn:∀ o∈ops,∀ d,o.dst=some d→d < X.n) {call:EV→List EV→Me→Option (EV×Me)} (hcall:CallOK (RX X G pr) call):∀ (row:List (Nat×Nat)) {fr:Tri EV} {m:Me} {S0:List Me} {A0:List Hold} {frE:Tri EV} {mE:Me} {S':List Me} {A':List Hold},
  E_draw (RX X G pr) call ops row fr m S0 A0=some (frE,mE,S',A')→∃ vs S A,Trc X G pr ops row fr m vs frE mE S A∧S'=S.reverse++S0∧(∀ h∈A,h∈A')∧∀ h∈A0,h∈A'
 | [],fr,m,S0,A0,frE,mE,S',A',h=>by
  simp only[E_draw,Option.some.injEq,Prod.mk.injEq] at h
  obtain⟨rfl,rfl,rfl,rfl⟩:=h
  exact⟨[],[m],[],.nil,by simp,by simp,fun _ h=>h⟩
 |(i,k)::rest,fr,m,S0,A0,frE,mE,S',A',h=>by
  simp only[E_draw] at h
  obtain⟨o,ho,h⟩:=opn_eq h
  obtain⟨w,hw,h⟩:=opn_eq h
  obtain⟨hk,h⟩:=cnd_some h
  rw[nthE_eq] at ho
  have hk':kindE X.E o.op=k:=Nat.eq_of_beq_eq_true hk
  have hd0:=hdn o (List.mem_of_getElem? ho)
  cases w with
  | false=>
   have h2:E_skip o fr (fun fr=>E_draw (RX X G pr) call ops rest fr m (cnd (Nat.beq k 2) (m::S0) S0) A0)=some (frE,mE,S',A'):=h
   obtain⟨fr1,h3,g1,g2⟩:=skip_ok h2
   obtain⟨vs,S,A,ht,hS,hA,hA0⟩:=draw_tr hE hesc hdn hcall rest h3
   refine⟨_,_,_,.skip ho hk' hw ⟨g1,g2⟩ ht,?_,hA,hA0⟩
   rw[hS]
   cases Nat.beq k 2<;>simp[cnd]
  | true=>
   have h1:cnd (Nat.beq k 0) (opn (E_q X.P X.E G m.t o.op fr) none fun v=>putE o.dst fr v fun fr'=>E_draw (RX X G pr) call ops rest fr' m S0 (cnd (isLoad o.op) (.load i o fr v::A0) A0))
     (cnd (Nat.beq k 1) (opn o.dst none fun d=>opn (E_a X.E o fr) none fun r=>newC m r.1 r.2.1 fun id m=>putE (some d) fr (r.2.2.2 id) fun fr=>E_draw (RX X G pr) call ops rest fr m S0 (.made i id r.1 r.2.1::A0))
     (E_op (RX X G pr) call o fr m fun fr m'=>E_draw (RX X G pr) call ops rest fr m' (m::S0) A0))=some (frE,mE,S',A'):=h
   by_cases k0:k=0
   ·subst k0
    have h2:(opn (E_q X.P X.E G m.t o.op fr) none fun v=>putE o.dst fr v fun fr'=>E_draw (RX X G pr) call ops rest fr' m S0 (cnd (isLoad o.op) (.load i o fr v::A0) A0))=some (frE,mE,S',A'):=h1
    obtain⟨v,hv,h2⟩:=opn_eq h2
    obtain⟨fr1,h3,g1,g2⟩:=putE_ok h2
    obtain⟨vs,S,A,ht,hS,hA,hA0⟩:=draw_tr hE hesc hdn hcall rest h3
    refine⟨_,_,_,.q ho hk' hw hv ⟨g1,g2⟩ ht,hS,fun y hy=>?_,fun y hy=>hA0 y ?_⟩
    ·cases hl:isLoad o.op with
     | false=>rw[hl] at hy;exact hA y hy
     | true=>
      rw[hl] at hy
      rcases List.mem_cons.1 hy with rfl | hy
      ·refine hA0 _ ?_
       rw[hl]
       simp[cnd]
      ·exact hA y hy
    ·cases isLoad o.op with
     | false=>exact hy
     | true=>exact List.mem_cons_of_mem _ hy
   rw[beq_ne k0] at h1
   by_cases k1:k=1
   ·subst k1
    have h2:(opn o.dst none fun d=>opn (E_a X.E o fr) none fun r=>newC m r.1 r.2.1 fun id m=>putE (some d) fr (r.2.2.2 id) fun fr=>E_draw (RX X G pr) call ops rest fr m S0 (.made i id r.1 r.2.1::A0))=some (frE,mE,S',A'):=h1
    obtain⟨d,hd,h2⟩:=opn_eq h2
    obtain⟨⟨l,T,c,mk⟩,ha,h2⟩:=opn_eq h2
    obtain⟨m2,h3,hn⟩:=newC_raw h2
    have h3':putE o.dst fr (mk m.n) (fun fr=>E_draw (RX X G pr) call ops rest fr m2 S0 (.made i m.n l T::A0))=some (frE,mE,S',A'):=by rw[hd];exact h3
    obtain⟨fr1,h4,g1,g2⟩:=putE_ok h3'
    obtain⟨vs,S,A,ht,hS,hA,hA0⟩:=draw_tr hE hesc hdn hcall rest h4
    refine⟨_,_,_,.a ho hk' hw hd ha hn ⟨g1,g2⟩ ht,hS,fun y hy=>?_,fun y hy=>hA0 y (List.mem_cons_of_mem _ hy)⟩
    rcases List.mem_cons.1 hy with rfl | hy
    ·exact hA0 _ (by simp)
    ·exact hA y hy
   ·rw[beq_ne k1] at h1
    have h2:E_op (RX X G pr) call o fr m (fun fr m'=>E_draw (RX X G pr) call ops rest fr m' (m::S0) A0)=some (frE,mE,S',A'):=h1
    obtain⟨v,m1,fr1,hcore,-,h3,g1,g2⟩:=E_op_ok hE hesc hd0 hcall h2
    obtain⟨vs,S,A,ht,hS,hA,hA0⟩:=draw_tr hE hesc hdn hcall rest h3
    have hk2:k=2:=by
     have:kindE X.E o.op≤2:=by
      unfold kindE
      split<;>first | omega | (split<;>first | omega | (split<;>omega))
     rw[hk'] at this
     omega
    subst hk2
    exact⟨_,_,_,.e ho hk' hw hcore ⟨g1,g2⟩ ht,by rw[hS];simp,hA,hA0⟩
theorem Trc.head {row:List (Nat×Nat)} {fr frE:Tri EV} {m mE:Me} {vs:List (Nat×EV)} {S:List Me} {A:List Hold} (h:Trc X G pr ops row fr m vs frE mE S A):∃ m2 S',S=m2::S'∧Grow m m2:=by
 induction h with
 | nil=>exact⟨_,_,rfl,.refl _⟩
 | q _ _ _ _ _ _ ih=>exact ih
 | a _ _ _ _ _ hn _ _ ih=>
  obtain⟨m2,S',h1,h2⟩:=ih
  exact⟨m2,S',h1,hn.grow.trans h2⟩
 | e _ _ _ _ _ _ _=>exact⟨_,_,rfl,.refl _⟩
 | @skip i k o rest fr m fr' vs frE mE S A _ _ _ _ _ ih=>
  cases hk:Nat.beq k 2 with
  | true=>exact⟨_,_,rfl,.refl _⟩
  | false=>simpa using ih
theorem Trc.made_ge {row:List (Nat×Nat)} {fr frE:Tri EV} {m mE:Me} {vs:List (Nat×EV)} {S:List Me} {A:List Hold} (h:Trc X G pr ops row fr m vs frE mE S A):m.n≤mE.n∧∀ i c l T,.made i c l T∈A→m.n≤c∧i∈row.map (·.1):=by
 induction h with
 | nil=>exact⟨Nat.le_refl _,fun _ _ _ _ h=>by cases h⟩
 | @q i o rest fr m v fr' vs frE mE S A _ _ _ _ _ _ ih=>
  refine⟨ih.1,fun i' c l T hm=>?_⟩
  have hm':.made i' c l T∈A:=by
   cases hl:isLoad o.op with
   | false=>rw[hl] at hm;exact hm
   | true=>
    rw[hl] at hm
    rcases List.mem_cons.1 hm with e | hm
    ·cases e
    ·exact hm
  exact⟨(ih.2 i' c l T hm').1,List.mem_cons_of_mem _ (ih.2 i' c l T hm').2⟩
 | a _ _ _ _ _ hn _ _ ih=>
  refine⟨Nat.le_trans hn.grow.1 ih.1,fun i' c l T hm=>?_⟩
  rcases List.mem_cons.1 hm with e | hm
  ·cases e
   exact⟨Nat.le_refl _,by simp⟩
  ·exact⟨Nat.le_trans hn.grow.1 (ih.2 i' c l T hm).1,List.mem_cons_of_mem _ (ih.2 i' c l T hm).2⟩
 | e _ _ _ hc _ _ ih=>exact⟨Nat.le_trans hc.1 ih.1,fun i' c l T hm=>⟨Nat.le_trans hc.1 (ih.2 i' c l T hm).1,List.mem_cons_of_mem _ (ih.2 i' c l T hm).2⟩⟩
 | skip _ _ _ _ _ ih=>exact⟨ih.1,fun i' c l T hm=>⟨(ih.2 i' c l T hm).1,List.mem_cons_of_mem _ (ih.2 i' c l T hm).2⟩⟩
theorem Trc.split:∀ (pre:List (Nat×Nat)) {rest:List (Nat×Nat)} {fr frE:Tri EV} {m mE:Me} {vs:List (Nat×EV)} {S:List Me} {A:List Hold},Trc X G pr ops (pre++rest) fr m vs frE mE S A →
  ∃ vs1 vs2 fr1 m1 S1 S2 A2,vs=vs1++vs2∧vs1.map (·.1)=pre.map (·.1)∧S=S1++S2∧S1.length=(pre.filter fun r=>Nat.beq r.2 2).length∧Trc X G pr ops rest fr1 m1 vs2 frE mE S2 A2∧(∀ h∈A2,h∈A)∧m.n≤m1.n ∧
   (∀ t w,fr1.get t=some w→(∃ i,(i,w)∈vs1∧dstAt ops i=some t)∨((∀ i∈pre.map (·.1),dstAt ops i≠some t)∧fr.get t=some w)) ∧
   (∀ i c l T,.made i c l T∈A→.made i c l T∈A2∨c < m1.n)
 | [],rest,fr,frE,m,mE,vs,S,A,h=>⟨[],vs,fr,m,[],S,A,rfl,rfl,rfl,rfl,h,fun _ h=>h,Nat.le_refl _,fun t w hw=>.inr ⟨by simp,hw⟩,fun _ _ _ _ h=>.inl h⟩
 |(i,k)::pre,rest,fr,frE,m,mE,vs,S,A,h=>by
  have fin:∀ {o:Oper} {fr':Tri EV} {m':Me} {v:EV} {vs':List (Nat×EV)} {S' S:List Me} {A' A:List Hold},ops[i]?=some o→PutR o.dst fr v fr'→m.n≤m'.n→Trc X G pr ops (pre++rest) fr' m' vs' frE mE S' A' →
    (S=if Nat.beq k 2 then m::S' else S')→(∀ h∈A',h∈A)→(∀ i c l T,.made i c l T∈A→.made i c l T∈A'∨c < m'.n) →
    ∃ vs1 vs2 fr1 m1 S1 S2 A2,(i,v)::vs'=vs1++vs2∧vs1.map (·.1)=((i,k)::pre).map (·.1)∧S=S1++S2∧S1.length=(((i,k)::pre).filter fun r=>Nat.beq r.2 2).length∧Trc X G pr ops rest fr1 m1 vs2 frE mE S2 A2∧(∀ h∈A2,h∈A)∧m.n≤m1.n ∧
     (∀ t w,fr1.get t=some w→(∃ i,(i,w)∈vs1∧dstAt ops i=some t)∨((∀ i'∈((i,k)::pre).map (·.1),dstAt ops i'≠some t)∧fr.get t=some w)) ∧
     (∀ i c l T,.made i c l T∈A→.made i c l T∈A2∨c < m1.n):=by
   intro o fr' m' v vs' S' S A' A ho hp hmn ht hS hA hA2
   obtain⟨vs1,vs2,fr1,m1,S1,S2,A2,e1,e2,e3,e4,e5,e6,e7,e8,e9⟩:=Trc.split pre ht
   refine⟨(i,v)::vs1,vs2,fr1,m1,(if Nat.beq k 2 then m::S1 else S1),S2,A2,by rw[e1];rfl,by simp[e2],?_,?_,e5,fun h hh=>hA h (e6 h hh),Nat.le_trans hmn e7,fun t w hw=>?_,fun i c l T hm=>?_⟩
   ·rw[hS,e3]
    split<;>simp
   ·simp only[List.filter_cons]
    split<;>simp[e4]
   ·rcases e8 t w hw with ⟨i',h1,h2⟩ | ⟨h1,h2⟩
    ·exact .inl ⟨i',List.mem_cons_of_mem _ h1,h2⟩
    ·have hdi:dstAt ops i=o.dst:=by simp[dstAt,ho]
     cases hd:o.dst with
     | none=>
      rw[hp.1 hd] at h2
      refine .inr ⟨fun i' hi'=>?_,h2⟩
      rcases List.mem_cons.1 hi' with e | hi'
      ·rw[show i'=i from e,hdi,hd];simp
      ·exact h1 i' hi'
     | some d=>
      rcases hp.2 d hd t w h2 with ⟨rfl,rfl⟩ | ⟨hne,h3⟩
      ·exact .inl ⟨i,by simp,by rw[hdi,hd]⟩
      ·refine .inr ⟨fun i' hi'=>?_,h3⟩
       rcases List.mem_cons.1 hi' with e | hi'
       ·rw[show i'=i from e,hdi,hd]
        exact fun e=>hne (by cases e;rfl)
       ·exact h1 i' hi'
   ·rcases hA2 i c l T hm with h1 | h1
    ·exact e9 i c l T h1
    ·exact .inr (Nat.lt_of_lt_of_le h1 e7)
  cases h with
  | q ho hk hw hv hp t=>
   rename_i o v fr' vs' A'
   refine fin ho hp (Nat.le_refl _) t (by simp) (fun h hh=>?_) fun i c l T hm=>?_
   ·cases isLoad o.op with
    | false=>exact hh
    | true=>exact List.mem_cons_of_mem _ hh
   ·cases hl:isLoad o.op with
    | false=>rw[hl] at hm;exact .inl hm
    | true=>
     rw[hl] at hm
     rcases List.mem_cons.1 hm with e | hm
     ·cases e
     ·exact .inl hm
  | a ho hk hw hd hv hn hp t=>
   refine fin ho hp hn.grow.1 t (by simp) (fun h hh=>List.mem_cons_of_mem _ hh) fun i c l T hm=>?_
   rcases List.mem_cons.1 hm with e | hm
   ·cases e
    exact .inr (by rw[hn.1];omega)
   ·exact .inl hm
  | e ho hk hw hc hp t=>exact fin ho hp hc.1 t (by simp) (fun _ h=>h) fun _ _ _ _ h=>.inl h
  | skip ho hk hw hp t=>exact fin ho hp (Nat.le_refl _) t (by cases Nat.beq k 2<;>rfl) (fun _ h=>h) fun _ _ _ _ h=>.inl h
end
section
variable {ops:List Oper}
theorem dOk_dep {i k:Nat} {o:Oper} (ho:ops[i]?=some o) (h:dOk o k=true):∀ e,Dep ops i e→k.testBit e=true:=by
 rintro e ⟨o',ed,ho',hed,hb,rfl⟩
 rw[ho] at ho'
 cases ho'
 have:=List.all_eq_true.1 h ed (by simpa using hed)
 rw[hb] at this
 simpa using this
theorem perm_split:∀ {row:List (Nat×Nat)} {k:Nat},permOk ops row k=true→∀ (pre:List (Nat×Nat)) (i c:Nat) (post:List (Nat×Nat)),row=pre++(i,c)::post →
  (∃ o,ops[i]?=some o)∧k.testBit i=false∧i ∉ pre.map (·.1)∧∀ e,Dep ops i e→k.testBit e=true∨e∈pre.map (·.1)
 | [],k,h,pre,i,c,post,e=>by simp at e
 |(i0,c0)::row,k,h,pre,i,c,post,e=>by
  simp only[permOk,Bool.and_eq_true,Bool.not_eq_true'] at h
  obtain⟨h1,h2⟩:=h
  split at h2
  ·rename_i o ho
   rw[Bool.and_eq_true] at h2
   cases pre with
   | nil=>
    simp only[List.nil_append,List.cons.injEq,Prod.mk.injEq] at e
    obtain⟨⟨rfl,rfl⟩,rfl⟩:=e
    exact⟨⟨o,ho⟩,h1,by simp,fun e he=>.inl (dOk_dep ho h2.1 e he)⟩
   | cons p pre=>
    simp only[List.cons_append,List.cons.injEq] at e
    obtain⟨e1,e2⟩:=e
    obtain⟨g1,g2,g3,g4⟩:=perm_split h2.2 pre i c post e2
    have hb:∀ x,(k ||| 2 ^ i0).testBit x=(k.testBit x || decide (x=i0)):=fun x=>by
     rw[Nat.testBit_or,Nat.testBit_two_pow]
     congr 1
     exact decide_eq_decide.2 eq_comm
    rw[hb,Bool.or_eq_false_iff] at g2
    refine⟨g1,g2.1,?_,fun e he=>?_⟩
    ·rw[←e1]
     simp only[List.map_cons,List.mem_cons,not_or]
     exact⟨by simpa using g2.2,g3⟩
    ·rcases g4 e he with h | h
     ·rw[hb,Bool.or_eq_true] at h
      rcases h with h | h
      ·exact .inl h
      ·exact .inr (by rw[←e1];simp at h;simp[h])
     ·exact .inr (by rw[List.map_cons];exact List.mem_cons_of_mem _ h)
  ·cases h2
theorem perm_all:∀ {row:List (Nat×Nat)} {k:Nat},permOk ops row k=true→∀ i,i < ops.length→k.testBit i=true∨i∈row.map (·.1)
 | [],k,h,i,hi=>by
  simp only[permOk] at h
  have:=Nat.eq_of_beq_eq_true h
  subst this
  left
  rw[Nat.testBit_two_pow_sub_one]
  simpa using hi
 |(i0,c0)::row,k,h,i,hi=>by
  simp only[permOk,Bool.and_eq_true,Bool.not_eq_true'] at h
  obtain⟨h1,h2⟩:=h
  split at h2
  ·rw[Bool.and_eq_true] at h2
   rcases perm_all h2.2 i hi with h | h
   ·rw[Nat.testBit_or,Nat.testBit_two_pow,Bool.or_eq_true] at h
    rcases h with h | h
    ·exact .inl h
    ·have:i0=i:=by simpa using h
     exact .inr (by simp[this])
   ·exact .inr (by rw[List.map_cons];exact List.mem_cons_of_mem _ h)
  ·cases h2
theorem perm_nodup {row:List (Nat×Nat)} (h:permOk ops row 0=true):(row.map (·.1)).Nodup:=by
 have key:∀ {row:List (Nat×Nat)} {k:Nat},permOk ops row k=true→(row.map (·.1)).Nodup:=by
  intro row
  induction row with
  | nil=>intro k _;exact List.nodup_nil
  | cons r row ih=>
   intro k h
   obtain⟨i0,c0⟩:=r
   have h':=h
   simp only[permOk,Bool.and_eq_true,Bool.not_eq_true'] at h
   obtain⟨h1,h2⟩:=h
   split at h2
   ·rw[Bool.and_eq_true] at h2
    rw[List.map_cons,List.nodup_cons]
    refine⟨fun hm=>?_,ih h2.2⟩
    obtain⟨⟨x,c⟩,hx,hxe⟩:=List.mem_map.1 hm
    obtain⟨pre,post,e⟩:=List.append_of_mem hx
    have hxe':x=i0:=hxe
    subst hxe'
    have:=(perm_split h' ((x,c0)::pre) x c post (by rw[e];rfl)).2.2.1
    exact this (by simp)
   ·cases h2
 exact key h
theorem key_one {α β:Type}:∀ {l:List (α×β)},(l.map (·.1)).Nodup→∀ {k:α} {a b:β},(k,a)∈l→(k,b)∈l→a=b
 | [],_,k,a,b,h,_=>by cases h
 |(k0,c)::l,hn,k,a,b,h,h'=>by
  rw[List.map_cons,List.nodup_cons] at hn
  rcases List.mem_cons.1 h with e | h
  ·cases e
   rcases List.mem_cons.1 h' with e' | h'
   ·cases e';rfl
   ·exact(hn.1 (List.mem_map.2 ⟨_,h',rfl⟩)).elim
  ·rcases List.mem_cons.1 h' with e' | h'
   ·cases e'
    exact(hn.1 (List.mem_map.2 ⟨_,h,rfl⟩)).elim
   ·exact key_one hn.2 h h'
end
section
variable {X:Ctx} {G:GT} {pr:PR} {D0:Nm} {n0:Nat} {a:Act} {w:World}
theorem wantE_ok' {ops:List Oper} {o:Oper} {b:Bool} {D:Nm} {F:Fr} {β:Nat→Nat} {fr:Tri EV} (h:wantE ops o fr=some b) (hF:∀ t,SVok β (F t) (a.tmps.getD t undef)) (H:∀ t∈looks ops o,∀ v,fr.get t=some v→SvE D (F t) v) :
  Region.wanted o (yielded ops.toArray a.tmps)=b:=by
 unfold wantE at h
 split at h
 ·rename_i hg
  cases h
  simp[Region.wanted,hg]
 ·rename_i j c hg
  split at h
  ·cases h
  ·rename_i d hj
   have hj':(ops[j]?).bind (·.dst)=some d:=by
    rw[nthE_eq] at hj
    simpa using hj
   have hjA:(ops.toArray[j]?).bind (·.dst)=some d:=by simpa using hj'
   have hy:=yielded_of hjA a.tmps
   have hlk:d∈looks ops o:=guard_looks hg hj'
   split at h
   ·rename_i q hq
    cases h
    have hs:=H _ hlk _ hq
    have hv:a.tmps.getD d undef=.bool q:=by
     have h1:=hF d
     rcases hs with ⟨u,e,hu⟩ | ⟨q',e',e⟩
     ·rw[e] at h1
      rw[h1,hu.bool]
     ·cases e'
      rw[e] at h1
      exact h1
    simp[Region.wanted,hg,hy,getD_bool hv]
   ·rename_i l hq
    cases h
    have hs:=H _ hlk _ hq
    obtain⟨u,e,hu⟩:=hs.nb (by simp)
    obtain⟨vs,_,rfl⟩:=hu.tup
    have h1:=hF d
    rw[e] at h1
    have hnone:yielded ops.toArray a.tmps j=none:=by
     rw[hy]
     cases hg':a.tmps[d]? with
     | none=>rfl
     | some v=>
      simp only[SVok,Array.getD_eq_getD_getElem?,hg',Option.getD_some] at h1
      subst h1
      rfl
    simp[Region.wanted,hg,hnone]
   ·cases h
theorem OR_looks {ops:List Oper} {o:Oper} {D:Nm} {F:Fr} {fr:Tri EV} (H:∀ t∈looks ops o,∀ v,fr.get t=some v→SvE D (F t) v):OR D F fr o.op.operands.toList:=fun x hx v hv=>by
 cases x with
 | tmp t=>exact H t (operand_looks (by simpa using hx)) v hv
 | const c=>exact(show FR D F .nil from fun t v h=>by cases h).op [.const c] (.const c) (by simp) v hv
 | global g=>exact(show FR D F .nil from fun t v h=>by cases h).op [.global g] (.global g) (by simp) v hv
 | func f=>exact(show FR D F .nil from fun t v h=>by cases h).op [.func f] (.func f) (by simp) v hv
theorem E_q_mem {m m2:Tri Ent} {op:Op} {fr:Tri EV} (h:isLoad op=false):E_q X.P X.E G m op fr=E_q X.P X.E G m2 op fr:=by
 cases op with
 | load=>simp[isLoad] at h
 | slice t x lo hi mx=>cases mx<;>rfl
 | call c=>
  obtain⟨callee,args,ts⟩:=c
  cases callee<;>rfl
 | _=>rfl
def DJ (X:Ctx) (G:GT) (pr:PR) (D0:Nm) (n0:Nat) (ops:List Oper) (es:List Nat) (fr:Tri EV) (vs:List (Nat×EV)) (S:List Me) (A:List Hold) (L:Nat→Prop) (a:Act) (w:World):Prop:=
 ∃ D F C I M j Sm,Rel X a w F C I M∧(∀ q e,es[q]?=some e→(L e ↔ q < j))∧j≤es.length∧S[j]?=some Sm∧MS (RX X G pr) D Sm I M∧(∀ i v t,L i→(i,v)∈vs→dstAt ops i=some t→SvE D (F t) v) ∧
  (∀ t v,(∀ i,L i→dstAt ops i≠some t)→fr.get t=some v→SvE D (F t) v)∧(∀ i c l T,Hold.made i c l T∈A→¬ L i→D c=none)∧D0.ext D n0
theorem DJ.fr {ops:List Oper} (hD:DC ops) {L:Nat→Prop} {q:Nat} {o:Oper} (hq:ops[q]?=some o) (hqL:¬ L q) {vs:List (Nat×EV)} (hvn:(vs.map (·.1)).Nodup) {v:EV} (hv:(q,v)∈vs) {D D':Nm} {F F':Fr} {fr:Tri EV} (hle:D.le D') (hp:PFv o.dst v D' F F')
  (hA:∀ i v t,L i→(i,v)∈vs→dstAt ops i=some t→SvE D (F t) v) (hB:∀ t v,(∀ i,L i→dstAt ops i≠some t)→fr.get t=some v→SvE D (F t) v) :
  (∀ i v t,(L i∨i=q)→(i,v)∈vs→dstAt ops i=some t→SvE D' (F' t) v)∧(∀ t v,(∀ i,(L i∨i=q)→dstAt ops i≠some t)→fr.get t=some v→SvE D' (F' t) v):=by
 have hdq:dstAt ops q=o.dst:=by simp[dstAt,hq]
 constructor
 ·rintro i u t (hi | rfl) hm hd
  ·have hne:o.dst≠some t:=fun e=>by
    obtain⟨oi,hoi,hdi⟩:=dstAt_some hd
    exact hD.dd i q oi o t (fun e'=>hqL (e' ▸ hi)) hoi hq hdi e
   exact hp.2 D' t u hne ((hA i u t hi hm hd).mono hle)
  ·rw[key_one hvn hm hv]
   rw[hdq] at hd
   exact hp.1 t hd
 ·intro t u hno hg
  have hne:o.dst≠some t:=fun e=>hno q (.inr rfl) (by rw[hdq,e])
  exact hp.2 D' t u hne ((hB t u (fun i hi=>hno i (.inl hi)) hg).mono hle)
end
section
variable {X:Ctx} {G:GT} {pr:PR} {D0:Nm} {n0:Nat} {a:Act} {w:World}
theorem chain_ok {bef:List Nat}:∀ {es:List Nat},chainOk bef es=true→∀ (p q:Nat) (x y:Nat),p < q→es[p]?=some x→es[q]?=some y→(bef.getD y 0).testBit x=true
 | [],_,p,q,x,y,_,hx,_=>by simp at hx
 | e::es,h,p,q,x,y,hpq,hx,hy=>by
  simp only[chainOk,Bool.and_eq_true] at h
  cases q with
  | zero=>omega
  | succ q=>
   have hy':es[q]?=some y:=by simpa using hy
   cases p with
   | zero=>
    simp at hx
    subst hx
    exact List.all_eq_true.1 h.1 y (List.mem_of_getElem? hy')
   | succ p=>exact chain_ok h.2 p q x y (by omega) (by simpa using hx) hy'
theorem effs_mem {E:Env} {ops:List Oper} {e:Nat}:e∈effsL E ops ↔ e < ops.length∧kindAtK E ops e=2:=by
 unfold effsL
 rw[List.mem_filter,List.mem_range]
 constructor
 ·rintro⟨h1,h2⟩;exact⟨h1,Nat.eq_of_beq_eq_true h2⟩
 ·rintro⟨h1,h2⟩;exact⟨h1,by rw[h2];rfl⟩
theorem kindAt_of {E:Env} {ops:List Oper} {i:Nat} {o:Oper} (h:ops[i]?=some o):kindAtK E ops i=kindE E o.op:=by
 unfold kindAtK
 rw[nthE_eq,h]
 rfl
theorem SvE.same {D:Nm} {x:SV} {u v:EV} (h:SvE D x u) (hs:sameE u v=true):SvE D x v:=by
 rcases h with ⟨y,rfl,h⟩ | ⟨q,rfl,rfl⟩
 ·exact .val (sameE_ok hs h)
 ·have:v=.b q:=by
   cases v<;>simp only[sameE,Bool.false_eq_true] at hs
   rw[eq_of_beq hs]
  exact .inr ⟨q,this,rfl⟩
theorem E_drawn_ok (hE:EOK X.P X.E) (hesc:∀ d,d < X.n→X.esc.contains d=true) {call:EV→List EV→Me→Option (EV×Me)} (hcall:CallOK (RX X G pr) call) {id:Nat} {AA:Array Oper} (hmx:X.P.follows .mixedOrders=true) (hn:opsOk X.n AA=true)
  {fr frE:Tri EV} {m mE:Me} (h:E_drawn (RX X G pr) call AA.toList fr m=some (frE,mE)) {Q:Exit→Act→World→Prop} (hQ:∀ a w,St X G pr D0 n0 frE mE a w→Q .normal a w) (hs:St X G pr D0 n0 fr m a w) :
  (Code.region id AA true).wpIn (fen X) 0 X.P Q a w:=by
 refine wpIn_region_any hmx ?_
 generalize hops:AA.toList=ops at h
 have hAA:AA=ops.toArray:=by apply Array.ext';simpa using hops
 subst hAA
 have hdn:∀ o∈ops,∀ d,o.dst=some d→d < X.n:=by simpa using opsOk_spec hn
 unfold E_drawn at h
 obtain⟨hrc,h⟩:=cnd_some h
 unfold rowChk at hrc
 simp only[Bool.and_eq_true] at hrc
 obtain⟨hchk,hperm,hchain,hrow⟩:=hrc
 have hD:DC ops:=dc_of_chk hchk
 have hrow':((rowL X.E ops).filter fun r=>Nat.beq r.2 2).map (·.1)=effsL X.E ops:=by simpa using hrow
 clear hrow
 generalize hes:effsL X.E ops=es at *
 have hesm:∀ e,e∈es ↔ e < ops.length∧kindAtK X.E ops e=2:=fun e=>by rw[←hes];exact effs_mem
 generalize hrw:rowL X.E ops=row at *
 cases hdr:E_draw (RX X G pr) call ops row fr m [] [] with
 | none=>rw[hdr] at h;cases h
 | some res=>
 obtain⟨frE',mE',S',A'⟩:=res
 rw[hdr] at h
 have h':cnd (A'.all (holdE (RX X G pr) es (befL ops) S'.reverse)) (some (frE',mE')) none=some (frE,mE):=h
 clear h
 obtain⟨hhold,h'⟩:=cnd_some h'
 cases h'
 obtain⟨vs,S,A,htr,hS',hA',-⟩:=draw_tr hE hesc hdn hcall row hdr
 rw[List.append_nil] at hS'
 subst hS'
 rw[List.reverse_reverse] at hhold
 have hholdA:∀ y∈A,holdE (RX X G pr) es (befL ops) S y=true:=fun y hy=>List.all_eq_true.1 hhold y (hA' y hy)
 have hrn:(row.map (·.1)).Nodup:=perm_nodup hperm
 obtain⟨vsW,vsR,frW,mW,SW,SR,AR,w1,w2,w3,w4,w5,w6,w7,w8,w9⟩:=Trc.split row (rest:=[]) (by rw[List.append_nil];exact htr)
 have hlenE:(row.filter fun r=>Nat.beq r.2 2).length=es.length:=by rw[←hrow',List.length_map]
 cases w5
 rw[List.append_nil] at w1
 subst w1
 have hvn:(vs.map (·.1)).Nodup:=by rw[w2];exact hrn
 have hmade:=htr.made_ge
 have preClosed:∀ (pre:List (Nat×Nat)) (rest:List (Nat×Nat)),row=pre++rest→Closed ops (fun i=>i∈pre.map (·.1)):=fun pre rest hpr j e hj he=>by
  obtain⟨⟨x,c⟩,hx,hxe⟩:=List.mem_map.1 hj
  have hxe':x=j:=hxe
  subst hxe'
  obtain⟨p1,p2,e1⟩:=List.append_of_mem hx
  rcases(perm_split hperm p1 x c (p2++rest) (by rw[hpr,e1];simp)).2.2.2 e he with h | h
  ·simp at h
  ·show e∈pre.map (·.1)
   rw[e1,List.map_append]
   exact List.mem_append.2 (.inl h)
 let J:=DJ X G pr D0 n0 ops es fr vs S A
 have key:=any_inv (X:=X) (ops:=ops) (Q:=Q) hD.lt J ?step ?fin ops.length (Array.replicate ops.length false) a { w with drawn:=w.drawn+1 } (by simp) (by unfold todo;exact Nat.le_trans (List.length_filter_le _ _) (by simp)) ?cl ?start
 case cl=>
  intro j e hj
  exfalso
  by_cases hi:j < ops.length<;>simp[Array.getD_eq_getD_getElem?,hi] at hj
 case start=>
  obtain⟨D,F,C,I,M,⟨β,hR⟩,hF,hms,hx,hn0⟩:=hs
  obtain⟨m2,S2,hS2,hg⟩:=htr.head
  have hL:∀ i,¬ (Array.replicate ops.length false).getD i false=true:=fun i=>by
   by_cases hi:i < ops.length<;>simp[Array.getD_eq_getD_getElem?,hi]
  refine⟨D,F,C,I,M,0,m2,⟨β,hR.world rfl⟩,fun q e _=>⟨fun h=>(hL e h).elim,fun h=>by omega⟩,Nat.zero_le _,by rw[hS2];rfl,hms.grow hg,fun i v t hi=>(hL i hi).elim,fun t v _ hg=>hF t v hg,fun i c l T hmd _=>?_,hx⟩
  have:=(hmade.2 i c l T hmd).1
  cases hDc:D c with
  | none=>rfl
  | some b=>have:=hms.dom _ _ hDc;omega
 case fin=>
  rintro a w ⟨D,F,C,I,M,j,Sm,hR,hes',hj,hSj,hms,hA1,hB1,hN,hx⟩
  have hjl:j=es.length:=by
   refine Nat.le_antisymm hj ?_
   by_cases h0:es.length=0
   ·omega
   ·have hlt:es.length - 1 < es.length:=by omega
    have h1:=(hes' (es.length - 1) es[es.length - 1] (List.getElem?_eq_getElem hlt)).1 ((hesm _).1 (List.getElem_mem hlt)).1
    omega
  have hSmE:Sm=mE:=by
   rw[hjl,w3,List.getElem?_append_right (by omega),w4,hlenE] at hSj
   simpa using hSj.symm
  subst hSmE
  refine hQ a w ⟨D,F,C,I,M,hR,fun t v hg=>?_,hms,hx,?_⟩
  ·rcases w8 t v hg with ⟨i,h1,h2⟩ | ⟨h1,h2⟩
   ·obtain⟨oi,hoi,_⟩:=dstAt_some h2
    exact hA1 i v t (List.getElem?_eq_some_iff.1 hoi).1 h1 h2
   ·refine hB1 t v (fun i hi=>?_) h2
    rcases perm_all hperm i hi with h3 | h3
    ·simp at h3
    ·exact h1 i h3
  ·obtain⟨D',F',C',I',M',_,_,_,_,hn0⟩:=hs
   exact Nat.le_trans hn0 w7
 case step=>
  rintro L a w q o ⟨D,F,C,I,M,j,Sm,⟨β,hR⟩,hes',hj,hSj,hms,hA1,hB1,hN,hx⟩ hcl hLl hq hqL hdeps
  have hql:q < ops.length:=(List.getElem?_eq_some_iff.1 hq).1
  have hdo:=hdn o (List.mem_of_getElem? hq)
  obtain⟨⟨q',k⟩,hqr,hqe⟩:=List.mem_map.1 ((perm_all hperm q hql).resolve_left (by simp))
  have hqe':q'=q:=hqe
  subst hqe'
  obtain⟨pre,post,hsp⟩:=List.append_of_mem hqr
  obtain⟨-,-,hqpre,hdpre⟩:=perm_split hperm pre q' k post hsp
  have hdpre':∀ e,Dep ops q' e→e∈pre.map (·.1):=fun e he=>(hdpre e he).resolve_left (by simp)
  have hpc:=preClosed pre ((q',k)::post) hsp
  have htr':=htr
  rw[hsp] at htr'
  obtain⟨vs1,vs2,fr1,m1,S1,S2,A2,e1,e2,e3,e4,e5,e6,e7,e8,e9⟩:=Trc.split pre htr'
  have hmade2:=e5.made_ge
  have H:∀ t∈looks ops o,∀ v,fr1.get t=some v→SvE D (F t) v:=fun t ht v hv=>by
   rcases e8 t v hv with ⟨i,h1,h2⟩ | ⟨h1,h2⟩
   ·obtain⟨oi,hoi,hdi⟩:=dstAt_some h2
    have hipre:i∈pre.map (·.1):=by rw[←e2];exact List.mem_map.2 ⟨_,h1,rfl⟩
    have hne:i≠q':=fun e=>hqpre (e ▸ hipre)
    rcases hD.ord i q' oi o t hne hoi hq hdi ht with hb | hb
    ·exact hA1 i v t (hb.mem hcl hdeps) (by rw[e1];exact List.mem_append.2 (.inl h1)) h2
    ·exact(hqpre (hb.mem hpc fun e he=>hpc i e hipre he)).elim
   ·refine hB1 t v (fun i hi hdt=>?_) h2
    obtain⟨oi,hoi,hdi⟩:=dstAt_some hdt
    have hne:i≠q':=fun e=>hqL (e ▸ hi)
    rcases hD.ord i q' oi o t hne hoi hq hdi ht with hb | hb
    ·exact h1 i (hb.mem hpc hdpre') hdt
    ·exact hqL (hb.mem hcl fun e he=>hcl i e hi he)
  have hO:OR D F fr1 o.op.operands.toList:=OR_looks H
  have hlo:loL es (befL ops) q'≤j:=filter_le fun p e hp hb=>by
   exact(hes' p e hp).1 ((bef_of_bit hb).mem hcl hdeps)
  have hhi:j≤hiL es (befL ops) q':=le_filter hj fun p e hp hpe=>by
   cases hb:((befL ops).getD e 0).testBit q' with
   | false=>rfl
   | true=>
    have hLe:L e:=(hes' p e hpe).2 hp
    exact(hqL ((bef_of_bit hb).mem hcl fun d hd=>hcl e d hLe hd)).elim
  have esKeep:kindE X.E o.op≠2→∀ p e,es[p]?=some e→((L e∨e=q') ↔ p < j):=fun hk p e hp=>by
   have hne:e≠q':=fun he=>hk (by
    have:=((hesm e).1 (List.mem_of_getElem? hp)).2
    rw[he,kindAt_of hq] at this
    exact this)
   exact⟨fun hh=>(hes' p e hp).1 (hh.resolve_right hne),fun hh=>.inl ((hes' p e hp).2 hh)⟩
  have esNext:kindE X.E o.op=2→es[j]?=some q'∧j+1≤es.length∧∀ p e,es[p]?=some e→((L e∨e=q') ↔ p < j+1):=fun hk=>by
   have hqe:q'∈es:=(hesm q').2 ⟨hql,by rw[kindAt_of hq];exact hk⟩
   obtain⟨p0,hp0⟩:=List.getElem?_of_mem hqe
   have hp0l:=(List.getElem?_eq_some_iff.1 hp0).1
   have h1:¬ p0 < j:=fun hh=>hqL ((hes' p0 q' hp0).2 hh)
   have h2:¬ j < p0:=fun hh=>by
    have hjl:j < es.length:=by omega
    have hbit:=chain_ok hchain j p0 es[j] q' hh (List.getElem?_eq_getElem hjl) hp0
    have:=(hes' j es[j] (List.getElem?_eq_getElem hjl)).1 ((bef_of_bit hbit).mem hcl hdeps)
    omega
   have h3:p0=j:=by omega
   subst h3
   refine⟨hp0,by omega,fun p e hp=>⟨fun hh=>?_,fun hh=>?_⟩⟩
   ·rcases hh with hh | rfl
    ·have:=(hes' p e hp).1 hh;omega
    ·refine Classical.byContradiction fun hn=>?_
     have hbit:=chain_ok hchain p0 p e e (by omega) hp0 hp
     exact hqL ((bef_of_bit hbit).mem hcl hdeps)
   ·by_cases hpj:p < p0
    ·exact .inl ((hes' p e hp).2 hpj)
    ·have:p=p0:=by omega
     subst this
     rw[hp0] at hp
     exact .inr (some_inj' hp).symm
  have plain:∀ {v:EV} {F':Fr} {C':Bx} {a':Act} {w':World},(q',v)∈vs→kindE X.E o.op≠2→(∀ l T c,Hold.made q' c l T ∉ A∨True)→Rel X a' w' F' C' I M→PFv o.dst v D F F'→J (fun j=>L j∨j=q') a' w':=fun {v F' C' a' w'} hv hk _ hR' hp=>by
   obtain⟨f1,f2⟩:=DJ.fr hD hq hqL hvn hv (Nm.le_refl D) hp hA1 hB1
   exact⟨D,F',C',I,M,j,Sm,hR',esKeep hk,hj,hSj,hms,f1,f2,fun i c l T hm hno=>hN i c l T hm fun hi=>hno (.inl hi),hx⟩
  have hvsq:∀ {v:EV} {rest:List (Nat×EV)},vs2=(q',v)::rest→(q',v)∈vs:=fun {v rest} he=>by rw[e1,he];exact List.mem_append.2 (.inr (by simp))
  have hn0m:n0≤m1.n:=by
   obtain⟨D',F',C',I',M',_,_,_,_,hn0⟩:=hs
   exact Nat.le_trans hn0 e7
  have esAt:∀ {k:Nat},k=2→row=pre++(q',k)::post→kindE X.E o.op=2→S1.length=j:=fun {k} hk2 hrow2 hk=>by
   obtain⟨hej,hjl,_⟩:=esNext hk
   have hse:es=(pre.filter fun r=>Nat.beq r.2 2).map (·.1)++q'::((post.filter fun r=>Nat.beq r.2 2).map (·.1)):=by
    rw[←hrow',hrow2,List.filter_append,List.map_append,List.filter_cons]
    subst hk2
    simp
   have hnd:es.Nodup:=by rw[←hes];exact List.nodup_range.sublist List.filter_sublist
   have h1:es[S1.length]?=some q':=by
    rw[hse,List.getElem?_append_right (by rw[List.length_map,e4];exact Nat.le_refl _),List.length_map,e4,Nat.sub_self]
    rfl
   have hl1:=(List.getElem?_eq_some_iff.1 h1).1
   exact(List.getElem?_inj hl1 hnd).1 (by rw[h1,hej])
  cases e5 with
  | @q i o' rest fr0 m0 v fr' vs' frE0 mE0 S0 A0 ho hk hwt hv hp t=>
   have hoo:o'=o:=some_inj' (ho.symm.trans hq)
   subst hoo
   have hw:=wantE_ok' hwt hR.fr H
   refine⟨fun _=>?_,fun hf=>by rw[hw] at hf;cases hf⟩
   obtain⟨u,hu,huv⟩:∃ u,E_q X.P X.E G Sm.t o'.op fr1=some u∧∀ x,SvE D x u→SvE D x v:=by
    cases hl:isLoad o'.op with
    | false=>exact⟨v,by rw[E_q_mem hl (m2:=m1.t)];exact hv,fun _ h=>h⟩
    | true=>
     have hmem:Hold.load q' o' fr1 v∈A:=e6 _ (by rw[hl];simp)
     have h1:=hholdA _ hmem
     have h2:=atAll_ok (show atAll S (loL es (befL ops) q') (hiL es (befL ops) q') (stillE (RX X G pr) o' fr1 v)=true from h1) hlo hhi hSj
     unfold stillE at h2
     split at h2
     ·rename_i u hu
      exact⟨u,hu,fun x hx=>hx.same h2⟩
     ·cases h2
   refine Oper.wpIn_mono (fun a' w'=>?_) (V_op_sound hE hdo ⟨β,hR⟩ (V_op_q (K:=fun F' C' I' M'=>I'=I∧M'=M∧PFv o'.dst v D F F') rfl hk (E_q_ok hE hu hO hms fun x hx=>⟨rfl,rfl,.put F (huv x hx)⟩)))
   rintro⟨F',C',I',M',hr',rfl,rfl,hpf⟩
   exact plain (hvsq rfl) (by rw[hk];decide) (fun _ _ _=>.inr trivial) hr' hpf
  | @a i o' d rest fr0 m0 m' l T c mk fr' vs' frE0 mE0 S0 A0 ho hk hwt hd hv hnr hp t=>
   have hoo:o'=o:=some_inj' (ho.symm.trans hq)
   subst hoo
   have hw:=wantE_ok' hwt hR.fr H
   refine⟨fun _=>?_,fun hf=>by rw[hw] at hf;cases hf⟩
   have hmem:Hold.made q' m1.n l T∈A:=e6 _ (by simp)
   have h1:=hholdA _ hmem
   have h2:=atAll_ok (show atAll S (loL es (befL ops) q') (hiL es (befL ops) q') (madeE m1.n l T)=true from h1) hlo hhi hSj
   unfold madeE at h2
   rw[Bool.and_eq_true] at h2
   obtain⟨hcn,h2⟩:=h2
   have hcn':m1.n < Sm.n:=Nat.le_of_ble_eq_true hcn
   split at h2
   ·rename_i cs T' lim hent
    simp only[Bool.and_eq_true] at h2
    obtain⟨hT,hlim,h2⟩:=h2
    have hT':=Nat.eq_of_beq_eq_true hT
    subst hT'
    have hlim':=Nat.eq_of_beq_eq_true hlim
    subst hlim'
    split at h2
    ·rename_i l' hl'
     obtain⟨l2,c1,c2,c3⟩:=Tri.many_ok cs l.length 0 _ _ hl'
     have hl2:l2=l':=some_inj' c3
     subst hl2
     have hDc:D m1.n=none:=hN q' m1.n l T' hmem hqL
     refine Oper.wpIn_mono (fun a' w'=>?_) (V_op_sound hE hdo ⟨β,hR⟩ (E_a_ok (K:=fun F' C' I' M'=>∃ b us u,I'=I∧M'=⟨b,.cells us.toArray T' (0,0)⟩::M∧I b=none∧(∀ x∈M,x.num≠b)∧VRs D l us∧(∀ i,X.E T'=some i→us.length=c * i.size)∧c≤maxLen ∧
      (∀ (D':Nm) id,D' id=some ⟨b,0,c⟩→VR D' (mk id) u)∧PF o'.dst u F F') hE hesc hdo hv (by rw[hd];rfl) hO fun b us u F' C' g1 g2 g3 g4 g5 g6 g7=>⟨b,us,u,rfl,rfl,g1,g2,g3,g4,g5,g6,g7⟩))
     rintro⟨F',C',I',M',hr',b,us,u,rfl,rfl,g1,g2,g3,g4,g5,g6,g7⟩
     have hle:D.le (D.set m1.n ⟨b,0,c⟩):=Nm.le_set _ hDc
     have hpv:PFv o'.dst (mk m1.n) (D.set m1.n ⟨b,0,c⟩) F F':=g7.v (g6 _ _ (Nm.set_self _ _ _))
     obtain⟨f1,f2⟩:=DJ.fr hD hq hqL hvn (hvsq rfl) hle hpv hA1 hB1
     have hg3:=sameLE_ok h2 g3
     have hset:∀ id,id≠m1.n→(D.set m1.n ⟨b,0,c⟩) id=D id:=fun id hid=>by unfold Nm.set;rw[if_neg hid]
     have hother:∀ id e b',Sm.t.get id=some e→D id=some b'→b'.b≠b:=fun id e b' hi hb' hbb=>by
      obtain⟨x,hx1,hx2⟩:=hms.blk hi hb'
      exact g2 x hx1 (hx2.trans hbb)
     refine⟨D.set m1.n ⟨b,0,c⟩,F',C',I',_,j,Sm,hr',esKeep (by rw[hk];decide),hj,hSj,?_,f1,f2,?_,fun i hi=>?_⟩
     ·refine⟨fun id e b' hi hb'=>?_,fun id id' e e' b1 b2 hi hi' h1 h2 hbb=>?_,fun id b' hb'=>?_,hms.glo⟩
      ·by_cases hid:id=m1.n
       ·subst hid
        rw[Nm.set_self] at hb'
        cases hb'
        rw[hent] at hi
        cases hi
        refine .cells us.toArray rfl (by simp) (by simp[g3.len]) (fun i v hi hv=>?_) (fun i hi=>by simpa using g4 i hi) g5
        have hv':l2[i]?=some v:=by
         have:=c2 i hi
         rw[Nat.zero_add,hv] at this
         exact this.symm
        obtain⟨x,hx1,hx2⟩:=hg3.get hv'
        exact⟨x,by simpa using hx1,hx2.mono hle⟩
       ·rw[hset id hid] at hb'
        exact(hms.ent id e b' hi hb').mono hle fun x hx _=>List.mem_cons_of_mem _ hx
      ·by_cases hid:id=m1.n
       ·by_cases hid':id'=m1.n
        ·rw[hid,hid']
        ·rw[hset id' hid'] at h2
         rw[hid,Nm.set_self] at h1
         cases h1
         exact(hother id' e' b2 hi' h2 hbb.symm).elim
       ·rw[hset id hid] at h1
        by_cases hid':id'=m1.n
        ·rw[hid',Nm.set_self] at h2
         cases h2
         exact(hother id e b1 hi h1 hbb).elim
        ·rw[hset id' hid'] at h2
         exact hms.inj id id' e e' b1 b2 hi hi' h1 h2 hbb
      ·by_cases hid:id=m1.n
       ·rw[hid];exact hcn'
       ·rw[hset id hid] at hb'
        exact hms.dom _ _ hb'
     ·intro i c' l' T2 hmd hno
      have hcc:c'≠m1.n:=fun e=>by
       rcases e9 i c' l' T2 hmd with h | h
       ·rcases List.mem_cons.1 h with h | h
        ·cases h
         exact hno (.inr rfl)
        ·have:=(t.made_ge.2 i c' l' T2 h).1
         have:=hnr.1
         omega
       ·omega
      rw[hset c' hcc]
      exact hN i c' l' T2 hmd fun hi=>hno (.inl hi)
     ·rw[hset i (by omega)]
      exact hx i hi
    ·cases h2
   ·cases h2
  | @e i o' rest fr0 m0 m' v fr' vs' frE0 mE0 S0 A0 ho hk hwt hcore hp t=>
   have hoo:o'=o:=some_inj' (ho.symm.trans hq)
   subst hoo
   have hw:=wantE_ok' hwt hR.fr H
   refine⟨fun _=>?_,fun hf=>by rw[hw] at hf;cases hf⟩
   obtain⟨hej,hjl,hes2⟩:=esNext hk
   have hS1:=esAt rfl hsp hk
   have hSm:Sm=m1:=by
    rw[e3,List.getElem?_append_right (by omega),hS1,Nat.sub_self] at hSj
    simpa using hSj.symm
   subst hSm
   obtain⟨m2,S3,hS3,hgrow⟩:=t.head
   refine Oper.wpIn_mono (fun a' w'=>?_) (V_op_sound hE hdo ⟨β,hR⟩ (hcore.2 D F C I M (fun F' C' I' M'=>∃ D',D.ext D' Sm.n∧PFv o'.dst v D' F F'∧MS (RX X G pr) D' m' I' M') hO hms fun D' F' C' I' M' g1 g2 g3=>⟨D',g1,g2,g3⟩))
   rintro⟨F',C',I',M',hr',D',g1,g2,g3⟩
   have hle:=hms.le g1
   obtain⟨f1,f2⟩:=DJ.fr hD hq hqL hvn (hvsq rfl) hle g2 hA1 hB1
   refine⟨D',F',C',I',M',j+1,m2,hr',hes2,hjl,?_,g3.grow hgrow,f1,f2,fun i c l T hmd hno=>?_,Nm.ext_trans hx g1 hn0m⟩
   ·rw[e3,List.getElem?_append_right (by omega),hS1,show j+1 - j=0+1 by omega,List.getElem?_cons_succ,hS3]
    rfl
   ·rcases e9 i c l T hmd with h | h
    ·have:=(t.made_ge.2 i c l T h).1
     cases hDc:D' c with
     | none=>rfl
     | some b=>have:=g3.dom _ _ hDc;omega
    ·rw[g1 c h]
     exact hN i c l T hmd fun hi=>hno (.inl hi)
  | @skip i k' o' rest fr0 m0 fr' vs' frE0 mE0 S0 A0 ho hk hwt hp t=>
   have hoo:o'=o:=some_inj' (ho.symm.trans hq)
   subst hoo
   have hw:=wantE_ok' hwt hR.fr H
   refine⟨fun hf=>(by rw[hw] at hf;cases hf),fun _=>?_⟩
   have hR':Rel X (a.put o'.dst undef) w (put o'.dst (.val undef) F) C I M:=⟨β,hR.put (x:=.val undef) hdo rfl⟩
   have hpv:PFv o'.dst (.t []) D F (put o'.dst (.val undef) F):=.put F (.val .undef)
   by_cases hk2:k=2
   ·subst hk2
    obtain⟨hej,hjl,hes2⟩:=esNext hk
    have hS1:=esAt rfl hsp hk
    have hSm:Sm=m1:=by
     rw[e3,List.getElem?_append_right (by omega),hS1,Nat.sub_self] at hSj
     simpa using hSj.symm
    subst hSm
    obtain⟨m2,S3,hS3,hgrow⟩:=t.head
    obtain⟨f1,f2⟩:=DJ.fr hD hq hqL hvn (hvsq rfl) (Nm.le_refl D) hpv hA1 hB1
    refine⟨D,_,C,I,M,j+1,m2,hR',hes2,hjl,?_,hms.grow hgrow,f1,f2,fun i c l T hmd hno=>hN i c l T hmd fun hi=>hno (.inl hi),hx⟩
    rw[e3,List.getElem?_append_right (by omega),hS1,show j+1 - j=0+1 by omega]
    show (Sm::S0)[0+1]?=some m2
    rw[List.getElem?_cons_succ,hS3]
    rfl
   ·exact plain (hvsq rfl) (by rw[hk];exact hk2) (fun _ _ _=>.inr trivial) hR' hpv
 simpa using key
end
theorem okC_code {n:Nat}:∀ {c:Code},okC n c=true→codeOk n c=true
 | .seq x y,h=>by simp only[okC,codeOk,Bool.and_eq_true] at h ⊢;exact⟨okC_code h.1,okC_code h.2⟩
 | .block _ c,h=>by simp only[okC,codeOk] at h ⊢;exact okC_code h
 | .cond _ x y,h=>by simp only[okC,codeOk,Bool.and_eq_true] at h ⊢;exact⟨okC_code h.1,okC_code h.2⟩
 | .loop c,h=>by simp only[okC,codeOk] at h ⊢;exact okC_code h
 | .region _ ops _,h=>h
 | .scope c,h=>rfl
 | .rangeFunc ..,h=>rfl
 | .skip,h | .exit _,h | .label _,h | .goto _,h | .ret,h | .refuse _,h=>rfl
theorem okC_label {n:Nat}:∀ {c:Code} {l:Nat} {r:Code},okC n c=true→findLabel c l=some r→okC n r=true
 | .seq x y,l,r,h,hl=>by
  simp only[okC,Bool.and_eq_true] at h
  simp only[findLabel] at hl
  split at hl
  ·rename_i rest hr
   cases hl
   simp only[okC,Bool.and_eq_true]
   exact⟨okC_label h.1 hr,h.2⟩
  ·exact okC_label h.2 hl
 | .label l',l,r,h,hl=>by
  simp only[findLabel] at hl
  split at hl
  ·cases hl;rfl
  ·cases hl
 | .skip,_,_,_,hl | .exit _,_,_,_,hl | .goto _,_,_,_,hl | .ret,_,_,_,hl | .refuse _,_,_,_,hl | .block _ _,_,_,_,hl | .cond _ _ _,_,_,_,hl | .loop _,_,_,_,hl | .scope _,_,_,_,hl | .region _ _ _,_,_,_,hl | .rangeFunc _ _ _ _,_,_,_,hl=>by simp[findLabel] at hl
def FunsOK (P:Program):Prop:=∀ (g:Nat) (fn:Func) (c:Code),P.funcs[g]?=some fn→fn.body=some c→okC fn.ntmps c=true∧(fn.name == "runtime.NumGoroutine")=false
def funsChk (P:Program):Bool:=P.funcs.toList.all fun fn=>match fn.body with
 | some c=>okC fn.ntmps c && !(fn.name == "runtime.NumGoroutine")
 | none=>true
theorem funsOK_of {P:Program} (h:funsChk P=true):FunsOK P:=fun g fn c hf hb=>by
 have h1:=List.all_eq_true.1 h fn (by rw[←Array.mem_def];exact Array.mem_of_getElem? hf)
 simp only[hb,Bool.and_eq_true,Bool.not_eq_true'] at h1
 exact h1
def PrimOK (Y:RK):Prop:=∀ g vs m v m',Y.pr g vs m=some (v,m')→∀ (D:Nm) (I:GH) (M:List Blk) (us:List Value),VRs D vs us→MS Y D m I M→Spec Y.P g us I M fun r I' M'=>∃ D',D.ext D' m.n∧VR D' v r∧MS Y D' m' I' M'
def toExit:Ex→Exit
 | .normal=>.normal
 | .exit id=>.exit id
 | .goto l=>.goto l
 | .ret=>.ret
def RkX (Y:RK) (n B:Nat) (h0:World) (I0:GH) (foot:List Nat) (ro:Option Nat):Ctx:=⟨Y.P,Y.E,List.range n,n,B,h0,I0,foot,ro⟩
theorem RkX.esc {Y:RK} {n B:Nat} {h0:World} {I0:GH} {foot:List Nat} {ro:Option Nat}:∀ d,d < (RkX Y n B h0 I0 foot ro).n→(RkX Y n B h0 I0 foot ro).esc.contains d=true:=fun d hd=>by
 have hd':d < n:=hd
 show (List.range n).contains d=true
 simpa using hd'
def CodeOK (Y:RK) (f:Nat):Prop:=∀ top n c fr m ex fr' m',E_code Y f top n c fr m=some (ex,fr',m')→okC n c=true→∀ B h0 I0 foot ro D0 n0 a w,(top=true→ro=none)→St (RkX Y n B h0 I0 foot ro) Y.G Y.pr D0 n0 fr m a w →
 c.wpIn (fen (RkX Y n B h0 I0 foot ro)) 0 Y.P (fun e a w=>e=toExit ex∧St (RkX Y n B h0 I0 foot ro) Y.G Y.pr D0 n0 fr' m' a w) a w
theorem bare_get {α:Type}:∀ (n k:Nat),(Tri.bare n:Tri α).get k=none
 | 0,k=>rfl
 | n+1,k=>by
  rw[Tri.bare,Tri.get_node]
  cases Nat.beq k 0 with
  | true=>rfl
  | false=>
   cases Nat.beq (k % 2) 1 with
   | true=>exact bare_get n _
   | false=>exact bare_get n _
section
variable {X:Ctx} {G:GT} {pr:PR} {D:Nm} {m:Me} {F:Fr} {fr:Tri EV} {C:Bx} {I:GH} {M:List Blk}
theorem resE_ok (hF:FR D F fr) (hm:MS (RX X G pr) D m I M):∀ {rs:List ResultVar} {vs:List EV} {K:List Value→Prop},resE (RX X G pr) fr m.t rs=some vs→(∀ us,VRs D vs us→K us)→resV X F C I M rs K
 | [],vs,K,h,hk=>by
  simp only[resE] at h
  cases h
  exact hk [] .nil
 | .tmp t::l,vs,K,h,hk=>by
  simp only[resE] at h
  split at h
  ·rename_i v vs' h1 h2
   cases h
   obtain⟨u,e1,g1⟩:=(show SvE D (evr F (.tmp t)) v from hF t v h1).evq
   unfold resV
   rw[e1]
   exact resE_ok hF hm h2 fun us hus=>hk _ (.cons g1 hus)
  ·cases h
 | .cell t ty::l,vs,K,h,hk=>by
  simp only[resE] at h
  split at h
  ·rename_i x i vs' h1 h2 h3
   split at h
   ·rename_i v hv
    cases h
    have hnb:∀ q,x≠.b q:=fun q e=>by subst e;cases hv
    obtain⟨u,e1,g1⟩:=SvE.nb (hF t x h1:SvE D (evr F (.tmp t)) x) hnb
    obtain⟨ad,l',us',rfl,hrd,hl,hp⟩:=loadE_ok hm g1 hv
    have h2':X.E ty=some i:=h2
    have e1':evr F (.tmp t)=.val (.pointer (some ad)):=e1
    unfold resV
    rw[e1',h2']
    exact⟨us',hrd,resE_ok hF hm h3 fun us hus=>hk _ (.cons (packE_ok hp hl) hus)⟩
   ·cases h
  ·cases h
end
theorem call_fn {Y:RK} (hE:EOK Y.P Y.E) (hF:FunsOK Y.P) (hpr:PrimOK Y) {f:Nat} (hc:CodeOK Y f) {g:Nat} {args:List EV} {m:Me} {v:EV} {fn:Func} {c:Code} {us:List Value} {D:Nm} {I:GH} {M:List Blk} (hf:Y.P.funcs[g]?=some fn) (hb:fn.body=some c)
  (hle:args.length≤fn.ntmps) {fr fr':Tri EV} (hfr:∀ t w,fr.get t=some w→args[t]?=some w) {ex:Ex} {m1:Me} (hex:ex=.normal∨ex=.ret) (h:E_code Y f true fn.ntmps c fr m=some (ex,fr',m1)) {vs:List EV} (hr:resE Y fr' m1.t fn.results.toList=some vs)
  (hv:v=resOf vs) (hu:VRs D args us) (hm:MS Y D m I M):SpecE Y.P g us I M fun r I' M'=>∃ D',D.ext D' m.n∧VR D' v r∧MS Y D' m1 I' M':=by
 obtain⟨hok,hnm⟩:=hF g fn c hf hb
 refine specE_of_W (List.range fn.ntmps) hE hf hb hnm ?_ fun B h0 a w hR=>?_
 ·rw[Bool.and_eq_true]
  exact⟨okC_code hok,Nat.ble_eq_true_of_le (by rw[hu.len];exact hle)⟩
 ·have hfr0:FR D (frOf us) fr:=fun t w hw=>by
   obtain⟨x,h1,h2⟩:=hu.get (hfr t w hw)
   refine .inl ⟨x,?_,h2⟩
   simp only[frOf,h1]
  have hst:St (RkX Y fn.ntmps B h0 I (M.map (·.num)) none) Y.G Y.pr D m.n fr m a w:=⟨D,_,_,I,M,hR,hfr0,hm,Nm.ext_refl,Nat.le_refl _⟩
  refine wpIn_mono (hc _ _ _ _ _ _ _ _ h hok B h0 I (M.map (·.num)) none D m.n a w (fun _=>rfl) hst) ?_
  rintro e a' w' ⟨rfl,D',F',C',I',M',hR',hF',hm',hx,hn⟩
  have hres:∀ ex',ex'=.normal∨ex'=.ret→retK (RkX Y fn.ntmps B h0 I (M.map (·.num)) none) fn.results.toList (fun r I' M'=>∃ D',D.ext D' m.n∧VR D' v r∧MS Y D' m1 I' M') ex' F' C' I' M':=fun ex' he=>by
   have hdone:=resE_ok (X:=RkX Y fn.ntmps B h0 I (M.map (·.num)) none) (G:=Y.G) (pr:=Y.pr) (C:=C') hF' hm' hr (K:=fun vs=>match vs with
    | [v']=>RetOb (M.map (·.num)) I' M' ((fun r I' M'=>∃ D',D.ext D' m.n∧VR D' v r∧MS Y D' m1 I' M') v')
    | vs=>RetOb (M.map (·.num)) I' M' ((fun r I' M'=>∃ D',D.ext D' m.n∧VR D' v r∧MS Y D' m1 I' M') (.tuple vs.toArray))) fun us' hus=>by
     clear hr
     match vs,us',hus,hv with
     | [],us',hus,hv=>
      rw[hus.unnil]
      refine⟨I',M',.refl,D',hx,?_,hm'⟩
      rw[hv]
      exact .mkTup .nil
     | [v1],us',hus,hv=>
      obtain⟨x,xs,h1,h2,rfl⟩:=hus.uncons
      rw[h2.unnil]
      refine⟨I',M',.refl,D',hx,?_,hm'⟩
      rw[hv]
      exact h1
     | v1::v2::vs,us',hus,hv=>
      obtain⟨x,xs,h1,h2,rfl⟩:=hus.uncons
      obtain⟨y,ys,h3,h4,rfl⟩:=h2.uncons
      refine⟨I',M',.refl,D',hx,?_,hm'⟩
      rw[hv]
      exact .mkTup hus
   rcases he with rfl | rfl<;>exact hdone
  rcases hex with rfl | rfl
  ·exact⟨F',C',I',M',hR',hres _ (.inl rfl)⟩
  ·exact⟨F',C',I',M',hR',hres _ (.inr rfl)⟩
theorem Spec.weakK {P:Program} {f:Nat} {args:List Value} {I:GH} {M:List Blk} {p q:Value→GH→List Blk→Prop} (h:Spec P f args I M p) (hk:∀ v I' M',p v I' M'→q v I' M'):Spec P f args I M q:=by
 rcases h with ⟨h1,h2⟩ | h
 ·refine .inl ⟨h1,fun w hw=>?_⟩
  refine(h2 w hw).mono ?_
  rintro e w' ⟨v,I',M',e1,e2,e3,e4⟩
  exact⟨v,I',M',e1,hk _ _ _ e2,e3,e4⟩
 ·refine .inr fun w hw=>?_
  obtain⟨v,w',I',M',e1,e2,e3,e4⟩:=h w hw
  exact⟨v,w',I',M',e1,hk _ _ _ e2,e3,e4⟩
section
variable {Y:RK} {D:Nm} {m m':Me} {I:GH} {M:List Blk}
theorem callB_ok (hE:EOK Y.P Y.E) (hF:FunsOK Y.P) (hpr:PrimOK Y) {f:Nat} (hc:CodeOK Y f) {g:Nat} {args:List EV} {v:EV} {us:List Value} (h:callB Y (E_code Y f) g args m=some (v,m')) (hu:VRs D args us) (hm:MS Y D m I M) :
  SpecE Y.P g us I M fun r I' M'=>∃ D',D.ext D' m.n∧VR D' v r∧MS Y D' m' I' M':=by
 unfold callB at h
 obtain⟨fn,hf,h1⟩:=opn_eq h
 obtain⟨c,hb,h2⟩:=opn_eq h1
 obtain⟨hle,h3⟩:=cnd_some h2
 obtain⟨fr,g1,g2⟩:=Tri.puts_ok args (Tri.bare 12) 0
 rw[g1] at h3
 have hfr:∀ t w,fr.get t=some w→args[t]?=some w:=fun t w hw=>by
  rcases g2 t w hw with ⟨_,h⟩ | ⟨_,h⟩
  ·simpa using h
  ·rw[bare_get] at h;cases h
 unfold callRk at h3
 split at h3
 ·rename_i fr' m1 hx
  unfold retE at h3
  obtain⟨vs,hr,h4⟩:=opn_eq h3
  cases h4
  exact call_fn hE hF hpr hc hf hb (Nat.le_of_ble_eq_true hle) hfr (.inl rfl) hx hr rfl hu hm
 ·rename_i fr' m1 hx
  unfold retE at h3
  obtain⟨vs,hr,h4⟩:=opn_eq h3
  cases h4
  exact call_fn hE hF hpr hc hf hb (Nat.le_of_ble_eq_true hle) hfr (.inr rfl) hx hr rfl hu hm
 ·cases h3
theorem callF_ok (hE:EOK Y.P Y.E) (hF:FunsOK Y.P) (hpr:PrimOK Y) {f:Nat} (hc:CodeOK Y f) {g:Nat} {args:List EV} {v:EV} {us:List Value} (h:callF Y (E_code Y f) g args m=some (v,m')) (hu:VRs D args us) (hm:MS Y D m I M) :
  Spec Y.P g us I M fun r I' M'=>∃ D',D.ext D' m.n∧VR D' v r∧MS Y D' m' I' M':=by
 unfold callF at h
 cases hp:Y.pr g args m with
 | none=>rw[hp] at h;exact .inl (callB_ok hE hF hpr hc h hu hm)
 | some p=>
  rw[hp] at h
  have h':some p=some (v,m'):=h
  cases h'
  exact hpr g args m v m' hp D I M us hu hm
theorem RelB.kept {X:Ctx} {β:Nat→Nat} {a:Act} {w W:World} {F:Fr} {C:Bx} {I0 I':GH} {M0 M':List Blk} (h:RelB X β a w F C I' M') (h1:X.h0=W) (h2:X.B=W.heap.size) (h3:X.I0=I0) (h4:X.foot=M0.map (·.num)):Kept I0 M0 W I' M' w where
 le:=by rw[←h3];exact h.le0
 newI b o hb:=by
  rcases h.new0 b o hb with h5 | h5
  ·exact .inl (by rw[←h3];exact h5)
  ·exact .inr (by rw[←h2];exact h5)
 newM x hx:=by
  rcases h.own x hx with h5 | h5
  ·rw[h4] at h5
   obtain⟨y,hy,e⟩:=List.mem_map.1 h5
   exact .inl ⟨y,hy,e⟩
  ·exact .inr (by rw[←h2];exact h5)
 old b hb hn:=by
  rw[←h1]
  refine h.old b (by rw[h2];exact hb) fun hm=>?_
  rw[h4] at hm
  obtain⟨y,hy,e⟩:=List.mem_map.1 hm
  exact hn y hy e
 out:=by rw[←h1];exact h.out
 sz:=by rw[←h2];exact h.sz
theorem putAllE_ok {R:Type}:∀ {ps:List Nat} {args:List EV} {fr0:Tri EV} {K:Tri EV→Option R} {r:R} {us:List Value} {tmps:Array Value},putAllE ps args fr0 K=some r→VRs D args us→(∀ t∈ps,t < tmps.size)→(∀ t v,fr0.get t=some v→VR D v (tmps.getD t undef)) →
  ∃ fr1,K fr1=some r∧us.length=ps.length∧((ps.zip us).foldl (fun (tmps:Array Value) (p:Nat×Value)=>tmps.setIfInBounds p.1 p.2) tmps).size=tmps.size ∧
   ∀ t v,fr1.get t=some v→VR D v (((ps.zip us).foldl (fun (tmps:Array Value) (p:Nat×Value)=>tmps.setIfInBounds p.1 p.2) tmps).getD t undef)
 | [],[],fr0,K,r,us,tmps,h,hu,hp,h0=>by
  have:=hu.unnil
  subst this
  exact⟨fr0,h,rfl,rfl,h0⟩
 | [],_::_,fr0,K,r,us,tmps,h,hu,hp,h0=>by simp[putAllE] at h
 | _::_,[],fr0,K,r,us,tmps,h,hu,hp,h0=>by simp[putAllE] at h
 | t0::ps,v0::args,fr0,K,r,us,tmps,h,hu,hp,h0=>by
  obtain⟨x,xs,g1,g2,rfl⟩:=hu.uncons
  simp only[putAllE] at h
  obtain⟨fr1,h1,h2⟩:=Tri.set_ok (some v0) fr0 t0
  rw[h1] at h
  have hlt:=hp t0 (by simp)
  obtain⟨fr2,h3,h4,h5,h6⟩:=putAllE_ok (tmps:=tmps.setIfInBounds t0 x) h g2 (fun t ht=>by simpa using hp t (by simp[ht])) fun t v ht=>by
   rw[Array.getD_eq_getD_getElem?,Array.getElem?_setIfInBounds]
   rcases h2 t v ht with ⟨rfl,e⟩ | ⟨hne,hg⟩
   ·have:=(some_inj' e)
    subst this
    simp only[if_true,hlt]
    exact g1
   ·rw[if_neg (Ne.symm hne),←Array.getD_eq_getD_getElem?]
    exact h0 t v hg
  exact⟨fr2,h3,by simp[h4],by simpa using h5,h6⟩
theorem EntR.loopE {E:Env} {a:Loc} {b:Bool} {n:Nat} {fr:Tri EV} {ps:List Nat} {asg body:Code} (h:EntR D E M a (.loop b n fr ps asg body)):∃ L,(⟨a.b,.loop L⟩:Blk)∈M∧LpR D b n fr ps asg body L:=by
 cases h with
 | loop L h1 h2=>exact⟨L,h1,h2⟩
theorem EntR.doneE {E:Env} {a:Loc} {c:Code} {n:Nat} {fr:Tri EV} {ps:List Nat} {asg body:Code} (h:EntR D E M a (.done c n fr ps asg body)):∃ L,(⟨a.b,.loop L⟩:Blk)∈M∧L.state=.done∧L.pending=some c:=by
 cases h with
 | done L h1 h2 h3=>exact⟨L,h1,h2,h3⟩
theorem MS.swap (h:MS Y D m I M) {t':Tri Ent} {l:Nat} {e0 e1:Ent} {al:Loc} {o o':Obj} {Mr:List Blk} (hg:m.t.get l=some e0) (ha:D l=some al) (hM:M.Perm (⟨al.b,o⟩::Mr)) (ht:∀ id e,t'.get id=some e→(id=l∧some e1=some e)∨(id≠l∧m.t.get id=some e))
  (he:EntR D Y.E (⟨al.b,o'⟩::Mr) al e1):MS Y D ⟨t',m.n⟩ I (⟨al.b,o'⟩::Mr):=by
 refine h.step (fun id e hi=>(ht id e hi).imp (fun q=>⟨q.1,some_inj' q.2⟩) fun q=>q) ha (Nm.le_refl D) (fun _ _=>rfl) h.dom (fun _ _ h=>h) (fun id e a' hne hi hai x hx hn=>?_) he fun id e a' hne hi hai hb=>hne (h.inj _ _ _ _ _ _ hi hg hai ha hb)
 rcases List.mem_cons.1 (hM.mem_iff.1 hx) with rfl | hx
 ·exact(hne (h.inj _ _ _ _ _ _ hi hg hai ha hn.symm)).elim
 ·exact List.mem_cons_of_mem _ hx
end
section
variable {Y:RK} {D:Nm} {m m':Me} {I:GH} {M:List Blk}
theorem callY_ok {f:Nat} (hc:CodeOK Y f) {l:Nat} {args:List EV} {v:EV} {us:List Value} {al:Loc} (h:callY (E_code Y f) l args m=some (v,m')) (hl:D l=some al) (hu:VRs D args us) (hm:MS Y D m I M) :
  SpecY Y.P al.b us I M fun r I' M'=>∃ D',D.ext D' m.n∧VR D' v r∧MS Y D' m' I' M':=by
 unfold callY at h
 split at h
 ·rename_i n fr0 ps asg body hg
  obtain⟨L,hM,hL⟩:=(hm.ent _ _ _ hg hl).loopE
  intro W hW
  have hrec:W.heap[al.b]?=some (.loop L):=hW.m _ hM
  have hst:L.state=.ready:=hL.st
  have hops:∀ t∈ps,t < L.tmps.size:=fun t ht=>by rw[hL.sz];exact hL.op t (by rw[hL.ps];exact ht)
  obtain⟨fr1,h1,hlen,hsz,hfr1⟩:=putAllE_ok (tmps:=L.tmps) h hu hops hL.fr
  have hps:L.params.size=ps.length:=by rw[←hL.ps];simp
  refine⟨_,_,_,_,run_yield hrec (by rw[hps];simpa using hlen),?_⟩
  have htm:(L.params.zip us.toArray).foldl (fun tmps (x:Nat×Value)=>match x with | (t,a)=>tmps.setIfInBounds t a) L.tmps=(ps.zip us).foldl (fun (tmps:Array Value) (p:Nat×Value)=>tmps.setIfInBounds p.1 p.2) L.tmps:=by
   rw[←Array.foldl_toList,←hL.ps]
   simp
  rw[htm]
  generalize hT:(ps.zip us).foldl (fun (tmps:Array Value) (p:Nat×Value)=>tmps.setIfInBounds p.1 p.2) L.tmps=T at hfr1 hsz
  rw[hL.asg,hL.body]
  have hoa:okC n asg=true:=by rw[←hL.asg];exact hL.oa
  have hob:okC n body=true:=by rw[←hL.body];exact hL.ob
  refine roundIn_of_wpIn (F:=Fence.wide) (n:=0) trivial ?_
  let X1:Ctx:=RkX Y n W.heap.size W I (M.map (·.num)) (some al.b)
  have hrel:RelB X1 (fun _=>0) { tmps:=T,defers:=[] } W (fun t=>.val (T.getD t undef)) (fun _=>none) I M:={
   size:=hsz.trans hL.sz
   defers:=⟨[],rfl,List.nodup_nil,fun r hr=>by cases hr⟩
   holds:=hW
   fr:=fun t=>rfl
   bx:=fun s cs hs=>by cases hs
   inj:=fun s s' h1=>by simp at h1
   le0:=fun b o hb=>hb
   new0:=fun b o hb=>.inl hb
   own:=fun x hx=>.inl (List.mem_map.2 ⟨x,hx,rfl⟩)
   old:=fun b hb hf=>rfl
   out:=.refl _
   sz:=Nat.le_refl _ }
  unfold begR at h1
  split at h1
  ·rename_i fr2 m2 hasg
   have hs1:St X1 Y.G Y.pr D m.n fr1 m { tmps:=T,defers:=[] } W:=⟨D,_,_,I,M,⟨_,hrel⟩,fun t v hv=>.val (hfr1 t v hv),hm,Nm.ext_refl,Nat.le_refl _⟩
   refine wpIn_mono (hc _ _ _ _ _ _ _ _ hasg hoa _ _ _ _ _ D m.n _ _ (fun e=>by cases e) hs1) ?_
   rintro e a1 w1 ⟨rfl,D2,F2,C2,I2,M2,⟨β2,hR2⟩,hF2,hm2,hx2,hn2⟩
   have hl2:D2 l=some al:=by rw[hx2 l (hm.dom _ _ hl)];exact hl
   have h2:begQ (E_code Y f) l n body (m2.t.get l) fr2 m2=some (v,m'):=h1
   unfold begQ at h2
   split at h2
   ·rename_i n' fr0' ps' asg' body' hg2
    obtain⟨L2,hM2,hL2⟩:=(hm2.ent _ _ _ hg2 hl2).loopE
    obtain⟨pre,post,hsp⟩:=List.append_of_mem hM2
    have hperm:M2.Perm (⟨al.b,.loop L2⟩::(pre++post)):=by rw[hsp];exact List.perm_middle
    have hh1:w1.heap[al.b]?=some (.loop L2):=hR2.holds.m _ hM2
    have hlt1:=(Array.getElem?_eq_some_iff.1 hh1).1
    refine⟨_,run_beginRound hh1 hL2.st,?_⟩
    obtain⟨t3,h3,h4⟩:=Tri.set_ok (some (Ent.loop true n' fr0' ps' asg' body')) m2.t l
    rw[h3] at h2
    have hR3:RelB X1 β2 a1 (w1.putObj al.b (.loop { L2 with state:=.busy })) F2 C2 I2 (⟨al.b,.loop { L2 with state:=.busy }⟩::(pre++post)):=
     (hR2.wk (.perm hperm .refl)).swap (by simp) (World.putObj_heap_same hlt1) (fun b hb=>World.putObj_heap_other hb) (putObj_same _ _ _)
    have hm3:MS Y D2 ⟨t3,m2.n⟩ I2 (⟨al.b,.loop { L2 with state:=.busy }⟩::(pre++post)):=hm2.swap hg2 hl2 hperm h4 (.loop { L2 with state:=.busy } (by simp) ⟨rfl,hL2.pd,hL2.sz,hL2.fr,hL2.ps,hL2.asg,hL2.body,hL2.oa,hL2.ob,hL2.op⟩)
    unfold endRk at h2
    obtain⟨⟨ex,fr4,m4⟩,hbody,h5⟩:=opn_eq h2
    have hs3:St X1 Y.G Y.pr D m.n fr2 ⟨t3,m2.n⟩ a1 (w1.putObj al.b (.loop { L2 with state:=.busy })):=⟨D2,F2,C2,I2,_,⟨β2,hR3⟩,hF2,hm3,hx2,hn2⟩
    refine wpIn_mono (hc _ _ _ _ _ _ _ _ hbody hob _ _ _ _ _ D m.n _ _ (fun e=>by cases e) hs3) ?_
    rintro e a4 w4 ⟨rfl,D4,F4,C4,I4,M4,⟨β4,hR4⟩,hF4,hm4,hx4,hn4⟩
    have hl4:D4 l=some al:=by rw[hx4 l (hm.dom _ _ hl)];exact hl
    have h6:endQ l (m4.t.get l) (codeOf ex) m4=some (v,m'):=h5
    unfold endQ at h6
    split at h6
    ·rename_i n4 fr04 ps4 asg4 body4 hg4
     obtain⟨L4,hM4,hL4⟩:=(hm4.ent _ _ _ hg4 hl4).loopE
     obtain⟨pre4,post4,hsp4⟩:=List.append_of_mem hM4
     have hperm4:M4.Perm (⟨al.b,.loop L4⟩::(pre4++post4)):=by rw[hsp4];exact List.perm_middle
     have hh4:w4.heap[al.b]?=some (.loop L4):=hR4.holds.m _ hM4
     have hlt4:=(Array.getElem?_eq_some_iff.1 hh4).1
     obtain⟨t5,h7,h8⟩:=Tri.set_ok (some (opn (codeOf ex) (Ent.loop false n4 fr04 ps4 asg4 body4) fun c=>Ent.done c n4 fr04 ps4 asg4 body4)) m4.t l
     rw[h7] at h6
     cases h6
     have fin:∀ jump,codeOf ex=jump→∃ v' w',(Instr.endRound al.b jump).run Y.P w4=.ok v' w'∧∃ r I' M',Ending.returned v'=.returned r∧(∃ D',D.ext D' m.n∧VR D' (.b (codeOf ex).isNone) r∧MS Y D' ⟨t5,m4.n⟩ I' M')∧Holds I' M' w'∧Kept I M W I' M' w':=by
      rintro jump hj
      let L5:Loop:={ L4 with state:=if jump.isNone then .ready else .done,pending:=jump }
      have hR5:RelB X1 β4 a4 (w4.putObj al.b (.loop L5)) F4 C4 I4 (⟨al.b,.loop L5⟩::(pre4++post4)):=
       (hR4.wk (.perm hperm4 .refl)).swap (by simp) (World.putObj_heap_same hlt4) (fun b hb=>World.putObj_heap_other hb) (putObj_same _ _ _)
      refine⟨_,_,run_endRound jump hh4,_,I4,_,rfl,⟨D4,hx4,?_,hm4.swap hg4 hl4 hperm4 h8 ?_⟩,hR5.holds,hR5.kept rfl rfl rfl rfl⟩
      ·rw[hj]
       simp[VR]
      ·rw[hj]
       cases jump with
       | none=>exact .loop L5 (by simp) ⟨rfl,rfl,hL4.sz,hL4.fr,hL4.ps,hL4.asg,hL4.body,hL4.oa,hL4.ob,hL4.op⟩
       | some c=>exact .done L5 (by simp) rfl rfl
     cases ex with
     | normal=>exact fin none rfl
     | exit id=>exact fin _ rfl
     | goto t=>exact fin _ rfl
     | ret=>exact fin _ rfl
    ·cases h6
   ·cases h2
  ·cases h1
 ·cases h
end
section
variable {Y:RK}
theorem call_ok (hE:EOK Y.P Y.E) (hF:FunsOK Y.P) (hpr:PrimOK Y) {f:Nat} (hc:CodeOK Y f):CallOK Y (E_call Y (E_code Y f)):=fun fv l m v m' h D I M u us hfv hus hm=>by
 unfold E_call at h
 split at h
 ·rename_i g fs cs
  simp only[VR] at hfv
  obtain⟨vs,ws,h1,h2,rfl⟩:=hfv
  refine .inl ⟨g,_,_,rfl,?_⟩
  have:=callF_ok hE hF hpr hc h (h1.append (hus.append h2)) hm
  simpa using this
 ·rename_i q
  simp only[VR] at hfv
  obtain⟨al,h1,rfl⟩:=hfv
  exact .inr ⟨al.b,rfl,callY_ok hc h h1 hus hm⟩
 ·cases h
theorem St.world {X:Ctx} {G:GT} {pr:PR} {D0:Nm} {n0:Nat} {fr:Tri EV} {m:Me} {a:Act} {w:World} (h:St X G pr D0 n0 fr m a w):∃ D F β,(∀ t,SVok β (F t) (a.tmps.getD t undef))∧FR D F fr:=by
 obtain⟨D,F,C,I,M,⟨β,hR⟩,hF,_⟩:=h
 exact⟨D,F,β,hR.fr,hF⟩
theorem St.eval {X:Ctx} {G:GT} {pr:PR} {D0:Nm} {n0:Nat} {fr:Tri EV} {m:Me} {a:Act} {w:World} (h:St X G pr D0 n0 fr m a w) {x:Operand} {b:Bool} (hx:rdO fr x=some (.b b)):a.eval x=.bool b:=by
 obtain⟨D,F,β,h1,h2⟩:=h.world
 obtain⟨u,e1,g1⟩:=(h2.op [x]).ev (x:=x) (by simp) hx
 rw[eval_of_ev h1 e1,g1.bool]
theorem SvE.ok {D:Nm} {β:Nat→Nat} {x:SV} {v:EV} {u:Value} (h:SvE D x v) (hx:SVok β x u):VR D v u:=by
 rcases h with ⟨y,rfl,h⟩ | ⟨q,rfl,rfl⟩
 ·have:u=y:=hx
  subst this
  exact h
 ·have:u=.bool q:=hx
  subst this
  simp[VR]
theorem range_ok (hE:EOK Y.P Y.E) (hF:FunsOK Y.P) (hpr:PrimOK Y) {f:Nat} (hc:CodeOK Y f) {top:Bool} {n:Nat} {x:Operand} {ps:Array Tmp} {asg body:Code} {fr fr':Tri EV} {m m':Me} {ex:Ex} (h:c_range Y (E_code Y f) top n (rdO fr x) ps.toList asg body fr m=some (ex,fr',m'))
  (hok:okC n (.rangeFunc x ps asg body)=true) {B:Nat} {h0:World} {I0:GH} {foot:List Nat} {ro:Option Nat} {D0:Nm} {n0:Nat} {a:Act} {w:World} (hro:top=true→ro=none) (hs:St (RkX Y n B h0 I0 foot ro) Y.G Y.pr D0 n0 fr m a w) :
  (Code.rangeFunc x ps asg body).wpIn (fen (RkX Y n B h0 I0 foot ro)) 0 Y.P (fun e a w=>e=toExit ex∧St (RkX Y n B h0 I0 foot ro) Y.G Y.pr D0 n0 fr' m' a w) a w:=by
 unfold c_range at h
 split at h
 ·rename_i g cap hx
  have hro':=hro rfl
  subst hro'
  obtain⟨D,F,C,I,M,⟨β,hR⟩,hFR,hm,hx0,hn0⟩:=hs
  obtain⟨u,e1,g1⟩:=(hFR.op [x]).ev (x:=x) (by simp) hx
  simp only[VR] at g1
  obtain⟨vs,ws,h1,h2,rfl⟩:=g1
  have hvs:=h1.unnil
  subst hvs
  simp only[okC,Bool.and_eq_true] at hok
  obtain⟨t1,h3,h4⟩:=newE_ok h
  refine wpIn_rangeFunc fun fn _=>?_
  let rc:Loop:={ state:=.ready,pending:=none,fn:=fn,tmps:=a.tmps,params:=ps,assign:=asg,body:=body,defers:=w.heap.size }
  let l:=w.heap.size+1
  let w2:World:=(w.alloc (.deferred (some []))).alloc (.loop rc)
  have hRm:=hR.alloc_mark.alloc_blk (.loop rc)
  have hl:(w.alloc (.deferred (some []))).heap.size=l:=by simp[l]
  rw[hl] at hRm
  have hfrl:∀ q∈M,q.num≠l:=fun q hq e=>by
   have:=hR.holds.lt hq
   omega
  have hms1:MS Y (D.set m.n ⟨l,0,0⟩) ⟨t1,m.n+1⟩ I (⟨l,.loop rc⟩::M):=hm.new (a:=⟨l,0,0⟩) h3 hfrl (.loop rc (by simp) ⟨rfl,rfl,hR.size,fun t v ht=>((hFR t v ht).ok (hR.fr t)).mono (Nm.le_set _ hm.fresh),rfl,rfl,rfl,hok.1,hok.2.1,
   fun t ht=>Nat.le_of_ble_eq_true (List.all_eq_true.1 hok.2.2 t ht)⟩)
  unfold c_left at h4
  obtain⟨⟨v,m2⟩,hcall,h5⟩:=opn_eq h4
  have hle1:=Nm.le_set (D:=D) ⟨l,0,0⟩ hm.fresh
  have hargs:VRs (D.set m.n ⟨l,0,0⟩) (.y m.n::cap) (.func (.yield l) #[] #[]::ws):=.cons (by simp only[VR];exact⟨_,Nm.set_self _ _ _,rfl⟩) (h2.mono hle1)
  obtain⟨hent,hcalls⟩:=callB_ok hE hF hpr hc hcall hargs hms1
  have hcw:=hcalls w2 hRm.holds
  have e2:=eval_of_ev hR.fr e1
  refine⟨l,[markOf w.heap.size],w2,{ target:=.fn (.func g) ws.toArray,args:=#[.func (.yield l) #[] #[]] },w2,g,(.func (.yield l) #[] #[]::ws).toArray,w2,?_,?_,fun _ _=>trivial,?_,(fun h=>by cases h),?_⟩
  ·show (Instr.enterLoop fn a.tmps ps asg body none).run Y.P w=_
   exact run_enterLoop_outer fn a.tmps ps asg body
  ·show (Deferred.ofValue (a.eval x) (#[Operand.const (.func (.yield l) #[] #[])].map a.eval)).run Y.P w2=_
   rw[e2]
   simp[Deferred.ofValue,Act.eval]
  ·simp only[invoke]
   rw[show #[Value.func (.yield l) #[] #[]]++ws.toArray=(.func (.yield l) #[] #[]::ws).toArray from by apply Array.ext';simp]
   exact hent _ _
  ·refine(calls_fen (X:=RkX Y n B h0 I0 foot none) hcw _).mono ?_
   rintro e w3 ⟨r,I3,M3,rfl,⟨D3,hx3,hv3,hm3⟩,hH3,hK3⟩
   have hr3:=hRm.after (Mr:=[]) (by simp) hH3 hK3
   rw[List.append_nil] at hr3
   have hl3:D3 m.n=some ⟨l,0,0⟩:=by rw[hx3 m.n (Nat.lt_succ_self _)];exact Nm.set_self _ _ _
   have hle3:=hms1.le hx3
   have hFR3:FR D3 F fr:=fun t v ht=>(hFR t v ht).mono (Nm.le_trans hle1 hle3)
   have hext:D0.ext D3 n0:=fun i hi=>by
    have hi1:i < m.n+1:=by
     have:i < m.n:=by omega
     omega
    rw[hx3 i hi1]
    show (if i=m.n then _ else D i)=D0 i
    rw[if_neg (by omega)]
    exact hx0 i hi
   have fin:∀ (L:Loop) (t4:Tri Ent) (j:Option Code),(⟨l,.loop L⟩:Blk)∈M3→L.state≠.busy→L.pending=j→(∃ e0,m2.t.get m.n=some e0)→(∀ id e,t4.get id=some e→(id=m.n∧(none:Option Ent)=some e)∨(id≠m.n∧m2.t.get id=some e))→n0≤m2.n →
     ∃ w4,(Instr.endLoop l).run Y.P w3=.ok j w4∧St (RkX Y n B h0 I0 foot none) Y.G Y.pr D0 n0 fr ⟨t4,m2.n⟩ { a with defers:=[markOf w.heap.size]++a.defers } w4:=by
    rintro L t4 j hL hb hp ⟨e0,he0⟩ ht4 hn4
    have hh3:w3.heap[l]?=some (.loop L):=hH3.m _ hL
    obtain⟨pre,post,hsp⟩:=List.append_of_mem hL
    have hperm:M3.Perm (⟨l,.loop L⟩::(pre++post)):=by rw[hsp];exact List.perm_middle
    have hsub:∀ i en,t4.get i=some en→i≠m.n∧m2.t.get i=some en:=fun i en hi=>by
     rcases ht4 i en hi with ⟨_,h8⟩ | h8
     ·cases h8
     ·exact h8
    have hR4:=(hr3.wk (.perm hperm .refl)).dropM (o':=.loop { L with state:=.exhausted })
    refine⟨_,(by rw[←hp];exact run_endLoop hh3 hb),D3,F,C,I3,pre++post,⟨β,hR4⟩,hFR3,⟨fun i en b hi hb'=>?_,fun i i' en en' b b' hi hi'=>hm3.inj i i' en en' b b' (hsub i en hi).2 (hsub i' en' hi').2,hm3.dom,hm3.glo⟩,hext,hn4⟩
    refine(hm3.ent i en b (hsub i en hi).2 hb').mono (Nm.le_refl D3) fun q hq hn=>?_
    rcases List.mem_cons.1 (hperm.mem_iff.1 hq) with rfl | hq
    ·exact((hsub i en hi).1 (hm3.inj _ _ _ _ _ _ (hsub i en hi).2 he0 hb' hl3 hn.symm)).elim
    ·exact hq
   have hn2:∀ {e0:Ent},m2.t.get m.n=some e0→n0≤m2.n:=fun _=>by
    have:=hm3.dom _ _ hl3
    omega
   have h6:(match m2.t.get m.n with
    | some (.loop false ..)=>m2.t.setK none m.n fun t=>some (Ex.normal,fr,(⟨t,m2.n⟩:Me))
    | some (.done c ..)=>opn (exOf c) none fun ex=>m2.t.setK none m.n fun t=>some (ex,fr,⟨t,m2.n⟩)
    | _=>none)=some (ex,fr',m'):=h5
   split at h6
   ·rename_i n3 fr3 ps3 asg3 body3 hg3
    obtain⟨L,hL,hLp⟩:=(hm3.ent _ _ _ hg3 hl3).loopE
    obtain⟨t4,h7,h8⟩:=Tri.set_ok (none:Option Ent) m2.t m.n
    rw[h7] at h6
    cases h6
    obtain⟨w4,h9,h10⟩:=fin L t4 none hL (by rw[hLp.st];simp) hLp.pd ⟨_,hg3⟩ h8 (hn2 hg3)
    exact⟨none,w4,h9,rfl,h10⟩
   ·rename_i c n3 fr3 ps3 asg3 body3 hg3
    obtain⟨L,hL,hst,hpd⟩:=(hm3.ent _ _ _ hg3 hl3).doneE
    obtain⟨ex',hex,h6⟩:=opn_eq h6
    obtain⟨t4,h7,h8⟩:=Tri.set_ok (none:Option Ent) m2.t m.n
    rw[h7] at h6
    cases h6
    obtain⟨w4,h9,h10⟩:=fin L t4 (some c) hL (by rw[hst];simp) hpd ⟨_,hg3⟩ h8 (hn2 hg3)
    refine⟨some c,w4,h9,?_⟩
    unfold exOf at hex
    split at hex
    ·cases hex;exact wpIn_exit ⟨rfl,h10⟩
    ·cases hex;exact wpIn_goto ⟨rfl,h10⟩
    ·cases hex;exact wpIn_ret ⟨rfl,h10⟩
    ·cases hex
   ·cases h6
 ·cases h
end
section
variable {Y:RK}
theorem toExit_then {next:Act→World→Prop} {Q:Exit→Act→World→Prop} {ex:Ex} {a:Act} {w:World} (h:Q (toExit ex) a w) (hne:ex≠.normal):Exit.then next Q (toExit ex) a w:=by
 cases ex<;>first | exact(hne rfl).elim | exact h
theorem code_ok (hE:EOK Y.P Y.E) (hF:FunsOK Y.P) (hpr:PrimOK Y) (hmx:Y.P.follows .mixedOrders=true):∀ f k,k≤f→CodeOK Y k:=by
 intro f
 induction f with
 | zero=>
  intro k hk top n c fr m ex fr' m' h
  have:k=0:=by omega
  subst this
  cases h
 | succ f ih=>
  intro k hk
  by_cases hkf:k≤f
  ·exact ih k hkf
  have hk1:k=f+1:=by omega
  subst hk1
  have hc:=ih f (Nat.le_refl _)
  have hcall:=call_ok hE hF hpr hc
  intro top n c fr m ex fr' m' h hok B h0 I0 foot ro D0 n0 a w hro hs
  have h1:E_codeF Y f (E_code Y f) top n c fr m=some (ex,fr',m'):=h
  have hesc:=@RkX.esc Y n B h0 I0 foot ro
  unfold E_codeF at h1
  cases c with
  | skip=>cases h1;exact wpIn_skip ⟨rfl,hs⟩
  | label l=>cases h1;exact wpIn_label ⟨rfl,hs⟩
  | ret=>cases h1;exact wpIn_ret ⟨rfl,hs⟩
  | exit id=>cases h1;exact wpIn_exit ⟨rfl,hs⟩
  | goto l=>cases h1;exact wpIn_goto ⟨rfl,hs⟩
  | refuse s=>cases h1
  | seq x y=>
   simp only[okC,Bool.and_eq_true] at hok
   simp only[c_then] at h1
   split at h1
   ·rename_i fr1 m1 hx
    refine wpIn_seq (wpIn_mono (hc _ _ _ _ _ _ _ _ hx hok.1 B h0 I0 foot ro D0 n0 a w hro hs) ?_)
    rintro e a1 w1 ⟨rfl,hs1⟩
    exact hc _ _ _ _ _ _ _ _ h1 hok.2 B h0 I0 foot ro D0 n0 a1 w1 hro hs1
   ·rename_i hno
    refine wpIn_seq (wpIn_mono (hc _ _ _ _ _ _ _ _ h1 hok.1 B h0 I0 foot ro D0 n0 a w hro hs) ?_)
    rintro e a1 w1 ⟨rfl,hs1⟩
    exact toExit_then ⟨rfl,hs1⟩ fun e=>hno fr' m' (by rw[h1,e])
  | block id c=>
   simp only[okC] at hok
   simp only[c_block] at h1
   split at h1
   ·rename_i j fr1 m1 hx
    refine wpIn_block (wpIn_mono (hc _ _ _ _ _ _ _ _ hx hok B h0 I0 foot ro D0 n0 a w hro hs) ?_)
    rintro e a1 w1 ⟨rfl,hs1⟩
    simp only[toExit,Exit.inBlock]
    by_cases hj:j=id
    ·subst hj
     rw[beq_self'] at h1
     have h2:some (Ex.normal,fr1,m1)=some (ex,fr',m'):=h1
     cases h2
     rw[if_pos rfl]
     exact⟨rfl,hs1⟩
    ·rw[beq_ne hj] at h1
     have h2:some (Ex.exit j,fr1,m1)=some (ex,fr',m'):=h1
     cases h2
     rw[if_neg hj]
     exact⟨rfl,hs1⟩
   ·rename_i hno
    refine wpIn_block (wpIn_mono (hc _ _ _ _ _ _ _ _ h1 hok B h0 I0 foot ro D0 n0 a w hro hs) ?_)
    rintro e a1 w1 ⟨rfl,hs1⟩
    cases ex with
    | exit j=>exact(hno j fr' m' h1).elim
    | normal=>exact⟨rfl,hs1⟩
    | goto l=>exact⟨rfl,hs1⟩
    | ret=>exact⟨rfl,hs1⟩
  | cond x c1 c2=>
   simp only[okC,Bool.and_eq_true] at hok
   simp only[c_cond] at h1
   split at h1
   ·rename_i b hx
    refine wpIn_cond (hs.eval hx) ?_
    cases b with
    | true=>exact hc _ _ _ _ _ _ _ _ h1 hok.1 B h0 I0 foot ro D0 n0 a w hro hs
    | false=>exact hc _ _ _ _ _ _ _ _ h1 hok.2 B h0 I0 foot ro D0 n0 a w hro hs
   ·cases h1
  | loop c=>
   simp only[okC] at hok
   let J (k:Nat) (a:Act) (w:World):Prop:=k≤f+1∧∃ fr1 m1,E_code Y k top n (.loop c) fr1 m1=some (ex,fr',m')∧St (RkX Y n B h0 I0 foot ro) Y.G Y.pr D0 n0 fr1 m1 a w
   refine wpIn_loop_rel J (m:=f+1) ⟨Nat.le_refl _,fr,m,h,hs⟩ ?_
   rintro k a1 w1 ⟨hk,fr1,m1,h2,hs1⟩
   cases k with
   | zero=>cases h2
   | succ k=>
    have hck:=ih k (by omega)
    have h3:c_then (E_code Y k top n c fr1 m1) (E_code Y k top n (.loop c))=some (ex,fr',m'):=h2
    simp only[c_then] at h3
    split at h3
    ·rename_i fr2 m2 hx
     refine wpIn_mono (hck _ _ _ _ _ _ _ _ hx hok B h0 I0 foot ro D0 n0 a1 w1 hro hs1) ?_
     rintro e a2 w2 ⟨rfl,hs2⟩
     exact⟨k,Nat.lt_succ_self k,by omega,fr2,m2,h3,hs2⟩
    ·rename_i hno
     refine wpIn_mono (hck _ _ _ _ _ _ _ _ h3 hok B h0 I0 foot ro D0 n0 a1 w1 hro hs1) ?_
     rintro e a2 w2 ⟨rfl,hs2⟩
     exact toExit_then ⟨rfl,hs2⟩ fun e=>hno fr' m' (by rw[h3,e])
  | region id ops dr=>
   cases dr with
   | false=>
    simp only[c_ops] at h1
    obtain⟨⟨fr1,m1⟩,hx,h2⟩:=opn_eq h1
    cases h2
    refine wpIn_region ?_
    have:=E_ops_ok (X:=RkX Y n B h0 I0 foot ro) (G:=Y.G) (pr:=Y.pr) (D0:=D0) (n0:=n0) hE hesc hcall ops (fun e a w=>e=toExit .normal∧St (RkX Y n B h0 I0 foot ro) Y.G Y.pr D0 n0 fr1 m1 a w) (fun a w h=>⟨rfl,h⟩) ops.toList 0 (by simp) (opsOk_spec hok) hx hs
    have h9:wpOpsIn (fen (RkX Y n B h0 I0 foot ro)) 0 Y.P ops (fun e a w=>e=toExit .normal∧St (RkX Y n B h0 I0 foot ro) Y.G Y.pr D0 n0 fr1 m1 a w) (List.range' 0 ops.toList.length) a w:=this
    rw[List.range_eq_range']
    simpa using h9
   | true=>
    simp only[c_ops] at h1
    obtain⟨⟨fr1,m1⟩,hx,h2⟩:=opn_eq h1
    cases h2
    exact E_drawn_ok (X:=RkX Y n B h0 I0 foot ro) (G:=Y.G) (pr:=Y.pr) (D0:=D0) (n0:=n0) hE hesc hcall hmx hok hx (fun a w h=>⟨rfl,h⟩) hs
  | scope c=>
   simp only[okC] at hok
   have step:∀ (k:Nat) (x:Code) (fr1:Tri EV) (m1:Me) (a1:Act) (w1:World),okC n x=true→E_scope (E_code Y f) top n c (k+1) x fr1 m1=some (ex,fr',m')→St (RkX Y n B h0 I0 foot ro) Y.G Y.pr D0 n0 fr1 m1 a1 w1 →
     x.wpIn (fen (RkX Y n B h0 I0 foot ro)) 0 Y.P (fun e a' w'=>match e with
      | .goto l=>∃ rest fr2 m2,findLabel c l=some rest∧E_scope (E_code Y f) top n c k rest fr2 m2=some (ex,fr',m')∧St (RkX Y n B h0 I0 foot ro) Y.G Y.pr D0 n0 fr2 m2 a' w'
      | e=>e=toExit ex∧St (RkX Y n B h0 I0 foot ro) Y.G Y.pr D0 n0 fr' m' a' w') a1 w1:=fun k x fr1 m1 a1 w1 hx h2 hs1=>by
    have h3:(match E_code Y f top n x fr1 m1 with
     | some (.goto l,fr,m)=>opn (findLabel c l) none fun rest=>E_scope (E_code Y f) top n c k rest fr m
     | r=>r)=some (ex,fr',m'):=h2
    split at h3
    ·rename_i l fr2 m2 he
     obtain⟨rest,hrest,h4⟩:=opn_eq h3
     refine wpIn_mono (hc _ _ _ _ _ _ _ _ he hx B h0 I0 foot ro D0 n0 a1 w1 hro hs1) ?_
     rintro e a2 w2 ⟨rfl,hs2⟩
     exact⟨rest,fr2,m2,hrest,h4,hs2⟩
    ·rename_i hno
     refine wpIn_mono (hc _ _ _ _ _ _ _ _ h3 hx B h0 I0 foot ro D0 n0 a1 w1 hro hs1) ?_
     rintro e a2 w2 ⟨rfl,hs2⟩
     cases ex with
     | goto l=>exact(hno l fr' m' h3).elim
     | exit j=>exact⟨rfl,hs2⟩
     | normal=>exact⟨rfl,hs2⟩
     | ret=>exact⟨rfl,hs2⟩
   let J (l k:Nat) (a:Act) (w:World):Prop:=∃ rest fr1 m1,findLabel c l=some rest∧E_scope (E_code Y f) top n c k rest fr1 m1=some (ex,fr',m')∧St (RkX Y n B h0 I0 foot ro) Y.G Y.pr D0 n0 fr1 m1 a w
   cases f with
   | zero=>cases h1
   | succ f'=>
    refine wpIn_scope_rel J (wpIn_mono (step f' c fr m a w hok h1 hs) ?_) ?_
    ·intro e a1 w1 he
     cases e with
     | goto l=>exact⟨f',he⟩
     | _=>exact he
    ·rintro l k a1 w1 ⟨rest,fr1,m1,hrest,h2,hs1⟩
     cases k with
     | zero=>cases h2
     | succ k=>
      refine⟨rest,hrest,wpIn_mono (step k rest fr1 m1 a1 w1 (okC_label hok hrest) h2 hs1) ?_⟩
      intro e a2 w2 he
      cases e with
      | goto l'=>exact⟨k,Nat.lt_succ_self k,he⟩
      | _=>exact he
  | rangeFunc x ps asg body=>exact range_ok hE hF hpr hc h1 hok hro hs
theorem reckon (hE:EOK Y.P Y.E) (hF:FunsOK Y.P) (hpr:PrimOK Y) (hmx:Y.P.follows .mixedOrders=true) {f g:Nat} {args:List EV} {m m':Me} {v:EV} (h:callF Y (E_code Y f) g args m=some (v,m')) {D:Nm} {I:GH} {M:List Blk} {us:List Value} (hu:VRs D args us) (hm:MS Y D m I M) :
  Spec Y.P g us I M fun r I' M'=>∃ D',D.ext D' m.n∧VR D' v r∧MS Y D' m' I' M':=
 callF_ok hE hF hpr (code_ok hE hF hpr hmx f f (Nat.le_refl _)) h hu hm
end
theorem frame_end {I I':GH} {M M':List Blk} {w w':World} (h:Holds I M w) (h1:Holds I' M' w') (h2:Kept I [] w I' M' w') :
  Holds I' (M'++M) w'∧Kept I M w I' (M'++M) w'∧∀ x∈M',∀ y∈M,x.num≠y.num:=by
 have hlt:∀ x∈M,x.num < w.heap.size:=fun x hx=>(Array.getElem?_eq_some_iff.1 (h.m x hx)).1
 have hge:∀ x∈M',w.heap.size≤x.num:=fun x hx=>by
  rcases h2.newM x hx with ⟨y,hy,_⟩ | h
  ·cases hy
  ·exact h
 have hne:∀ x∈M',∀ y∈M,x.num≠y.num:=fun x hx y hy e=>by
  have:=hlt y hy
  have:=hge x hx
  omega
 refine⟨⟨h1.i,fun x hx=>?_,fun x hx=>?_,?_⟩,⟨h2.le,h2.newI,fun x hx=>?_,fun b hb _=>h2.old b hb (by simp),h2.out,h2.sz⟩,hne⟩
 ·rcases List.mem_append.1 hx with hx | hx
  ·exact h1.m x hx
  ·rw[h2.old x.num (hlt x hx) (by simp)]
   exact h.m x hx
 ·rcases List.mem_append.1 hx with hx | hx
  ·exact h1.d x hx
  ·cases he:I' x.num with
   | none=>rfl
   | some o=>
    rcases h2.newI _ _ he with h3 | h3
    ·rw[h.d x hx] at h3
     cases h3
    ·have:=hlt x hx
     omega
 ·rw[List.map_append,List.nodup_append]
  refine⟨h1.nd,h.nd,fun a ha b hb e=>?_⟩
  obtain⟨x,hx,rfl⟩:=List.mem_map.1 ha
  obtain⟨y,hy,rfl⟩:=List.mem_map.1 hb
  exact hne x hx y hy e
 ·rcases List.mem_append.1 hx with hx | hx
  ·exact .inr (hge x hx)
  ·exact .inl ⟨x,hx,rfl⟩
theorem Spec.frame {P:Program} {f:Nat} {args:List Value} {I:GH} {M:List Blk} {Q:Value→GH→List Blk→Prop} (h:Spec P f args I [] Q):Spec P f args I M fun r I' M''=>∃ M',M''=M'++M∧(∀ x∈M',∀ y∈M,x.num≠y.num)∧(∀ b o,I b=some o→I' b=some o)∧Q r I' M':=by
 have h0:∀ {w:World},Holds I M w→Holds I [] w:=fun hw=>⟨hw.i,by simp,by simp,by simp⟩
 rcases h with ⟨h1,h2⟩ | h
 ·refine .inl ⟨h1,fun w hw=>?_⟩
  refine(h2 w (h0 hw)).mono ?_
  rintro e w' ⟨v,I',M',e1,e2,e3,e4⟩
  obtain⟨g1,g2,g3⟩:=frame_end hw e3 e4
  exact⟨v,I',M'++M,e1,⟨M',rfl,g3,e4.le,e2⟩,g1,g2⟩
 ·refine .inr fun w hw=>?_
  obtain⟨v,w',I',M',e1,e2,e3,e4⟩:=h w (h0 hw)
  obtain⟨g1,g2,g3⟩:=frame_end hw e3 e4
  exact⟨v,w',I',M'++M,e1,⟨M',rfl,g3,e4.le,e2⟩,g1,g2⟩
section
end
open Go Go.Proofs
theorem lies_many (k:Nat):liesAt Tryz.prog Tryz.prog.depth 168 ((k+1) * 2 / Tryz.prog.cellsOf 168) 0 168 1=true:=by
 have h2:Tryz.prog.cellsOf 168=2:=by kernel_rfl
 have hd:Tryz.prog.depth=(Tryz.prog.depth - 1)+1:=by kernel_rfl
 have hsl:sameLayout Tryz.prog Tryz.prog.depth 168 168=true:=by kernel_rfl
 have hr:rowAt Tryz.prog (sameLayout Tryz.prog Tryz.prog.depth · 168) Tryz.prog.depth 168 (k+1) 0 1=true:=by
  generalize hf:(sameLayout Tryz.prog Tryz.prog.depth · 168)=f
  have hf':f 168=true:=by rw[←hf];exact hsl
  rw[hd]
  unfold rowAt
  simp only[h2,hf']
  simp
 rw[h2,Nat.mul_div_cancel _ (by decide:0 < 2)]
 rw[hd]
 unfold liesAt
 rw[hr]
 rfl
theorem copyCheckN {I:GH} (pre post:List Blk) (b:Nat) (v:Value) (k:Nat) (rest:List Value) (hr:rest.length=2 * k) :
  Spec Tryz.prog 121 [ptr b] I (pre++⟨b,.cells (.pointer none::v::rest).toArray 168 (0,0)⟩::post) fun r I' M'=>r=.tuple #[]∧I'=I∧M'=pre++⟨b,.cells (splice (.pointer none::v::rest) 0 [ptr b]).toArray 168 (0,0)⟩::post:=by
 obtain⟨inf,z,hi,hi1,_⟩:=(TryzEOK 168 _ rfl).inf
 refine spec_of_V [] TryzEOK Tryz.func121 rfl rfl rfl ?_
 intro B h0
 have hm:∀ {o:Obj},(⟨b,o⟩:Blk)∈pre++⟨b,o⟩::post:=fun {o}=>List.mem_append.2 (.inr (.head _))
 have hsz:(Value.pointer none::v::rest).toArray.size=(k+1) * 2:=by
  simp[hr]
  omega
 have hl:liesAt Tryz.prog Tryz.prog.depth 168 ((Value.pointer none::v::rest).toArray.size / Tryz.prog.cellsOf 168) 0 168 1=true:=by
  rw[hsz]
  exact lies_many k
 refine LoadOb.mk [.pointer none] (blk_rd (cs:=.pointer none::v::rest) (k:=0) (n:=1) (T:=168) hm (by simp)) ?_
 refine .other (OtherOb.eqNil TryzEOK rfl (by simp) rfl rfl rfl rfl ?_)
 refine CondOb.mk (fun _=>?_) (fun h=>by cases h)
 refine OtherOb.conv rfl (by simp) rfl (fun w hw=>Lib.run_to_unsafe (t:=168) (e:=168) w ⟨b,0,none⟩ (by kernel_rfl) (by kernel_rfl) (j:=inf) (cells:=(Value.pointer none::v::rest).toArray.size) hi (by rw[hi1];decide) (shape_of hw hm) (by rw[hsz];show 0 < _;omega)) ?_
 refine CallOb.mk (pre++⟨b,.cells (.pointer none::v::rest).toArray 168 (0,0)⟩::post) [] _ (by simp) (NoEscape_spec _) ?_
 rintro v I' M' - ⟨rfl,rfl,rfl⟩
 refine OtherOb.conv rfl (by simp) rfl (fun w hw=>Lib.run_from_unsafe (u:=168) (e:=168) w ⟨b,0,none⟩ (by kernel_rfl) (by kernel_rfl) (j:=inf) (cells:=(Value.pointer none::v::rest).toArray.size) hi (shape_of hw (List.mem_append.2 (.inl hm))) hl) ?_
 refine StoreOb.mk pre post _ _ (List.append_nil _) rfl (by rw[hsz];show 0+0+1≤(k+1) * 2;omega) rfl ?_
 exact⟨_,_,.refl,rfl,rfl,rfl⟩
theorem copyCheckU {I:GH} {M:List Blk} {b:Nat} {arr:Array Value} {T:Nat} (hM:(⟨b,.cells arr T (0,0)⟩:Blk)∈M) (h0:arr[0]?=some (ptr b)) :
  Spec Tryz.prog 121 [ptr b] I M fun r I' M'=>r=.tuple #[]∧I'=I∧M'=M:=by
 refine spec_of_V [] TryzEOK Tryz.func121 rfl rfl rfl ?_
 intro B h0'
 have hr:Rd I M ((⟨b,0,none⟩:Addr).add 0) 1 [ptr b]:=by
  obtain⟨l⟩:=arr
  cases l with
  | nil=>simp at h0
  | cons x l=>
   simp only[List.getElem?_toArray,List.getElem?_cons_zero,Option.some.injEq] at h0
   subst h0
   exact blk_rd (cs:=ptr b::l) (k:=0) (n:=1) hM (by simp)
 refine LoadOb.mk [ptr b] hr ?_
 refine .other (OtherOb.eqNil TryzEOK rfl (by simp) rfl rfl rfl rfl ?_)
 refine CondOb.mk (fun h=>by cases h) (fun _=>?_)
 refine LoadOb.mk [ptr b] hr ?_
 refine .other (OtherOb.neSame TryzEOK rfl (by simp) rfl rfl rfl rfl rfl ?_)
 refine CondOb.mk (fun h=>by cases h) (fun _=>?_)
 exact⟨_,_,.refl,rfl,rfl,rfl⟩
theorem store_at {Y:RK} {D:Nm} {m:Me} {I:GH} {M:List Blk} {R:Type} {id off:Nat} {cs:Tri EV} {T lim:Nat} {a:Loc} {arr:Array Value} {pre post:List Blk} (hm:MS Y D m I M) (hg:m.t.get id=some (.cells cs T lim)) (ha:D id=some a)
  (ho:a.o=0) (hsp:M=pre++⟨a.b,.cells arr T (0,0)⟩::post) (hsz:a.o+lim≤arr.size) (hc:∀ i v,i < lim→cs.get i=some v→∃ x,arr[a.o+i]?=some x∧VR D v x) (hk:∀ i,Y.E T=some i→arr.size=a.o+a.c * i.size) (hmx:a.c≤maxLen)
  {l:List EV} {vs:List Value} (hl:VRs D l vs) {K:Me→Option R} {r:R} (h:storeE m (.p id off) l K=some r) :
  ∃ m',K m'=some r∧m'.n=m.n∧off+vs.length≤arr.size∧MS Y D m' I (pre++⟨a.b,.cells (splice arr.toList off vs).toArray T (0,0)⟩::post):=by
 unfold storeE at h
 simp only[hg] at h
 cases hb:(Nat.ble (Nat.add off l.length) lim && l.all EV.one) with
 | false=>rw[hb] at h;cases h
 | true=>
  rw[hb] at h
  simp only[cond_true] at h
  rw[Bool.and_eq_true] at hb
  have hlim:off+l.length≤lim:=Nat.le_of_ble_eq_true hb.1
  obtain⟨cs',h1,h2⟩:=Tri.puts_ok l cs off
  rw[h1] at h
  obtain⟨t',h3,h4⟩:=Tri.set_ok (some (Ent.cells cs' T lim)) m.t id
  rw[h3] at h
  have hlen:=hl.len
  have hfit:off+vs.length≤arr.size:=by omega
  refine⟨_,h,rfl,hfit,?_⟩
  have hnew:∀ x∈M,x.num≠a.b→x∈pre++⟨a.b,.cells (splice arr.toList off vs).toArray T (0,0)⟩::post:=fun x hx hn=>by
   rw[hsp] at hx
   rcases List.mem_append.1 hx with hx | hx
   ·exact List.mem_append.2 (.inl hx)
   ·rcases List.mem_cons.1 hx with rfl | hx
    ·exact(hn rfl).elim
    ·exact List.mem_append.2 (.inr (List.mem_cons_of_mem _ hx))
  refine hm.step (fun i e hi=>(h4 i e hi).imp (fun q=>⟨q.1,some_inj' q.2⟩) fun q=>q) ha (Nm.le_refl D) (fun _ _=>rfl) hm.dom (fun _ _ h=>h) (fun i e a' hne hi hai x hx hn=>hnew x hx ?_) ?_ ?_
  ·rw[hn]
   exact fun hb=>hne (hm.inj _ _ _ _ _ _ hi hg hai ha hb)
  ·have hls:(splice arr.toList off vs).length=arr.size:=by rw[splice_len (by simpa using hfit)];simp
   refine .cells (splice arr.toList off vs).toArray ho (by simp) (by simp[hls];exact hsz) (fun i v hi hgi=>?_) (fun i hi=>by simp[hls];exact hk i hi) hmx
   rw[ho,Nat.zero_add]
   simp only[List.getElem?_toArray]
   rw[splice_get (by simpa using hfit)]
   rcases h2 i v hgi with ⟨g1,g2⟩ | ⟨g1,g2⟩
   ·have hlt:=(List.getElem?_eq_some_iff.1 g2).1
    rw[if_pos ⟨g1,by omega⟩]
    exact hl.get g2
   ·rw[if_neg (by omega)]
    have:=hc i v hi g2
    rw[ho,Nat.zero_add] at this
    simpa using this
  ·intro i e a' hne hi hai hb
   exact hne (hm.inj _ _ _ _ _ _ hi hg hai ha hb)
noncomputable def ccE (m:Me) (vs:List EV):Option (EV×Me):=match vs with
 | [.p id 0]=>(match m.t.get id with
  | some (.cells cs T lim)=>cnd (Nat.beq T 168 && Nat.ble 2 lim) (match cs.get 0 with
   | some .pn=>storeE m (.p id 0) [.p id 0] fun m=>some (.t [],m)
   | some (.p id' 0)=>cnd (Nat.beq id id') (some (.t [],m)) none
   | _=>none) none
  | _=>none)
 | _=>none
theorem cc_ok {Y:RK} (hY:Y.P=Tryz.prog) (hYE:Y.E=TryzE) {m m':Me} {vs:List EV} {v:EV} (h:ccE m vs=some (v,m')) {D:Nm} {I:GH} {M:List Blk} {us:List Value} (hu:VRs D vs us) (hm:MS Y D m I M) :
  Spec Y.P 121 us I M fun r I' M'=>∃ D',D.ext D' m.n∧VR D' v r∧MS Y D' m' I' M':=by
 unfold ccE at h
 split at h
 ·rename_i id
  obtain⟨x,xs,hx,hn,rfl⟩:=hu.uncons
  obtain rfl:=hn.unnil
  obtain⟨a,ha,rfl⟩:=hx.ptr
  split at h
  ·rename_i cs T lim hg
   obtain⟨h1,hq⟩:=cnd_some h
   clear h
   rw[Bool.and_eq_true] at h1
   obtain⟨hT,hlim⟩:=h1
   obtain rfl:=Nat.eq_of_beq_eq_true hT
   have hlim:=Nat.le_of_ble_eq_true hlim
   obtain⟨arr,ho,hM,hl,hc,hk,hmx⟩:=hm.ent _ _ _ hg ha
   have hsz:=hk _ (by rw[hYE];rfl)
   have hsz:arr.size=a.c * 2:=by
    rw[hsz,ho,Nat.zero_add]
   have hp:Value.pointer (some ⟨a.b,a.o+0,none⟩)=ptr a.b:=by rw[ho];rfl
   split at hq
   ·rename_i hc0
    obtain⟨x0,hx0,hv0⟩:=hc 0 _ (by omega) hc0
    obtain⟨pre,post,hsp⟩:=List.append_of_mem hM
    obtain⟨m1,h2,h3,h4,h5⟩:=store_at hm hg ha ho hsp hl hc hk hmx (l:=[.p id 0]) (vs:=[ptr a.b]) (by simp only[VRs,VR];exact⟨_,_,⟨a,ha,hp.symm⟩,rfl,rfl⟩) hq
    cases h2
    rw[hp,hY,hsp]
    obtain⟨l⟩:=arr
    have hx0':x0=.pointer none:=by simpa only[VR] using hv0
    rw[ho] at hx0
    match l,hx0,hsz with
    | [],hx0,_=>simp at hx0
    | [_],_,hsz=>simp at hsz;omega
    | y::w::rest,hx0,hsz=>
     have hy:y=.pointer none:=by simpa[hx0'] using hx0
     subst hy
     have hrl:rest.length=2 * (a.c - 1):=by simp at hsz;omega
     refine Spec.weakK (copyCheckN pre post a.b w (a.c - 1) rest hrl) ?_
     rintro r I' M' ⟨rfl,rfl,rfl⟩
     exact⟨D,Nm.ext_refl,by simp only[VR,VRs];exact⟨[],rfl,rfl⟩,h5⟩
   ·rename_i id' hc0
    obtain⟨h2,hq2⟩:=cnd_some hq
    obtain rfl:=Nat.eq_of_beq_eq_true h2
    cases hq2
    obtain⟨x0,hx0,hv0⟩:=hc 0 _ (by omega) hc0
    obtain⟨a',ha',rfl⟩:=hv0.ptr
    rw[ha] at ha'
    cases ha'
    rw[hp] at hx0 ⊢
    rw[hY]
    refine Spec.weakK (copyCheckU hM (by rw[←hx0,ho])) ?_
    rintro r I' M' ⟨rfl,rfl,rfl⟩
    exact⟨D,Nm.ext_refl,by simp only[VR,VRs];exact⟨[],rfl,rfl⟩,hm⟩
   ·cases hq
  ·cases h
 ·cases h
def frz (I:GH):List Blk→GH
 | []=>I
 | x::l=>ins (frz I l) x.num x.obj
theorem frz_inv {I:GH}:∀ {M:List Blk} {b:Nat} {o:Obj},frz I M b=some o→I b=some o∨∃ x∈M,x.num=b∧x.obj=o
 | [],b,o,h=>.inl h
 | x::l,b,o,h=>by
  unfold frz ins at h
  by_cases e:b=x.num
  ·subst e
   simp only[beq_self',cond_true,Option.some.injEq] at h
   exact .inr ⟨x,by simp,rfl,h⟩
  ·simp only[beq_ne e,cond_false] at h
   rcases frz_inv h with h | ⟨y,h1,h2,h3⟩
   ·exact .inl h
   ·exact .inr ⟨y,by simp[h1],h2,h3⟩
theorem frz_mem {I:GH}:∀ {M:List Blk} (hn:(M.map (·.num)).Nodup) {x:Blk},x∈M→frz I M x.num=some x.obj
 | y::l,hn,x,h=>by
  simp only[List.map_cons,List.nodup_cons] at hn
  rcases List.mem_cons.1 h with rfl | h
  ·unfold frz ins
   simp only[beq_self',cond_true]
  ·have e:x.num≠y.num:=fun e=>hn.1 (List.mem_map.2 ⟨x,h,e⟩)
   unfold frz ins
   simp only[beq_ne e,cond_false]
   exact frz_mem hn.2 h
theorem frz_le {I:GH}:∀ {M:List Blk} (hd:∀ x∈M,I x.num=none) {b:Nat} {o:Obj},I b=some o→frz I M b=some o
 | [],hd,b,o,h=>h
 | y::l,hd,b,o,h=>by
  have e:b≠y.num:=fun e=>by
   have:=hd y (by simp)
   rw[←e,h] at this
   cases this
  unfold frz ins
  simp only[beq_ne e,cond_false]
  exact frz_le (fun x hx=>hd x (by simp[hx])) h
theorem kn_frz {I:GH} {M:List Blk} (hn:(M.map (·.num)).Nodup) (hd:∀ x∈M,I x.num=none) {b:Nat} {o:Obj} (h:Kn I M b o):frz I M b=some o:=by
 rcases h with h | ⟨x,h1,rfl,rfl⟩
 ·exact frz_le hd h
 ·exact frz_mem hn h1
structure Frz (I:GH) (M:List Blk) (J:GH):Prop where
 kn:∀ b o,Kn I M b o→J b=some o
 inv:∀ b o,J b=some o→Kn I M b o
theorem Frz.rd {I J:GH} {M:List Blk} (h:Frz I M J) {a:Addr} {n:Nat} {vs:List Value} (hr:Rd I M a n vs) (M':List Blk):Rd J M' a n vs:=by
 obtain⟨h1,cs,T,f,h2,h3,h4⟩:=hr
 exact⟨h1,cs,T,f,.inl (h.kn _ _ h2),h3,h4⟩
theorem Frz.le {I J:GH} {M:List Blk} (h:Frz I M J):∀ b o,I b=some o→J b=some o:=fun b o hb=>h.kn b o (.inl hb)
theorem frz_end {I I':GH} {M':List Blk} {w w':World} (h1:Holds I' M' w') (h2:Kept I [] w I' M' w'):Frz I' M' (frz I' M')∧Holds (frz I' M') [] w'∧Kept I [] w (frz I' M') [] w':=by
 refine⟨⟨fun b o h=>kn_frz h1.nd h1.d h,fun b o h=>?_⟩,⟨fun b o h=>?_,by simp,by simp,by simp⟩,⟨fun b o h=>frz_le h1.d (h2.le _ _ h),fun b o h=>?_,by simp,h2.old,h2.out,h2.sz⟩⟩
 ·rcases frz_inv h with h | ⟨x,g1,g2,g3⟩
  ·exact .inl h
  ·exact .inr ⟨x,g1,g2,g3⟩
 ·rcases frz_inv h with h | ⟨x,g1,rfl,rfl⟩
  ·exact h1.i _ _ h
  ·exact h1.m _ g1
 ·rcases frz_inv h with h | ⟨x,g1,rfl,rfl⟩
  ·exact h2.newI _ _ h
  ·rcases h2.newM _ g1 with ⟨y,hy,_⟩ | h
   ·cases hy
   ·exact .inr h
theorem Spec.frz {P:Program} {f:Nat} {args:List Value} {I:GH} {Q:Value→GH→List Blk→Prop} (h:Spec P f args I [] Q):Spec P f args I [] fun r J M''=>M''=[]∧(∀ b o,I b=some o→J b=some o)∧∃ I' M',Q r I' M'∧Frz I' M' J:=by
 rcases h with ⟨h1,h2⟩ | h
 ·refine .inl ⟨h1,fun w hw=>?_⟩
  refine(h2 w hw).mono ?_
  rintro e w' ⟨v,I',M',e1,e2,e3,e4⟩
  obtain⟨g1,g2,g3⟩:=frz_end e3 e4
  exact⟨v,_,[],e1,⟨rfl,g3.le,I',M',e2,g1⟩,g2,g3⟩
 ·refine .inr fun w hw=>?_
  obtain⟨v,w',I',M',e1,e2,e3,e4⟩:=h w hw
  obtain⟨g1,g2,g3⟩:=frz_end e3 e4
  exact⟨v,w',_,[],e1,⟨rfl,g3.le,I',M',e2,g1⟩,g2,g3⟩
noncomputable def triL {α:Type} (l:List α):Tri α:=Tri.putsK l .nil 0 id
theorem triL_get {α:Type} {l:List α} {i:Nat} {v:α} (h:(triL l).get i=some v):l[i]?=some v:=by
 obtain⟨t,h1,h2⟩:=Tri.puts_ok l (.nil:Tri α) 0
 unfold triL at h
 rw[h1] at h
 rcases h2 _ _ h with ⟨_,h⟩ | ⟨_,h⟩
 ·simpa using h
 ·cases h
noncomputable def GTs:GT:=fun g=>cnd (Nat.beq g 0) (some (triL (countsL.map (EV.i .i64))))
 (cnd (Nat.beq g 1) (some (triL (signsL.map EV.s)))
 (cnd (Nat.beq g 2) (some (triL [.i .i64 0,.i .i64 1,.s [63],.i .i64 0,.i .i64 (-1),.s [42],.i .i64 1,.i .i64 (-1),.s [43]]))
 (cnd (Nat.beq g 3) (some (triL (debL.map (EV.i .u8)))) none)))
theorem gi_map {α:Type} {f:α→EV} {h:α→Value} (hf:∀ x D,VR D (f x) (h x)) {l:List α} {i:Nat} {v:EV} (hv:(triL (l.map f)).get i=some v):∃ x,(l.map h).toArray[i]?=some x∧∀ D,VR D v x:=by
 have:=triL_get hv
 rw[List.getElem?_map] at this
 cases hx:l[i]? with
 | none=>rw[hx] at this;cases this
 | some x=>
  rw[hx] at this
  simp only[Option.map_some,Option.some.injEq] at this
  subst this
  exact⟨h x,by simp[hx],hf x⟩
theorem gi_tabs {I:GH} (hT:Tabs I debL):GI GTs I:=by
 intro g cs h
 unfold GTs at h
 rw[cnd_eq,cnd_eq,cnd_eq,cnd_eq] at h
 cases h1:Nat.beq g 0 with
 | true=>
  rw[h1,cond_true] at h
  obtain rfl:=Nat.eq_of_beq_eq_true h1
  have h:=Option.some.inj h
  subst h
  obtain⟨T,f,h⟩:=hT.c
  exact⟨_,T,f,h,fun i v hv=>gi_map (f:=EV.i .i64) (h:=Value.int .i64) (fun x D=>by simp only[VR]) hv⟩
 | false=>
 rw[h1,cond_false] at h
 cases h2:Nat.beq g 1 with
 | true=>
  rw[h2,cond_true] at h
  obtain rfl:=Nat.eq_of_beq_eq_true h2
  have h:=Option.some.inj h
  subst h
  obtain⟨T,f,h⟩:=hT.s
  exact⟨_,T,f,h,fun i v hv=>gi_map (f:=EV.s) (h:=fun l=>Value.string (strOf l)) (fun x D=>by simp only[VR,strOf]) hv⟩
 | false=>
 rw[h2,cond_false] at h
 cases h3:Nat.beq g 2 with
 | true=>
  rw[h3,cond_true] at h
  obtain rfl:=Nat.eq_of_beq_eq_true h3
  have h:=Option.some.inj h
  subst h
  obtain⟨T,f,h⟩:=hT.p
  refine⟨_,T,f,h,fun i v hv=>?_⟩
  have hv:=triL_get hv
  rcases i with _ | _ | _ | _ | _ | _ | _ | _ | _ | i
  all_goals first | (cases hv;exact⟨_,rfl,fun D=>by simp only[VR]<;>rfl⟩) | (simp at hv)
 | false=>
 rw[h3,cond_false] at h
 cases h4:Nat.beq g 3 with
 | true=>
  rw[h4,cond_true] at h
  obtain rfl:=Nat.eq_of_beq_eq_true h4
  have h:=Option.some.inj h
  subst h
  obtain⟨_,_,T,f,h⟩:=hT.d
  exact⟨_,T,f,h,fun i v hv=>gi_map (f:=EV.i .u8) (h:=Value.int .u8) (fun x D=>by simp only[VR]) hv⟩
 | false=>
 rw[h4,cond_false] at h
 cases h
noncomputable def idxN:List UInt8→Nat→Nat→Int
 | [],_,_=>-1
 | b::l,c,k=>cnd (Nat.beq b.toNat c) (Int.ofNat k) (idxN l c (Nat.succ k))
theorem idxN_eq (c:UInt8):∀ (l:List UInt8) (k:Nat),idxN l c.toNat k=if Lib.indexByte l c=-1 then -1 else Lib.indexByte l c+k
 | [],k=>rfl
 | b::l,k=>by
  have hge:=Lib.indexByte_ge l c
  unfold idxN Lib.indexByte
  rw[cnd_eq]
  by_cases h:b=c
  ·subst h
   simp
  ·have h1:Nat.beq b.toNat c.toNat=false:=by
    cases hb:Nat.beq b.toNat c.toNat with
    | false=>rfl
    | true=>exact absurd (UInt8.toNat_inj.1 (Nat.eq_of_beq_eq_true hb)) h
   have h2:(b == c)=false:=by simpa using h
   rw[h1,cond_false,h2,idxN_eq c l]
   simp only[Bool.false_eq_true,if_false]
   by_cases h3:Lib.indexByte l c=-1
   ·simp[h3]
   ·have h4:(Lib.indexByte l c == -1)=false:=by simpa using h3
    rw[h4,if_neg h3]
    simp only[Bool.false_eq_true,if_false]
    rw[if_neg (by omega)]
    omega
theorem yk_funs:FunsOK Tryz.prog:=funsOK_of (by kernel_rfl)
theorem yk_orders:Tryz.prog.follows .mixedOrders=true:=by kernel_rfl
end Go.V
