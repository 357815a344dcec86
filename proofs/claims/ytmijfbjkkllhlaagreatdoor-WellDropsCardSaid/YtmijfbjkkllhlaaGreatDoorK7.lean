/-
  Part 7 of what the proofs of this seat share: the executor, data in memory, walks.
-/
import Derived.Test.YtmijfbjkkllhlaaGreatDoorK6
import Derived.Test.YtmijfbjkkllhlaaGreatDoorK3
import Derived.Test.YtmijfbjkkllhlaaGreatDoorK4
import Derived.Lib.SliceRun
set_option linter.all false
namespace Go.V
open Go Go.Proofs
def bv (b:Bool):List Value:=[.bool b]
theorem rowBv {b n:Nat} {s:List Bool} (h:s.length=n) (hn:n≤9223372036854775807):OS.ok ⟨some b,n,n,s.flatMap bv⟩ 1 (s.flatMap bv):=by
 have hl:(s.flatMap bv).length=n * 1:=by rw[flat_len bv 1 (fun _=>rfl),h]
 exact⟨hl,(fun h=>by cases h),fun g _=>⟨hl,Nat.le_refl _,by unfold maxLen;exact hn,by simp only;exact List.take_of_length_le (by rw[hl];exact Nat.le_refl _)⟩⟩
theorem OS.posB {os:OS} {s:List Bool} (h:os.ok 1 (s.flatMap bv)):s.length=os.n:=by
 have:=h.len
 rw[flat_len bv 1 (fun _=>rfl)] at this
 omega
theorem IsLefts.get {deb:List Int} {g:Gr} (hm:mayG deb g=0) {i:Nat} (hi:i < g.n) {l:List Nat} (h:IsLefts deb g i l):l=refLefts g.ds (flowG g.ds) i:=by
 rcases h with ⟨a,-⟩ | ⟨-,F,k,a,b,c,rfl⟩
 ·rcases a with a | a | a
  ·exact absurd hm a
  ·omega
  ·omega
 ·obtain rfl:i=k:=by omega
  rw[flowG_eq c]
theorem IsLeft.get {deb:List Int} {g:Gr} (hm:mayG deb g=0) {l:List Nat} (h:IsLeft deb g l):l=refLeft g.ds (flowG g.ds):=by
 rcases h with ⟨a,-⟩ | ⟨-,F,c,rfl⟩
 ·exact absurd hm a
 ·rw[flowG_eq c]
theorem IsLoops.get {deb:List Int} {g:Gr} (hm:mayG deb g=0) {l:List Nat} (h:IsLoops deb g l):l=refLoops g.ds (flowG g.ds):=by
 rcases h with ⟨a,-⟩ | ⟨-,F,c,rfl⟩
 ·exact absurd hm a
 ·rw[flowG_eq c]
theorem IsWhere.get {deb:List Int} {g:Gr} (hm:mayG deb g=0) {r:Int×Int} (h:IsWhere deb g r):r.2=0 ↔ (refLeft g.ds (flowG g.ds)).length=0∧(refLoops g.ds (flowG g.ds)).length=0:=by
 rcases h with ⟨a,-⟩ | ⟨-,F,c,rfl⟩
 ·exact absurd hm a
 ·rw[flowG_eq c]
  by_cases h1:0 < (refLeft g.ds F).length
  ·rw[if_pos h1]
   simp only
   omega
  ·rw[if_neg h1]
   by_cases h2:0 < (refLoops g.ds F).length
   ·rw[if_pos h2]
    simp only
    omega
   ·rw[if_neg h2]
    exact⟨fun _=>⟨by omega,by omega⟩,fun _=>rfl⟩
open Classical in
theorem refLeft_mem {g:Gr} (hM:MayF g) {F:List Fl} {i:Nat}:i∈refLeft g.ds F ↔ i < g.ds.length∧ComesL (refLefts g.ds F) i i:=by
 unfold refLeft
 rw[List.mem_filter,List.mem_range,decide_eq_true_iff,refLefts_comes hM]
theorem comes_lt {ds:List Df} {F:List Fl} {i k:Nat} (h:ComesL (refLefts ds F) i k):k < ds.length:=by
 induction h with
 | one h=>exact refLefts_lt h
 | step h t ih=>exact ih
theorem row_full {g:Gr} (hM:MayF g) {F:List Fl} {s:List Bool} (h:RowIn (refLefts g.ds F) g.ds.length s) (hp:(∀ x,¬ ComesL (refLefts g.ds F) x x)→g.ds.length≤cnt s∨cnt s=g.ds.length):cnt s=g.ds.length ↔ (refLeft g.ds F).length=0:=by
 have hle:=cnt_le s
 have hl:=h.len
 constructor
 ·intro hc
  rw[List.length_eq_zero_iff,List.eq_nil_iff_forall_not_mem]
  intro i hi
  obtain⟨h1,h2⟩:=(refLeft_mem hM).1 hi
  exact h.acyc i ((cnt_full s).2 (by omega) i (by omega)) i (.inl rfl) h2
 ·intro hz
  rw[List.length_eq_zero_iff,List.eq_nil_iff_forall_not_mem] at hz
  have:=hp fun x hx=>hz x ((refLeft_mem hM).2 ⟨comes_lt hx,hx⟩)
  omega
structure RowS (A:Nat→List Nat) (n:Nat) (I:GH) (x:Nat×OS×List Bool×GH):Prop where
 i:x.1≤n
 ok:x.2.1.ok 1 (x.2.2.1.flatMap bv)
 row:RowIn A n x.2.2.1
 le:∀ b o,I b=some o→x.2.2.2 b=some o
set_option maxRecDepth 100000 in
set_option maxHeartbeats 16000000 in
theorem wellRow_V {I:GH} (hT:Tabs I debL) {g:Gr} (hgw:GrW I g):SpecE Tryz.prog 4 [g.val] I [] fun v I' M'=>v=.bool true:=by
 refine specE_of_V [] TryzEOK Tryz.func4 rfl rfl rfl ?_
 intro B h0
 refine CallOb.mk [] [] _ (.refl _) (large13_spec hgw) ?_
 rintro v J N - ⟨⟨r,rfl,hr⟩,hJ',hN'⟩
 subst J
 subst N
 cases r with
 | true=>
  refine GuardOb.mk (fun h=>absurd h (by simp)) (fun _=>?_)
  refine CallOb.mk [] [] _ (.refl _) (awake13_spec hT) ?_
  rintro v J1 N - ⟨rfl,hJ1,rfl⟩
  exact⟨_,_,.refl,rfl⟩
 | false=>
 refine GuardOb.mk (fun _=>?_) (fun h=>absurd h (by simp))
 refine CallOb.mk [] [] _ (.refl _) (awake13_spec hT) ?_
 rintro v J1 N - ⟨rfl,hJ1,rfl⟩
 refine CondOb.mk (fun h=>by cases h) (fun _=>?_)
 have hgs:=hr rfl
 have hT:=hT.mono hJ1
 have hg:=(hgw.mono hJ1).ok11 hgs
 have hgn:=hg.n
 have hg400:=hgs.n
 clear hgw hr
 have hkg:∀ d∈g.ds,KB d.t:=fun d hd n hn=>by have:=((hgs.ds d hd).t.ns n hn).kn;omega
 refine CallOb.mk [] [] _ (.refl _) (May_spec hT hg) ?_
 rintro v J2 N - ⟨rfl,hJ2,rfl⟩
 have hT:=hT.mono hJ2
 have hg:=hg.mono hJ2
 by_cases hm:mayG debL g=0
 rotate_left
 ·refine CondOb.mk (fun _=>?_) (fun h=>absurd h (by simp[hm]))
  refine CodeOb.draw TryzEOK rfl rfl rfl ?_
  refine PCallOb.whole _ (WCheck_own (M0:=[]) hT hg hkg) (fun v I' M' h x hx=>by cases hx) ?_
  rintro v J3 N - ⟨hJ3,hN,ra,rfl,hra⟩
  subst N
  refine CallOb.mk [] [] _ (.refl _) (May_spec (hT.mono hJ3) (hg.mono hJ3)) ?_
  rintro v J4 N - ⟨rfl,hJ4,rfl⟩
  have hra2:ra.2=mayG debL g:=by
   rcases hra with ⟨-,rfl⟩ | ⟨a,-⟩
   ·rfl
   ·exact absurd a hm
  refine GuardOb.mk (fun _=>?_) (fun h=>absurd h (by simp[hra2]))
  refine CallOb.whole _ (WLeft_own ((hT.mono hJ3).mono hJ4) ((hg.mono hJ3).mono hJ4) hkg) ?_
  rintro v J5 N - ⟨hJ5,oa,la,hoa,rfl,hN,hla⟩
  subst N
  have hl0:la=[]:=by
   rcases hla with ⟨-,h⟩ | ⟨a,-⟩
   ·exact h
   ·exact absurd a hm
  have hn0:oa.n=0:=by
   have:=OS.pos hoa
   rw[hl0] at this
   simpa using this.symm
  exact⟨_,_,.refl,by rw[hn0];rfl⟩
 refine CondOb.mk (fun h=>absurd h (by simp[hm])) (fun _=>?_)
 have hM:=mayF_of hgn hm
 obtain⟨A,hA⟩:∃ A,refLefts g.ds (flowG g.ds)=A:=⟨_,rfl⟩
 have hAlt:∀ x,∀ y∈A x,y < g.n:=fun x y hy=>by rw[←hgn];rw[←hA] at hy;exact refLefts_lt hy
 refine MakeOb.mk g.n g.n rfl rfl (Nat.le_refl _) (by show 1 * g.n≤_;omega) (by omega) ?_
 refine AllocOb.mk fun bl hbl hbMl=>?_
 have e0:rowOf [.bool false] (g.n * 1)=(List.replicate g.n false).flatMap bv:=rowOf_flat bv false 1 rfl (by decide) g.n
 refine LoopOb.inv (ι:=Nat×OS×List Bool×GH) (fun x=>{ fl:=[(1,.ref 1 0),(3,.val x.2.1.val),(4,.val (.int .i64 (cnt x.2.2.1))),(5,.val (.int .i64 x.1))],cl:=[(1,[.slice g.a g.n g.c])],gi:=x.2.2.2,mi:=x.2.1.blk 4++[] }) (fun x=>RowS A g.n J2 x∧((∀ y,¬ ComesL A y y)→x.1≤cnt x.2.2.1∨cnt x.2.2.1=g.n)) (fun x=>g.n - x.1) ?_ ?_
 ·refine⟨(0,⟨some bl,g.n,g.n,(List.replicate g.n false).flatMap bv⟩,List.replicate g.n false,J2),⟨⟨Nat.zero_le _,rowBv List.length_replicate (by omega),.start A g.n,fun _ _ h=>h⟩,fun _=>.inl (Nat.zero_le _)⟩,.eqM ?_,.cons .refl (.cons .refl (.cons ?_ (.cons .refl .nil))),.cons rfl (.nil)⟩
  ·simp only[OS.blk]
   rw[←e0]
   rfl
  ·have:cnt (List.replicate g.n false)=0:=by
    have:∀ n,cnt (List.replicate n false)=0:=fun n=>by
     induction n with
     | zero=>rfl
     | succ n ih=>rw[List.replicate_succ,cnt,ih];rfl
    exact this g.n
   simp only
   rw[this]
   exact .refl
 rintro⟨rd,os0,s0,J⟩ ⟨⟨hrd,hos0,hrow0,hJ⟩,hprog0⟩
 simp only at hrd hos0 hrow0 hJ hprog0
 refine CondOb.mk (fun h=>?_) (fun h=>?_)
 ·have hlt:rd < g.n:=by have:(rd:Int) < (g.n:Int):=of_decide_eq_true h;omega
  refine LoopOb.inv (ι:=Nat×OS×List Bool×GH) (fun x=>{ fl:=[(1,.ref 1 0),(3,.val x.2.1.val),(4,.val (.int .i64 (cnt x.2.2.1))),(5,.val (.int .i64 rd)),(6,.val (.int .i64 x.1))],cl:=[(1,[.slice g.a g.n g.c])],gi:=x.2.2.2,mi:=x.2.1.blk 4++[] }) (fun x=>RowS A g.n J2 x∧Round A g.n s0 x.2.2.1 x.1) (fun x=>g.n - x.1) ?_ ?_
  ·exact⟨(0,os0,s0,J),⟨⟨Nat.zero_le _,hos0,hrow0,hJ⟩,.start A g.n s0⟩,.refl,aF5,.cons rfl (.nil)⟩
  rintro⟨i,os,s,L⟩ ⟨⟨hi,hos,hrow,hL⟩,hround⟩
  simp only at hi hos hrow hL hround
  have hcs:=cnt_le s
  have hsl:=hrow.len
  refine CondOb.mk (fun h2=>?_) (fun h2=>?_)
  rotate_left
  ·have hge:i=g.n:=by have:¬ (i:Int) < (g.n:Int):=of_decide_eq_false h2;omega
   subst hge
   refine ArithOb.mk _ (next_wr (i:=rd) (by omega)) ?_
   exact⟨(rd+1,os,s,L),⟨⟨⟨hlt,hos,hrow,hL⟩,fun hc=>hround.done hAlt hc hrow0.len hsl (hprog0 hc)⟩,by simp only;omega⟩,.refl,aF4,.cons rfl (.nil)⟩
  have hlt2:i < g.n:=by have:(i:Int) < (g.n:Int):=of_decide_eq_true h2;omega
  refine CallOb.whole _ (WLefts_own (hT.mono hL) (hg.mono hL) hkg i) ?_
  rintro v L1 N - ⟨hL1',ol,l,hol,rfl,hN,hl⟩
  subst N
  have hl1:=hl.len
  have hlA:=hl.get hm hlt2
  rw[hA] at hlA
  have hL1:∀ b o,J2 b=some o→L1 b=some o:=fun b o h=>hL1' _ _ (hL _ _ h)
  have hln:=OS.pos hol
  have rdS:∀ (j:Nat),j < s.length→∃ ad,os.a.map (fun g=>(⟨g,0,none⟩:Addr))=some ad∧Rd L1 (ol.blk 3++(os.blk 4++[])) (ad.add (j * 1)) 1 [.bool (s.getD j false)]:=fun j hj=>by
   have:=OS.ok.row (I:=L1) (M:=ol.blk 3++(os.blk 4++[])) (e:=4) (f:=bv) (size:=1) (fun _=>rfl) (by decide) hos (fun z hz=>by simp[hz]) hj
   rw[List.getD_eq_getElem?_getD,List.getElem?_eq_getElem hj]
   exact this
  have hsn:=OS.posB hos
  obtain⟨ai,hai,hri⟩:=rdS i (by omega)
  refine IdxOb.mk ai i hai rfl (show i < os.n by omega) ?_
  refine LoadOb.mk _ hri ?_
  refine LoopOb.inv (ι:=Nat×Bool) (fun x=>{ fl:=[(1,.ref 1 0),(3,.val os.val),(4,.val (.int .i64 (cnt s))),(5,.val (.int .i64 rd)),(6,.val (.int .i64 i)),(7,.val ol.val),(8,.val (.bool x.2)),(9,.val (.int .i64 x.1))],cl:=[(1,[.slice g.a g.n g.c])],gi:=L1,mi:=ol.blk 3++(os.blk 4++[]) }) (fun x=>x.1≤l.length∧(x.2=true ↔ s.getD i false=false∧∀ k∈l.take x.1,s.getD k false=true)) (fun x=>l.length - x.1) ?_ ?_
  ·refine⟨(0,!s.getD i false),⟨Nat.zero_le _,by simp⟩,.refl,aF8,.cons rfl (.nil)⟩
  rintro⟨k,rdy⟩ ⟨hk,hrdy⟩
  simp only at hk hrdy
  refine CondOb.mk (fun h3=>?_) (fun h3=>?_)
  ·have hlt3:k < l.length:=by have:(k:Int) < (ol.n:Int):=of_decide_eq_true h3;omega
   have hkn:l[k] < s.length:=by
    have:=hAlt i l[k] (by rw[←hlA];exact List.getElem_mem hlt3)
    omega
   have htk:l.take (k+1)=l.take k++[l[k]]:=List.take_succ_eq_append_getElem hlt3
   obtain⟨al,hal,hrl⟩:=os_ints (I:=L1) (M:=ol.blk 3++(os.blk 4++[])) (e:=3) hol (fun z hz=>List.mem_append_left _ hz) hlt3
   obtain⟨ak,hak,hrk⟩:=rdS l[k] hkn
   generalize l[k]=y at hkn htk hrl hrk
   cases rdy with
   | true=>
    refine GuardOb.mk (fun _=>?_) (fun h=>absurd h (by simp))
    refine IdxOb.mk al k hal rfl (by omega) ?_
    refine LoadOb.mk _ hrl ?_
    refine IdxOb.mk ak y hak rfl (show y < os.n by omega) ?_
    refine LoadOb.mk _ hrk ?_
    refine ArithOb.mk _ (next_wr (i:=k) (by omega)) ?_
    refine⟨(k+1,s.getD y false),⟨⟨hlt3,?_⟩,by simp only;omega⟩,.refl,aF8,.cons rfl (.nil)⟩
    obtain⟨q1,q2⟩:=hrdy.1 rfl
    simp only
    rw[htk]
    constructor
    ·intro hy
     refine⟨q1,fun z hz=>?_⟩
     rcases List.mem_append.1 hz with hz | hz
     ·exact q2 z hz
     ·rw[List.mem_singleton.1 hz];exact hy
    ·intro hz
     exact hz.2 y (List.mem_append_right _ (.head _))
   | false=>
    refine GuardOb.mk (fun h=>absurd h (by simp)) (fun _=>?_)
    refine ArithOb.mk _ (next_wr (i:=k) (by omega)) ?_
    refine⟨(k+1,false),⟨⟨hlt3,?_⟩,by simp only;omega⟩,.refl,.cons .refl (.cons .refl (.cons .refl (.cons .refl (.cons .refl (.cons .refl (.cons .lit (.cons .refl .nil))))))),.cons rfl (.nil)⟩
    simp only
    rw[htk]
    constructor
    ·intro hz;cases hz
    ·rintro⟨q1,q2⟩
     exact hrdy.2 ⟨q1,fun z hz=>q2 z (List.mem_append_left _ hz)⟩
  have hge3:l.length≤k:=by have:¬ (k:Int) < (ol.n:Int):=of_decide_eq_false h3;omega
  rw[List.take_of_length_le hge3,hlA] at hrdy
  refine CondOb.mk (fun h4=>?_) (fun h4=>?_)
  ·have h4:rdy=true:=h4
   obtain⟨q1,q2⟩:=hrdy.1 h4
   have hcs2:=cnt_set s i (by omega) q1
   refine IdxOb.mk ai i hai rfl (by omega) ?_
   refine OS.putI bv 1 (fun _=>rfl) (e:=4) hos (show i < s.length by omega) true rfl (ol.blk 3) [] rfl hai ?_
   intro os2 hv2 ha2 hn2 hok2
   refine ArithOb.mk _ (next_wr (i:=cnt s) (by omega)) ?_
   refine ArithOb.mk _ (next_wr (i:=i) (by omega)) ?_
   refine⟨(i+1,os2,s.set i true,L1),⟨⟨⟨hlt2,hok2,hrow.put hlt2 q1 q2,hL1⟩,hround.put (by omega)⟩,by simp only;omega⟩,.sub (List.sublist_append_right _ _) .refl,.cons .refl (.cons ?_ (.cons ?_ (aF2))),.cons rfl (.nil)⟩
   ·simp only
    rw[hv2]
    exact .refl
   ·simp only
    rw[hcs2]
    exact .refl
  ·have h4:rdy=false:=h4
   refine ArithOb.mk _ (next_wr (i:=i) (by omega)) ?_
   refine⟨(i+1,os,s,L1),⟨⟨⟨hlt2,hos,hrow,hL1⟩,hround.skip ?_⟩,by simp only;omega⟩,.sub (List.sublist_append_right _ _) .refl,aF5,.cons rfl (.nil)⟩
   by_cases h5:s.getD i false=true
   ·exact .inl h5
   ·right
    intro h6
    have:=hrdy.2 ⟨by simpa using h5,h6⟩
    rw[h4] at this
    cases this
 have hge:rd=g.n:=by have:¬ (rd:Int) < (g.n:Int):=of_decide_eq_false h;omega
 subst hge
 have hfull:cnt s0=g.ds.length ↔ (refLeft g.ds (flowG g.ds)).length=0:=by
  refine row_full hM ?_ ?_
  ·rw[hA,hgn];exact hrow0
  ·rw[hA,hgn];exact hprog0
 have hos0n:=OS.posB hos0
 have hs0l:=hrow0.len
 have hc0:=cnt_le s0
 refine CallOb.whole _ (WLeft_own (hT.mono hJ) (hg.mono hJ) hkg) ?_
 rintro v J3 N - ⟨hJ3',oq,lq,hoq,rfl,hN,hlq⟩
 subst N
 have hlq1:=hlq.len
 have hlqn:=OS.pos hoq
 have hlq2:=hlq.get hm
 have hJ3:∀ b o,J2 b=some o→J3 b=some o:=fun b o h=>hJ3' _ _ (hJ _ _ h)
 refine LoopOb.inv (ι:=Nat) (fun x=>{ fl:=[(1,.ref 1 0),(3,.val os0.val),(4,.val (.int .i64 (cnt s0))),(10,.val oq.val),(11,.val (.int .i64 x))],cl:=[(1,[.slice g.a g.n g.c])],gi:=J3,mi:=oq.blk 3++(os0.blk 4++[]) }) (fun x=>x≤lq.length) (fun x=>lq.length - x) ?_ ?_
 ·exact⟨0,Nat.zero_le _,.refl,aF5,.cons rfl (.nil)⟩
 rintro i hi
 refine CondOb.mk (fun h2=>?_) (fun h2=>?_)
 ·have hlt2:i < lq.length:=by have:(i:Int) < (oq.n:Int):=of_decide_eq_true h2;omega
  obtain⟨al,hal,hrl⟩:=os_ints (I:=J3) (M:=oq.blk 3++(os0.blk 4++[])) (e:=3) hoq (fun z hz=>List.mem_append_left _ hz) hlt2
  have hmem:lq[i]∈refLeft g.ds (flowG g.ds):=by rw[←hlq2];exact List.getElem_mem hlt2
  obtain⟨m1,m2⟩:=(refLeft_mem hM).1 hmem
  have hno:s0.getD lq[i] false=false:=by
   cases hq:s0.getD lq[i] false with
   | false=>rfl
   | true=>
    rw[hA] at m2
    exact absurd m2 (hrow0.acyc _ hq _ (.inl rfl))
  have hrs:∃ ad,os0.a.map (fun g=>(⟨g,0,none⟩:Addr))=some ad∧Rd J3 (oq.blk 3++(os0.blk 4++[])) (ad.add (lq[i] * 1)) 1 [.bool false]:=by
   have:=OS.ok.row (I:=J3) (M:=oq.blk 3++(os0.blk 4++[])) (e:=4) (f:=bv) (size:=1) (fun _=>rfl) (by decide) hos0 (fun z hz=>by simp[hz]) (show lq[i] < s0.length by omega)
   rw[List.getD_eq_getElem?_getD,List.getElem?_eq_getElem (show lq[i] < s0.length by omega)] at hno
   have e:s0[lq[i]]=false:=hno
   rw[e] at this
   exact this
  obtain⟨ak,hak,hrk⟩:=hrs
  generalize lq[i]=y at hrl hrk m1
  refine IdxOb.mk al i hal rfl (by omega) ?_
  refine LoadOb.mk _ hrl ?_
  refine IdxOb.mk ak y hak rfl (by omega) ?_
  refine LoadOb.mk _ hrk ?_
  refine CondOb.mk (fun h=>by cases h) (fun _=>?_)
  refine ArithOb.mk _ (next_wr (i:=i) (by omega)) ?_
  exact⟨i+1,⟨hlt2,by omega⟩,.refl,aF5,.cons rfl (.nil)⟩
 have e1:decide (((cnt s0:Nat):Int)=(g.n:Int))=decide (((oq.n:Nat):Int)=0):=by
  rw[decide_eq_decide]
  rw[←hlq2] at hfull
  omega
 refine CondOb.mk (fun h3=>?_) (fun _=>?_)
 ·exfalso
  have h3:(!(decide (((cnt s0:Nat):Int)=(g.n:Int)) == decide (((oq.n:Nat):Int)=0)))=true:=h3
  rw[e1] at h3
  simp at h3
 refine CodeOb.draw TryzEOK rfl rfl rfl ?_
 refine PCallOb.whole _ (WCheck_own (hT.mono hJ3) (hg.mono hJ3) hkg) (fun v I' M' h x hx=>by rw[h.2.1];exact hx) ?_
 rintro v J4 N - ⟨hJ4',hN,ra,rfl,hra⟩
 subst N
 have hw:=hra.get hm
 have hJ4:∀ b o,J2 b=some o→J4 b=some o:=fun b o h=>hJ4' _ _ (hJ3 _ _ h)
 refine GuardOb.mk (fun h4=>?_) (fun h4=>?_)
 ·have h4:(cnt s0:Int)=(g.n:Int):=of_decide_eq_true h4
  refine PCallOb.whole _ (WLoops_own (hT.mono hJ4) (hg.mono hJ4) hkg) (fun v I' M' h x hx=>by obtain⟨-,o,l,-,-,e,-⟩:=h;rw[e];exact List.mem_append.2 (.inr hx)) ?_
  rintro v J5 N - ⟨hJ5',ob,lb,hob,rfl,hN,hlb⟩
  subst N
  have hlbn:=OS.pos hob
  have hlb2:=hlb.get hm
  refine⟨_,_,.refl,?_⟩
  have e2:decide (ra.2=0)=decide (((ob.n:Nat):Int)=0):=by
   rw[decide_eq_decide,hw,←hlb2]
   have:=hfull.1 (by omega)
   omega
  show Value.bool (decide (ra.2=0) == decide (((ob.n:Nat):Int)=0))=_
  rw[e2]
  simp
 ·have h4:¬ (cnt s0:Int)=(g.n:Int):=of_decide_eq_false h4
  refine⟨_,_,.refl,?_⟩
  have e2:decide (ra.2=0)=false:=by
   refine decide_eq_false fun h5=>?_
   have:=hfull.2 (hw.1 h5).1
   omega
  show Value.bool (decide (ra.2=0) == false)=_
  rw[e2]
  rfl
def namesR (ns:List Nd) (nm:ByteArray):Bool:=ns.any fun n=>decide (n.k=3) && decide (n.t=nm)
def callR (g:Gr) (i k:Nat):Bool:=match g.ds[i]?,g.ds[k]? with
 | some d,some e=>namesR d.t.ns e.name
 | _,_=>false
def baseR (g:Gr) (i k:Nat):Bool:=decide (i=k) || callR g i k
def PV (g:Gr):Nat→Nat→Nat→Prop
 | 0,i,k=>baseR g i k=true
 | m+1,i,k=>PV g m i k∨(PV g m i m∧PV g m m k)
theorem PV.trans {g:Gr}:∀ {m i j k:Nat},PV g m i j→PV g m j k→j < m→PV g m i k
 | m+1,i,j,k,h1,h2,hj=>by
  by_cases e:j=m
  ·subst e
   have a1:PV g j i j:=h1.elim id (·.1)
   have a2:PV g j j k:=h2.elim id (·.2)
   exact .inr ⟨a1,a2⟩
  ·have hj:j < m:=by omega
   rcases h1 with h1 | ⟨h1,h1'⟩<;>rcases h2 with h2 | ⟨h2,h2'⟩
   ·exact .inl (PV.trans h1 h2 hj)
   ·exact .inr ⟨PV.trans h1 h2 hj,h2'⟩
   ·exact .inr ⟨h1,PV.trans h1' h2 hj⟩
   ·exact .inr ⟨h1,h2'⟩
theorem thereL_at {ds:List Df} {n:Nat} (hn:ds.length=n):∀ (names:List ByteArray) (s:List Bool),s.length=n→∀ k,k < n→((names.foldl (fun s nm=>markK n s (findAt nm ds 0)) s).getD k false=true ↔ s.getD k false=true∨∃ nm∈names,findAt nm ds 0=(k:Int))
 | [],s,hs,k,hk=>by simp
 | nm::names,s,hs,k,hk=>by
  rw[List.foldl_cons,thereL_at hn names _ (by rw[markK_len];exact hs) k hk]
  have hm:(markK n s (findAt nm ds 0)).getD k false=true ↔ s.getD k false=true∨findAt nm ds 0=(k:Int):=by
   unfold markK
   cases hb:decide (0≤findAt nm ds 0) && decide (findAt nm ds 0 < n) with
   | true=>
    rw[cond_true]
    simp at hb
    simp only[List.getD_eq_getElem?_getD,List.getElem?_set]
    by_cases e:(findAt nm ds 0).toNat=k
    ·have:findAt nm ds 0=(k:Int):=by omega
     simp[e,this,hs,hk]
    ·have:¬ findAt nm ds 0=(k:Int):=by omega
     simp[e,this]
   | false=>
    rw[cond_false]
    have:¬ findAt nm ds 0=(k:Int):=by
     intro e
     rw[e] at hb
     simp at hb
     omega
    simp[this]
  rw[hm]
  constructor
  ·rintro((h | h) | ⟨x,hx,h⟩)
   ·exact .inl h
   ·exact .inr ⟨nm,by simp,h⟩
   ·exact .inr ⟨x,by simp[hx],h⟩
  ·rintro(h | ⟨x,hx,h⟩)
   ·exact .inl (.inl h)
   ·rcases List.mem_cons.1 hx with rfl | hx
    ·exact .inl (.inr h)
    ·exact .inr ⟨x,hx,h⟩
theorem may_first {deb:List Int} {g:Gr} (hn:g.ds.length=g.n) (h:mayG deb g=0):∀ i (hi:i < g.ds.length),findAt g.ds[i].name g.ds 0=(i:Int):=by
 rw[←mayR_eq] at h
 intro i hi
 have hall:(List.range g.ds.length).all (firstOf g.ds)=true:=by
  unfold mayR at h
  cases hb:(List.range g.ds.length).all (firstOf g.ds) with
  | true=>rfl
  | false=>
   rw[hb] at h
   exfalso
   revert h
   cases decide ((g.n:Int)=0)<;>cases (!okDefs g.ds)<;>cases largeG deb g<;>simp
 have:=List.all_eq_true.1 hall i (List.mem_range.2 hi)
 rw[firstOf_lt hi] at this
 simpa using this
def at2 (R:List (List Bool)) (i k:Nat):Bool:=(R.getD i []).getD k false
def set2 (R:List (List Bool)) (i k:Nat) (v:Bool):List (List Bool):=R.set i ((R.getD i []).set k v)
structure Sq (n:Nat) (R:List (List Bool)):Prop where
 len:R.length=n
 row:∀ i (h:i < R.length),R[i].length=n
theorem Sq.set {n:Nat} {R:List (List Bool)} (h:Sq n R) {i k:Nat} (hi:i < n) (v:Bool):Sq n (set2 R i k v):=by
 refine⟨by simp[set2,h.len],fun j hj=>?_⟩
 simp only[set2,List.length_set] at hj
 have hil:i < R.length:=by rw[h.len];exact hi
 simp only[set2,List.getElem_set]
 split
 ·rw[List.length_set]
  simp[List.getD_eq_getElem?_getD,hil,h.row i hil]
 ·exact h.row j hj
theorem at2_set {n:Nat} {R:List (List Bool)} (h:Sq n R) {i k:Nat} (hi:i < n) (hk:k < n) (v:Bool) (a b:Nat):at2 (set2 R i k v) a b=bif decide (a=i∧b=k) then v else at2 R a b:=by
 have hil:i < R.length:=by rw[h.len];exact hi
 have hkl:k < R[i].length:=by rw[h.row i hil];exact hk
 unfold at2 set2
 simp only[List.getD_eq_getElem?_getD,List.getElem?_set]
 by_cases ha:i=a
 ·subst ha
  simp only[if_true,hil,if_true,Option.getD_some,List.getElem?_eq_getElem hil]
  rw[List.getElem?_set]
  by_cases hb:k=b
  ·subst hb
   simp[hkl]
  ·have:¬ (b=k):=fun e=>hb e.symm
   simp[hb,this]
 ·have:¬ (a=i):=fun e=>ha e.symm
  simp[ha,this]
structure InRound (g:Gr) (m:Nat) (A R:List (List Bool)) (done:Nat→Nat→Prop):Prop where
 sound:∀ i k,at2 R i k=true→PV g g.n i k
 grow:∀ i k,at2 A i k=true→at2 R i k=true
 new:∀ i k,done i k→at2 A i m=true→at2 A m k=true→at2 R i k=true
theorem InRound.step {g:Gr} {m:Nat} {A R:List (List Bool)} {d d':Nat→Nat→Prop} (h:InRound g m A R d) (hR:Sq g.n R) {i k:Nat} (hi:i < g.n) (hk:k < g.n) (hm:m < g.n) (hd:∀ a b,d' a b→d a b∨(a=i∧b=k)) :
  InRound g m A (set2 R i k (at2 R i k || (at2 R i m && at2 R m k))) d':=by
 have hs:=at2_set hR hi hk (at2 R i k || (at2 R i m && at2 R m k))
 have up:∀ a b,at2 R a b=true→at2 (set2 R i k (at2 R i k || (at2 R i m && at2 R m k))) a b=true:=fun a b hab=>by
  rw[hs]
  by_cases e:a=i∧b=k
  ·obtain⟨rfl,rfl⟩:=e
   simp[hab]
  ·simp[e,hab]
 refine⟨fun a b hab=>?_,fun a b hab=>up a b (h.grow a b hab),fun a b hdab h1 h2=>?_⟩
 ·rw[hs] at hab
  by_cases e:a=i∧b=k
  ·obtain⟨rfl,rfl⟩:=e
   simp at hab
   rcases hab with hab | ⟨q1,q2⟩
   ·exact h.sound _ _ hab
   ·exact PV.trans (h.sound _ _ q1) (h.sound _ _ q2) hm
  ·simp[e] at hab
   exact h.sound _ _ hab
 ·rcases hd a b hdab with hdab | ⟨rfl,rfl⟩
  ·exact up a b (h.new a b hdab h1 h2)
  ·rw[hs]
   simp[h.grow _ _ h1,h.grow _ _ h2]
structure RoundInv (g:Gr) (m:Nat) (R:List (List Bool)):Prop where
 sq:Sq g.n R
 sound:∀ i k,at2 R i k=true→PV g g.n i k
 comp:∀ i k,i < g.n→k < g.n→PV g m i k→at2 R i k=true
theorem RoundInv.next {g:Gr} {m:Nat} {A R:List (List Bool)} (hA:RoundInv g m A) (hm:m < g.n) (hR:Sq g.n R) (h:InRound g m A R fun i k=>i < g.n∧k < g.n):RoundInv g (m+1) R:=by
 refine⟨hR,h.sound,fun i k hi hk hp=>?_⟩
 rcases hp with hp | ⟨h1,h2⟩
 ·exact h.grow _ _ (hA.comp i k hi hk hp)
 ·exact h.new i k ⟨hi,hk⟩ (hA.comp i m hi hm h1) (hA.comp m k hm hk h2)
theorem left_named {ds:List Df} {F:List Fl} {t:Tr} (hr:right t=true) (hno:namedOk (placesL ds) t.ns=true):∀ (m j:Nat),j < m→j < t.ns.length→∀ x∈(leftAt (placesL ds) F t.ns j).2,∃ nm∈namedL t.ns,findAt nm ds 0=(x:Int)
 | 0,j,h,_=>absurd h (Nat.not_lt_zero _)
 | m+1,j,hm,hj=>by
  intro x hx
  rw[left_eq hr hj] at hx
  have hx:x∈leftsD (placesL ds) t.ns[j] (t.ns[j].kids.map (leftAt (placesL ds) F t.ns)):=hx
  have hnm:=List.all_eq_true.1 hno _ (List.getElem_mem hj)
  by_cases h3:t.ns[j].k=3
  ·obtain⟨q,hq1,hq2,hq3⟩:=findAt_of (nm:=t.ns[j].t) (ds:=ds) (by simpa[h3] using hnm)
   rw[leftsD,decide_eq_true h3,cond_true,hq3] at hx
   have:x=q:=by simpa using hx
   subst this
   exact⟨t.ns[j].t,List.mem_map.2 ⟨t.ns[j],List.mem_filter.2 ⟨List.getElem_mem hj,decide_eq_true h3⟩,rfl⟩,hq1⟩
  by_cases h6:t.ns[j].k=6∧t.ns[j].hi=0
  ·rw[leftsD,decide_eq_false h3,cond_false,decide_eq_false (show ¬ t.ns[j].k=4 by omega),cond_false,decide_eq_true h6.1,decide_eq_true h6.2] at hx
   cases hx
  ·rw[leftsD_cut h3 h6] at hx
   obtain⟨y,hy,hxy⟩:=cutL_mem hx
   obtain⟨k,hk,rfl⟩:=List.mem_map.1 hy
   obtain⟨h1,h2⟩:=right_kids hr j hj k hk
   obtain⟨q,rfl⟩:=Int.eq_ofNat_of_zero_le h1
   exact left_named hr hno m q (by omega) (by omega) x hxy
theorem rawL_named {g:Gr} (hM:MayF g) {F:List Fl} {i:Nat} (hi:i < g.ds.length):∀ k∈rawL g.ds F i,∃ nm∈namedL g.ds[i].t.ns,findAt nm g.ds 0=(k:Int):=by
 intro k hk
 unfold rawL at hk
 rw[List.getElem?_eq_getElem hi] at hk
 have hdm:=List.getElem_mem hi
 have hr:=hM.right _ hdm
 obtain⟨r0,r1⟩:=right_root hr
 obtain⟨r,hrr⟩:=Int.eq_ofNat_of_zero_le r0
 have hk:k∈(leftAt (placesL g.ds) F g.ds[i].t.ns g.ds[i].t.root).2:=hk
 rw[hrr] at hk
 exact left_named hr (hM.named _ hdm) (r+1) r (by omega) (by omega) k hk
theorem lefts_called {deb:List Int} {g:Gr} (hn:g.ds.length=g.n) (hm:mayG deb g=0) {F:List Fl} {i k:Nat} (hi:i < g.n) (hk:k∈refLefts g.ds F i):(k:Int)∈callsG deb g i:=by
 have hM:=mayF_of hn hm
 have hi':i < g.ds.length:=by omega
 have hkn:k < g.ds.length:=refLefts_lt hk
 obtain⟨nm,h1,h2⟩:=rawL_named hM hi' k ((refLefts_mem hM).1 hk)
 have hin:inR (i:Int) g.n=true:=by
  unfold inR
  simp
  omega
 rw[callsG,hin,decide_eq_true hm]
 show (k:Int)∈(callsL g).getD i []
 rw[callsL,List.getD_eq_getElem?_getD,List.getElem?_map,List.getElem?_eq_getElem hi']
 show (k:Int)∈listL true 0 (thereL g.ds g.n (namedL g.ds[i].t.ns))
 rw[listL_isM]
 unfold isM
 rw[thereL,thereL_at hn _ _ (by simp) k (by omega)]
 exact .inr ⟨nm,h1,h2⟩
theorem refLefts_rise {ds:List Df} {F:List Fl} {i j k:Nat} (hjk:j < k) (hk:k < (refLefts ds F i).length):(refLefts ds F i)[j]'(Nat.lt_trans hjk hk) < (refLefts ds F i)[k]:=by
 have h:(refLefts ds F i).Pairwise (· < ·):=List.Pairwise.sublist List.filter_sublist List.pairwise_lt_range
 exact(List.pairwise_iff_getElem.1 h) j k _ hk hjk
theorem filter_one {n q:Nat} (h:q < n):(List.range n).filter (fun k=>[q].contains k)=[q]:=by
 induction n with
 | zero=>omega
 | succ n ih=>
  rw[range_filter_succ]
  by_cases e:q=n
  ·subst e
   have:(List.range q).filter (fun k=>[q].contains k)=[]:=by
    rw[List.filter_eq_nil_iff]
    intro x hx
    have:=List.mem_range.1 hx
    have:¬ x=q:=by omega
    simpa using this
   rw[this]
   simp
  ·rw[ih (by omega)]
   have:¬ n=q:=fun h=>e h.symm
   simp[this]
theorem lefts_rule {g:Gr} (hM:MayF g) {F:List Fl} {i:Nat} (hi:i < g.ds.length) {r:Nat} (hr:g.ds[i].t.root=(r:Int)) (hr2:r < g.ds[i].t.ns.length) (h3:g.ds[i].t.ns[r].k=3):∃ q:Nat,findAt g.ds[i].t.ns[r].t g.ds 0=(q:Int)∧refLefts g.ds F i=[q]:=by
 have hdm:=List.getElem_mem hi
 have hrt:=hM.right _ hdm
 have hnm:=List.all_eq_true.1 (hM.named _ hdm) _ (List.getElem_mem hr2)
 obtain⟨q,hq1,hq2,hq3⟩:=findAt_of (nm:=g.ds[i].t.ns[r].t) (ds:=g.ds) (by simpa[h3] using hnm)
 refine⟨q,hq1,?_⟩
 have hraw:rawL g.ds F i=[q]:=by
  unfold rawL
  rw[List.getElem?_eq_getElem hi]
  show (leftAt (placesL g.ds) F g.ds[i].t.ns g.ds[i].t.root).2=_
  rw[hr,left_eq hrt hr2]
  show leftsD (placesL g.ds) g.ds[i].t.ns[r] _=_
  rw[leftsD,decide_eq_true h3,cond_true,hq3]
 unfold refLefts
 rw[hraw]
 exact filter_one hq2
theorem Root_spec {I:GH} {M0:List Blk} {deb:List Int} (hT:Tabs I deb) {t:Tr} (ht:t.ok I) (hr:right t=true) {r:Nat} (hrr:t.root=(r:Int)) (hrl:r < t.ns.length):Spec Tryz.prog 47 [t.val] I M0 fun v I' M'=>v=(t.ns[r].withKids []).val∧I'=I∧M'=M0:=by
 refine spec_of_V [] TryzEOK Tryz.func47 rfl rfl rfl ?_
 intro B h0
 have htn:=ht.n
 obtain⟨ad,had,hrd⟩:=ht.rs.row Nd.cells_len (show r < t.n by omega) hrl
 generalize t.ns[r]=d at hrd
 refine CallOb.mk [] M0 _ (.refl _) (Right_spec hT.c ht) ?_
 rintro v J N - ⟨rfl,rfl,rfl⟩
 refine CondOb.mk (fun h=>absurd h (by simp[hr])) (fun _=>?_)
 refine IdxOb.mk ad r had hrr (by omega) ?_
 refine LoadOb.mk _ (hrd _) ?_
 exact⟨_,_,.refl,rfl,rfl,rfl⟩
set_option maxRecDepth 100000 in
set_option maxHeartbeats 16000000 in
theorem wellCalled_V {I:GH} (hT:Tabs I debL) {g:Gr} (hgw:GrW I g):SpecE Tryz.prog 8 [g.val] I [] fun v I' M'=>v=.bool true:=by
 refine specE_of_V [] TryzEOK Tryz.func8 rfl rfl rfl ?_
 intro B h0
 refine CallOb.mk [] [] _ (.refl _) (large13_spec hgw) ?_
 rintro v J N - ⟨⟨r,rfl,hr⟩,hJ',hN'⟩
 subst J
 subst N
 cases r with
 | true=>
  refine GuardOb.mk (fun h=>absurd h (by simp)) (fun _=>?_)
  refine CallOb.mk [] [] _ (.refl _) (awake13_spec hT) ?_
  rintro v J1 N - ⟨rfl,hJ1,rfl⟩
  exact⟨_,_,.refl,rfl⟩
 | false=>
 refine GuardOb.mk (fun _=>?_) (fun h=>absurd h (by simp))
 refine CallOb.mk [] [] _ (.refl _) (awake13_spec hT) ?_
 rintro v J1 N - ⟨rfl,hJ1,rfl⟩
 refine CondOb.mk (fun h=>by cases h) (fun _=>?_)
 have hgs:=hr rfl
 have hT:=hT.mono hJ1
 have hg:=(hgw.mono hJ1).ok11 hgs
 have hgn:=hg.n
 have hg400:=hgs.n
 clear hgw hr
 have hkg:∀ d∈g.ds,KB d.t:=fun d hd n hn=>by have:=((hgs.ds d hd).t.ns n hn).kn;omega
 refine LoopOb.inv (ι:=Nat×GH) (fun s=>{ fl:=[(1,.ref 1 0),(3,.val (.int .i64 s.1))],cl:=[(1,[.slice g.a g.n g.c])],gi:=s.2,mi:=[] }) (fun s=>s.1≤g.n∧∀ b o,J1 b=some o→s.2 b=some o) (fun s=>g.n - s.1) ?_ ?_
 ·exact⟨(0,J1),⟨Nat.zero_le _,fun _ _ h=>h⟩,.refl,aF2,.cons rfl (.nil)⟩
 rintro⟨i,J⟩ ⟨hi,hJ⟩
 simp only at hi hJ
 have hTJ:=hT.mono hJ
 have hgJ:=hg.mono hJ
 refine GuardOb.mk (fun h1=>?_) (fun h1=>?_)
 rotate_left
 ·exact⟨_,_,.refl,rfl⟩
 have hlt:i < g.n:=by have:(i:Int) < (g.n:Int):=of_decide_eq_true h1;omega
 refine CallOb.mk [] [] _ (.refl _) (May_spec hTJ hgJ) ?_
 rintro v J2 N - ⟨rfl,hJ2,rfl⟩
 have hT2:=hTJ.mono hJ2
 have hg2:=hgJ.mono hJ2
 by_cases hm:mayG debL g=0
 rotate_left
 ·refine CondOb.mk (fun h=>absurd h (by simp[hm])) (fun _=>?_)
  exact⟨_,_,.refl,rfl⟩
 refine CondOb.mk (fun _=>?_) (fun h=>absurd h (by simp[hm]))
 have hM:=mayF_of hgn hm
 have hids:i < g.ds.length:=by omega
 refine CodeOb.draw TryzEOK rfl rfl rfl ?_
 refine PCallOb.mk _ (Calls_spec hT2 hg2 (by omega) i) ?_
 rintro v J3 N hJ3 ⟨-,x5,rfl,hx5,hl5,rfl⟩
 have hT3:=hT2.mono hJ3
 have hg3:=hg2.mono hJ3
 refine CallOb.whole _ (WLefts_own hT3 hg3 hkg i) ?_
 rintro v J4 N - ⟨hJ4,ol,l,hol,rfl,hN,hl⟩
 subst N
 have hT4:=hT3.mono hJ4
 have hg4:=hg3.mono hJ4
 have hx5:=hx5.mono hJ4
 have hl1:=hl.len
 have hl0:=hl.get hm hlt
 have hln:=OS.pos hol
 have n5:=hx5.n
 have c5:=hx5.rs.cap
 have hJ04:∀ b o,J1 b=some o→J4 b=some o:=fun b o h=>hJ4 _ _ (hJ3 _ _ (hJ2 _ _ (hJ _ _ h)))
 refine LoopOb.inv (ι:=Nat) (fun k=>{ fl:=[(1,.ref 1 0),(3,.val (.int .i64 i)),(4,.val x5.val),(5,.val ol.val),(6,.val (.int .i64 k))],cl:=[(1,[.slice g.a g.n g.c])],gi:=J4,mi:=ol.blk 3++[] }) (fun k=>k≤l.length) (fun k=>l.length - k) ?_ ?_
 ·exact⟨0,Nat.zero_le _,.refl,aF5,.cons rfl (.nil)⟩
 intro k hk
 refine CondOb.mk (fun h2=>?_) (fun h2=>?_)
 ·have hlt2:k < l.length:=by have:(k:Int) < (ol.n:Int):=of_decide_eq_true h2;omega
  obtain⟨al,hal,hrl⟩:=os_ints (I:=J4) (M:=ol.blk 3++[]) (e:=3) hol (fun z hz=>List.mem_append_left _ hz) hlt2
  have hlk:(l[k]:Int)∈x5.l:=by
   rw[hl5]
   exact lefts_called hgn hm (F:=flowG g.ds) hlt (by rw[←hl0];exact List.getElem_mem hlt2)
  have hprev:∀ (h:0 < k),∃ al',∃ y:Nat,ol.a.map (fun g=>(⟨g,0,none⟩:Addr))=some al'∧Rd J4 (ol.blk 3++[]) (al'.add ((k - 1) * 1)) 1 [.int .i64 y]∧((y:Nat):Int) < (l[k]:Int):=fun h=>by
   obtain⟨a',h3,h4⟩:=os_ints (I:=J4) (M:=ol.blk 3++[]) (e:=3) hol (fun z hz=>List.mem_append_left _ hz) (show k - 1 < l.length by omega)
   refine⟨a',_,h3,h4,?_⟩
   subst hl0
   have:=refLefts_rise (ds:=g.ds) (F:=flowG g.ds) (i:=i) (show k - 1 < k by omega) hlt2
   omega
  generalize l[k]=y at hrl hlk hprev
  refine LoopOb.inv (ι:=Nat×Bool) (fun s=>{ fl:=[(1,.ref 1 0),(3,.val (.int .i64 i)),(4,.val x5.val),(5,.val ol.val),(6,.val (.int .i64 k)),(7,.val (.bool s.2)),(8,.val (.int .i64 s.1))],cl:=[(1,[.slice g.a g.n g.c])],gi:=J4,mi:=ol.blk 3++[] }) (fun s=>s.1≤x5.n∧((∃ j,∃ h:j < x5.l.length,j < s.1∧x5.l[j]=(y:Int))→s.2=true)) (fun s=>x5.n - s.1) ?_ ?_
  ·exact⟨(0,false),⟨Nat.zero_le _,fun ⟨j,_,h,_⟩=>absurd h (Nat.not_lt_zero _)⟩,.refl,.cons .refl (.cons .refl (.cons .refl (.cons .refl (.cons .refl (.cons .lit (.cons .refl .nil)))))),.cons rfl (.nil)⟩
  rintro⟨j,th⟩ ⟨hj,hth⟩
  simp only at hj hth
  refine CondOb.mk (fun h3=>?_) (fun h3=>?_)
  ·have hlt3:j < x5.n:=by have:(j:Int) < (x5.n:Int):=of_decide_eq_true h3;omega
   have hjl:j < x5.l.length:=by omega
   obtain⟨ac,hac,hrc⟩:=hx5.rs.one hlt3 hjl
   have hstep:∀ th',(th'=true ↔ th=true∨x5.l[j]=(y:Int))→(∃ q,∃ h:q < x5.l.length,q < j+1∧x5.l[q]=(y:Int))→th'=true:=fun th' h4 ⟨q,h5,h6,h7⟩=>by
    by_cases e:q=j
    ·subst e
     exact h4.2 (.inr h7)
    ·exact h4.2 (.inl (hth ⟨q,h5,by omega,h7⟩))
   generalize x5.l[j]=z at hrc hstep
   cases th with
   | true=>
    refine CodeOb.draw TryzEOK rfl rfl rfl ?_
    refine GuardOb.mk (fun h=>absurd h (by simp)) (fun _=>?_)
    refine ArithOb.mk _ (next_wr (i:=j) (by omega)) ?_
    exact⟨(j+1,true),⟨⟨hlt3,fun _=>rfl⟩,by simp only;omega⟩,.refl,.cons .refl (.cons .refl (.cons .refl (.cons .refl (.cons .refl (.cons .lit (.cons .refl .nil)))))),.cons rfl (.nil)⟩
   | false=>
    refine CodeOb.draw TryzEOK rfl rfl rfl ?_
    refine GuardOb.mk (fun _=>?_) (fun h=>absurd h (by simp))
    refine IdxOb.mk ac j hac rfl hlt3 ?_
    refine LoadOb.mk _ (hrc _) ?_
    refine IdxOb.mk al k hal rfl (by omega) ?_
    refine LoadOb.mk _ hrl ?_
    refine ArithOb.mk _ (next_wr (i:=j) (by omega)) ?_
    exact⟨(j+1,decide (z=(y:Int))),⟨⟨hlt3,hstep _ (by simp)⟩,by simp only;omega⟩,.refl,aF7,.cons rfl (.nil)⟩
  have hge3:j=x5.n:=by have:¬ (j:Int) < (x5.n:Int):=of_decide_eq_false h3;omega
  have hth:th=true:=hth (by
   obtain⟨q,h4,h5⟩:=List.getElem_of_mem hlk
   exact⟨q,h4,by omega,h5⟩)
  subst hth
  by_cases hk0:0 < k
  ·obtain⟨al',y',hal',hrl',hlt'⟩:=hprev hk0
   refine CodeOb.draw TryzEOK rfl rfl rfl ?_
   refine GuardOb.mk (fun _=>?_) (fun h=>absurd h (by simp))
   refine GuardOb.mk (fun _=>?_) (fun h=>absurd h (by simp;omega))
   refine ArithOb.mk ((k - 1:Nat):Int) (by rw[wrap_i64 ⟨by omega,by omega⟩];omega) ?_
   refine IdxOb.mk al' (k - 1) hal' rfl (by omega) ?_
   refine LoadOb.mk _ hrl' ?_
   refine IdxOb.mk al k hal rfl (by omega) ?_
   refine LoadOb.mk _ hrl ?_
   refine CondOb.mk (fun h=>?_) (fun _=>?_)
   ·exfalso
    have:(y:Int)≤(y':Int):=of_decide_eq_true h
    omega
   refine ArithOb.mk _ (next_wr (i:=k) (by omega)) ?_
   exact⟨k+1,⟨hlt2,by omega⟩,.refl,aF5,.cons rfl (.nil)⟩
  ·have:k=0:=by omega
   subst this
   refine CodeOb.draw TryzEOK rfl rfl rfl ?_
   refine GuardOb.mk (fun _=>?_) (fun h=>absurd h (by simp))
   refine GuardOb.mk (fun h=>absurd h (by simp)) (fun _=>?_)
   refine ArithOb.mk _ (next_wr (i:=0) (by omega)) ?_
   exact⟨0+1,⟨hlt2,by omega⟩,.refl,aF5,.cons rfl (.nil)⟩
 have hdm:=List.getElem_mem hids
 have hrt:=hM.right _ hdm
 obtain⟨r0,r1⟩:=right_root hrt
 obtain⟨q,hq⟩:=Int.eq_ofNat_of_zero_le r0
 have hql:q < g.ds[i].t.ns.length:=by omega
 obtain⟨ad,had,hrd⟩:=hg4.rs.row Df.cells_len hlt hids
 have hdok:=(hg4.ds _ hdm).t
 have hrule:=lefts_rule hM (F:=flowG g.ds) hids hq hql
 rw[←hl0] at hrule
 have hroot:=Root_spec (M0:=ol.blk 3++[]) hT4 hdok hrt hq hql
 refine IdxOb.mk ad i had rfl hlt ?_
 refine LoadOb.mk _ ((hrd _).part (k:=1) (m:=2) (by omega)) ?_
 refine CallOb.whole _ hroot ?_
 rintro v J5 N - ⟨rfl,hJ5,hN⟩
 subst J5
 subst N
 generalize g.ds[i].t.ns[q]=nd at hrule
 by_cases h3:nd.k=3
 ·obtain⟨p,hp1,hp2⟩:=hrule h3
  subst hp2
  have hn1:ol.n=1:=by simpa using hln.symm
  obtain⟨al,hal,hrl⟩:=os_ints (I:=J4) (M:=ol.blk 3++[]) (e:=3) hol (fun z hz=>List.mem_append_left _ hz) (show 0 < [p].length by simp)
  refine CodeOb.draw TryzEOK rfl rfl rfl ?_
  refine GuardOb.mk (fun _=>?_) (fun h=>absurd h (by simp[Nd.withKids,h3]))
  refine GuardOb.mk (fun _=>?_) (fun h=>absurd h (by simp[hn1]))
  refine IdxOb.mk al 0 hal rfl (by omega) ?_
  refine LoadOb.mk _ hrl ?_
  refine PCallOb.mkR [] (ol.blk 3++[]) _ (.refl _) (Find_spec hg4 nd.t) (fun _ _ _ _ x hx=>by cases hx) ?_
  rintro v J5 N - ⟨rfl,hJ5,rfl⟩
  subst J5
  refine CondOb.mk (fun h=>absurd h (by simp[hp1])) (fun _=>?_)
  refine ArithOb.mk _ (next_wr (i:=i) (by omega)) ?_
  exact⟨(i+1,J4),⟨⟨hlt,hJ04⟩,by simp only;omega⟩,.sub (List.nil_sublist _) .refl,aF2,.cons rfl (.nil)⟩
 ·refine CodeOb.draw TryzEOK rfl rfl rfl ?_
  refine GuardOb.mk (fun h=>absurd h (by simp[Nd.withKids,h3])) (fun _=>?_)
  refine ArithOb.mk _ (next_wr (i:=i) (by omega)) ?_
  exact⟨(i+1,J4),⟨⟨hlt,hJ04⟩,by simp only;omega⟩,.sub (List.nil_sublist _) .refl,aF2,.cons rfl (.nil)⟩
section
variable {X:Ctx} {β:Nat→Nat} {F:Fr} {C:Bx} {I:GH} {M:List Blk} {o:Oper} {K:KS}
theorem und_slice {P:Program} {E:Env} (hE:EOK P E) {t e:Nat} {ti:TI} (ht:E t=some ti) (hts:ti.sh=.slice e):P.underlying t=some (.slice e):=by
 obtain⟨dt,htd,hdt⟩:=(hE _ _ ht).und
 have hdt':dt=.slice e:=by
  rw[hts] at hdt
  cases dt<;>simp_all[shOf]
 rw[htd,hdt']
theorem BinOb.nilS {P:Program} {E:Env} (hE:EOK P E) {t e:Nat} {ti:TI} {x y:Operand} (ht:E t=some ti) (hts:ti.sh=.slice e) {a:Option Addr} {n c n' c':Nat} {V:Value→Prop} {other:Prop}
  (h:V (.bool a.isNone)):BinOb P .eql t x y (.val (.slice a n c)) (.val (.slice none n' c')) V other:=by
 have h1:=und_slice hE ht hts
 refine .mk _ _ _ rfl rfl (fun w=>?_) h
 have e1:(eqGuard .eql t x y (.slice a n c) (.slice none n' c')).run P w=.ok () w:=by unfold eqGuard;rfl
 simp only[Sem.run_bind,e1,Result.andThen_ok]
 exact Lib.run_eql_slice_nil w t e a n c n' c' h1
theorem OtherOb.slice3 (hE:EOK X.P X.E) {t:Nat} {x lo hi mx:Operand} (ho:o.op=.slice t x (some lo) (some hi) (some mx)) (hd:∀ d,o.dst=some d→d < X.n)
  {e:Nat} {ti ei:TI} (ht:X.E t=some ti) (hts:ti.sh=.slice e) (he:X.E e=some ei) {ad:Option Addr} {n c:Nat} (l h m:Nat) {k1 k2 k3:IntKind}
  (hx:ev F x=.val (.slice ad n c)) (hlo:ev F lo=.val (.int k1 (l:Nat))) (hhi:ev F hi=.val (.int k2 (h:Nat))) (hmx:ev F mx=.val (.int k3 (m:Nat)))
  (h1:l≤h) (h2:h≤m) (h3:m≤c) (k:K (put o.dst (.val (.slice (if m=l then ad else ad.map (·.add (l * ei.size))) (h - l) (m - l))) F) C I M):OtherOb X o F C I M K:=by
 refine⟨fun a w Q ⟨β,hR⟩=>?_⟩
 have hu:=und_slice hE ht hts
 refine wpIn_val (by rw[ho];simp) (v:=.slice (if m=l then ad else ad.map (·.add (l * ei.size))) (h - l) (m - l)) (w':=w) ?_ ⟨_,_,_,_,⟨β,RelB.put (x:=.val (.slice (if m=l then ad else ad.map (·.add (l * ei.size))) (h - l) (m - l))) hR hd rfl⟩,k⟩
 have ex:=eval_of_ev hR.fr hx
 have e1:=eval_of_ev hR.fr hlo
 have e2:=eval_of_ev hR.fr hhi
 have e3:=eval_of_ev hR.fr hmx
 simp only[execOp,ho,Instr.sliceAt,Instr.slice,Instr.sliceBounds,Instr.sliceBound,ex,Sem.run_bind,run_underlying hu,Result.andThen_ok,(hE _ _ he).run_sizeOf,Sem.run_pure,Option.map_some,Option.map_none,e1,e2,e3,asIntOf_int]
 rw[if_pos ⟨by omega,by omega⟩]
 simp only[Sem.run_pure,Result.andThen_ok,Int.toNat_natCast]
 rw[if_pos ⟨by omega,by omega⟩]
 simp only[Sem.run_pure,Result.andThen_ok,Int.toNat_natCast]
 rw[if_pos ⟨by omega,by omega⟩]
 simp
theorem OtherOb.appIn (hE:EOK X.P X.E) {s x:Operand} {t:Nat} (ho:o.op=.call { callee:=.builtin .append,args:=#[s,x],argTypes:=#[t,t] }) (hd:∀ d,o.dst=some d→d < X.n)
  {e:Nat} {ti ei:TI} (ht:X.E t=some ti) (hts:ti.sh=.slice e) (he:X.E e=some ei)
  {g n c:Nat} {cur:List Value} (hs:ev F s=.val (.slice (some ⟨g,0,none⟩) n c)) (hc:cur.length=c * ei.size)
  {ad:Addr} {m c':Nat} (hx:ev F x=.val (.slice (some ad) m c')) {news:List Value} (hn:Rd I M ad (m * ei.size) news) (h1:allOne news=true) (hroom:n+m≤c)
  (pre post:List Blk) (hM:M=pre++⟨g,.cells cur.toArray e (0,0)⟩::post)
  (k:K (put o.dst (.val (.slice (some ⟨g,0,none⟩) (n+m) c)) F) C I (pre++⟨g,.cells (splice cur (n * ei.size) news).toArray e (0,0)⟩::post)):OtherOb X o F C I M K:=by
 refine⟨fun a w Q ⟨β,hR⟩=>?_⟩
 have hu:=und_slice hE ht hts
 obtain⟨inf,z,hi,hi1,hi2,hi3,hi4⟩:=(hE _ _ he).inf
 have hg:w.heap[g]?=some (.cells cur.toArray e (0,0)):=hR.holds.m ⟨g,.cells cur.toArray e (0,0)⟩ (by rw[hM];simp)
 have hl:news.length=m * ei.size:=by
  obtain⟨_,_,_,_,_,_,h⟩:=hn
  exact h
 have hfit:n * ei.size+news.length≤cur.length:=by rw[hl,hc,←Nat.add_mul];exact Nat.mul_le_mul_right _ hroom
 have hst:=run_storeCells_at X.P g (n * ei.size) e news 0 cur.toArray w hg (by simpa using hfit) (allOne_spec h1)
 simp only[Nat.add_zero] at hst
 have hf:(Builtin.firstCells ei.size m (.slice (some ad) m c')).run X.P w=.ok news.toArray w:=by
  obtain⟨hsp,cs,T,fr,hkn,hv,hl⟩:=hn
  refine run_firstCells_some (P:=X.P) w ei.size m ad m c' news hl fun j v hj=>?_
  rw[addr_add _ hsp,cell_of_block (hkn.heap hR.holds)]
  rw[←hv,List.getElem?_take] at hj
  split at hj
  ·rw[List.getElem?_drop] at hj
   simpa using hj
  ·cases hj
 have es:=eval_of_ev hR.fr hs
 have ex:=eval_of_ev hR.fr hx
 refine wpIn_val (by rw[ho];simp) (v:=.slice (some ⟨g,0,none⟩) (n+m) c) (w':=w.setRow g (splice cur (n * ei.size) news).toArray) ?_ ⟨_,_,_,_,⟨β,RelB.put (x:=.val (.slice (some ⟨g,0,none⟩) (n+m) c)) ?_ hd rfl⟩,k⟩
 ·have hrun:(Builtin.append_ #[t,t] o.type #[.slice (some ⟨g,0,none⟩) n c,.slice (some ad) m c']).run X.P w=.ok (.slice (some ⟨g,0,none⟩) (n+m) c) (w.setRow g (splice cur (n * ei.size) news).toArray):=by
   rw[←hi1] at hf hst ⊢
   simp[Builtin.append_,Builtin.lenOf,run_underlying hu,sizeOf,typeInfo,hi,hroom,hf,Addr.add_lit,hst,splice]
  unfold execOp
  simp only[ho,resolve,invoke,builtin,Sem.run_bind,Sem.run_pure,Result.andThen_ok,List.map_toArray,List.map_cons,List.map_nil,es,ex,hrun]
 ·exact hR.store_blk hM
theorem OtherOb.clear (hE:EOK X.P X.E) {x:Operand} {t:Nat} (ho:o.op=.call { callee:=.builtin .clear,args:=#[x],argTypes:=#[t] }) (hd:∀ d,o.dst=some d→d < X.n)
  {e:Nat} {ti ei:TI} (ht:X.E t=some ti) (hts:ti.sh=.slice e) (he:X.E e=some ei)
  {g off n c:Nat} {cur:List Value} (hx:ev F x=.val (.slice (some ⟨g,off,none⟩) n c)) (h0:0 < n) (hfit:off+n * ei.size≤cur.length)
  (pre post:List Blk) (hM:M=pre++⟨g,.cells cur.toArray e (0,0)⟩::post)
  (k:∀ vs:List Value,vs.length=n * ei.size→K (put o.dst (.val (.tuple #[])) F) C I (pre++⟨g,.cells (splice cur off vs).toArray e (0,0)⟩::post)):OtherOb X o F C I M K:=by
 refine⟨fun a w Q ⟨β,hR⟩=>?_⟩
 have hu:=und_slice hE ht hts
 obtain⟨inf,z,hi,hi1,hi2,hi3,hi4⟩:=(hE _ _ he).inf
 have hg:w.heap[g]?=some (.cells cur.toArray e (0,0)):=hR.holds.m ⟨g,.cells cur.toArray e (0,0)⟩ (by rw[hM];simp)
 have hzs:z.cells.size=ei.size:=by
  have:=(hE _ _ he).len
  rw[←hi4] at this
  simpa using this
 have hl:(Builtin.zeroCells z.cells n).toList.length=n * ei.size:=by rw[Array.length_toList,size_zeroCells,hzs]
 have hone:∀ v∈(Builtin.zeroCells z.cells n).toList,v.oneCell'=true:=fun v hv=>by
  simp only[Builtin.zeroCells,Array.toList_map,List.mem_map,Array.toList_range,List.mem_range] at hv
  obtain⟨j,hj,rfl⟩:=hv
  have hpos:0 < z.cells.size:=by
   rcases Nat.eq_zero_or_pos z.cells.size with h | h
   ·rw[h,Nat.mul_zero] at hj
    omega
   ·exact h
  have hlt:=Nat.mod_lt j hpos
  rw[getElem!_pos z.cells _ hlt]
  exact(hE _ _ he).one _ (by rw[←hi4];exact Array.mem_toList_iff.2 (Array.getElem_mem hlt))
 have hst:=run_storeCells_at X.P g off e (Builtin.zeroCells z.cells n).toList 0 cur.toArray w hg (by rw[hl];simpa using hfit) hone
 simp only[Nat.add_zero] at hst
 have hzero:(zeroValue e).run X.P w=.ok z w:=by simp[zeroValue,typeInfo,hi,hi3]
 have ex:=eval_of_ev hR.fr hx
 refine wpIn_val (by rw[ho];simp) (v:=.tuple #[]) (w':=w.setRow g (splice cur off (Builtin.zeroCells z.cells n).toList).toArray) ?_ ⟨_,_,_,_,⟨β,RelB.put (x:=.val (.tuple #[])) ?_ hd rfl⟩,k _ hl⟩
 ·have hrun:(Builtin.clear_ #[t] o.type #[.slice (some ⟨g,off,none⟩) n c]).run X.P w=.ok (.tuple #[]) (w.setRow g (splice cur off (Builtin.zeroCells z.cells n).toList).toArray):=by
   obtain⟨n,rfl⟩:∃ q,n=q+1:=⟨n - 1,by omega⟩
   simp[Builtin.clear_,run_underlying hu,hzero,hst,splice]
  unfold execOp
  simp only[ho,resolve,invoke,builtin,Sem.run_bind,Sem.run_pure,Result.andThen_ok,List.map_toArray,List.map_cons,List.map_nil,ex,hrun]
 ·exact hR.store_blk hM
end
theorem OS.frz {I J:GH} {M:List Blk} (hF:Frz I M J) {os:OS} {xs:List Value} {e size b:Nat} (h:os.ok size xs) (hM:∀ x∈os.blk e,x∈M) (hb:os.n * b≤140737488355328):RS J (os.a.map fun g=>⟨g,0,none⟩) os.n os.c size b xs:=by
 obtain⟨a,n,c,cur⟩:=os
 cases a with
 | none=>
  obtain⟨h1,h2⟩:=h.nil rfl
  exact⟨h.len,⟨by simp only at h1 h2 ⊢;omega,hb⟩,.inl h1⟩
 | some g=>
  obtain⟨h1,h2,h3,h4⟩:=h.cap g rfl
  exact⟨h.len,⟨h2,hb⟩,.inr ⟨⟨g,0,none⟩,rfl,rfl,cur.toArray,e,(0,0),hF.kn _ _ (.inr ⟨⟨g,.cells cur.toArray e (0,0)⟩,hM _ (.head _),rfl,rfl⟩),by simpa using h4⟩⟩
theorem RS.one' {I:GH} {a:Option Addr} {n c size b:Nat} {vs:List Value} (h:RS I a n c size b vs) (M:List Blk) (h0:0 < n):∃ ad,a=some ad∧Rd I M ad (n * size) vs:=by
 rcases h.rd with h1 | ⟨ad,h1,h2,cs,T,fr,h3,h4⟩
 ·omega
 ·exact⟨ad,h1,h2,cs,T,fr,.inl h3,h4,h.len⟩
theorem ints_one (l:List Int):allOne (l.map (.int .i64 ·))=true:=List.all_eq_true.2 fun v hv=>by
 obtain⟨k,_,rfl⟩:=List.mem_map.1 hv
 rfl
theorem flat_one {α:Type} {f:α→List Value} (h:∀ x,allOne (f x)=true) (l:List α):allOne (l.flatMap f)=true:=List.all_eq_true.2 fun v hv=>by
 obtain⟨x,_,hx⟩:=List.mem_flatMap.1 hv
 exact List.all_eq_true.1 (h x) v hx
theorem Nd.one (d:Nd):allOne d.cells=true:=rfl
theorem Df.one (d:Df):allOne d.cells=true:=rfl
set_option maxHeartbeats 1000000 in
theorem CloneI_own {I:GH} {M0:List Blk} {a:Option Addr} {n c:Nat} {vs:List Value} (h:RS I a n c 1 8 vs) (h1:allOne vs=true):Spec Tryz.prog 141 [.slice a n c] I M0 fun v I' M'=>I'=I∧∃ os:OS,os.n=n∧os.ok 1 vs∧v=os.val∧M'=os.blk 3++M0:=by
 refine spec_of_V [] TryzEOK Tryz.func141 rfl rfl rfl ?_
 intro B h0
 have hcap:=h.cap
 refine BinOb.nilS TryzEOK rfl rfl ?_
 refine CondOb.mk (fun hc=>?_) (fun hc=>?_)
 ·have hn:n=0:=by
   rcases h.rd with h2 | ⟨ad,h2,_⟩
   ·exact h2
   ·rw[h2] at hc;cases hc
  subst hn
  have h3:vs=[]:=List.eq_nil_of_length_eq_zero (by rw[h.len,Nat.zero_mul])
  subst h3
  exact⟨_,_,.refl,rfl,OS0,rfl,OS0_ok 1,rfl,rfl⟩
 refine AllocOb.mk fun b hb hbM=>?_
 refine OtherOb.appL TryzEOK rfl (by simp) (e:=3) rfl rfl rfl ⟨some b,0,0,[]⟩ (xs:=[]) ⟨rfl,(fun h=>by cases h),(fun g h=>⟨rfl,Nat.le_refl _,Nat.zero_le _,rfl⟩)⟩ rfl (sa:=a) (m:=n) (c':=c) (news:=vs) rfl h.len (h.one' _) h1 [] M0 rfl (by simp only;omega) (by show (0+n) * 8≤_;omega) ?_
 intro os hn hI hok
 rw[List.nil_append] at hok
 exact⟨_,_,.refl,rfl,os,hn.trans (Nat.zero_add n),hok,rfl,rfl⟩
theorem CloneI_spec {I:GH} {M0:List Blk} {a:Option Addr} {n c:Nat} {vs:List Value} (h:RS I a n c 1 8 vs) (h1:allOne vs=true):Spec Tryz.prog 141 [.slice a n c] I M0 fun v I' M'=>(∀ b o,I b=some o→I' b=some o)∧M'=M0∧∃ a' c',v=.slice a' n c'∧RS I' a' n c' 1 8 vs:=by
 refine Spec.weakK (Spec.frame (Spec.frz (CloneI_own (M0:=[]) h h1))) ?_
 rintro v J M ⟨M',rfl,-,hJ,rfl,-,I',M1,⟨rfl,os,rfl,hos,rfl,rfl⟩,hF⟩
 have hcap:=h.cap
 exact⟨hJ,rfl,_,_,rfl,OS.frz hF hos (fun z hz=>List.mem_append_left _ hz) hcap.2⟩
set_option maxHeartbeats 1000000 in
theorem CloneN_spec {I:GH} {M0:List Blk} {a:Option Addr} {n c:Nat} {vs:List Value} (h:RS I a n c 9 96 vs) (h1:allOne vs=true):Spec Tryz.prog 140 [.slice a n c] I M0 fun v I' M'=>I'=I∧∃ os:OS,os.n=n∧os.ok 9 vs∧v=os.val∧M'=os.blk 82++M0:=by
 refine spec_of_V [] TryzEOK Tryz.func140 rfl rfl rfl ?_
 intro B h0
 have hcap:=h.cap
 refine BinOb.nilS TryzEOK rfl rfl ?_
 refine CondOb.mk (fun hc=>?_) (fun hc=>?_)
 ·have hn:n=0:=by
   rcases h.rd with h2 | ⟨ad,h2,_⟩
   ·exact h2
   ·rw[h2] at hc;cases hc
  subst hn
  have h3:vs=[]:=List.eq_nil_of_length_eq_zero (by rw[h.len,Nat.zero_mul])
  subst h3
  exact⟨_,_,.refl,rfl,OS0,rfl,OS0_ok 9,rfl,rfl⟩
 refine AllocOb.mk fun b hb hbM=>?_
 refine OtherOb.appL TryzEOK rfl (by simp) (e:=82) rfl rfl rfl ⟨some b,0,0,[]⟩ (xs:=[]) ⟨rfl,(fun h=>by cases h),(fun g h=>⟨rfl,Nat.le_refl _,Nat.zero_le _,rfl⟩)⟩ rfl (sa:=a) (m:=n) (c':=c) (news:=vs) rfl h.len (h.one' _) h1 [] M0 rfl (by simp only;omega) (by show (0+n) * 96≤_;omega) ?_
 intro os hn hI hok
 rw[List.nil_append] at hok
 exact⟨_,_,.refl,rfl,os,hn.trans (Nat.zero_add n),hok,rfl,rfl⟩
set_option maxHeartbeats 1000000 in
theorem CloneD_spec {I:GH} {M0:List Blk} {a:Option Addr} {n c:Nat} {vs:List Value} (h:RS I a n c 3 48 vs) (h1:allOne vs=true):Spec Tryz.prog 131 [.slice a n c] I M0 fun v I' M'=>I'=I∧∃ os:OS,os.n=n∧os.ok 3 vs∧v=os.val∧M'=os.blk 46++M0:=by
 refine spec_of_V [] TryzEOK Tryz.func131 rfl rfl rfl ?_
 intro B h0
 have hcap:=h.cap
 refine BinOb.nilS TryzEOK rfl rfl ?_
 refine CondOb.mk (fun hc=>?_) (fun hc=>?_)
 ·have hn:n=0:=by
   rcases h.rd with h2 | ⟨ad,h2,_⟩
   ·exact h2
   ·rw[h2] at hc;cases hc
  subst hn
  have h3:vs=[]:=List.eq_nil_of_length_eq_zero (by rw[h.len,Nat.zero_mul])
  subst h3
  exact⟨_,_,.refl,rfl,OS0,rfl,OS0_ok 3,rfl,rfl⟩
 refine AllocOb.mk fun b hb hbM=>?_
 refine OtherOb.appL TryzEOK rfl (by simp) (e:=46) rfl rfl rfl ⟨some b,0,0,[]⟩ (xs:=[]) ⟨rfl,(fun h=>by cases h),(fun g h=>⟨rfl,Nat.le_refl _,Nat.zero_le _,rfl⟩)⟩ rfl (sa:=a) (m:=n) (c':=c) (news:=vs) rfl h.len (h.one' _) h1 [] M0 rfl (by simp only;omega) (by show (0+n) * 48≤_;omega) ?_
 intro os hn hI hok
 rw[List.nil_append] at hok
 exact⟨_,_,.refl,rfl,os,hn.trans (Nat.zero_add n),hok,rfl,rfl⟩
structure CpT (I:GH) (t:Tr) (os0:OS) (x:Nat×OS×List Nd×GH):Prop where
 i:x.1≤t.n
 ok:x.2.1.ok 9 (x.2.2.1.flatMap Nd.cells)
 ct:x.2.2.1.map Nd.ct=t.ns.map Nd.ct
 ns:∀ d∈x.2.2.1,d.ok x.2.2.2
 le:∀ b o,I b=some o→x.2.2.2 b=some o
 a:x.2.1.a=os0.a
 v:x.2.1.val=os0.val
theorem set_ct {L:List Nd} {i:Nat} (hi:i < L.length) {d:Nd} (h:d.ct=L[i].ct):(L.set i d).map Nd.ct=L.map Nd.ct:=by
 rw[List.map_set,h]
 refine List.ext_getElem? fun j=>?_
 rw[List.getElem?_set]
 split
 ·rename_i e
  subst e
  rw[List.length_map,if_pos hi,List.getElem?_map,List.getElem?_eq_getElem hi]
  rfl
 ·rfl
theorem os_n {os os':OS} (h:os.val=os'.val):os.n=os'.n∧os.c=os'.c:=by
 unfold OS.val at h
 injection h with h1 h2 h3
 exact⟨h2,h3⟩
set_option maxRecDepth 100000 in
set_option maxHeartbeats 4000000 in
theorem copied_own {I:GH} {t:Tr} (ht:t.ok I):Spec Tryz.prog 98 [t.val] I [] fun v I' M'=>(∀ b o,I b=some o→I' b=some o)∧∃ (os:OS) (L:List Nd),v=.agg #[os.val,.int .i64 t.root]∧os.n=t.n∧os.ok 9 (L.flatMap Nd.cells)∧M'=os.blk 82∧L.map Nd.ct=t.ns.map Nd.ct∧∀ d∈L,d.ok I':=by
 refine spec_of_V [] TryzEOK Tryz.func98 rfl rfl rfl ?_
 intro B h0
 have htn:=ht.n
 have hcap:=ht.rs.cap
 refine CallOb.whole _ (CloneN_spec ht.rs (flat_one Nd.one _)) ?_
 rintro v J N - ⟨rfl,os0,hosn0,hos0,rfl,hN⟩
 subst N
 refine LoopOb.inv (ι:=Nat×OS×List Nd×GH) (fun x=>{ fl:=[(1,.ref 1 0),(2,.ref 2 0),(10,.val os0.val),(11,.val (.int .i64 os0.n)),(12,.val (.int .i64 x.1))],cl:=[(1,[os0.val,.int .i64 t.root]),(2,[.slice none 0 0,.int .i64 0])],gi:=x.2.2.2,mi:=x.2.1.blk 82++[] }) (fun x=>CpT J t os0 x) (fun x=>t.n - x.1) ?_ ?_
 ·exact⟨(0,os0,t.ns,J),⟨Nat.zero_le _,hos0,rfl,ht.ns,fun _ _ h=>h,rfl,rfl⟩,.refl,aF5,.cons rfl (.cons rfl (.nil))⟩
 rintro⟨i,os,L,K⟩ ⟨hi,hos,hct,hns,hle,hoa,hov⟩
 simp only at hi hos hct hns hle hoa hov
 have hLn:L.length=t.ns.length:=by simpa using congrArg List.length hct
 obtain⟨hon,hoc⟩:=os_n hov
 refine CondOb.mk (fun h=>?_) (fun h=>?_)
 rotate_left
 ·exact⟨_,_,.refl,hle,os,L,by rw[hov];rfl,by omega,hos,by rw[List.append_nil],hct,hns⟩
 have hlt:i < t.n:=by have:(i:Int) < (os0.n:Int):=of_decide_eq_true h;omega
 have hiL:i < L.length:=by omega
 obtain⟨ad,had,hrd⟩:=OS.ok.row (I:=K) (M:=os.blk 82++[]) (e:=82) Nd.cells_len (by decide) hos (fun z hz=>List.mem_append_left _ hz) hiL
 have hdok:=hns _ (List.getElem_mem hiL)
 have hadI:=had
 rw[hoa] at hadI
 refine IdxOb.mk ad i hadI rfl (by omega) ?_
 refine LoadOb.mk _ hrd ?_
 refine CodeOb.draw TryzEOK rfl rfl rfl ?_
 refine PCallOb.whole _ (CloneI_spec hdok.rs (ints_one _)) (fun v I' M' h x hx=>by rw[h.2.1];exact hx) ?_
 rintro v K1 N - ⟨hK1,hN,a',c',rfl,hrs⟩
 subst N
 refine IdxOb.mk ad i hadI rfl (by omega) ?_
 have hnew:({ L[i] with ka:=a',kc:=c' }:Nd).ok K1:={ hdok.mono hK1 with rs:=hrs }
 have hnct:({ L[i] with ka:=a',kc:=c' }:Nd).ct=L[i].ct:=rfl
 have hset:=set_ct hiL hnct
 refine OS.putP (e:=82) Nd.cells 9 Nd.cells_len hos hiL 8 (vs:=[.slice a' L[i].kn c']) (Nat.le_of_ble_eq_true rfl) rfl { L[i] with ka:=a',kc:=c' } rfl [] [] (by simp) had ?_
 intro os2 hv2 ha2 hn2 hok2
 refine ArithOb.mk _ (next_wr (i:=i) (by omega)) ?_
 refine⟨(i+1,os2,L.set i { L[i] with ka:=a',kc:=c' },K1),⟨⟨hlt,hok2,hset.trans hct,fun d hd=>?_,fun b o h=>hK1 _ _ (hle _ _ h),ha2.trans hoa,hv2.trans hov⟩,by simp only;omega⟩,.refl,aF5,.cons rfl (.cons rfl (.nil))⟩
 rcases List.mem_or_eq_of_mem_set hd with hd | rfl
 ·exact(hns _ hd).mono hK1
 ·exact hnew
theorem copied_spec {I:GH} {M0:List Blk} {t:Tr} (ht:t.ok I):Spec Tryz.prog 98 [t.val] I M0 fun v I' M'=>(∀ b o,I b=some o→I' b=some o)∧M'=M0∧∃ t':Tr,v=t'.val∧t'.ok I'∧t'.ct=t.ct:=by
 refine Spec.weakK (Spec.frame (Spec.frz (copied_own ht))) ?_
 rintro v J M ⟨M',rfl,-,hJ,rfl,-,I',M1,⟨h1,os,L,rfl,hn,hos,rfl,hct,hns⟩,hF⟩
 have hcap:=ht.rs.cap
 refine⟨hJ,rfl,⟨L,os.a.map fun g=>⟨g,0,none⟩,os.n,os.c,t.root⟩,rfl,⟨OS.frz hF hos (fun _ h=>h) (by omega),fun d hd=>(hns d hd).mono hF.le,ht.root⟩,?_⟩
 unfold Tr.ct
 rw[hct,hn]
structure CpG (I:GH) (g:Gr) (os0:OS) (x:Nat×OS×List Df×GH):Prop where
 i:x.1≤g.n
 ok:x.2.1.ok 3 (x.2.2.1.flatMap Df.cells)
 ct:x.2.2.1.map Df.ct=g.ds.map Df.ct
 ds:∀ d∈x.2.2.1,d.ok x.2.2.2
 le:∀ b o,I b=some o→x.2.2.2 b=some o
 a:x.2.1.a=os0.a
 v:x.2.1.val=os0.val
theorem set_ctD {L:List Df} {i:Nat} (hi:i < L.length) {d:Df} (h:d.ct=L[i].ct):(L.set i d).map Df.ct=L.map Df.ct:=by
 rw[List.map_set,h]
 refine List.ext_getElem? fun j=>?_
 rw[List.getElem?_set]
 split
 ·rename_i e
  subst e
  rw[List.length_map,if_pos hi,List.getElem?_map,List.getElem?_eq_getElem hi]
  rfl
 ·rfl
set_option maxRecDepth 100000 in
set_option maxHeartbeats 4000000 in
theorem Copy_own {I:GH} {g:Gr} (hg:g.ok I):Spec Tryz.prog 92 [g.val] I [] fun v I' M'=>(∀ b o,I b=some o→I' b=some o)∧∃ (os:OS) (L:List Df),v=.agg #[os.val]∧os.n=g.n∧os.ok 3 (L.flatMap Df.cells)∧M'=os.blk 46∧L.map Df.ct=g.ds.map Df.ct∧∀ d∈L,d.ok I':=by
 refine spec_of_V [] TryzEOK Tryz.func92 rfl rfl rfl ?_
 intro B h0
 have hgn:=hg.n
 have hcap:=hg.rs.cap
 refine CallOb.whole _ (CloneD_spec hg.rs (flat_one Df.one _)) ?_
 rintro v J N - ⟨rfl,os0,hosn0,hos0,rfl,hN⟩
 subst N
 refine LoopOb.inv (ι:=Nat×OS×List Df×GH) (fun x=>{ fl:=[(1,.ref 1 0),(2,.ref 2 0),(10,.val os0.val),(11,.val (.int .i64 os0.n)),(12,.val (.int .i64 x.1))],cl:=[(1,[os0.val]),(2,[.slice none 0 0])],gi:=x.2.2.2,mi:=x.2.1.blk 46++[] }) (fun x=>CpG J g os0 x) (fun x=>g.n - x.1) ?_ ?_
 ·exact⟨(0,os0,g.ds,J),⟨Nat.zero_le _,hos0,rfl,hg.ds,fun _ _ h=>h,rfl,rfl⟩,.refl,aF5,.cons rfl (.cons rfl (.nil))⟩
 rintro⟨i,os,L,K⟩ ⟨hi,hos,hct,hds,hle,hoa,hov⟩
 simp only at hi hos hct hds hle hoa hov
 have hLn:L.length=g.ds.length:=by simpa using congrArg List.length hct
 obtain⟨hon,hoc⟩:=os_n hov
 refine CondOb.mk (fun h=>?_) (fun h=>?_)
 rotate_left
 ·exact⟨_,_,.refl,hle,os,L,by rw[hov];rfl,by omega,hos,by rw[List.append_nil],hct,hds⟩
 have hlt:i < g.n:=by have:(i:Int) < (os0.n:Int):=of_decide_eq_true h;omega
 have hiL:i < L.length:=by omega
 obtain⟨ad,had,hrd⟩:=OS.ok.row (I:=K) (M:=os.blk 46++[]) (e:=46) Df.cells_len (by decide) hos (fun z hz=>List.mem_append_left _ hz) hiL
 have hdok:=hds _ (List.getElem_mem hiL)
 have hadI:=had
 rw[hoa] at hadI
 refine IdxOb.mk ad i hadI rfl (by omega) ?_
 refine LoadOb.mk _ hrd ?_
 refine CodeOb.draw TryzEOK rfl rfl rfl ?_
 refine PCallOb.whole _ (copied_spec hdok.t) (fun v I' M' h x hx=>by rw[h.2.1];exact hx) ?_
 rintro v K1 N - ⟨hK1,hN,t',rfl,ht',htct⟩
 subst N
 refine IdxOb.mk ad i hadI rfl (by omega) ?_
 have hnew:(⟨L[i].name,t'⟩:Df).ok K1:=⟨hdok.name,ht'⟩
 have hnct:(⟨L[i].name,t'⟩:Df).ct=L[i].ct:=by
  unfold Df.ct
  rw[htct]
 have hset:=set_ctD hiL hnct
 refine OS.putP (e:=46) Df.cells 3 Df.cells_len hos hiL 1 (vs:=[.slice t'.a t'.n t'.c,.int .i64 t'.root]) (Nat.le_of_ble_eq_true rfl) rfl ⟨L[i].name,t'⟩ rfl [] [] (by simp) had ?_
 intro os2 hv2 ha2 hn2 hok2
 refine ArithOb.mk _ (next_wr (i:=i) (by omega)) ?_
 refine⟨(i+1,os2,L.set i ⟨L[i].name,t'⟩,K1),⟨⟨hlt,hok2,hset.trans hct,fun d hd=>?_,fun b o h=>hK1 _ _ (hle _ _ h),ha2.trans hoa,hv2.trans hov⟩,by simp only;omega⟩,.refl,aF5,.cons rfl (.cons rfl (.nil))⟩
 rcases List.mem_or_eq_of_mem_set hd with hd | rfl
 ·exact(hds _ hd).mono hK1
 ·exact hnew
theorem Copy_fr {I:GH} {M0:List Blk} {g:Gr} (hg:g.ok I):Spec Tryz.prog 92 [g.val] I M0 fun v I' M'=>(∀ b o,I b=some o→I' b=some o)∧∃ (os:OS) (L:List Df),v=.agg #[os.val]∧os.n=g.n∧os.ok 3 (L.flatMap Df.cells)∧M'=os.blk 46++M0∧L.map Df.ct=g.ds.map Df.ct∧∀ d∈L,d.ok I':=by
 refine Spec.weakK (Spec.frame (Copy_own hg)) ?_
 rintro v J M ⟨M',rfl,-,hJ,h1,os,L,rfl,hn,hos,rfl,hct,hds⟩
 exact⟨hJ,os,L,rfl,hn,hos,rfl,hct,hds⟩
theorem drop_flat {α:Type} (f:α→List Value) (size:Nat) (hf:∀ x,(f x).length=size) (l:List α) (j:Nat):(l.drop j).flatMap f=(l.flatMap f).drop (j * size):=by
 by_cases h:j≤l.length
 ·have e:l.flatMap f=(l.take j).flatMap f++(l.drop j).flatMap f:=by rw[←List.flatMap_append,List.take_append_drop]
  have h2:((l.take j).flatMap f).length=j * size:=by rw[flat_len f size hf,List.length_take_of_le h]
  rw[e,←h2,List.drop_left]
 ·have h1:l.length≤j:=by omega
  rw[List.drop_of_length_le h1,List.drop_of_length_le (by rw[flat_len f size hf];exact Nat.mul_le_mul_right _ h1)]
  rfl
set_option maxRecDepth 100000 in
set_option maxHeartbeats 4000000 in
theorem Delete_spec {I:GH} {M0:List Blk} {os:OS} {L:List Df} (hos:os.ok 3 (L.flatMap Df.cells)) {i:Nat} (hi:i < L.length) (hb:os.n≤1099511627776):Spec Tryz.prog 93 [os.val,.int .i64 i,.int .i64 ((i:Int)+1)] I (os.blk 46++M0) fun v I' M'=>I'=I∧∃ os':OS,v=os'.val∧os'.n=os.n - 1∧os'.ok 3 ((L.eraseIdx i).flatMap Df.cells)∧M'=os'.blk 46++M0:=by
 refine spec_of_V [] TryzEOK Tryz.func93 rfl rfl rfl ?_
 intro B h0
 have hlen:=hos.len
 rw[flat_len _ 3 Df.cells_len] at hlen
 obtain⟨a,n,c,cur⟩:=os
 cases a with
 | none=>
  have:=(hos.nil rfl).1
  simp only at this hlen
  omega
 | some g=>
 obtain⟨q1,q2,q3,q4⟩:=hos.cap g rfl
 simp only at q1 q2 q3 q4 hb hlen
 refine OtherOb.slice3 TryzEOK rfl (by simp) (e:=46) rfl rfl rfl i (i+1) n (ad:=some ⟨g,0,none⟩) (n:=n) (c:=c) rfl rfl (by rfl) rfl (by omega) (by omega) q2 ?_
 refine CondOb.mk (fun h=>?_) (fun _=>?_)
 ·have:(i:Int)=(i:Int)+1:=of_decide_eq_true h
  omega
 have hil:i < n:=by omega
 have hgM:(⟨g,.cells cur.toArray 46 (0,0)⟩:Blk)∈((⟨some g,n,c,cur⟩:OS).blk 46++M0):=.head _
 have hnl:((L.drop (i+1)).flatMap Df.cells).length=(n - (i+1)) * 3:=by rw[flat_len _ 3 Df.cells_len,List.length_drop];omega
 have hsrc:Rd I ((⟨some g,n,c,cur⟩:OS).blk 46++M0) ⟨g,if c=i+1 then 0 else (i+1) * 3,none⟩ ((n - (i+1)) * 3) ((L.drop (i+1)).flatMap Df.cells):=by
  refine⟨rfl,cur.toArray,46,(0,0),.inr ⟨_,hgM,rfl,rfl⟩,?_,hnl⟩
  by_cases hc:c=i+1
  ·have h1:n - (i+1)=0:=by omega
   have hnil:(L.drop (i+1)).flatMap Df.cells=[]:=List.eq_nil_of_length_eq_zero (by rw[hnl,h1])
   rw[hnil,h1]
   simp
  ·rw[if_neg hc,drop_flat _ 3 Df.cells_len,←q4,List.drop_take]
   congr 1
   omega
 refine CodeOb.draw TryzEOK rfl rfl rfl ?_
 refine SliceOb.mk 0 i rfl rfl (Nat.zero_le _) (show i≤c by omega) ?_
 refine SliceOb.mk (i+1) n rfl rfl (by omega) (Nat.le_refl _) ?_
 have hsv:(Value.slice (if c=i+1 then some ⟨g,0,none⟩ else (some (⟨g,0,none⟩:Addr)).map (·.add ((i+1) * 3))) (n - (i+1)) (c - (i+1)))=.slice (some ⟨g,if c=i+1 then 0 else (i+1) * 3,none⟩) (n - (i+1)) (c - (i+1)):=by
  by_cases hc:c=i+1
  ·rw[if_pos hc,if_pos hc]
  ·rw[if_neg hc,if_neg hc,Option.map_some,addr_add (⟨g,0,none⟩:Addr) rfl,Nat.zero_add]
 refine OtherOb.appIn TryzEOK rfl (by simp) (e:=46) rfl rfl rfl (g:=g) (n:=i) (c:=c) (cur:=cur) rfl q1 (ad:=⟨g,if c=i+1 then 0 else (i+1) * 3,none⟩) (m:=n - (i+1)) (c':=c - (i+1)) (news:=(L.drop (i+1)).flatMap Df.cells) (congrArg SV.val hsv) hsrc (flat_one Df.one _) (by omega) [] M0 rfl ?_
 have hcl:(splice cur (i * 3) ((L.drop (i+1)).flatMap Df.cells)).length=cur.length:=by
  unfold splice
  rw[List.length_append,List.length_append,List.length_take,List.length_drop,hnl]
  omega
 refine SliceOb.mk (i+(n - (i+1))) n rfl rfl (by omega) (show n≤c by omega) ?_
 have hne:¬ c=i+(n - (i+1)):=by omega
 have hsv2:(Value.slice (if c=i+(n - (i+1)) then some ⟨g,0,none⟩ else (some (⟨g,0,none⟩:Addr)).map (·.add ((i+(n - (i+1))) * 3))) (n - (i+(n - (i+1)))) (c - (i+(n - (i+1)))))=.slice (some ⟨g,(n - 1) * 3,none⟩) 1 (c - (n - 1)):=by
  rw[if_neg hne,Option.map_some,addr_add (⟨g,0,none⟩:Addr) rfl,Nat.zero_add,show i+(n - (i+1))=n - 1 by omega,show n - (n - 1)=1 by omega]
 refine OtherOb.clear TryzEOK rfl (by simp) (e:=46) rfl rfl rfl (g:=g) (off:=(n - 1) * 3) (n:=1) (c:=c - (n - 1)) (cur:=splice cur (i * 3) ((L.drop (i+1)).flatMap Df.cells)) (congrArg SV.val hsv2) (by decide) (by show (n - 1) * 3+1 * 3≤_;rw[hcl,q1];omega) [] M0 rfl ?_
 intro zs hzs
 refine⟨_,_,.refl,rfl,⟨some g,i+(n - (i+1)),c,splice (splice cur (i * 3) ((L.drop (i+1)).flatMap Df.cells)) ((n - 1) * 3) zs⟩,rfl,by show i+(n - (i+1))=n - 1;omega,⟨?_,(fun h=>by cases h),fun g' hg'=>?_⟩,rfl⟩
 ·rw[flat_len _ 3 Df.cells_len,List.length_eraseIdx,if_pos (by omega)]
  simp only
  omega
 ·cases hg'
  have hzs:zs.length=3:=hzs
  refine⟨?_,by simp only;omega,q3,?_⟩
  ·simp only
   rw[←q1,←hcl]
   unfold splice
   simp only[List.length_append,List.length_take,List.length_drop]
   rw[hcl] at *
   omega
  ·simp only
   have h1:i+(n - (i+1))=n - 1:=by omega
   have h2:∀ (l:List Value) (k:Nat) (v:List Value),k≤l.length→(splice l k v).take k=l.take k:=fun l k v h=>by
    unfold splice
    rw[List.append_assoc,List.take_append_of_le_length (by rw[List.length_take];omega),List.take_take,Nat.min_self]
   rw[h1,h2 _ _ _ (by rw[hcl];omega)]
   have h3:((L.take i).flatMap Df.cells).length=i * 3:=by rw[flat_len _ 3 Df.cells_len,List.length_take_of_le (by omega)]
   have h4:cur.take (i * 3)=(L.take i).flatMap Df.cells:=by
    have:cur.take (i * 3)=(cur.take (n * 3)).take (i * 3):=by rw[List.take_take,Nat.min_eq_left (by omega)]
    have e1:L.flatMap Df.cells=(L.take i).flatMap Df.cells++(L.drop i).flatMap Df.cells:=by rw[←List.flatMap_append,List.take_append_drop]
    rw[this,q4,e1,←h3,List.take_left]
   unfold splice
   rw[h4,List.take_append_of_le_length (by rw[List.length_append,h3,hnl];omega),List.take_of_length_le (by rw[List.length_append,h3,hnl];omega),←List.flatMap_append,List.eraseIdx_eq_take_drop_succ]
set_option maxRecDepth 100000 in
set_option maxHeartbeats 4000000 in
theorem Drop_own {I:GH} {g:Gr} (hg:g.ok I) {u:Nat} (hu:u < g.ds.length) (hn:g.n≤1000000):Spec Tryz.prog 57 [g.val,.int .i64 u] I [] fun v I' M'=>(∀ b o,I b=some o→I' b=some o)∧∃ (os:OS) (L:List Df),v=.tuple #[.agg #[os.val],.bool true]∧os.n=g.n - 1∧os.ok 3 ((L.eraseIdx u).flatMap Df.cells)∧M'=os.blk 46∧L.map Df.ct=g.ds.map Df.ct∧∀ d∈L,d.ok I':=by
 refine spec_of_V [] TryzEOK Tryz.func57 rfl rfl rfl ?_
 intro B h0
 have hgn:=hg.n
 refine GuardOb.mk (fun _=>?_) (fun h=>absurd h (by simp))
 refine CondOb.mk (fun h=>?_) (fun _=>?_)
 ·have:(g.n:Int)≤(u:Int):=of_decide_eq_true h
  omega
 refine CallOb.whole _ (Copy_fr hg) ?_
 rintro v J N - ⟨hJ,os,L,rfl,hon,hos,hN,hct,hds⟩
 subst N
 have hLn:L.length=g.ds.length:=by simpa using congrArg List.length hct
 refine ArithOb.mk ((u:Int)+1) (by rw[wrap_i64 ⟨by omega,by omega⟩]) ?_
 refine CallOb.whole _ (Delete_spec hos (show u < L.length by omega) (by omega)) ?_
 rintro v J1 N - ⟨rfl,os2,rfl,hon2,hos2,hN⟩
 subst N
 exact⟨_,_,.refl,hJ,os2,L,rfl,by omega,hos2,by rw[List.append_nil],hct,hds⟩
theorem map_erase {α β:Type} (f:α→β) (l:List α) (i:Nat):(l.eraseIdx i).map f=(l.map f).eraseIdx i:=by
 simp[List.eraseIdx_eq_take_drop_succ,List.map_take,List.map_drop]
theorem Drop_spec {I:GH} {M0:List Blk} {g:Gr} (hg:g.ok I) {u:Nat} (hu:u < g.ds.length) (hn:g.n≤1000000):Spec Tryz.prog 57 [g.val,.int .i64 u] I M0 fun v I' M'=>(∀ b o,I b=some o→I' b=some o)∧M'=M0∧∃ h:Gr,v=.tuple #[h.val,.bool true]∧h.ok I'∧h.n=g.n - 1∧h.ds.map Df.ct=(g.ds.eraseIdx u).map Df.ct:=by
 refine Spec.weakK (Spec.frame (Spec.frz (Drop_own hg hu hn))) ?_
 rintro v J M ⟨M',rfl,-,hJ,rfl,-,I',M1,⟨h1,os,L,rfl,hon,hos,rfl,hct,hds⟩,hF⟩
 refine⟨hJ,rfl,⟨L.eraseIdx u,os.a.map fun g=>⟨g,0,none⟩,os.n,os.c⟩,rfl,⟨OS.frz hF hos (fun _ h=>h) (by omega),fun d hd=>(hds d (List.mem_of_mem_eraseIdx hd)).mono hF.le⟩,hon,?_⟩
 rw[map_erase,map_erase,hct]
def upN (n i:Nat):Nat:=if i < n then i else i+1
theorem upN_inj {n i j:Nat} (h:upN n i=upN n j):i=j:=by
 unfold upN at h
 split at h<;>split at h<;>omega
theorem app_upN {α:Type} (a b:List α) (x:α) (i:Nat):(a++x::b)[upN a.length i]?=(a++b)[i]?:=by
 unfold upN
 by_cases h:i < a.length
 ·rw[if_pos h,List.getElem?_append_left h,List.getElem?_append_left h]
 ·rw[if_neg h,List.getElem?_append_right (by omega),List.getElem?_append_right (by omega),show i+1 - a.length=(i - a.length)+1 by omega,List.getElem?_cons_succ]
theorem findAt_lt (nm:ByteArray):∀ (ds:List Df) (i:Nat),0≤findAt nm ds i→(i:Int)≤findAt nm ds i∧findAt nm ds i < i+ds.length
 | [],i,h=>by simp[findAt] at h
 | d::ds,i,h=>by
  unfold findAt at h ⊢
  cases hc:decide (d.name=nm) with
  | true=>
   simp only[cond_true,List.length_cons]
   omega
  | false=>
   rw[hc,cond_false] at h
   rw[cond_false]
   have:=findAt_lt nm ds (i+1) h
   simp only[List.length_cons]
   omega
theorem find_drop {a b:List Df} {x:Df} {nm:ByteArray} (h:nm≠x.name) :
  (findAt nm (a++x::b) 0 < 0∧findAt nm (a++b) 0 < 0)∨∃ q:Nat,q < (a++b).length∧findAt nm (a++b) 0=(q:Int)∧findAt nm (a++x::b) 0=((upN a.length q:Nat):Int):=by
 rw[findAt_split nm a (x::b),findAt_split nm a b]
 by_cases h1:findAt nm a 0 < 0
 ·rw[decide_eq_true h1,cond_true,cond_true]
  have e1:findAt nm (x::b) a.length=findAt nm b (a.length+1):=by
   rw[findAt,decide_eq_false (fun e=>h e.symm),cond_false]
  rw[e1,findAt_shift nm b (a.length+1),findAt_shift nm b a.length]
  by_cases h2:findAt nm b 0 < 0
  ·rw[decide_eq_true h2]
   exact .inl ⟨(show (-1:Int) < 0 by decide),(show (-1:Int) < 0 by decide)⟩
  ·rw[decide_eq_false h2,cond_false,cond_false]
   have h3:=findAt_lt nm b 0 (by omega)
   obtain⟨q,hq⟩:=Int.eq_ofNat_of_zero_le (show 0≤findAt nm b 0 by omega)
   rw[hq] at h3 ⊢
   refine .inr ⟨a.length+q,by rw[List.length_append];omega,by omega,?_⟩
   unfold upN
   rw[if_neg (by omega)]
   omega
 ·rw[decide_eq_false h1,cond_false,cond_false]
  have h3:=findAt_lt nm a 0 (by omega)
  obtain⟨q,hq⟩:=Int.eq_ofNat_of_zero_le (show 0≤findAt nm a 0 by omega)
  rw[hq] at h3 ⊢
  refine .inr ⟨q,by rw[List.length_append];omega,rfl,?_⟩
  unfold upN
  rw[if_pos (by omega)]
theorem look_of {nm:ByteArray} {ds:List Df} {q:Nat} (h:findAt nm ds 0=(q:Int)):lookM nm (placesL ds)=some (q:Int):=by
 rw[look_find,h,decide_eq_false (by omega),cond_false]
theorem tab_hom {α β:Type} {z:α} {z':β} (φ:β→α) (hz:φ z'=z) {f:Nd→(Int→α)→α} {f':Nd→(Int→β)→β}:∀ (ns:List Nd) (acc:List β),(∀ d∈ns,∀ g:Int→β,f d (fun k=>φ (g k))=φ (f' d g))→tab z f ns (acc.map φ)=(tab z' f' ns acc).map φ
 | [],acc,_=>rfl
 | d::ns,acc,h=>by
  have e:(fun k:Int=>(acc.map φ).getD k.toNat z)=fun k=>φ (acc.getD k.toNat z'):=by
   funext k
   simp only[List.getD_eq_getElem?_getD,List.getElem?_map]
   cases acc[k.toNat]? with
   | none=>exact hz.symm
   | some v=>rfl
  rw[tab,tab,e,h d (.head _)]
  have:=tab_hom φ hz (f:=f) (f':=f') ns (acc++[f' d fun k=>acc.getD k.toNat z']) fun d hd=>h d (.tail _ hd)
  rw[List.map_append,List.map_cons,List.map_nil] at this
  exact this
theorem tabOf_hom {α β:Type} {z:α} {z':β} (φ:β→α) (hz:φ z'=z) {f:Nd→(Int→α)→α} {f':Nd→(Int→β)→β} {ns:List Nd} (h:∀ d∈ns,∀ g:Int→β,f d (fun k=>φ (g k))=φ (f' d g)) (j:Int):tabOf z f ns j=φ (tabOf z' f' ns j):=by
 have:=tab_hom φ hz ns [] h
 rw[List.map_nil] at this
 unfold tabOf
 rw[this]
 simp only[List.getD_eq_getElem?_getD,List.getElem?_map]
 cases (tab z' f' ns [])[j.toNat]? with
 | none=>exact hz.symm
 | some v=>rfl
theorem nodesF_tab (pl:List (ByteArray×Int)) (F:List Fl) (ns:List Nd) (j:Int):(nodesF pl F ns []).getD j.toNat fl0=(leftAt pl F ns j).1:=(left_flow pl F ns j).symm
structure Told (pl pl':List (ByteArray×Int)) (F F':List Fl) (up:Nat→Nat) (nm:ByteArray):Prop where
 at_:((lookM nm pl).getD 0).toNat=up ((lookM nm pl').getD 0).toNat
 fl:F.getD ((lookM nm pl).getD 0).toNat fl0=F'.getD ((lookM nm pl').getD 0).toNat fl0
section
variable {pl pl':List (ByteArray×Int)} {F F':List Fl} {up:Nat→Nat} {ns:List Nd} (h:∀ d∈ns,d.k=3→Told pl pl' F F' up d.t)
theorem takeZ_map:∀ xs:List (Fl×List Nat),takeZ (xs.map fun x=>(x.1,x.2.map up))=(takeZ xs).map up
 | []=>rfl
 | x::xs=>by
  rw[List.map_cons,takeZ,takeZ,List.map_append,takeZ_map xs]
  cases x.1.z<;>rfl
include h
theorem leftF_told {d:Nd} (hd:d∈ns) (xs:List (Fl×List Nat)):leftF pl F d (xs.map fun x=>(x.1,x.2.map up))=((leftF pl' F' d xs).1,(leftF pl' F' d xs).2.map up):=by
 have e0:(xs.map fun x=>(x.1,x.2.map up)).map (·.1)=xs.map (·.1):=by rw[List.map_map];rfl
 have e1:comeFl d ((xs.map fun x=>(x.1,x.2.map up)).map (·.1)++bif decide (d.k=3) then [F.getD ((lookM d.t pl).getD 0).toNat fl0] else [])=comeFl d (xs.map (·.1)++bif decide (d.k=3) then [F'.getD ((lookM d.t pl').getD 0).toNat fl0] else []):=by
  rw[e0]
  by_cases h3:d.k=3
  ·rw[(h d hd h3).fl]
  ·rw[decide_eq_false h3]
   rfl
 have e2:leftsD pl d (xs.map fun x=>(x.1,x.2.map up))=(leftsD pl' d xs).map up:=by
  unfold leftsD
  by_cases h3:d.k=3
  ·rw[decide_eq_true h3,cond_true,cond_true,(h d hd h3).at_]
   rfl
  ·rw[decide_eq_false h3,cond_false,cond_false]
   cases decide (d.k=4) with
   | true=>exact takeZ_map xs
   | false=>
    rw[cond_false,cond_false]
    cases decide (d.k=6) && decide (d.hi=0) with
    | true=>rfl
    | false=>
     rw[cond_false,cond_false,List.flatMap_map,List.map_flatMap]
 unfold leftF
 rw[e1,e2]
theorem leftAt_told (j:Int):leftAt pl F ns j=((leftAt pl' F' ns j).1,(leftAt pl' F' ns j).2.map up):=by
 refine tabOf_hom (z:=(fl0,([]:List Nat))) (z':=(fl0,([]:List Nat))) (f:=fun d g=>leftF pl F d (d.kids.map g)) (f':=fun d g=>leftF pl' F' d (d.kids.map g)) (ns:=ns) (fun x:Fl×List Nat=>(x.1,x.2.map up)) rfl (fun d hd g=>?_) j
 have:=leftF_told h hd (d.kids.map g)
 rw[List.map_map] at this
 exact this
theorem endAt_told (j:Int):(endAt pl F ns j).2=(endAt pl' F' ns j).2:=by
 have:=tabOf_hom (z:=((fl0,([]:List Nat)),false)) (z':=((fl0,([]:List Nat)),false)) (f:=fun d g=>endG pl F d (d.kids.map g)) (f':=fun d g=>endG pl' F' d (d.kids.map g)) (ns:=ns) (fun x:(Fl×List Nat)×Bool=>((x.1.1,x.1.2.map up),x.2)) rfl (fun d hd g=>?_) j
 ·unfold endAt
  rw[this]
 ·have e1:=leftF_told h hd ((d.kids.map g).map (·.1))
  unfold endG
  rw[List.map_map,List.map_map] at e1
  have e2:endF pl F d (d.kids.map fun k=>((fun x:(Fl×List Nat)×Bool=>((x.1.1,x.1.2.map up),x.2)) (g k)))=endF pl' F' d (d.kids.map g):=by
   unfold endF
   rw[List.any_map,List.any_map]
   rfl
  simp only[List.map_map] at e1 ⊢
  refine Prod.ext ?_ e2
  exact e1
theorem body_told (d:Df) (hns:d.t.ns=ns):bodyF pl F d=bodyF pl' F' d:=by
 unfold bodyF
 rw[nodesF_tab,nodesF_tab,hns,leftAt_told h]
end
section
variable {a b:List Df} {x:Df} (hno:∀ e∈a++b,∀ n∈e.t.ns,n.k=3→n.t≠x.name∧0≤findAt n.t (a++x::b) 0)
include hno
theorem told_drop {F F':List Fl} (hF:∀ i,F.getD (upN a.length i) fl0=F'.getD i fl0) {e:Df} (he:e∈a++b):∀ n∈e.t.ns,n.k=3→Told (placesL (a++x::b)) (placesL (a++b)) F F' (upN a.length) n.t:=fun n hn h3=>by
 obtain⟨h1,h2⟩:=hno e he n hn h3
 rcases find_drop (a:=a) (b:=b) h1 with ⟨h3,-⟩ | ⟨q,-,h3,h4⟩
 ·omega
 ·have e1:=look_of h3
  have e2:=look_of h4
  have e3:((some ((upN a.length q:Nat):Int)).getD 0).toNat=upN a.length q:=by simp
  have e4:((some (q:Int)).getD 0).toNat=q:=by simp
  refine⟨by rw[e1,e2,e3,e4],?_⟩
  rw[e1,e2,e3,e4]
  exact hF q
theorem flow_drop {F:List Fl} (h:IsFlow (a++x::b) F):IsFlow (a++b) (F.eraseIdx a.length)∧∀ i,F.getD (upN a.length i) fl0=(F.eraseIdx a.length).getD i fl0:=by
 have hl:=h.len
 rw[List.length_append,List.length_cons] at hl
 have hF:∀ (G:List Fl) i,G.getD (upN a.length i) fl0=(G.eraseIdx a.length).getD i fl0:=fun G i=>by
  simp only[List.getD_eq_getElem?_getD,List.getElem?_eraseIdx]
  unfold upN
  split<;>rfl
 have hat:∀ i,i < (a++b).length→∃ hi:upN a.length i < (a++x::b).length,∀ hi':i < (a++b).length,(a++x::b)[upN a.length i]=(a++b)[i]:=fun i hi=>by
  have h1:=app_upN a b x i
  rw[List.getElem?_eq_getElem hi] at h1
  obtain⟨h2,h3⟩:=List.getElem?_eq_some_iff.1 h1
  exact⟨h2,fun _=>h3⟩
 refine⟨⟨by rw[List.length_eraseIdx];split<;>rw[List.length_append]<;>omega,fun i hi=>?_,fun m hm hc=>?_⟩,hF F⟩
 ·obtain⟨h1,h2⟩:=hat i hi
  rw[←hF F,h.fix _ h1,h2 hi]
  exact body_told (told_drop hno (hF F) (List.getElem_mem hi)) _ rfl
 ·rw[List.length_append] at hm
  have hm2:(m.take a.length++(⟨true,true,true⟩:Fl)::m.drop a.length).eraseIdx a.length=m:=by
   refine List.ext_getElem? fun i=>?_
   rw[List.getElem?_eraseIdx]
   split
   ·rename_i hi
    rw[List.getElem?_append_left (by rw[List.length_take];omega),List.getElem?_take,if_pos hi]
   ·rename_i hi
    rw[List.getElem?_append_right (by rw[List.length_take];omega),List.length_take,Nat.min_eq_left (by omega),show i+1 - a.length=(i - a.length)+1 by omega,List.getElem?_cons_succ,List.getElem?_drop]
    congr 1
    omega
  have hmF:=hF (m.take a.length++(⟨true,true,true⟩:Fl)::m.drop a.length)
  rw[hm2] at hmF
  have hlm:(m.take a.length++(⟨true,true,true⟩:Fl)::m.drop a.length).length=(a++x::b).length:=by
   rw[List.length_append,List.length_cons,List.length_take,List.length_drop,List.length_append,List.length_cons]
   omega
  have hle:=h.least _ hlm fun i hi=>by
   by_cases hx:i=a.length
   ·subst hx
    have:(m.take a.length++(⟨true,true,true⟩:Fl)::m.drop a.length).getD a.length fl0=⟨true,true,true⟩:=by
     rw[List.getD_eq_getElem?_getD,List.getElem?_append_right (by rw[List.length_take];omega),List.length_take,Nat.min_eq_left (by omega),Nat.sub_self]
     rfl
    rw[this]
    exact⟨fun _=>rfl,fun _=>rfl,fun _=>rfl⟩
   ·obtain⟨k,hk,rfl⟩:∃ k,k < (a++b).length∧i=upN a.length k:=by
     rw[List.length_append,List.length_cons] at hi
     by_cases hlt:i < a.length
     ·exact⟨i,by rw[List.length_append];omega,by unfold upN;rw[if_pos hlt]⟩
     ·exact⟨i - 1,by rw[List.length_append];omega,by unfold upN;rw[if_neg (by omega)];omega⟩
    obtain⟨h1,h2⟩:=hat k hk
    rw[hmF,h2 hk]
    have:=hc k hk
    rwa [←body_told (told_drop hno hmF (List.getElem_mem hk)) _ rfl] at this
  refine LeL.of (by rw[List.length_eraseIdx];split<;>omega) fun i hi=>?_
  rw[←hF F,←hmF]
  exact hle.getD _
theorem rawL_drop {F F':List Fl} (hF:∀ i,F.getD (upN a.length i) fl0=F'.getD i fl0) (i:Nat):rawL (a++x::b) F (upN a.length i)=(rawL (a++b) F' i).map (upN a.length):=by
 unfold rawL
 rw[app_upN]
 by_cases h:i < (a++b).length
 ·rw[List.getElem?_eq_getElem h]
  show (leftAt _ F (a++b)[i].t.ns _).2=_
  rw[leftAt_told (told_drop hno hF (List.getElem_mem h))]
 ·rw[List.getElem?_eq_none (by omega)]
  rfl
theorem endL_drop {F F':List Fl} (hF:∀ i,F.getD (upN a.length i) fl0=F'.getD i fl0) (i:Nat):endL (a++x::b) F (upN a.length i)=endL (a++b) F' i:=by
 unfold endL
 rw[app_upN]
 by_cases h:i < (a++b).length
 ·rw[List.getElem?_eq_getElem h]
  exact endAt_told (told_drop hno hF (List.getElem_mem h)) _
 ·rw[List.getElem?_eq_none (by omega)]
theorem comes_drop {F F':List Fl} (hF:∀ i,F.getD (upN a.length i) fl0=F'.getD i fl0) {i k:Nat} (h:ComesL (rawL (a++b) F') i k):ComesL (rawL (a++x::b) F) (upN a.length i) (upN a.length k):=by
 induction h with
 | one h=>exact .one (by rw[rawL_drop hno hF];exact List.mem_map.2 ⟨_,h,rfl⟩)
 | step h t ih=>exact .step (by rw[rawL_drop hno hF];exact List.mem_map.2 ⟨_,h,rfl⟩) ih
end
open Classical in
theorem refLeft_iff {ds:List Df} {F:List Fl} {i:Nat}:i∈refLeft ds F ↔ i < ds.length∧ComesL (rawL ds F) i i:=by
 unfold refLeft
 rw[List.mem_filter,List.mem_range,decide_eq_true_iff]
theorem upN_lt {a b:List Df} {x:Df} {i:Nat} (h:i < (a++b).length):upN a.length i < (a++x::b).length:=by
 rw[List.length_append] at h
 rw[List.length_append,List.length_cons]
 unfold upN
 split<;>omega
theorem gramB_app (deb:List Int):∀ (ds:List Df) (acc:List UInt8),(∀ d∈ds,defB deb d≠[])→gramB deb ds acc=acc++ds.flatMap (defB deb)
 | [],acc,_=>by simp[gramB]
 | d::ds,acc,h=>by
  have h1:¬ strOf (defB deb d)=⟨#[]⟩:=fun e=>by
   refine h d (.head _) ?_
   have:(strOf (defB deb d)).data.toList=[]:=by rw[e]
   exact this
  rw[gramB,decide_eq_false h1,cond_false,gramB_app deb ds _ fun d hd=>h d (.tail _ hd),List.flatMap_cons,List.append_assoc]
theorem defB_ne {I:GH} (deb:List Int) {d:Df} (hd:d.ok I) (hn:mayName d.name=true) (hr:right d.t=true):defB deb d≠[]:=by
 have h1:¬ strOf (treeB deb d.t)=⟨#[]⟩:=fun e=>by
  refine treeB_ne deb hd.t hr ?_
  have:(strOf (treeB deb d.t)).data.toList=[]:=by rw[e]
  exact this
 unfold defB
 rw[decide_eq_false h1,hn]
 simp
theorem may_split {deb:List Int} {g:Gr}:mayG deb g=0 ↔ g.n≠0∧okDefs g.ds=true∧largeG deb g=false∧(∀ i,i < g.ds.length→firstOf g.ds i=true)∧∀ d∈g.ds,∀ n∈d.t.ns,n.k=3→0≤findAt n.t g.ds 0:=by
 rw[←mayR_eq]
 have hall:(g.ds.all fun d=>d.t.ns.all (nodeOk2 g.ds))=true ↔ ∀ d∈g.ds,∀ n∈d.t.ns,n.k=3→0≤findAt n.t g.ds 0:=by
  simp only[List.all_eq_true,nodeOk2,Bool.or_eq_true,Bool.not_eq_true',decide_eq_false_iff_not,decide_eq_true_eq]
  constructor
  ·intro h d hd n hn h3
   rcases h d hd n hn with h | h
   ·exact absurd h3 h
   ·exact h
  ·intro h d hd n hn
   by_cases h3:n.k=3
   ·exact .inr (h d hd n hn h3)
   ·exact .inl h3
 have hf:(List.range g.ds.length).all (firstOf g.ds)=true ↔ ∀ i,i < g.ds.length→firstOf g.ds i=true:=by
  simp[List.all_eq_true]
 rw[←hall,←hf]
 unfold mayR
 by_cases h1:g.n=0
 ·rw[decide_eq_true (by omega),cond_true]
  exact⟨(fun h=>by cases h),(fun h=>absurd h1 h.1)⟩
 ·rw[decide_eq_false (by omega),cond_false]
  cases okDefs g.ds with
  | false=>exact⟨(fun h=>by cases h),(fun h=>by cases h.2.1)⟩
  | true=>
  cases largeG deb g with
  | true=>exact⟨(fun h=>by cases h),(fun h=>by cases h.2.2.1)⟩
  | false=>
  cases (List.range g.ds.length).all (firstOf g.ds) with
  | false=>exact⟨(fun h=>by cases h),(fun h=>by cases h.2.2.2.1)⟩
  | true=>
  cases (g.ds.all fun d=>d.t.ns.all (nodeOk2 g.ds)) with
  | false=>exact⟨(fun h=>by cases h),(fun h=>by cases h.2.2.2.2)⟩
  | true=>exact⟨fun _=>⟨h1,rfl,rfl,rfl,rfl⟩,fun _=>rfl⟩
theorem sum_le_app {α:Type} (f:α→Nat) (a b:List α) (x:α):((a++b).map f).sum≤((a++x::b).map f).sum:=by
 simp only[List.map_append,List.map_cons,List.sum_append,List.sum_cons]
 omega
def grL (ds:List Df):Gr:=⟨ds,none,ds.length,0⟩
theorem may_drop {I:GH} {deb:List Int} {g:Gr} (hg:g.ok I) {a b:List Df} {x:Df} (e:g.ds=a++x::b) (h0:0 < (a++b).length) (hno:∀ e∈a++b,∀ n∈e.t.ns,n.k=3→n.t≠x.name) (hm:mayG deb g=0):mayG deb (grL (a++b))=0:=by
 obtain⟨h1,h2,h3,h4,h5⟩:=may_split.1 hm
 have hgn:=hg.n
 have hsub:∀ d,d∈a++b→d∈g.ds:=fun d hd=>by
  rw[e]
  rcases List.mem_append.1 hd with hd | hd
  ·exact List.mem_append_left _ hd
  ·exact List.mem_append_right _ (.tail _ hd)
 have hok:=List.all_eq_true.1 h2
 have hdef:∀ d∈g.ds,defB deb d≠[]:=fun d hd=>by
  have:=hok d hd
  simp only[normal,Bool.and_eq_true] at this
  exact defB_ne deb (hg.ds d hd) this.1 this.2.1
 refine may_split.2 ⟨?_,?_,?_,?_,?_⟩
 ·show (a++b).length≠0
  omega
 ·exact List.all_eq_true.2 fun d hd=>hok d (hsub d hd)
 ·unfold largeG at h3 ⊢
  simp only[Bool.or_eq_false_iff,decide_eq_false_iff_not,Bool.not_eq_false'] at h3 ⊢
  obtain⟨q1,q2,q3,q4⟩:=h3
  have q2:=List.all_eq_true.1 q2
  refine⟨?_,List.all_eq_true.2 fun d hd=>q2 d (hsub d hd),?_,?_⟩
  ·show ¬ 64 < (a++b).length
   rw[e,List.length_append,List.length_cons] at hgn
   rw[List.length_append]
   omega
  ·unfold nodesG at q3 ⊢
   rw[e] at q3
   have:=sum_le_app (fun d=>sizeT d.t) a b x
   show ¬ 1024 < ((a++b).map fun d=>sizeT d.t).sum
   omega
  ·show ¬ 8192 < (gramB deb (a++b) []).length
   rw[gramB_app deb _ _ hdef,e] at q4
   rw[gramB_app deb _ _ fun d hd=>hdef d (hsub d hd)]
   simp only[List.nil_append,List.flatMap_append,List.flatMap_cons,List.length_append] at q4 ⊢
   omega
 ·show ∀ i,i < (a++b).length→firstOf (a++b) i=true
  intro i hi
  have h6:=h4 (upN a.length i) (by rw[e];exact upN_lt hi)
  unfold firstOf at h6 ⊢
  rw[e,app_upN,List.getElem?_eq_getElem hi] at h6
  rw[List.getElem?_eq_getElem hi]
  have h6:findAt (a++b)[i].name (a++x::b) 0=((upN a.length i:Nat):Int):=of_decide_eq_true h6
  have hne:(a++b)[i].name≠x.name:=fun e2=>by
   have h7:=h4 a.length (by rw[e];simp)
   unfold firstOf at h7
   have:(a++x::b)[a.length]?=some x:=by simp
   rw[e,this] at h7
   have h7:findAt x.name (a++x::b) 0=((a.length:Nat):Int):=of_decide_eq_true h7
   rw[e2,h7] at h6
   unfold upN at h6
   split at h6<;>omega
  rcases find_drop (a:=a) (b:=b) hne with ⟨q,-⟩ | ⟨q,-,q1,q2⟩
  ·omega
  ·have:q=i:=upN_inj (n:=a.length) (by omega)
   subst this
   exact decide_eq_true q1
 ·show ∀ d∈a++b,∀ n∈d.t.ns,n.k=3→0≤findAt n.t (a++b) 0
  intro d hd n hn hk
  have h6:=h5 d (hsub d hd) n hn hk
  rw[e] at h6
  rcases find_drop (a:=a) (b:=b) (hno d hd n hn hk) with ⟨q,-⟩ | ⟨q,-,q1,q2⟩
  ·omega
  ·omega
theorem drop_well {I:GH} {deb:List Int} {g h:Gr} (hg:g.ok I) {a b:List Df} {x:Df} (e:g.ds=a++x::b) (e':h.ct=(grL (a++b)).ct) (h0:0 < (a++b).length) (hno:∀ e∈a++b,∀ n∈e.t.ns,n.k=3→n.t≠x.name) (hm:mayG deb g=0) {F:List Fl} (hF:IsFlow g.ds F) (hl:(refLeft g.ds F).length=0) (hlo:(refLoops g.ds F).length=0) :
  mayG deb h=0∧∃ F',IsFlow h.ds F'∧(refLeft h.ds F').length=0∧(refLoops h.ds F').length=0:=by
 have hm':=may_drop hg e h0 hno hm
 have hds:h.ds.map Df.ct=(a++b).map Df.ct:=congrArg Gr.ds e'
 obtain⟨-,-,-,-,h5⟩:=may_split.1 hm
 have hno2:∀ e∈a++b,∀ n∈e.t.ns,n.k=3→n.t≠x.name∧0≤findAt n.t (a++x::b) 0:=fun d hd n hn hk=>by
  refine⟨hno d hd n hn hk,?_⟩
  rw[←e]
  refine h5 d ?_ n hn hk
  rw[e]
  rcases List.mem_append.1 hd with hd | hd
  ·exact List.mem_append_left _ hd
  ·exact List.mem_append_right _ (.tail _ hd)
 rw[e] at hF
 obtain⟨f1,f2⟩:=flow_drop hno2 hF
 refine⟨by rw[←mayG_ct,e',mayG_ct];exact hm',F.eraseIdx a.length,isFlow_of_ct (by rw[hds];exact isFlow_ct f1),?_,?_⟩
 ·have e1:refLeft h.ds (F.eraseIdx a.length)=refLeft (a++b) (F.eraseIdx a.length):=by
   have hr:rawL h.ds (F.eraseIdx a.length)=rawL (a++b) (F.eraseIdx a.length):=by
    funext i
    rw[←rawL_ct,hds,rawL_ct]
   have hlen:h.ds.length=(a++b).length:=by
    have:=congrArg List.length hds
    simpa using this
   unfold refLeft
   rw[hr,hlen]
  rw[e1,List.length_eq_zero_iff,List.eq_nil_iff_forall_not_mem]
  intro i hi
  rw[refLeft_iff] at hi
  rw[List.length_eq_zero_iff,List.eq_nil_iff_forall_not_mem] at hl
  refine hl (upN a.length i) ?_
  rw[e,refLeft_iff]
  exact⟨upN_lt hi.1,comes_drop hno2 f2 hi.2⟩
 ·have e1:refLoops h.ds (F.eraseIdx a.length)=refLoops (a++b) (F.eraseIdx a.length):=by
   rw[←refLoops_ct,hds,refLoops_ct]
  rw[e1,List.length_eq_zero_iff,List.eq_nil_iff_forall_not_mem]
  intro i hi
  unfold refLoops at hi
  rw[List.mem_filter,List.mem_range] at hi
  rw[List.length_eq_zero_iff,List.eq_nil_iff_forall_not_mem] at hlo
  refine hlo (upN a.length i) ?_
  unfold refLoops
  rw[e,List.mem_filter,List.mem_range]
  exact⟨upN_lt hi.1,by rw[endL_drop hno2 f2];exact hi.2⟩
theorem named_called {deb:List Int} {g:Gr} (hn:g.ds.length=g.n) (hm:mayG deb g=0) {i q:Nat} (hi:i < g.ds.length) (hq:q < g.ds.length) {nd:Nd} (hnd:nd∈g.ds[i].t.ns) (h3:nd.k=3) (hf:findAt nd.t g.ds 0=(q:Int)):(q:Int)∈callsG deb g i:=by
 have hin:inR (i:Int) g.n=true:=by
  unfold inR
  simp
  omega
 rw[callsG,hin,decide_eq_true hm]
 show (q:Int)∈(callsL g).getD i []
 rw[callsL,List.getD_eq_getElem?_getD,List.getElem?_map,List.getElem?_eq_getElem hi]
 show (q:Int)∈listL true 0 (thereL g.ds g.n (namedL g.ds[i].t.ns))
 rw[listL_isM]
 unfold isM
 rw[thereL,thereL_at hn _ _ (by simp) q (by omega)]
 exact .inr ⟨nd.t,List.mem_map.2 ⟨nd,List.mem_filter.2 ⟨hnd,decide_eq_true h3⟩,rfl⟩,hf⟩
theorem kb_ct {I J:GH} {t t':Tr} (ht:t.ok I) (ht':t'.ok J) (h:t'.ct=t.ct) (hk:KB t):KB t':=fun n hn=>by
 have h1:n.ct∈t.ns.map Nd.ct:=by
  have h2:t'.ns.map Nd.ct=t.ns.map Nd.ct:=congrArg Tr.ns h
  rw[←h2]
  exact List.mem_map.2 ⟨n,hn,rfl⟩
 obtain⟨m,hm,e⟩:=List.mem_map.1 h1
 have h3:m.ct.kids=n.ct.kids:=congrArg Nd.kids e
 have h3:m.kids=n.kids:=h3
 have h4:=(ht.ns m hm).kn
 have h5:=(ht'.ns n hn).kn
 have h6:=hk m hm
 rw[h3] at h4
 omega
theorem kbs_ct {I J:GH} {ds ds':List Df} (h1:∀ d∈ds,d.ok I) (h2:∀ d∈ds',d.ok J) (h:∀ d∈ds',∃ e∈ds,d.ct=e.ct) (hk:∀ d∈ds,KB d.t):∀ d∈ds',KB d.t:=fun d hd=>by
 obtain⟨e,he,hc⟩:=h d hd
 exact kb_ct (h1 e he).t (h2 d hd).t (congrArg Df.t hc) (hk e he)
theorem erase_app {α:Type} (l:List α) (i:Nat) (h:i < l.length):l=l.take i++l[i]::l.drop (i+1)∧l.eraseIdx i=l.take i++l.drop (i+1):=by
 refine⟨by rw[←List.drop_eq_getElem_cons h,List.take_append_drop],List.eraseIdx_eq_take_drop_succ l i⟩
set_option maxRecDepth 100000 in
set_option maxHeartbeats 16000000 in
theorem wellDrops_V {I:GH} (hT:Tabs I debL) {g:Gr} (hgw:GrW I g) {rule:Int} (hrule:i64ok rule):SpecE Tryz.prog 13 [g.val,.int .i64 rule] I [] fun v I' M'=>v=.bool true:=by
 refine specE_of_V [] TryzEOK Tryz.func13 rfl rfl rfl ?_
 intro B h0
 refine CallOb.mk [] [] _ (.refl _) (large13_spec hgw) ?_
 rintro v J N - ⟨⟨r,rfl,hr⟩,hJ',hN'⟩
 subst J
 subst N
 cases r with
 | true=>
  refine GuardOb.mk (fun h=>absurd h (by simp)) (fun _=>?_)
  refine CallOb.mk [] [] _ (.refl _) (awake13_spec hT) ?_
  rintro v J1 N - ⟨rfl,hJ1,rfl⟩
  exact⟨_,_,.refl,rfl⟩
 | false=>
 refine GuardOb.mk (fun _=>?_) (fun h=>absurd h (by simp))
 refine CallOb.mk [] [] _ (.refl _) (awake13_spec hT) ?_
 rintro v J1 N - ⟨rfl,hJ1,rfl⟩
 refine CondOb.mk (fun h=>by cases h) (fun _=>?_)
 have hgs:=hr rfl
 have hT:=hT.mono hJ1
 have hg:=(hgw.mono hJ1).ok11 hgs
 have hgn:=hg.n
 have hg400:=hgs.n
 clear hgw hr
 have hkg:∀ d∈g.ds,KB d.t:=fun d hd n hn=>by have:=((hgs.ds d hd).t.ns n hn).kn;omega
 refine CallOb.mk [] [] _ (.refl _) (WCheck_is hT hg hkg) ?_
 rintro v J2 N - ⟨hJ2,rfl,ra,rfl,hra⟩
 have hT2:=hT.mono hJ2
 have hg2:=hg.mono hJ2
 by_cases h1:ra.2=0
 rotate_left
 ·refine GuardOb.mk (fun h=>absurd h (by simp[h1])) (fun _=>?_)
  exact⟨_,_,.refl,rfl⟩
 refine GuardOb.mk (fun _=>?_) (fun h=>absurd h (by simp[h1]))
 by_cases h2:rule < 0
 ·refine GuardOb.mk (fun h=>absurd h (by simp[h2])) (fun _=>?_)
  exact⟨_,_,.refl,rfl⟩
 refine GuardOb.mk (fun _=>?_) (fun h=>absurd h (by simp[h2]))
 by_cases h3:(g.n:Int)≤rule
 ·refine GuardOb.mk (fun h=>absurd h (by simp[h3])) (fun _=>?_)
  exact⟨_,_,.refl,rfl⟩
 refine GuardOb.mk (fun _=>?_) (fun h=>absurd h (by simp[h3]))
 by_cases h4:(g.n:Int)=1
 ·refine CondOb.mk (fun _=>?_) (fun h=>absurd h (by simp[h4]))
  exact⟨_,_,.refl,rfl⟩
 refine CondOb.mk (fun h=>absurd h (by simp[h4])) (fun _=>?_)
 obtain⟨u,rfl⟩:=Int.eq_ofNat_of_zero_le (show 0≤rule by omega)
 have hu:u < g.ds.length:=by omega
 have hm:mayG debL g=0:=by
  rcases hra with ⟨a,e⟩ | ⟨a,-⟩
  ·rw[e] at h1
   exact h1
  ·exact a
 have hw:=(hra.get hm).1 h1
 have hM:=mayF_of hgn hm
 refine LoopOb.inv (ι:=Nat×GH) (fun s=>{ fl:=[(1,.val (.int .i64 (u:Nat))),(2,.ref 2 0),(5,.val (.int .i64 s.1))],cl:=[(2,[.slice g.a g.n g.c])],gi:=s.2,mi:=[] }) (fun s=>s.1≤g.n∧(∀ b o,J2 b=some o→s.2 b=some o)∧∀ j,j < s.1→j≠u→(u:Int) ∉ callsG debL g (j:Nat)) (fun s=>g.n - s.1) ?_ ?_
 ·exact⟨(0,J2),⟨Nat.zero_le _,fun _ _ h=>h,fun j h=>absurd h (Nat.not_lt_zero _)⟩,.refl,aF3,.cons rfl (.nil)⟩
 rintro⟨i,J⟩ ⟨hi,hJ,hnc⟩
 simp only at hi hJ hnc
 have hTJ:=hT2.mono hJ
 have hgJ:=hg2.mono hJ
 refine CondOb.mk (fun h=>?_) (fun h=>?_)
 ·have hlt:i < g.n:=by have:(i:Int) < (g.n:Int):=of_decide_eq_true h;omega
  refine CallOb.mk [] [] _ (.refl _) (Calls_spec hTJ hgJ (by omega) i) ?_
  rintro v J3 N hJ3 ⟨-,x5,rfl,hx5,hl5,rfl⟩
  have n5:=hx5.n
  have c5:=hx5.rs.cap
  refine LoopOb.inv (ι:=Nat) (fun k=>{ fl:=[(1,.val (.int .i64 (u:Nat))),(2,.ref 2 0),(5,.val (.int .i64 i)),(6,.val x5.val),(7,.val (.int .i64 k))],cl:=[(2,[.slice g.a g.n g.c])],gi:=J3,mi:=[] }) (fun k=>k≤x5.n∧(i≠u→∀ q,∀ h:q < x5.l.length,q < k→x5.l[q]≠(u:Int))) (fun k=>x5.n - k) ?_ ?_
  ·exact⟨0,⟨Nat.zero_le _,fun _ q _ h=>absurd h (Nat.not_lt_zero _)⟩,.refl,aF5,.cons rfl (.nil)⟩
  rintro k ⟨hk,hkn⟩
  refine CondOb.mk (fun h=>?_) (fun h=>?_)
  ·have hlt2:k < x5.n:=by have:(k:Int) < (x5.n:Int):=of_decide_eq_true h;omega
   have hkl:k < x5.l.length:=by omega
   obtain⟨ac,hac,hrc⟩:=hx5.rs.one hlt2 hkl
   by_cases hiu:i=u
   ·subst hiu
    refine GuardOb.mk (fun h=>absurd h (by simp)) (fun _=>?_)
    refine ArithOb.mk _ (next_wr (i:=k) (by omega)) ?_
    exact⟨k+1,⟨⟨hlt2,fun h=>absurd rfl h⟩,by omega⟩,.refl,aF5,.cons rfl (.nil)⟩
   ·have hiu':¬ (i:Int)=(u:Int):=by omega
    have hstep:x5.l[k]≠(u:Int)→∀ q,∀ h:q < x5.l.length,q < k+1→x5.l[q]≠(u:Int):=fun h5 q h6 h7=>by
     by_cases e:q=k
     ·subst e;exact h5
     ·exact hkn hiu q h6 (by omega)
    generalize x5.l[k]=z at hrc hstep
    refine GuardOb.mk (fun _=>?_) (fun h=>absurd h (by simp[hiu']))
    refine IdxOb.mk ac k hac rfl hlt2 ?_
    refine LoadOb.mk _ (hrc _) ?_
    refine CondOb.mk (fun h5=>?_) (fun h5=>?_)
    ·exact⟨_,_,.refl,rfl⟩
    ·have h5:¬ z=(u:Int):=of_decide_eq_false h5
     refine ArithOb.mk _ (next_wr (i:=k) (by omega)) ?_
     exact⟨k+1,⟨⟨hlt2,fun _=>hstep h5⟩,by omega⟩,.refl,aF5,.cons rfl (.nil)⟩
  ·have hge2:k=x5.n:=by have:¬ (k:Int) < (x5.n:Int):=of_decide_eq_false h;omega
   refine ArithOb.mk _ (next_wr (i:=i) (by omega)) ?_
   refine⟨(i+1,J3),⟨⟨hlt,fun b o h=>hJ3 _ _ (hJ _ _ h),fun j hj hju=>?_⟩,by simp only;omega⟩,.refl,aF3,.cons rfl (.nil)⟩
   by_cases e:j=i
   ·subst e
    rw[←hl5]
    intro hc
    obtain⟨q,h6,h7⟩:=List.getElem_of_mem hc
    exact hkn hju q h6 (by omega) h7
   ·exact hnc j (by simp only at hj;omega) hju
 have hge:i=g.n:=by have:¬ (i:Int) < (g.n:Int):=of_decide_eq_false h;omega
 subst hge
 refine CallOb.mk [] [] _ (.refl _) (Drop_spec hgJ hu (by omega)) ?_
 rintro v J3 N - ⟨hJ3,rfl,h,rfl,hh,hhn,hhct⟩
 have hT3:=hTJ.mono hJ3
 obtain⟨e1,e2⟩:=erase_app g.ds u hu
 rw[e2] at hhct
 have hfirst:=may_first hgn hm u hu
 have hlen2:(g.ds.take u++g.ds.drop (u+1)).length=g.n - 1:=by
  rw[←e2,List.length_eraseIdx,if_pos hu]
  omega
 have hcth:h.ct=(grL (g.ds.take u++g.ds.drop (u+1))).ct:=by
  unfold Gr.ct grL
  rw[hhct,hhn,hlen2]
 have hno:∀ e∈g.ds.take u++g.ds.drop (u+1),∀ n∈e.t.ns,n.k=3→n.t≠g.ds[u].name:=fun e he n hn h3 hnm=>by
  obtain⟨j,hj,hju,rfl⟩:∃ j,∃ hj:j < g.ds.length,j≠u∧g.ds[j]=e:=by
   rcases List.mem_append.1 he with he | he
   ·obtain⟨j,hj,rfl⟩:=List.getElem_of_mem he
    rw[List.length_take] at hj
    exact⟨j,by omega,by omega,by rw[List.getElem_take]⟩
   ·obtain⟨j,hj,rfl⟩:=List.getElem_of_mem he
    rw[List.length_drop] at hj
    exact⟨u+1+j,by omega,by omega,by rw[List.getElem_drop]⟩
  refine hnc j (by omega) hju (named_called hgn hm hj hu hn h3 ?_)
  rw[hnm]
  exact hfirst
 have hF:∃ F,IsFlow g.ds F:=by
  rcases hra with ⟨a,-⟩ | ⟨-,F,hF,-⟩
  ·exact absurd hm a
  ·exact⟨F,hF⟩
 obtain⟨F,hF⟩:=hF
 rw[flowG_eq hF] at hw
 obtain⟨hm',F',hF',hl',hlo'⟩:=drop_well hgJ e1 hcth (by omega) hno hm hF hw.1 hw.2
 have hkh:∀ d∈h.ds,KB d.t:=kbs_ct hg.ds hh.ds (fun d hd=>by
  have h5:d.ct∈(g.ds.take u++g.ds.drop (u+1)).map Df.ct:=by rw[←hhct];exact List.mem_map.2 ⟨d,hd,rfl⟩
  obtain⟨e,he,h6⟩:=List.mem_map.1 h5
  refine⟨e,?_,h6.symm⟩
  rcases List.mem_append.1 he with he | he
  ·exact List.mem_of_mem_take he
  ·exact List.mem_of_mem_drop he) hkg
 refine GuardOb.mk (fun _=>?_) (fun h=>absurd h (by simp))
 refine CallOb.mk [] [] _ (.refl _) (WCheck_is hT3 hh hkh) ?_
 rintro v J4 N - ⟨hJ4,rfl,rb,rfl,hrb⟩
 have hb:=(hrb.get hm').2
 rw[flowG_eq hF'] at hb
 exact⟨_,_,.refl,by simp[hb ⟨hl',hlo'⟩]⟩
end Go.V
