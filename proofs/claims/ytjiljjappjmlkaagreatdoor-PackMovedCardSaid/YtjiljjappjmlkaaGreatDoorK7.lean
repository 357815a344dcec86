/-
  Part 7 of what the proofs of this seat share: the executor, data in memory, walks.
-/
import Derived.Test.YtjiljjappjmlkaaGreatDoorK5
import Derived.Test.YtjiljjappjmlkaaGreatDoorK6
import Derived.Test.YtjiljjappjmlkaaGreatDoorK4
import Derived.Test.YtjiljjappjmlkaaGreatDoorK3
import Derived.Lib.SliceRun
set_option linter.all false
namespace Go.V
open Go Go.Proofs
theorem gT {X:Bool} {p:Prop} (b:X=true) (h:X=false):p:=by rw[b] at h;cases h
theorem gF {X:Bool} {p:Prop} (b:X=false) (h:X=true):p:=by rw[b] at h;cases h
theorem OS.frzQ {I J:GH} {M:List Blk} (hF:Frz I M J) {os:OS} {xs:List Value} {e size b:Nat} (h:os.ok size xs) (hM:∀ x∈os.blk e,x∈M) (hb:os.n * b≤140737488355328):RS J (os.a.map fun g=>⟨g,0,none⟩) os.n os.c size b xs:=by
 obtain⟨a,n,c,cur⟩:=os
 cases a with
 | none=>
  obtain⟨h1,h2⟩:=h.nil rfl
  exact⟨h.len,⟨by simp only at h1 h2 ⊢;omega,hb⟩,.inl h1⟩
 | some g=>
  obtain⟨h1,h2,h3,h4⟩:=h.cap g rfl
  exact⟨h.len,⟨h2,hb⟩,.inr ⟨⟨g,0,none⟩,rfl,rfl,cur.toArray,e,(0,0),hF.kn _ _ (.inr ⟨⟨g,.cells cur.toArray e (0,0)⟩,hM _ (.head _),rfl,rfl⟩),by simpa using h4⟩⟩
def RunFr (deb:List Int) (g:Gr) (rule:Int) (s:ByteArray) (at_ fuel:Int) (I:GH) (M0:List Blk) (v:Value) (I':GH) (M':List Blk):Prop:=
 (∀ b o,I b=some o→I' b=some o)∧M'=M0∧∃ (r:Rs) (a:Option Addr) (n c:Nat),RunG deb g rule s at_ fuel r∧v=.tuple #[ocV r.o (.slice a n c),.int .i64 r.u,.int .i64 r.e]∧RS I' a n c 3 0 (r.o.caps.flatMap Cp.cells)
theorem PRun_fr {I:GH} {M0:List Blk} {deb:List Int} (hT:Tabs I deb) {g:Gr} (hg:g.ok I) (rule:Int) (s:ByteArray) (at_ fuel:Int) :
  Spec Tryz.prog 12 [g.val,.int .i64 rule,.string s,.int .i64 at_,.int .i64 fuel] I M0 (RunFr deb g rule s at_ fuel I M0):=by
 refine Spec.weakK (Spec.frame (Spec.frz (PRun_spec hT hg rule s at_ fuel))) ?_
 rintro v J M ⟨M',rfl,-,hJ,rfl,-,I',M1,⟨h1,r,os,hr,rfl,hos,rfl⟩,hF⟩
 exact⟨hJ,rfl,r,os.a.map fun g=>⟨g,0,none⟩,os.n,os.c,hr,rfl,OS.frzQ hF hos (fun _ h=>h) (by omega)⟩
theorem opn_sQ {α R:Type} (v:α) (x:R) (f:α→R):opn (some v) x f=f v:=rfl
theorem eqE_cap (l l':List UInt8) (a b a' b':Int):eqT Tryz.prog TryzE 8 36 (.a [.s l,.i .i64 a,.i .i64 b]) (.a [.s l',.i .i64 a',.i .i64 b'])=some (eqS l l' && (eqI a a' && eqI b b')):=by
 obtain⟨i36,h36,hs36⟩:∃ i,TryzE 36=some i∧i.sh=.struct [(9,0),(3,1),(3,2)]:=⟨_,rfl,rfl⟩
 obtain⟨i9,h9,hs9⟩:∃ i,TryzE 9=some i∧i.sh=.string:=⟨_,rfl,rfl⟩
 obtain⟨i3,h3,hs3⟩:∃ i,TryzE 3=some i∧i.sh=.int .i64:=⟨_,rfl,rfl⟩
 have hp:plainT Tryz.prog 36=true:=by kernel_rfl
 have hq:∀ k a b,eqT Tryz.prog TryzE (k+1) 3 (.i .i64 a) (.i .i64 b)=some (eqI a b):=fun k a b=>by
  simp only[eqT,h3,opn_sQ,hs3]
  rfl
 have hb:∀ k a b,eqT Tryz.prog TryzE (k+1) 9 (.s a) (.s b)=some (eqS a b):=fun k a b=>by
  simp only[eqT,h9,opn_sQ,hs9]
 rw[eqT]
 simp only[h36,opn_sQ,hs36,hp]
 have p0:∀ c0 c1 c2,partE TryzE 9 0 [.s c0,c1,c2]=some (.s c0):=fun _ _ _=>rfl
 have p1:∀ c0 c1 c2,partE TryzE 3 1 [c0,.i .i64 c1,c2]=some (.i .i64 c1):=fun _ _ _=>rfl
 have p2:∀ c0 c1 c2,partE TryzE 3 2 [c0,c1,.i .i64 c2]=some (.i .i64 c2):=fun _ _ _=>rfl
 simp only[eqPl,p0,p1,p2,opn_sQ,hq,hb,cnd_eq]
 cases eqS l l'<;>cases eqI a a'<;>cases eqI b b'<;>rfl
def cpB (x y:Cp):Bool:=eqS x.name.data.toList y.name.data.toList && (eqI x.lo y.lo && eqI x.hi y.hi)
theorem cpB_iff (x y:Cp):cpB x y=true ↔ x=y:=by
 obtain⟨⟨⟨n⟩⟩,l,h⟩:=x
 obtain⟨⟨⟨n'⟩⟩,l',h'⟩:=y
 unfold cpB
 rw[eqS_eq,eqI_eq,eqI_eq]
 simp only[Bool.and_eq_true,decide_eq_true_eq,Cp.mk.injEq,ByteArray.mk.injEq,Array.mk.injEq]
 constructor
 ·rintro⟨h1,h2,h3⟩
  exact⟨h1,by omega,by omega⟩
 ·rintro⟨h1,h2,h3⟩
  exact⟨h1,by omega,by omega⟩
theorem Cp.vrs (D:Nm) (x:Cp):VRs D [.s x.name.data.toList,.i .i64 x.lo,.i .i64 x.hi] x.cells:=by
 simp[VRs,VR,Cp.cells]
theorem BinOb.neCp {x y:Operand} {p q:Cp} {V:Value→Prop} {other:Prop} (h:V (.bool (!cpB p q))) :
  BinOb Tryz.prog .neq 36 x y (.val (.agg #[.string p.name,.int .i64 p.lo,.int .i64 p.hi])) (.val (.agg #[.string q.name,.int .i64 q.lo,.int .i64 q.hi])) V other:=by
 refine b_agg_ok (X:=⟨Tryz.prog,TryzE,[],0,0,default,fun _=>none,[],none⟩) (D:=fun _=>none) (v:=.b (!cpB p q)) TryzEOK ?_ (Cp.vrs _ p) (Cp.vrs _ q) (fun u hu=>by simp only[VR] at hu;rw[hu];exact h)
 show b_agg Tryz.prog TryzE .neq 36 _ _=_
 unfold b_agg
 rw[eqE_cap,show Tryz.prog.eqGuardType Tryz.prog.depth 36=false by kernel_rfl]
 rfl
theorem take_extQ {α:Type} {l m:List α} {k:Nat} (hl:k < l.length) (hm:k < m.length) (h:l.take k=m.take k) (e:l[k]=m[k]):l.take (k+1)=m.take (k+1):=by
 rw[List.take_succ_eq_append_getElem hl,List.take_succ_eq_append_getElem hm,h,e]
theorem take_neQ {α:Type} {l m:List α} {k:Nat} (hl:k < l.length) (hm:k < m.length) (e:¬ l[k]=m[k]):¬ l=m:=fun h=>by
 subst h
 exact e rfl
set_option maxHeartbeats 2000000 in
theorem EqualC_spec {I:GH} {M0:List Blk} {a a':Option Addr} {n n' c c' b b':Nat} {l l':List Cp} (h:RS I a n c 3 b (l.flatMap Cp.cells)) (h':RS I a' n' c' 3 b' (l'.flatMap Cp.cells)) (hb:n≤140737488355327):Spec Tryz.prog 37 [.slice a n c,.slice a' n' c'] I M0 fun v I' M'=>(∃ r,v=.bool r∧(r=true ↔ l=l'))∧I'=I∧M'=M0:=by
 refine spec_of_V [] TryzEOK Tryz.func37 rfl rfl rfl ?_
 intro B h0
 have hl:l.length=n:=by
  have:=h.len
  rw[flat_len _ 3 Cp.cells_len] at this
  omega
 have hl':l'.length=n':=by
  have:=h'.len
  rw[flat_len _ 3 Cp.cells_len] at this
  omega
 by_cases hn:n=n'
 rotate_left
 ·refine CondOb.mk (fun _=>?_) (fun h=>absurd h (by simp;omega))
  exact⟨_,_,.refl,⟨false,rfl,fun e=>(by cases e),fun e=>absurd (by rw[←hl,←hl',e]) hn⟩,rfl,rfl⟩
 subst hn
 refine CondOb.mk (fun h=>absurd h (by simp)) (fun _=>?_)
 refine LoopOb.inv (ι:=Nat) (fun k=>{ fl:=[(0,.val (.slice a n c)),(1,.val (.slice a' n c')),(12,.val (.int .i64 n)),(13,.val (.int .i64 k))],gi:=I,mi:=M0 }) (fun k=>k≤n∧l.take k=l'.take k) (fun k=>n - k) ?_ ?_
 ·exact⟨0,⟨Nat.zero_le _,rfl⟩,.refl,aF4,.nil⟩
 rintro k ⟨hk,ht⟩
 refine CondOb.mk (fun h2=>?_) (fun h2=>?_)
 ·have hlt:k < n:=by have:(k:Int) < (n:Int):=of_decide_eq_true h2;omega
  have hkl:k < l.length:=by omega
  have hkl':k < l'.length:=by omega
  obtain⟨ad,had,hrd⟩:=h.row Cp.cells_len hlt hkl
  obtain⟨ad',had',hrd'⟩:=h'.row Cp.cells_len hlt hkl'
  have hex:=take_extQ hkl hkl' ht
  have hne:=take_neQ hkl hkl'
  generalize l[k]=x at hrd hex hne
  generalize l'[k]=y at hrd' hex hne
  refine CodeOb.draw TryzEOK rfl rfl rfl ?_
  refine IdxOb.mk ad k had rfl hlt ?_
  refine LoadOb.mk _ (hrd _) ?_
  refine IdxOb.mk ad' k had' rfl hlt ?_
  refine LoadOb.mk _ (hrd' _) ?_
  refine BinOb.neCp (p:=x) (q:=y) ?_
  refine CondOb.mk (fun e=>?_) (fun e=>?_)
  ·have e2:(!cpB x y)=true:=e
   rw[Bool.not_eq_true',←Bool.not_eq_true,cpB_iff] at e2
   exact⟨_,_,.refl,⟨false,rfl,fun e=>(by cases e),fun e=>absurd e (hne e2)⟩,rfl,rfl⟩
  ·have e2:(!cpB x y)=false:=e
   rw[Bool.not_eq_false',cpB_iff] at e2
   refine ArithOb.mk _ (next_wr (i:=k) (by omega)) ?_
   exact⟨k+1,⟨⟨hlt,hex e2⟩,by omega⟩,.refl,aF4,.nil⟩
 ·have hge:k=n:=by have:¬ (k:Int) < (n:Int):=of_decide_eq_false h2;omega
  subst hge
  rw[List.take_of_length_le (by omega),List.take_of_length_le (by omega)] at ht
  exact⟨_,_,.refl,⟨true,rfl,fun _=>ht,fun _=>rfl⟩,rfl,rfl⟩
theorem SSame_spec {I:GH} {M0:List Blk} {o o':Oc} {a a':Option Addr} {n n' c c':Nat} (h:RS I a n c 3 0 (o.caps.flatMap Cp.cells)) (h':RS I a' n' c' 3 0 (o'.caps.flatMap Cp.cells)) (hb:n≤140737488355327) :
  Spec Tryz.prog 15 [ocV o (.slice a n c),ocV o' (.slice a' n' c')] I M0 fun v I' M'=>(∃ r,v=.bool r∧(r=true ↔ o=o'))∧I'=I∧M'=M0:=by
 refine spec_of_V [] TryzEOK Tryz.func15 rfl rfl rfl ?_
 intro B h0
 obtain⟨k,to,l⟩:=o
 obtain⟨k',to',l'⟩:=o'
 refine GuardOb.mk (fun e1=>?_) (fun e1=>?_)
 rotate_left
 ·have e2:k≠k':=fun e=>by subst e;simp at e1
  exact⟨_,_,.refl,⟨false,rfl,fun e=>(by cases e),fun e=>absurd (congrArg Oc.ok e) e2⟩,rfl,rfl⟩
 have e2:k=k':=by simpa using e1
 refine GuardOb.mk (fun e3=>?_) (fun e3=>?_)
 rotate_left
 ·have e4:to≠to':=fun e=>by subst e;simp at e3
  exact⟨_,_,.refl,⟨false,rfl,fun e=>(by cases e),fun e=>absurd (congrArg Oc.to e) e4⟩,rfl,rfl⟩
 have e4:to=to':=by
  have:(to:Int)=(to':Int):=of_decide_eq_true e3
  omega
 refine CallOb.whole _ (EqualC_spec h h' hb) ?_
 rintro v I' M' - ⟨⟨r,rfl,hr⟩,rfl,rfl⟩
 refine⟨_,_,.refl,⟨r,rfl,?_⟩,rfl,rfl⟩
 rw[hr]
 simp[e2,e4]
def ofL (d:Nd) (ls:List (List Nd)):List Nd:=ofNds d (ls.map cleanL)
theorem OS.rowAt {α:Type} (f:α→List Value) (k:Nat) (hf:∀ x,(f x).length=k) {I:GH} {M:List Blk} {os:OS} {l:List α} {e:Nat} (h:os.ok k (l.flatMap f)) (hk:0 < k) (hM:∀ x∈os.blk e,x∈M) :
  l.length=os.n∧∀ j (hj:j < l.length),∃ ad,(os.a.map fun g=>(⟨g,0,none⟩:Addr))=some ad∧Rd I M (ad.add (j * k)) k (f l[j]):=by
 have hl:=h.len
 rw[flat_len f k hf] at hl
 have hl':=Nat.eq_of_mul_eq_mul_right hk hl
 refine⟨hl',fun j hj=>?_⟩
 obtain⟨a,n,c,cur⟩:=os
 simp only at hl hl'
 subst hl'
 cases a with
 | none=>have:=(h.nil rfl).1;simp only at this;omega
 | some g=>
  obtain⟨h1,h2,h3,h4⟩:=h.cap g rfl
  simp only at h1 h2 h4
  refine⟨⟨g,0,none⟩,rfl,?_⟩
  have hm:(⟨g,.cells cur.toArray e (0,0)⟩:Blk)∈M:=hM _ (by simp[OS.blk])
  have hjk:j * k+k≤l.length * k:=by
   have:(j+1) * k≤l.length * k:=Nat.mul_le_mul_right _ hj
   rwa [Nat.add_mul,Nat.one_mul] at this
  have hck:l.length * k≤c * k:=Nat.mul_le_mul_right _ h2
  have hr:=blk_rd (I:=I) (cs:=cur) (k:=j * k) (n:=k) hm (by omega)
  have e1:(cur.drop (j * k)).take k=((cur.take (l.length * k)).drop (j * k)).take k:=by
   rw[List.drop_take,List.take_take]
   congr 1
   omega
  rw[e1,h4,flat_at f k hf l j hj] at hr
  exact hr
structure TrSmall (t:Tr):Prop where
 n:t.n < 2500
 ns:∀ nd∈t.ns,NdSmall nd
theorem TrW.ok {I:GH} {t:Tr} (h:TrW I t) (hs:TrSmall t):t.ok I:=
 ⟨h.rs.big (by have:=hs.n;omega),fun nd hnd=>(h.ns nd hnd).ok (hs.ns nd hnd),h.root⟩
def bodies (g:Gr) (L0:List Tr) (i:Nat):List Tr:=L0++(g.ds.take i).map Df.t
theorem bodies_len {g:Gr} {L0:List Tr} {i:Nat} (hi:i≤g.ds.length):(bodies g L0 i).length=L0.length+i:=by
 simp[bodies]
 omega
structure L2 (L:List Tr) (n0:Nat) (x:Nat×Nat):Prop where
 i:x.2≤L.length
 n:x.1≤6000
 ge:n0≤x.1
 small:x.1 < 2500→x.2≤x.1∧∀ j (h:j < L.length),j < x.2→TrSmall L[j]
structure L1k (g:Gr) (L0:List Tr) (x:Nat×Nat×OS):Prop where
 i:x.2.1≤g.n
 n:x.1≤6000
 five:5 * x.2.1≤x.1
 os:x.2.2.ok 2 ((bodies g L0 x.2.1).flatMap Tr.cells)
 small:x.1 < 600→∀ j (h:j < g.ds.length),j < x.2.1→g.ds[j].name.size < 600
structure L2k (L:List Tr) (n0:Nat) (x:Nat×Nat):Prop where
 i:x.2≤L.length
 n:x.1≤6000
 ge:n0≤x.1
 small:x.1 < 600→x.2≤x.1∧∀ j (h:j < L.length),j < x.2→TrSmall L[j]
structure L3k (L:List Tr) (t:Tr) (n0 i:Nat) (x:Nat×Nat):Prop where
 k:x.2≤t.n
 n:x.1≤6000
 ge:n0≤x.1
 small:x.1 < 600→i+1≤x.1∧x.2≤x.1∧(∀ j (h:j < L.length),j < i→TrSmall L[j])∧∀ j (h:j < t.ns.length),j < x.2→NdSmall t.ns[j]
set_option maxRecDepth 100000 in
set_option maxHeartbeats 4000000 in
theorem long16_spec {I:GH} {g:Gr} (hg:GrW I g) {os0:OS} {L0:List Tr} (hos0:os0.ok 2 (L0.flatMap Tr.cells)) (hL0:∀ t∈L0,TrW I t) (hl0:L0.length≤600) :
  Spec Tryz.prog 8 [g.val,os0.val] I (os0.blk 44) fun v I' M'=>(∃ r,v=.bool r∧(r=false→GrSmall g∧∀ t∈L0,TrSmall t))∧I'=I∧M'=[]:=by
 refine spec_of_V [] TryzEOK Tryz.func8 rfl rfl rfl ?_
 intro B h0
 have hgn:=hg.n
 refine LoopOb.inv (ι:=Nat×Nat×OS) (fun x=>{ fl:=[(1,.val x.2.2.val),(2,.ref 2 0),(5,.val (.int .i64 x.1)),(6,.val (.int .i64 x.2.1))],cl:=[(2,[.slice g.a g.n g.c])],gi:=I,mi:=x.2.2.blk 44 }) (L1k g L0) (fun x=>g.n - x.2.1) ?_ ?_
 ·exact⟨(0,0,os0),⟨Nat.zero_le _,Nat.zero_le _,Nat.zero_le _,by simpa[bodies] using hos0,fun _ j _ h=>by simp at h⟩,.refl,aF4,.cons rfl .nil⟩
 rintro⟨n,i,os⟩ ⟨hi,hn,h5,hos,hsm⟩
 simp only at hi hn h5 hos hsm
 have hosn:os.n=L0.length+i:=by
  have:=(OS.rowAt Tr.cells 2 (fun _=>rfl) (I:=I) (e:=0) hos (by decide) (fun x h=>h)).1
  rw[bodies_len (by omega)] at this
  exact this.symm
 refine GuardOb.mk (fun h=>CondOb.mk (fun h2=>?body) (fun h2=>?e1)) (fun h=>?e2)
 case body=>
  have hlt:i < g.n:=by simpa using h
  have hn2:n < 600:=by have:=of_decide_eq_true h2;omega
  have hds:=hsm hn2
  have hlt':i < g.ds.length:=by omega
  obtain⟨ad,had,hrd⟩:=hg.rs.row Df.cells_len hlt hlt'
  have hd:=hg.ds _ (List.getElem_mem hlt')
  have hnm:=hd.name
  have r1:∀ M,Rd I M ((ad.add (i * 3)).add 0) 1 [.string g.ds[i].name]:=fun M=>(hrd M).part (k:=0) (m:=1) (by decide)
  have r2:∀ M,Rd I M ((ad.add (i * 3)).add 1) 2 g.ds[i].t.cells:=fun M=>(hrd M).part (k:=1) (m:=2) (by decide)
  have hbd:bodies g L0 (i+1)=bodies g L0 i++[g.ds[i].t]:=by
   simp only[bodies]
   rw[List.take_succ_eq_append_getElem hlt',List.map_append,List.append_assoc]
   rfl
  generalize hdd:g.ds[i]=d at hd r1 r2 hnm hbd
  refine ArithOb.mk ((n+5:Nat):Int) (wr_eq (by omega) (by omega)) ?_
  refine IdxOb.mk ad i had rfl hlt ?_
  refine LoadOb.mk _ (r1 _) ?_
  refine ArithOb.mk ((n+5+min 600 d.name.size:Nat):Int) (wr_eq (by omega) (by omega)) ?_
  refine IdxOb.mk ad i had rfl hlt ?_
  refine LoadOb.mk _ (r2 _) ?_
  refine AllocOb.mk fun b hb hbM=>?_
  refine OtherOb.append TryzEOK rfl (by simp) (e:=44) rfl rfl rfl os hos rfl (m:=1) rfl (news:=d.t.cells) (by decide) (blk_rd (b:=b) (cs:=d.t.cells) (k:=0) (n:=2) (T:=44) (.head _) (Nat.le_of_ble_eq_true rfl)) rfl (Mr:=[⟨b,.cells d.t.cells.toArray 44 (0,0)⟩]) (List.perm_append_comm (l₁:=[_])) (by simp only[maxLen];omega) (by show (os.n+1) * 32≤_;omega) ?_
  intro g1 c1 cur1 q1 q2 q3 q4
  refine ArithOb.mk _ (next_wr (i:=i) (by omega)) ?_
  refine⟨(_,i+1,⟨some g1,os.n+1,c1,cur1⟩),⟨⟨by simp only;omega,by simp only;omega,by simp only;omega,?_,fun h j hj hj2=>?_⟩,by simp only;omega⟩,.sub (.cons_cons _ (List.nil_sublist _)) .refl,aF4,.cons rfl .nil⟩
  ·simp only
   rw[hbd,List.flatMap_append]
   have:=appm_ok hos (m:=1) (g:=g1) (ys:=d.t.cells) rfl q1 q2 q3 q4
   simpa using this
  ·simp only at h hj2
   by_cases e:j=i
   ·subst e
    rw[hdd]
    omega
   ·exact hds j hj (by omega)
 case' e1=>have hx:n < 600→i=g.n:=fun hh=>by have:=of_decide_eq_false h2;omega
 case' e2=>have hx:n < 600→i=g.n:=fun hh=>by have:¬ (i:Int) < (g.n:Int):=of_decide_eq_false h;omega
 all_goals
  clear h
  have hrow:=OS.rowAt Tr.cells 2 (fun _=>rfl) (I:=I) (M:=os.blk 44) (e:=44) hos (by decide) (fun x h=>h)
  have hLW:∀ t∈bodies g L0 i,TrW I t:=fun t ht=>by
   rcases List.mem_append.1 ht with ht | ht
   ·exact hL0 t ht
   ·obtain⟨d,hd,rfl⟩:=List.mem_map.1 ht
    exact(hg.ds d (List.mem_of_mem_take hd)).t
  have fin:∀ m,n≤m→(m < 600→∀ t∈bodies g L0 i,TrSmall t)→∀ c,c=decide ((600:Int)≤(m:Int))→(c=false→GrSmall g∧∀ t∈L0,TrSmall t):=by
   intro m hnm h1 c hc hcf
   rw[hc] at hcf
   have hm:m < 600:=by have:=of_decide_eq_false hcf;omega
   have h2:=h1 hm
   have h3:=hx (by omega)
   have h4:=hsm (by omega)
   have h6:∀ d∈g.ds,DfSmall d:=fun d hd=>by
    obtain⟨j,hj,rfl⟩:=List.getElem_of_mem hd
    have:=h2 (g.ds[j].t) (List.mem_append_right _ (List.mem_map.2 ⟨g.ds[j],by rw[List.take_of_length_le (by omega)];exact List.getElem_mem hj,rfl⟩))
    exact⟨Nat.lt_of_lt_of_le (h4 j hj (by omega)) (by decide),this.n,this.ns⟩
   exact⟨⟨by omega,h6⟩,fun t ht=>h2 t (List.mem_append_left _ ht)⟩
  generalize bodies g L0 i=L at hrow hLW fin
  obtain⟨hLn,hrow⟩:=hrow
  refine LoopOb.inv (ι:=Nat×Nat) (fun x=>{ fl:=[(1,.val os.val),(5,.val (.int .i64 x.1)),(7,.val (.int .i64 x.2))],gi:=I,mi:=os.blk 44 }) (L2k L n) (fun x=>L.length - x.2) ?_ ?_
  ·exact⟨(n,0),⟨Nat.zero_le _,hn,Nat.le_refl _,fun _=>⟨Nat.zero_le _,fun j _ h=>by simp at h⟩⟩,.refl,aF3,.nil⟩
  rintro⟨m,k⟩ ⟨hk,hm,hge,hsm2⟩
  simp only at hk hm hge hsm2
  have alls:(m < 600→k=L.length)→(m < 600→∀ t∈L,TrSmall t):=fun h1 h2 t ht=>by
   obtain⟨j,hj,rfl⟩:=List.getElem_of_mem ht
   exact(hsm2 h2).2 j hj (by have:=h1 h2;omega)
  refine GuardOb.mk (fun h3=>CondOb.mk (fun h4=>?_) (fun h4=>?_)) (fun h3=>?_)
  ·have hkl:k < os.n:=by simpa[OS.val] using h3
   have hm2:m < 600:=by have:=of_decide_eq_true h4;omega
   obtain⟨s1,s2⟩:=hsm2 hm2
   have hkl':k < L.length:=by omega
   obtain⟨ad,had,hrd⟩:=hrow k hkl'
   have hW:=hLW _ (List.getElem_mem hkl')
   have hWn:=hW.n
   have r2:Rd I (os.blk 44) ((ad.add (k * 2)).add 0) 1 [.slice L[k].a L[k].n L[k].c]:=hrd.part (k:=0) (m:=1) (by decide)
   generalize htt:L[k]=t at hW hWn r2
   refine ArithOb.mk ((m+1:Nat):Int) (wr_eq (by omega) (by omega)) ?_
   refine LoopOb.inv (ι:=Nat×Nat) (fun x=>{ fl:=[(1,.val os.val),(5,.val (.int .i64 x.1)),(7,.val (.int .i64 k)),(8,.val (.int .i64 x.2))],gi:=I,mi:=os.blk 44 }) (L3k L t n k) (fun x=>t.n - x.2) ?_ ?_
   ·exact⟨(m+1,0),⟨Nat.zero_le _,by simp only;omega,by simp only;omega,fun h=>⟨by simp only;omega,Nat.zero_le _,s2,fun j _ h=>by simp at h⟩⟩,.refl,aF4,.nil⟩
   rintro⟨p,q⟩ ⟨hq,hp,hpe,hsm3⟩
   simp only at hq hp hpe hsm3
   have out:(p < 600→q=t.n)→L2k L n (p,k+1):=fun h1=>by
    refine⟨by simp only;omega,hp,hpe,fun h2=>?_⟩
    obtain⟨u1,u2,u3,u4⟩:=hsm3 h2
    have u5:=h1 h2
    refine⟨u1,fun j hj hj2=>?_⟩
    by_cases e:j=k
    ·subst e
     rw[htt]
     refine⟨by simp only at h2;omega,fun nd hnd=>?_⟩
     obtain⟨y,hy,rfl⟩:=List.getElem_of_mem hnd
     exact u4 y hy (by omega)
    ·exact u3 j hj (by simp only at hj2;omega)
   refine IdxOb.mk ad k had rfl hkl ?_
   refine LoadOb.mk _ r2 ?_
   refine GuardOb.mk (fun h5=>CondOb.mk (fun h6=>?_) (fun h6=>?_)) (fun h5=>?_)
   ·have hql:q < t.n:=by simpa using h5
    have hp2:p < 600:=by have:=of_decide_eq_true h6;omega
    obtain⟨u1,u2,u3,u4⟩:=hsm3 hp2
    have hql':q < t.ns.length:=by omega
    obtain⟨bd,hbd,hrb⟩:=hW.rs.row Nd.cells_len hql hql'
    have hnd:=hW.ns _ (List.getElem_mem hql')
    have hts:=hnd.ts
    have r3:∀ M,Rd I M ((bd.add (q * 9)).add 8) 1 [.slice t.ns[q].ka t.ns[q].kn t.ns[q].kc]:=fun M=>(hrb M).part (k:=8) (m:=1) (by decide)
    have r4:∀ M,Rd I M ((bd.add (q * 9)).add 5) 1 [.string t.ns[q].t]:=fun M=>(hrb M).part (k:=5) (m:=1) (by decide)
    generalize hxx:t.ns[q]=nd at hnd hts r3 r4
    refine CodeOb.draw TryzEOK rfl rfl rfl ?_
    refine ArithOb.mk ((p+1:Nat):Int) (wr_eq (by omega) (by omega)) ?_
    refine IdxOb.mk ad k had rfl hkl ?_
    refine LoadOb.mk _ r2 ?_
    refine IdxOb.mk bd q hbd rfl hql ?_
    refine LoadOb.mk _ (r3 _) ?_
    refine ArithOb.mk ((p+1+min 600 nd.kn:Nat):Int) (wr_eq (by omega) (by omega)) ?_
    refine IdxOb.mk ad k had rfl hkl ?_
    refine LoadOb.mk _ r2 ?_
    refine IdxOb.mk bd q hbd rfl hql ?_
    refine LoadOb.mk _ (r4 _) ?_
    refine DivOb.mk (by decide) ?_
    refine ArithOb.mk ((min 600 nd.t.size / 20:Nat):Int) (wr_eq (by rw[Int.tdiv_eq_ediv_of_nonneg (by omega)];omega) (by omega)) ?_
    refine ArithOb.mk ((p+1+min 600 nd.kn+min 600 nd.t.size / 20:Nat):Int) (wr_eq (by omega) (by omega)) ?_
    refine ArithOb.mk _ (next_wr (i:=q) (by omega)) ?_
    refine⟨(_,q+1),⟨⟨by simp only;omega,by simp only;omega,by simp only;omega,fun h7=>?_⟩,by simp only;omega⟩,.refl,aF4,.nil⟩
    simp only at h7 ⊢
    refine⟨by omega,by omega,u3,fun j hj hj2=>?_⟩
    by_cases e:j=q
    ·subst e
     rw[hxx]
     exact⟨by omega⟩
    ·exact u4 j hj (by omega)
   ·have hp2:600≤p:=by have:=of_decide_eq_false h6;omega
    refine ArithOb.mk _ (next_wr (i:=k) (by omega)) ?_
    exact⟨(p,k+1),⟨out fun h=>by omega,by simp only;omega⟩,.refl,aF3,.nil⟩
   ·have hql:t.n≤q:=by simpa using h5
    refine ArithOb.mk _ (next_wr (i:=k) (by omega)) ?_
    exact⟨(p,k+1),⟨out fun h=>by omega,by simp only;omega⟩,.refl,aF3,.nil⟩
  ·have hm2:600≤m:=by have:=of_decide_eq_false h4;omega
   exact⟨_,_,.sub (List.nil_sublist _) .refl,⟨_,rfl,fin m hge (alls fun h=>by omega) _ rfl⟩,rfl,rfl⟩
  ·have hge2:os.n≤k:=by simpa[OS.val] using h3
   exact⟨_,_,.sub (List.nil_sublist _) .refl,⟨_,rfl,fin m hge (alls fun h=>by omega) _ rfl⟩,rfl,rfl⟩
noncomputable def prQ:PR:=fun g vs m=>cnd (Nat.beq g 147) (match vs with
 | [.s l,.i .u8 (.ofNat k)]=>cnd (Nat.blt k 256) (some (.i .i64 (idxN l k 0),m)) none
 | _=>none) (cnd (Nat.beq g 129) (match vs with
 | [v]=>some (v,m)
 | _=>none) (cnd (Nat.beq g 121) (ccE m vs) none))
noncomputable def YQ:RK:=⟨Tryz.prog,TryzE,GTs,prQ⟩
theorem prQ_ok:PrimOK YQ:=by
 intro g vs m v m' h D I M us hu hm
 change prQ g vs m=some (v,m') at h
 unfold prQ at h
 rw[cnd_eq] at h
 cases h1:Nat.beq g 147 with
 | true=>
  rw[h1,cond_true] at h
  obtain rfl:=Nat.eq_of_beq_eq_true h1
  split at h
  ·rename_i l k
   rw[cnd_eq] at h
   cases hk:Nat.blt k 256 with
   | false=>rw[hk] at h;cases h
   | true=>
    rw[hk,cond_true] at h
    have hk':k < 256:=Nat.blt_eq ▸ hk
    cases h
    simp only[VRs,VR] at hu
    obtain⟨x,xs,rfl,⟨y,ys,rfl,rfl,rfl⟩,rfl⟩:=hu
    have hkc:(UInt8.ofNat k).toNat=k:=by simp;omega
    have:=IndexByteString_spec (I:=I) (M:=M) ⟨l.toArray⟩ (UInt8.ofNat k)
    rw[hkc] at this
    refine Spec.weakK this ?_
    rintro r I' M' ⟨rfl,rfl,rfl⟩
    refine⟨D,Nm.ext_refl,?_,hm⟩
    simp only[VR]
    have:=idxN_eq (UInt8.ofNat k) l 0
    rw[hkc] at this
    rw[this]
    split
    ·rename_i e
     simp[e]
    ·simp
  ·cases h
 | false=>
 rw[h1,cond_false,cnd_eq] at h
 cases h2:Nat.beq g 129 with
 | true=>
  rw[h2,cond_true] at h
  obtain rfl:=Nat.eq_of_beq_eq_true h2
  split at h
  ·cases h
   simp only[VRs] at hu
   obtain⟨x,xs,hu,rfl,rfl⟩:=hu
   refine Spec.weakK (NoEscape_spec _) ?_
   rintro r I' M' ⟨rfl,rfl,rfl⟩
   exact⟨D,Nm.ext_refl,hu,hm⟩
  ·cases h
 | false=>
 rw[h2,cond_false,cnd_eq] at h
 cases h4:Nat.beq g 121 with
 | true=>
  rw[h4,cond_true] at h
  obtain rfl:=Nat.eq_of_beq_eq_true h4
  exact cc_ok rfl rfl h hu hm
 | false=>
 rw[h4,cond_false] at h
 cases h
theorem reckonQ {I:GH} (hT:Tabs I debL) {f g:Nat} {args:List EV} {m':Me} {v:EV} (h:callF YQ (E_code YQ f) g args ⟨.nil,0⟩=some (v,m')) {us:List Value} (hu:VRs (fun _=>none) args us) :
  Spec Tryz.prog g us I [] fun r J M''=>M''=[]∧(∀ b o,I b=some o→J b=some o)∧∃ I' M' D',VR D' v r∧MS YQ D' m' I' M'∧Frz I' M' J:=by
 have hm:MS YQ (fun _=>none) ⟨.nil,0⟩ I []:=⟨fun id e a h h'=>(by cases h'),fun id id' e e' a a' h h1 h'=>(by cases h'),fun id a h=>(by cases h),gi_tabs hT⟩
 refine Spec.weakK (reckon (Y:=YQ) TryzEOK yk_funs prQ_ok yk_orders h hu hm).frz ?_
 rintro r J M'' ⟨rfl,h1,I',M',⟨D',-,h2,h3⟩,h4⟩
 exact⟨rfl,h1,I',M',D',h2,h3,h4⟩
noncomputable def givesQ (f g:Nat) (args:List EV):Option EV:=opn (callF YQ (E_code YQ f) g args ⟨.nil,0⟩) none fun p=>some p.1
theorem givesQ_spec {I:GH} (hT:Tabs I debL) {f g:Nat} {args:List EV} {b:Bool} (h:givesQ f g args=some (.b b)) {us:List Value} (hu:VRs (fun _=>none) args us) :
  Spec Tryz.prog g us I [] fun r J M''=>r=.bool b∧(∀ b o,I b=some o→J b=some o)∧M''=[]:=by
 unfold givesQ at h
 obtain⟨⟨v,m'⟩,h1,h⟩:=opn_eq h
 cases h
 refine Spec.weakK (reckonQ hT h1 hu) ?_
 rintro r J M'' ⟨rfl,hle,I',M',D',hv,hm,hJ⟩
 simp only[VR] at hv
 exact⟨hv,hle,rfl⟩
set_option maxRecDepth 1000000 in
theorem works16_run:givesQ 100000 9 []=some (.b true):=by kernel_rfl
theorem works16_spec {I:GH} (hT:Tabs I debL):Spec Tryz.prog 9 [] I [] fun r J M''=>r=.bool true∧(∀ b o,I b=some o→J b=some o)∧M''=[]:=givesQ_spec hT works16_run (us:=[]) (by simp[VRs])
theorem mayG_vals (deb:List Int) (g:Gr):mayG deb g=0∨mayG deb g=4∨mayG deb g=40∨mayG deb g=6∨mayG deb g=41:=by
 unfold mayG
 cases decide ((g.n:Int)=0) with
 | true=>exact .inr (.inl rfl)
 | false=>
  cases okDefs g.ds with
  | false=>exact .inr (.inl rfl)
  | true=>
   cases largeG deb g with
   | true=>exact .inr (.inr (.inl rfl))
   | false=>
    simp only[Bool.not_true,cond_false]
    cases dups [] 0 g.ds with
    | none=>exact .inr (.inr (.inr (.inl rfl)))
    | some acc=>
     simp only
     cases allNamed acc g.ds with
     | true=>exact .inl rfl
     | false=>exact .inr (.inr (.inr (.inr rfl)))
theorem mayP_ne (deb:List Int) (g:Gr) (rule:Int) (n:Nat) (at_ fuel:Int):mayP deb g rule n at_ fuel≠44:=by
 unfold mayP
 have h:=mayG_vals deb g
 cases !decide (mayG deb g=0) with
 | true=>rw[cond_true];omega
 | false=>
  rw[cond_false]
  cases decide (rule < 0) || decide ((g.n:Int)≤rule) with
  | true=>rw[cond_true];decide
  | false=>
   rw[cond_false]
   cases decide ((4096:Int) < (n:Int)) with
   | true=>rw[cond_true];decide
   | false=>
    rw[cond_false]
    cases decide (at_ < 0) || (decide ((n:Int) < at_) || (decide (fuel < 0) || decide ((1099511627776:Int) < fuel)))<;>decide
theorem mayP_fuel {deb:List Int} {g:Gr} {rule at_ fuel:Int} {n:Nat} (h:mayP deb g rule n at_ fuel=0) {f:Int} (h1:0≤f) (h2:f≤1099511627776):mayP deb g rule n at_ f=0:=by
 obtain⟨m1,m2,m3,m4,-⟩:=mayP_ok h
 unfold mayP
 rw[m1,decide_eq_true rfl,Bool.not_true,cond_false,decide_eq_false (by omega:¬ rule < 0),decide_eq_false (by omega:¬ (g.n:Int)≤rule),Bool.or_self,cond_false,decide_eq_false (by omega:¬ (4096:Int) < (n:Int)),cond_false,
  decide_eq_false (by omega:¬ at_ < 0),decide_eq_false (by omega:¬ (n:Int) < at_),decide_eq_false (by omega:¬ f < 0),decide_eq_false (by omega:¬ (1099511627776:Int) < f)]
 rfl
theorem IsRun.e44 {P:Pk} {root at_ fuel:Nat} {r:Rs} (h:IsRun P root at_ fuel r) (he:r.e=44):r=.err 44:=by
 cases h with
 | err h=>
  rw[show errC _=44 from he]
 | fail=>cases he
 | many=>cases he
 | poor=>rfl
 | ok=>cases he
theorem IsRun.e0 {P:Pk} (hP:PkOk P) {root at_ fuel:Nat} (hq:RqOk P S0 (.begin root at_)) {r:Rs} (h:IsRun P root at_ fuel r) (he:r.e=0):∃ o u,r=.ok o u:=by
 cases h with
 | err h=>exact absurd he (errC_ne (go_errs hP fuel (S0_ok P) hq h))
 | fail=>exact⟨_,_,rfl⟩
 | many=>cases he
 | poor=>cases he
 | ok=>exact⟨_,_,rfl⟩
section
variable {deb:List Int} {g:Gr} {rule at_ fuel:Int} {s:ByteArray} {r:Rs}
theorem RunG.e44 (h:RunG deb g rule s at_ fuel r) (he:r.e=44):mayP deb g rule s.size at_ fuel=0∧r=.err 44:=by
 rcases h with ⟨h1,rfl⟩ | ⟨h1,h2⟩
 ·exact absurd he (mayP_ne _ _ _ _ _ _)
 ·exact⟨h1,h2.e44 he⟩
structure RunK (deb:List Int) (g:Gr) (rule:Int) (s:ByteArray) (at_ fuel:Int):Prop where
 may:mayP deb g rule s.size at_ fuel=0
 ok:PkOk (pkG g s at_.toNat)
 q:RqOk (pkG g s at_.toNat) S0 (.begin (rootP g rule.toNat) at_.toNat)
theorem runK (hg:∀ d∈g.ds,d.t.ns.length=d.t.n) (hk0:∀ d∈g.ds,∀ n∈d.t.ns,0≤n.k) (hgn:g.ds.length=g.n) (h:mayP deb g rule s.size at_ fuel=0):RunK deb g rule s at_ fuel:=by
 obtain⟨m1,m2,m3,m4,m5⟩:=mayP_ok h
 have hm:=gmay m1 hg
 exact⟨h,pkG_ok hm hk0 (by omega) m3,S0_q (rootP_lt hm (by omega) s _) (Nat.le_refl _) (by show at_.toNat≤s.size;omega)⟩
theorem RunG.run (h:RunG deb g rule s at_ fuel r) (hm:mayP deb g rule s.size at_ fuel=0):IsRun (pkG g s at_.toNat) (rootP g rule.toNat) at_.toNat fuel.toNat r:=by
 rcases h with ⟨h1,-⟩ | ⟨-,h2⟩
 ·exact absurd hm h1
 ·exact h2
theorem RunG.e0 (hg:∀ d∈g.ds,d.t.ns.length=d.t.n) (hk0:∀ d∈g.ds,∀ n∈d.t.ns,0≤n.k) (hgn:g.ds.length=g.n) (h:RunG deb g rule s at_ fuel r) (he:r.e=0):∃ o u,r=.ok o u∧RunK deb g rule s at_ fuel∧IsRun (pkG g s at_.toNat) (rootP g rule.toNat) at_.toNat fuel.toNat (.ok o u):=by
 rcases h with ⟨h1,rfl⟩ | ⟨h1,h2⟩
 ·exact absurd he h1
 ·have hK:=runK hg hk0 hgn h1
  obtain⟨o,u,rfl⟩:=h2.e0 hK.ok hK.q he
  exact⟨o,u,rfl,hK,h2⟩
theorem RunG.e0' (hg:∀ d∈g.ds,d.t.ns.length=d.t.n) (hk0:∀ d∈g.ds,∀ n∈d.t.ns,0≤n.k) (hgn:g.ds.length=g.n) (h:RunG deb g rule s at_ fuel r) (he:r.e=0):r=.ok r.o r.u∧RunK deb g rule s at_ fuel∧IsRun (pkG g s at_.toNat) (rootP g rule.toNat) at_.toNat fuel.toNat (.ok r.o r.u):=by
 obtain⟨o,u,rfl,h1,h2⟩:=h.e0 hg hk0 hgn he
 exact⟨rfl,h1,h2⟩
theorem RunG.no (h:RunG deb g rule s at_ fuel r) (he:r.e≠0):r.u=0∧r.o=oc0:=by
 cases r with
 | err e=>exact⟨rfl,rfl⟩
 | ok o u=>exact absurd rfl he
end
theorem just_less {deb:List Int} {g:Gr} {rule at_ fuel:Int} {s:ByteArray} {r r':Rs} (h:RunG deb g rule s at_ fuel r) (he:r.e=44) (h':RunG deb g rule s at_ (max 0 (IntKind.i64.wrap (fuel - 1))) r'):r'.e=44∧r'.u=0∧r.u=0:=by
 obtain⟨h1,rfl⟩:=h.e44 he
 obtain⟨-,-,-,-,m5,m6⟩:=mayP_ok h1
 have hw:IntKind.i64.wrap (fuel - 1)=fuel - 1:=wrap_i64 ⟨by omega,by omega⟩
 rw[hw] at h'
 have h2:=h'.run (mayP_fuel h1 (by omega) (by omega))
 have:=run_less (h.run h1) (k:=(max 0 (fuel - 1)).toNat) (by omega) h2
 rw[this]
 exact⟨rfl,rfl,rfl⟩
theorem rs_nilQ (I:GH):RS I none 0 0 3 0 ([]:List Value):=⟨rfl,⟨Nat.le_refl _,Nat.zero_le _⟩,.inl rfl⟩
theorem caps_n {I:GH} {l:List Cp} {a:Option Addr} {n c:Nat} (h:RS I a n c 3 0 (l.flatMap Cp.cells)):l.length=n:=by
 have:=h.len
 rw[flat_len _ 3 Cp.cells_len] at this
 omega
theorem IsRun.caps {P:Pk} {root at_ fuel:Nat} {r:Rs} (h:IsRun P root at_ fuel r):r.o.caps.length≤65536:=by
 cases h with
 | @ok c S n l h h3 hn hf hg hl=>show l.length≤65536;omega
 | _=>exact Nat.zero_le _
theorem u64_ge (x:Int):0≤IntKind.u64.wrap x:=by
 unfold IntKind.wrap
 simp only[IntKind.bits,IntKind.signed]
 simp
 omega
set_option maxRecDepth 100000 in
set_option maxHeartbeats 4000000 in
theorem packJust_V {I:GH} (hT:Tabs I debL) {g:Gr} (hgw:GrW I g) {rule:Int} (hr1:i64ok rule) {s:ByteArray} (hs:s.size≤9223372036854775807) {at_:Int} (ha1:i64ok at_) {fuel:Int} (hfu:i64ok fuel) {other:Int} (ho1:i64ok other):SpecE Tryz.prog 4 [g.val,.int .i64 rule,.string s,.int .i64 at_,.int .i64 fuel,.int .i64 other] I [] fun v I' M'=>v=.bool true:=by
 obtain⟨w1,hw1⟩:∃ w,IntKind.i64.wrap (fuel - 1)=w:=⟨_,rfl⟩
 obtain⟨w2,hw2⟩:∃ w,IntKind.u64.wrap other=w:=⟨_,rfl⟩
 have hw20:0≤w2:=by rw[←hw2];exact u64_ge other
 obtain⟨k,hk⟩:∃ k,w2.tmod 1099511627777=k:=⟨_,rfl⟩
 have hk1:0≤k:=by rw[←hk];exact Int.tmod_nonneg _ hw20
 have hk2:k < 1099511627777:=by rw[←hk];exact Int.tmod_lt_of_pos _ (by decide)
 have hkw:IntKind.i64.wrap (w2.tmod 1099511627777)=k:=by rw[hk];exact wrap_i64 ⟨by omega,by omega⟩
 refine specE_of_V [] TryzEOK Tryz.func4 rfl rfl rfl ?_
 intro B h0
 refine CallOb.mk [] [] _ (.refl _) (works16_spec hT) ?_
 rintro v J1 N - ⟨rfl,hJ1,rfl⟩
 have hT1:=hT.mono hJ1
 have hgw1:=hgw.mono hJ1
 refine GuardOb.mk (fun _=>?_) (fun h=>absurd h (by simp))
 refine CallOb.mk [] [] _ (.refl _) (long16_spec hgw1 (os0:=⟨none,0,0,[]⟩) (L0:=[]) (os0_ok 2) (fun t ht=>by cases ht) (Nat.zero_le _)) ?_
 rintro v J2 N - ⟨⟨r0,rfl,hr0⟩,hJ2,hN⟩
 subst J2
 subst N
 cases r0 with
 | true=>
  refine GuardOb.mk (fun h=>absurd h (by simp)) (fun _=>?_)
  refine CallOb.mk [] [] _ (.refl _) (works16_spec hT1) ?_
  rintro v J3 N - ⟨rfl,hJ3,rfl⟩
  exact⟨_,_,.refl,rfl⟩
 | false=>
 have hg:=hgw1.ok (hr0 rfl).1
 have hgl:∀ d∈g.ds,d.t.ns.length=d.t.n:=fun d hd=>(hg.ds d hd).t.n
 have hk0:∀ d∈g.ds,∀ n∈d.t.ns,0≤n.k:=fun d hd n hn=>((hg.ds d hd).t.ns n hn).k.1
 have hgn:=hg.n
 refine GuardOb.mk (fun _=>?_) (fun h=>absurd h (by simp))
 refine CondOb.mk (fun _=>?_) (fun hsz=>?_)
 ·refine CallOb.mk [] [] _ (.refl _) (works16_spec hT1) ?_
  rintro v J3 N - ⟨rfl,hJ3,rfl⟩
  exact⟨_,_,.refl,rfl⟩
 refine CallOb.whole _ (PRun_fr hT1 hg rule s at_ fuel) ?_
 rintro v J3 N - ⟨hJ3,rfl,r,a,n,c,hr,rfl,hrs⟩
 have hT3:=hT1.mono hJ3
 have hg3:=hg.mono hJ3
 refine CondOb.mk (fun e=>?_) (fun e=>?_)
 ·have he:r.e=44:=of_decide_eq_true e
  refine ArithOb.mk w1 hw1 ?_
  refine CallOb.whole _ (PRun_fr hT3 hg3 rule s at_ (max 0 w1)) ?_
  rintro v J4 N - ⟨hJ4,rfl,r2,a2,n2,c2,hr2,rfl,hrs2⟩
  have hq:=just_less hr he (by rw[hw1];exact hr2)
  have q3:=hq.2.2
  have b1:decide (r2.e=44)=true:=by rw[hq.1];rfl
  have b2:decide ((r2.u:Int)=0)=true:=by rw[hq.2.1];rfl
  refine GuardOb.mk (fun _=>?_) (fun h=>gT b1 h)
  refine GuardOb.mk (fun _=>?_) (fun h=>gT b2 h)
  exact⟨_,_,.refl,by show Value.bool (decide ((r.u:Int)=0))=_;rw[q3];rfl⟩
 refine CondOb.mk (fun e0=>?_) (fun e0=>?_)
 ·have he0:r.e≠0:=fun h=>by
   have e1:(!decide (r.e=0))=true:=e0
   rw[h] at e1
   cases e1
  have q1:=(hr.no he0).1
  have q2:=(hr.no he0).2
  have b1:decide ((r.u:Int)=0)=true:=by rw[q1];rfl
  have hn:n≤140737488355327:=by
   have:=caps_n hrs
   rw[q2] at this
   rw[←this]
   exact Nat.zero_le _
  refine CodeOb.draw TryzEOK rfl rfl rfl ?_
  refine GuardOb.mk (fun _=>?_) (fun h=>gT b1 h)
  refine PCallOb.mk _ Fail_spec ?_
  rintro v J4 N - ⟨rfl,rfl,rfl⟩
  refine CallOb.whole _ (SSame_spec (o:=r.o) (o':=oc0) hrs (rs_nilQ _) hn) ?_
  rintro v J5 N - ⟨⟨b,rfl,hb⟩,rfl,rfl⟩
  exact⟨_,_,.refl,by rw[hb.2 q2]⟩
 have he0:r.e=0:=by
  have e1:(!decide (r.e=0))=false:=e0
  simpa using e1
 have hK:=(hr.e0' hgl hk0 hgn he0).2.1
 have hrun:=(hr.e0' hgl hk0 hgn he0).2.2
 have u1:=(run_just hrun).1
 have u2:=(run_just hrun).2.1
 have hj:=(run_just hrun).2.2
 have hcap:=hrun.caps
 have m5:=(mayP_ok hK.may).2.2.2.2.1
 have m6:=(mayP_ok hK.may).2.2.2.2.2
 have b1:decide ((r.u:Int) < 1)=false:=decide_eq_false (by omega)
 have b2:decide (fuel < (r.u:Int))=false:=decide_eq_false (by omega)
 refine GuardOb.mk (fun _=>?_) (fun h=>gF b1 h)
 refine CondOb.mk (fun h=>gF b2 h) (fun _=>?_)
 refine CallOb.whole _ (PRun_fr hT3 hg3 rule s at_ (r.u:Int)) ?_
 rintro v J4 N - ⟨hJ4,rfl,r2,a2,n2,c2,hr2,rfl,hrs2⟩
 have hT4:=hT3.mono hJ4
 have hg4:=hg3.mono hJ4
 refine ArithOb.mk ((r.u:Int) - 1) (wrap_i64 ⟨by omega,by omega⟩) ?_
 refine CallOb.whole _ (PRun_fr hT4 hg4 rule s at_ ((r.u:Int) - 1)) ?_
 rintro v J5 N - ⟨hJ5,rfl,r3,a3,n3,c3,hr3,rfl,hrs3⟩
 have hT5:=hT4.mono hJ5
 have hg5:=hg4.mono hJ5
 refine ArithOb.mk w2 hw2 ?_
 refine DivOb.mk (by decide) ?_
 refine ArithOb.mk k hkw ?_
 refine CallOb.whole _ (PRun_fr hT5 hg5 rule s at_ k) ?_
 rintro v J6 N - ⟨hJ6,rfl,r4,a4,n4,c4,hr4,rfl,hrs4⟩
 have e2:r2=.ok r.o r.u:=(hj _ r2 (hr2.run (mayP_fuel hK.may (by omega) (by omega)))).1 (by omega)
 have e3:r3=.err 44:=(hj _ r3 (hr3.run (mayP_fuel hK.may (by omega) (by omega)))).2 (by omega)
 have h4:=hj _ r4 (hr4.run (mayP_fuel hK.may (f:=k) (by omega) (by omega)))
 have o2:r2.o=r.o:=by rw[e2];rfl
 have c1:(!decide (r2.e=0))=false:=by rw[e2];rfl
 have c2':(!decide ((r2.u:Int)=(r.u:Int)))=false:=by rw[e2];simp[Rs.u]
 have c3':(!decide (r3.e=44))=false:=by rw[e3];rfl
 have n2b:n2≤140737488355327:=by
  have:=caps_n hrs2
  rw[o2] at this
  have:r.o.caps.length≤65536:=hcap
  omega
 refine GuardOb.mk (fun _=>?_) (fun h=>gF c1 h)
 refine GuardOb.mk (fun _=>?_) (fun h=>gF c2' h)
 have hrs6:=hrs.mono (fun b o h=>hJ6 _ _ (hJ5 _ _ (hJ4 _ _ h)))
 have hrs26:=hrs2.mono (fun b o h=>hJ6 _ _ (hJ5 _ _ h))
 refine CallOb.whole _ (SSame_spec (o:=r2.o) (o':=r.o) hrs26 hrs6 n2b) ?_
 rintro v J7 N - ⟨⟨b,rfl,hb⟩,rfl,rfl⟩
 have hb1:(!b)=false:=by rw[hb.2 o2];rfl
 refine GuardOb.mk (fun _=>?_) (fun h=>gF hb1 h)
 refine CondOb.mk (fun h=>gF c3' h) (fun _=>?_)
 refine CondOb.mk (fun hlt=>?_) (fun hge=>?_)
 ·have hlt':k < (r.u:Int):=of_decide_eq_true hlt
  have e4:r4=.err 44:=h4.2 (by omega)
  exact⟨_,_,.refl,by show Value.bool (decide (r4.e=44))=_;rw[e4];rfl⟩
 ·have hge':¬ k < (r.u:Int):=of_decide_eq_false hge
  have e4:r4=.ok r.o r.u:=h4.1 (by omega)
  have o4:r4.o=r.o:=by rw[e4];rfl
  have d1:decide (r4.e=0)=true:=by rw[e4];rfl
  have d2:decide ((r4.u:Int)=(r.u:Int))=true:=by rw[e4];simp[Rs.u]
  have n4b:n4≤140737488355327:=by
   have:=caps_n hrs4
   rw[o4] at this
   have:r.o.caps.length≤65536:=hcap
   omega
  refine GuardOb.mk (fun _=>?_) (fun h=>gT d1 h)
  refine GuardOb.mk (fun _=>?_) (fun h=>gT d2 h)
  refine CallOb.whole _ (SSame_spec (o:=r4.o) (o':=r.o) hrs4 hrs6 n4b) ?_
  rintro v J8 N - ⟨⟨b',rfl,hb'⟩,rfl,rfl⟩
  exact⟨_,_,.refl,by rw[hb'.2 o4]⟩
def handsA (P:Pk) (a:PN):Nat:=if a.d.k=6 then (if a.d.hi=-1 then P.s.size - P.base+1 else a.d.hi.toNat) else a.asks.length
def handsN (P:Pk) (k:Nat):Nat:=handsA P (P.at_ k)
def rgSum (n:Nat) (f:Nat→Nat):Nat:=((List.range n).map f).sum
theorem rgSum_succ (n:Nat) (f:Nat→Nat):rgSum (n+1) f=rgSum n f+f n:=by
 unfold rgSum
 rw[List.range_succ,List.map_append,List.sum_append]
 simp
theorem rgSum_congr {n:Nat} {f g:Nat→Nat} (h:∀ i,i < n→f i=g i):rgSum n f=rgSum n g:=by
 unfold rgSum
 congr 1
 exact List.map_congr_left fun i hi=>h i (List.mem_range.1 hi)
theorem rgSum_chg {f f':Nat→Nat} {k d:Nat} (h:∀ i,i≠k→f' i=f i) (e:f' k+d=f k):∀ {n:Nat},k < n→rgSum n f'+d=rgSum n f
 | 0,hk=>by omega
 | n+1,hk=>by
  rw[rgSum_succ,rgSum_succ]
  by_cases e2:k=n
  ·subst e2
   have:=rgSum_congr (n:=k) (f:=f') (g:=f) fun i hi=>h i (by omega)
   omega
  ·have:=rgSum_chg h e (n:=n) (by omega)
   have:=h n (fun e3=>e2 e3.symm)
   omega
theorem rgSum_const (n c:Nat):rgSum n (fun _=>c)=c * n:=by
 induction n with
 | zero=>simp[rgSum]
 | succ n ih=>rw[rgSum_succ,ih,Nat.mul_succ]
theorem rgSum_list {α:Type} (F:α→Nat) (z:α):∀ l:List α,rgSum l.length (fun k=>F (l.getD k z))=(l.map F).sum
 | []=>rfl
 | x::l=>by
  have:=rgSum_list F z l
  unfold rgSum at this ⊢
  rw[List.length_cons,List.range_succ_eq_map,List.map_cons,List.sum_cons,List.map_map,List.map_cons,List.sum_cons,←this]
  rfl
def gridS (N W:Nat) (w:Nat→Nat→Nat):Nat:=rgSum N fun k=>rgSum W fun p=>w k p
theorem gridS_chg {w w':Nat→Nat→Nat} {k p d N W:Nat} (hk:k < N) (hp:p < W) (h:∀ i j,¬ (i=k∧j=p)→w' i j=w i j) (e:w' k p+d=w k p):gridS N W w'+d=gridS N W w:=by
 refine rgSum_chg (k:=k) (fun i hi=>rgSum_congr fun j _=>h i j fun e=>hi e.1) ?_ hk
 exact rgSum_chg (k:=p) (fun j hj=>h k j fun e=>hj e.2) e hp
def wM (P:Pk) (kn:Nat→Nat→Ce) (k p:Nat):Nat:=if (kn k p).st=0 then 1+handsN P k else 0
def opM (P:Pk) (op:List Fm):Nat:=(op.map fun f=>handsN P f.nd - f.times).sum
def phiM (P:Pk) (S:Ms):Nat:=gridS P.ns.length (P.s.size - P.base+1) (wM P S.kn)+opM P S.op
def phiN (P:Pk):Nx→Nat
 | .stop (.err _)=>0
 | .stop (.ok _ S)=>phiM P S
 | .more _ S=>phiM P S
theorem grid_set {P:Pk} {kn:Nat→Nat→Ce} {k p:Nat} {c:Ce} (h1:(kn k p).st≠0) (h2:c.st≠0):wM P (setKn kn k p c)=wM P kn:=by
 funext i j
 unfold wM
 by_cases e:i=k∧j=p
 ·rw[e.1,e.2,setKn_self,if_neg h1,if_neg h2]
 ·rw[setKn_ne e]
theorem finish_phi {P:Pk} {c:Ce} {S:Ms} {f:Fm} {rest:List Fm} (hop:S.op=f::rest) (hw:(S.kn f.nd (f.pl - P.base)).st=1) (hd:isDone c):phiN P (finishM P c S)+(handsN P f.nd - f.times)≤phiM P S:=by
 have hg:=grid_set (P:=P) (kn:=S.kn) (k:=f.nd) (p:=f.pl - P.base) (c:=c) (by omega) (by unfold isDone at hd;omega)
 have e:phiM P S=gridS P.ns.length (P.s.size - P.base+1) (wM P S.kn)+((handsN P f.nd - f.times)+opM P rest):=by
  unfold phiM
  rw[hop]
  simp[opM]
 unfold finishM
 rw[hop]
 cases rest with
 | nil=>
  show gridS _ _ (wM P (setKn S.kn f.nd (f.pl - P.base) c))+opM P []+_≤_
  rw[hg,e]
  omega
 | cons r rs=>
  show gridS _ _ (wM P (setKn S.kn f.nd (f.pl - P.base) c))+opM P (r::rs)+_≤_
  rw[hg,e]
  omega
theorem ask_phi {P:Pk} {S:Ms}:phiN P (askM P S)≤phiM P S:=by
 unfold askM
 split
 ·exact Nat.zero_le _
 ·simp only
  cases Nat.beq (S.kn (nextM P _).1 ((nextM P _).2 - P.base)).st 0 with
  | true=>exact Nat.le_refl _
  | false=>cases Nat.beq (S.kn (nextM P _).1 ((nextM P _).2 - P.base)).st 1 with
   | true=>exact Nat.zero_le _
   | false=>exact Nat.le_refl _
theorem hands_lt {P:Pk} (hP:PkOk P) {f:Fm} (hf:FmOk P f):f.times < handsN P f.nd:=by
 have h3:=hf.k
 have hto:=hf.to
 have hlo:=hf.lo
 have hone:=(Pk.at_ok hP hf.nd).one
 unfold handsN handsA
 by_cases h6:(P.at_ f.nd).d.k=6
 ·rw[if_pos h6]
  obtain⟨r1,r2,r3⟩:=hf.rep h6
  by_cases hi:(P.at_ f.nd).d.hi=-1
  ·rw[if_pos hi]
   have:=r2 hi
   omega
  ·rw[if_neg hi]
   have:=r3 hi
   omega
 ·rw[if_neg h6]
  by_cases h45:(P.at_ f.nd).d.k=4∨(P.at_ f.nd).d.k=5
  ·exact hf.many h45
  ·have h1:=hone (by omega)
   have h2:=(hf.one (by omega)).1
   omega
theorem handle_on {P:Pk} {f f':Fm} {c c':Ce} (h:handleM P f c=.on f' c' false):f'.times=f.times+1∧f'.nd=f.nd:=by
 unfold handleM at h
 simp only at h
 have no:∀ {x y:Fm} {a b:Ce} {p:Prop},Hd.on x a true=Hd.on y b false→p:=fun e=>by cases e
 have yes:∀ {x y:Fm} {a b:Ce} {d:Bool},Hd.on x a d=Hd.on y b false→y=x:=fun e=>by cases e;rfl
 cases h1:decide ((P.at_ f.nd).d.k < 4) with
 | true=>rw[h1] at h;exact no h
 | false=>
  rw[h1,cond_false] at h
  cases h2:decide ((P.at_ f.nd).d.k=4) with
  | true=>
   rw[h2,cond_true] at h
   cases h9:Nat.beq c.st 2 with
   | true=>rw[h9] at h;exact no h
   | false=>rw[h9,cond_false] at h;rw[yes h];exact⟨rfl,rfl⟩
  | false=>
   rw[h2,cond_false] at h
   cases h3:decide ((P.at_ f.nd).d.k=5) with
   | true=>
    rw[h3,cond_true] at h
    cases h9:Nat.beq c.st 3 with
    | true=>rw[h9] at h;exact no h
    | false=>rw[h9,cond_false] at h;rw[yes h];exact⟨rfl,rfl⟩
   | false=>
    rw[h3,cond_false] at h
    cases h4:decide ((P.at_ f.nd).d.k=6) with
    | true=>
     rw[h4,cond_true] at h
     cases h9:Nat.beq c.st 2 with
     | true=>
      rw[h9,cond_true] at h
      cases h8:decide ((f.times:Int) < (P.at_ f.nd).d.lo)<;>rw[h8] at h<;>exact no h
     | false=>
      rw[h9,cond_false] at h
      cases h8:decide ((P.at_ f.nd).d.hi=-1) && decide (c.to=f.to) with
      | true=>rw[h8] at h;cases h
      | false=>rw[h8,cond_false] at h;rw[yes h];exact⟨rfl,rfl⟩
    | false=>
     rw[h4,cond_false] at h
     cases h5:decide ((P.at_ f.nd).d.k=7) with
     | true=>
      rw[h5,cond_true] at h
      cases h9:Nat.beq c.st 3<;>rw[h9] at h<;>exact no h
     | false=>
      rw[h5,cond_false] at h
      cases h6:decide ((P.at_ f.nd).d.k=8) with
      | true=>
       rw[h6,cond_true] at h
       cases h9:Nat.beq c.st 2<;>rw[h9] at h<;>exact no h
      | false=>
       rw[h6,cond_false] at h
       cases h9:Nat.beq c.st 3<;>rw[h9] at h<;>exact no h
theorem step_phi {P:Pk} (hP:PkOk P) {S:Ms} (hS:MsOk P S) (hM:MgOk P S) {q:Rq} (hq:RqOk P S q):phiN P (stepM P q S)+1≤phiM P S:=by
 cases q with
 | begin k a=>
  obtain⟨b1,b2,b3,b4,b5⟩:=hq
  have hb:phiM P (begS P k a S)+1=phiM P S:=by
   have hg:=gridS_chg (w:=wM P S.kn) (w':=wM P (begS P k a S).kn) (k:=k) (p:=a - P.base) (d:=1+handsN P k) (N:=P.ns.length) (W:=P.s.size - P.base+1) b1 (by omega) (fun i j e=>by
    have e9:(begS P k a S).kn i j=S.kn i j:=setKn_ne e
    unfold wM
    rw[e9]) (by
    have e9:((begS P k a S).kn k (a - P.base)).st=1:=by
     show (setKn S.kn k (a - P.base) _ k (a - P.base)).st=1
     rw[setKn_self]
    unfold wM
    rw[e9,if_pos b5,if_neg (by decide),Nat.zero_add])
   have ho:opM P (begS P k a S).op=handsN P k+opM P S.op:=by simp[begS,opM]
   unfold phiM
   rw[ho]
   omega
  show phiN P (beginM P k a S)+1≤_
  unfold beginM
  cases hn:aloneM P k a with
  | some c=>
   have:=finish_phi (P:=P) (c:=c) (S:=begS P k a S) (f:=⟨k,a,0,a,0⟩) (rest:=S.op) rfl (by show (setKn S.kn k (a - P.base) _ k (a - P.base)).st=1;rw[setKn_self]) (alone_some b3 hn).1
   simp only
   omega
  | none=>
   have:=ask_phi (P:=P) (S:=begS P k a S)
   simp only
   omega
 | hand c=>
  obtain⟨f,rest,hop,hd,hc⟩:=hq
  have hf:=hS.op f (by rw[hop];exact .head _)
  have hw:=(hM.hs f (by rw[hop];exact .head _)).w
  have hlt:=hands_lt hP hf
  have e:∀ x:Fm,phiM P ⟨S.kn,x::rest,S.used+1⟩=gridS P.ns.length (P.s.size - P.base+1) (wM P S.kn)+((handsN P x.nd - x.times)+opM P rest):=fun x=>by simp[phiM,opM]
  have e0:phiM P S=gridS P.ns.length (P.s.size - P.base+1) (wM P S.kn)+((handsN P f.nd - f.times)+opM P rest):=by
   unfold phiM
   rw[hop]
   simp[opM]
  show phiN P (handM P c S)+1≤_
  unfold handM
  rw[hop]
  simp only
  cases hh:handleM P f c with
  | loop=>
   show 0+1≤_
   rw[e0]
   omega
  | on f' c' done=>
   have ho:=handle_ok hP hf hd hc hh
   cases done with
   | true=>
    have:=finish_phi (P:=P) (c:=c') (S:=⟨S.kn,f'::rest,S.used+1⟩) (f:=f') (rest:=rest) rfl (by rw[ho.same.1,ho.same.2];exact hw) (ho.don rfl).1
    have h1:=e f'
    simp only[cond_true]
    omega
   | false=>
    obtain⟨t1,t2⟩:=handle_on hh
    have:=ask_phi (P:=P) (S:=⟨S.kn,f'::rest,S.used+1⟩)
    have h1:=e f'
    rw[t1,t2] at h1
    simp only[cond_false]
    omega
theorem go_phi {P:Pk} (hP:PkOk P):∀ (n:Nat) {q:Rq} {S:Ms},MsOk P S→MgOk P S→RqOk P S q→RgOk P S q→(phiM P S≤n→goM P n q S≠.err 0)∧∀ {c:Ce} {S':Ms},goM P n q S=.ok c S'→S'.used+phiM P S'≤S.used+phiM P S
 | 0,q,S,h1,h2,h3,h4=>by
  have:=step_phi hP h1 h2 h3
  exact⟨fun h=>by omega,fun {c S'} h=>by cases h⟩
 | n+1,q,S,h1,h2,h3,h4=>by
  have s0:=step_phi hP h1 h2 h3
  have s1:=step_ok hP h1 h3
  have s2:=step_g hP h1 h2 h3 h4
  have su:=@step_used P q S
  unfold goM
  generalize stepM P q S=x at s0 s1 s2 su
  match x,s0,s1,s2,su with
  | .stop (.err e),s0,s1,s2,su=>
   refine⟨fun _ h=>?_,fun {c S'} h=>by cases h⟩
   simp only[En.err.injEq] at h
   exact su h
  | .stop (.ok c S2),s0,s1,s2,su=>
   refine⟨fun _ h=>(by cases h),fun {c' S'} h=>?_⟩
   cases h
   have su:S2.used=S.used+1:=su
   have s0:phiM P S2+1≤phiM P S:=s0
   omega
  | .more q2 S2,s0,s1,s2,su=>
   have su:S2.used=S.used+1:=su
   have s0:phiM P S2+1≤phiM P S:=s0
   obtain⟨i1,i2⟩:=go_phi hP n s1.1 s2.1 s1.2 s2.2
   refine⟨fun h=>i1 (by omega),fun {c S'} h=>?_⟩
   have:=i2 h
   omega
def handsL (len:Nat) (n:Nd):Nat:=if n.k=6 then len+1+99 else 1+n.kids.length
def mostL (len:Nat) (ds:List Df):Nat:=(ds.map fun d=>(d.t.ns.map fun n=>(1+handsL len n) * (len+1)).sum).sum
theorem sum_le {α:Type} {f g:α→Nat}:∀ {l:List α},(∀ x∈l,f x≤g x)→(l.map f).sum≤(l.map g).sum
 | [],_=>Nat.le_refl _
 | x::l,h=>by
  have h1:=h x (.head _)
  have h2:=sum_le (l:=l) fun y hy=>h y (.tail _ hy)
  simp only[List.map_cons,List.sum_cons]
  omega
theorem bodyP_sum (F:Nd→Nat):∀ (b:Nat) (ds:List Df),((bodyP b ds).map fun p=>F p.2).sum=(ds.map fun d=>(d.t.ns.map F).sum).sum
 | b,[]=>rfl
 | b,d::ds=>by
  rw[bodyP,List.map_append,List.sum_append,bodyP_sum F _ ds,List.map_map,List.map_cons,List.sum_cons]
  rfl
theorem phi_start {g:Gr} (hm:GMay g) (hk0:∀ d∈g.ds,∀ n∈d.t.ns,0≤n.k) {s:ByteArray} {at_:Nat} (h1:at_≤s.size) (h2:s.size≤4096):phiM (pkG g s at_) S0≤mostL s.size g.ds:=by
 have e:phiM (pkG g s at_) S0=rgSum (pkG g s at_).ns.length fun k=>(1+handsA (pkG g s at_) ((pkG g s at_).ns.getD k ⟨nd0,[]⟩)) * (s.size - at_+1):=by
  show gridS _ _ _+0=_
  unfold gridS
  rw[Nat.add_zero]
  refine rgSum_congr fun k hk=>?_
  show rgSum _ (fun _=>1+handsN (pkG g s at_) k)=_
  rw[rgSum_const]
  rfl
 rw[e,rgSum_list (fun a=>(1+handsA (pkG g s at_) a) * (s.size - at_+1))]
 refine Nat.le_trans (sum_le (g:=fun a=>(1+handsL s.size a.d) * (s.size+1)) fun a ha=>?_) ?_
 ·have ho:=pn_ok hm hk0 (s:=s) (at_:=at_) ha
  refine Nat.mul_le_mul ?_ (by omega)
  unfold handsA handsL
  by_cases h6:a.d.k=6
  ·rw[if_pos h6,if_pos h6]
   by_cases hi:a.d.hi=-1
   ·rw[if_pos hi]
    show 1+(s.size - at_+1)≤_
    omega
   ·rw[if_neg hi]
    have:=ho.rep h6
    omega
  ·rw[if_neg h6,if_neg h6]
   obtain⟨p,hp,rfl⟩:=List.mem_map.1 ha
   show 1+(asksP g.ds p.1 p.2).length≤1+(1+p.2.kids.length)
   unfold asksP
   cases decide (p.2.k=3) with
   | true=>simp only[cond_true,List.length_singleton];omega
   | false=>simp only[cond_false,List.length_map];omega
 ·have:((pkG g s at_).ns.map fun a=>(1+handsL s.size a.d) * (s.size+1))=(bodyP 0 g.ds).map fun p=>(1+handsL s.size p.2) * (s.size+1):=by
   simp[pkG,nodesQ,Function.comp_def]
  rw[this,bodyP_sum fun n=>(1+handsL s.size n) * (s.size+1)]
  exact Nat.le_refl _
theorem run_once {g:Gr} (hm:GMay g) (hk0:∀ d∈g.ds,∀ n∈d.t.ns,0≤n.k) {s:ByteArray} {at_ rule:Nat} (h1:at_≤s.size) (h2:s.size≤4096) (hr:rule < g.ds.length) {fuel:Nat} (hf:mostL s.size g.ds+65536≤fuel) {r:Rs} (h:IsRun (pkG g s at_) (rootP g rule) at_ fuel r) :
  r≠.err 44∧∀ o u,r=.ok o u→u≤mostL s.size g.ds+o.caps.length:=by
 have hP:=pkG_ok hm hk0 h1 h2
 have hg:=go_phi hP fuel (S0_ok _) (S0_g _) (S0_q (rootP_lt hm hr s at_) (Nat.le_refl at_) h1) trivial
 have hs:=phi_start hm hk0 h1 h2
 have z:S0.used=0:=rfl
 cases h with
 | @err e h=>
  have:=hg.1 (by omega)
  refine⟨fun he=>?_,fun o u e=>by cases e⟩
  match e,he,h with
  | 0,_,h=>exact this h
  | 1,he,h=>cases he
  | 2,he,h=>cases he
  | n+3,he,h=>cases he
 | fail h=>
  have:=hg.2 h
  refine⟨fun e=>(by cases e),fun o u e=>?_⟩
  cases e
  omega
 | many=>exact⟨fun e=>(by cases e),fun o u e=>by cases e⟩
 | poor h h3 hn hf'=>
  have:=hg.2 h
  omega
 | @ok c S n l h h3 hn hf' hgs hl=>
  have:=hg.2 h
  refine⟨fun e=>(by cases e),fun o u e=>?_⟩
  cases e
  show S.used+c.n≤_+l.length
  omega
def ndFuel (len:Nat) (n:Nd):Nat:=(1+handsL len n) * (len+1)
def nsumL (len:Nat) (ns:List Nd):Nat:=(ns.map (ndFuel len)).sum
theorem nsum_succ {len:Nat} {ns:List Nd} {j:Nat} (hj:j < ns.length):nsumL len (ns.take (j+1))=nsumL len (ns.take j)+ndFuel len ns[j]:=by
 unfold nsumL
 rw[List.take_succ_eq_append_getElem hj,List.map_append,List.sum_append]
 simp
theorem most_succ {len:Nat} {ds:List Df} {i:Nat} (hi:i < ds.length):mostL len (ds.take (i+1))=mostL len (ds.take i)+nsumL len ds[i].t.ns:=by
 unfold mostL
 rw[List.take_succ_eq_append_getElem hi,List.map_append,List.sum_append]
 simp[nsumL]
 rfl
theorem nsum_le {len C:Nat} {ns:List Nd} (h:∀ n∈ns,ndFuel len n≤C):nsumL len ns≤ns.length * C:=by
 induction ns with
 | nil=>simp[nsumL]
 | cons n ns ih=>
  have h1:=h n (.head _)
  have h2:=ih fun x hx=>h x (.tail _ hx)
  have e:nsumL len (n::ns)=ndFuel len n+nsumL len ns:=by simp[nsumL]
  rw[e,List.length_cons,Nat.add_mul,Nat.one_mul]
  omega
theorem most_le {len C:Nat} {ds:List Df} (h:∀ d∈ds,∀ n∈d.t.ns,ndFuel len n≤C):mostL len ds≤totP ds * C:=by
 induction ds with
 | nil=>simp[mostL]
 | cons d ds ih=>
  have h1:=nsum_le (h d (.head _))
  have h2:=ih fun x hx=>h x (.tail _ hx)
  have e:mostL len (d::ds)=nsumL len d.t.ns+mostL len ds:=by simp[mostL,nsumL];rfl
  have e2:totP (d::ds)=d.t.ns.length+totP ds:=by simp[totP]
  rw[e,e2,Nat.add_mul]
  omega
theorem ndFuel_le {len:Nat} {n:Nd} (hl:len≤300) (hk:n.kids.length≤1024):handsL len n≤1025∧ndFuel len n≤308826:=by
 have h1:handsL len n≤1025:=by
  unfold handsL
  split<;>omega
 exact⟨h1,Nat.mul_le_mul (show 1+handsL len n≤1026 by omega) (show len+1≤301 by omega)⟩
theorem kids_le {g:Gr} (hm:GMay g) {d:Df} (hd:d∈g.ds) {n:Nd} (hn:n∈d.t.ns):n.kids.length≤1024:=by
 have hr:=hm.r d hd
 obtain⟨j,hj,e⟩:=List.getElem_of_mem hn
 have hkids:=hr.kids j hj
 rw[e] at hkids
 have h1:n.kids.length≤j:=diff_le j _ (hr.diff.sublist (allKids_sub hn)) hkids
 have h2:d.t.ns.length≤totP g.ds:=by
  obtain⟨i,hi,e2⟩:=List.getElem_of_mem hd
  have:=totP_take hi
  have:=totP_le g.ds (i+1)
  rw[e2] at *
  omega
 have:=hm.tot
 omega
theorem once_ne {deb:List Int} {g:Gr} {rule at_:Int} {s:ByteArray} {r:Rs} (hg:∀ d∈g.ds,d.t.ns.length=d.t.n) (hk0:∀ d∈g.ds,∀ n∈d.t.ns,0≤n.k) (hgn:g.ds.length=g.n) (hs:s.size≤300) (h:RunG deb g rule s at_ 1099511627776 r) :
  r.e≠44∧∀ o u,r=.ok o u→u≤mostL s.size g.ds+o.caps.length:=by
 rcases h with ⟨h1,rfl⟩ | ⟨h1,h2⟩
 ·exact⟨mayP_ne _ _ _ _ _ _,fun o u e=>by cases e⟩
 ·obtain⟨m1,m2,m3,m4,m5⟩:=mayP_ok h1
  have hm:=gmay m1 hg
  have hb:=most_le (ds:=g.ds) (len:=s.size) (C:=308826) fun d hd n hn=>(ndFuel_le hs (kids_le hm hd hn)).2
  have hb2:totP g.ds * 308826≤1024 * 308826:=Nat.mul_le_mul_right _ hm.tot
  obtain⟨q1,q2⟩:=run_once hm hk0 (s:=s) (at_:=at_.toNat) (rule:=rule.toNat) (by omega) m3 (by omega) (fuel:=(1099511627776:Int).toNat) (by show _≤1099511627776;omega) h2
  exact⟨fun e=>q1 (h2.e44 e),q2⟩
set_option maxRecDepth 100000 in
set_option maxHeartbeats 4000000 in
theorem packOnce_V {I:GH} (hT:Tabs I debL) {g:Gr} (hgw:GrW I g) {rule:Int} (hr1:i64ok rule) {s:ByteArray} (hs:s.size≤9223372036854775807) {at_:Int} (ha1:i64ok at_):SpecE Tryz.prog 5 [g.val,.int .i64 rule,.string s,.int .i64 at_] I [] fun v I' M'=>v=.bool true:=by
 refine specE_of_V [] TryzEOK Tryz.func5 rfl rfl rfl ?_
 intro B h0
 refine CallOb.mk [] [] _ (.refl _) (works16_spec hT) ?_
 rintro v J1 N - ⟨rfl,hJ1,rfl⟩
 have hT1:=hT.mono hJ1
 have hgw1:=hgw.mono hJ1
 refine GuardOb.mk (fun _=>?_) (fun h=>absurd h (by simp))
 refine CallOb.mk [] [] _ (.refl _) (long16_spec hgw1 (os0:=⟨none,0,0,[]⟩) (L0:=[]) (os0_ok 2) (fun t ht=>by cases ht) (Nat.zero_le _)) ?_
 rintro v J2 N - ⟨⟨r0,rfl,hr0⟩,hJ2,hN⟩
 subst J2
 subst N
 cases r0 with
 | true=>
  refine GuardOb.mk (fun h=>absurd h (by simp)) (fun _=>?_)
  refine CallOb.mk [] [] _ (.refl _) (works16_spec hT1) ?_
  rintro v J3 N - ⟨rfl,hJ3,rfl⟩
  exact⟨_,_,.refl,rfl⟩
 | false=>
 have hg:=hgw1.ok (hr0 rfl).1
 have hgl:∀ d∈g.ds,d.t.ns.length=d.t.n:=fun d hd=>(hg.ds d hd).t.n
 have hk0:∀ d∈g.ds,∀ n∈d.t.ns,0≤n.k:=fun d hd n hn=>((hg.ds d hd).t.ns n hn).k.1
 have hgn:=hg.n
 refine GuardOb.mk (fun _=>?_) (fun h=>absurd h (by simp))
 refine CondOb.mk (fun _=>?_) (fun hsz=>?_)
 ·refine CallOb.mk [] [] _ (.refl _) (works16_spec hT1) ?_
  rintro v J3 N - ⟨rfl,hJ3,rfl⟩
  exact⟨_,_,.refl,rfl⟩
 have hsz':s.size≤300:=by
  have:¬ (300:Int) < (s.size:Int):=of_decide_eq_false hsz
  omega
 refine CallOb.whole _ (PRun_fr hT1 hg rule s at_ 1099511627776) ?_
 rintro v J3 N - ⟨hJ3,rfl,r,a,n,c,hr,rfl,hrs⟩
 have hg3:=hg.mono hJ3
 have w1:=(once_ne hgl hk0 hgn hsz' hr).1
 have w2:=(once_ne hgl hk0 hgn hsz' hr).2
 refine CondOb.mk (fun e0=>?_) (fun e0=>?_)
 ·exact⟨_,_,.refl,by show Value.bool (!decide (r.e=44))=_;rw[decide_eq_false w1];rfl⟩
 have he0:r.e=0:=by
  have e1:(!decide (r.e=0))=false:=e0
  simpa using e1
 have hro:=(hr.e0' hgl hk0 hgn he0).1
 have hK:=(hr.e0' hgl hk0 hgn he0).2.1
 have hrun:=(hr.e0' hgl hk0 hgn he0).2.2
 have hm:=gmay (mayP_ok hK.may).1 hgl
 have hu:=w2 _ _ hro
 have hnc:=caps_n hrs
 have hul:=(run_just hrun).2.1
 have hcap:r.o.caps.length≤65536:=hrun.caps
 have hn64:=hm.n64
 have htm:∀ d∈g.ds,∀ n∈d.t.ns,ndFuel s.size n≤308826:=fun d hd n hn=>(ndFuel_le hsz' (kids_le hm hd hn)).2
 have htot:=hm.tot
 have hM:∀ i,mostL s.size (g.ds.take i)≤316237824:=fun i=>by
  have h1:=most_le (ds:=g.ds.take i) (len:=s.size) (C:=308826) fun d hd=>htm d (List.mem_of_mem_take hd)
  have h2:totP (g.ds.take i) * 308826≤1024 * 308826:=Nat.mul_le_mul_right _ (Nat.le_trans (totP_le _ _) htot)
  omega
 refine LoopOb.inv (ι:=Nat) (fun i=>{ fl:=[(2,.val (.string s)),(4,.ref 4 0),(9,.ref 9 0),(10,.val (.int .i64 r.u)),(12,.val (.int .i64 ((mostL s.size (g.ds.take i):Nat):Int))),(13,.val (.int .i64 i))],cl:=[(4,[.slice g.a g.n g.c]),(9,[.bool r.o.ok,.int .i64 r.o.to,.slice a n c])],gi:=J3 })
  (fun i=>i≤g.n) (fun i=>g.n - i) ?_ ?_
 ·exact⟨0,Nat.zero_le _,.refl,aF6,.cons rfl (.cons rfl (.nil))⟩
 intro i hi
 refine CondOb.mk (fun h=>?_) (fun h=>?_)
 rotate_left
 ·have hge:¬ (i:Int) < (g.n:Int):=of_decide_eq_false h
  obtain rfl:i=g.n:=by omega
  refine ArithOb.mk ((r.u:Int) - n) (wr_eq rfl (by omega)) ?_
  refine⟨_,_,.refl,?_⟩
  have e1:g.ds.take g.n=g.ds:=List.take_of_length_le (by omega)
  show Value.bool (decide ((r.u:Int) - n≤((mostL s.size (g.ds.take g.n):Nat):Int)))=_
  rw[e1,decide_eq_true (by omega)]
 have hlt:i < g.n:=by simpa using h
 have hlt':i < g.ds.length:=by omega
 obtain⟨ad,had,hrd⟩:=hg3.rs.row Df.cells_len hlt hlt'
 have hdm:g.ds[i]∈g.ds:=List.getElem_mem hlt'
 have htn:=(hg3.ds _ hdm).t.n
 have htc:=(hg3.ds _ hdm).t.rs
 have hto:=(hg3.ds _ hdm).t.ns
 have hms:=most_succ (len:=s.size) hlt'
 have hMi:=hM i
 have htmd:=htm _ hdm
 have hkd:∀ n∈g.ds[i].t.ns,n.kids.length≤1024:=fun n hn=>kids_le hm hdm hn
 have htl:g.ds[i].t.ns.length≤1024:=by
  have:=totP_take hlt'
  have:=totP_le g.ds (i+1)
  omega
 generalize hdd:g.ds[i]=d at hrd htn htc hto hms htmd hkd htl
 have hN:∀ j,nsumL s.size (d.t.ns.take j)≤316237824:=fun j=>by
  have h1:=nsum_le (ns:=d.t.ns.take j) (len:=s.size) (C:=308826) fun n hn=>htmd n (List.mem_of_mem_take hn)
  have h3:(d.t.ns.take j).length≤1024:=by rw[List.length_take];omega
  have h2:(d.t.ns.take j).length * 308826≤1024 * 308826:=Nat.mul_le_mul_right _ h3
  omega
 refine IdxOb.mk ad i had rfl hlt ?_
 refine LoadOb.mk _ (((hrd _).part (k:=1) (m:=2) (by decide)).part (k:=0) (m:=1) (by decide)) ?_
 refine LoopOb.inv (ι:=Nat) (fun j=>{ fl:=[(2,.val (.string s)),(4,.ref 4 0),(9,.ref 9 0),(10,.val (.int .i64 r.u)),(12,.val (.int .i64 ((mostL s.size (g.ds.take i)+nsumL s.size (d.t.ns.take j):Nat):Int))),(13,.val (.int .i64 i)),(14,.val (.slice d.t.a d.t.n d.t.c)),(15,.val (.int .i64 j))],cl:=[(4,[.slice g.a g.n g.c]),(9,[.bool r.o.ok,.int .i64 r.o.to,.slice a n c])],gi:=J3 })
  (fun j=>j≤d.t.n) (fun j=>d.t.n - j) ?_ ?_
 ·exact⟨0,Nat.zero_le _,.refl,aF8,.cons rfl (.cons rfl (.nil))⟩
 intro j hj
 refine CondOb.mk (fun h=>?_) (fun h=>?_)
 rotate_left
 ·have hge:¬ (j:Int) < (d.t.n:Int):=of_decide_eq_false h
  obtain rfl:j=d.t.n:=by omega
  have e1:d.t.ns.take d.t.n=d.t.ns:=List.take_of_length_le (by omega)
  refine ArithOb.mk _ (next_wr (i:=i) (by omega)) ?_
  refine⟨i+1,⟨by omega,by omega⟩,.refl,.cons .refl (.cons .refl (.cons .refl (.cons .refl (.cons (svLe_eq ?_) (.cons .refl .nil))))),.cons rfl (.cons rfl (.nil))⟩
  rw[hms,e1]
 have hjl:j < d.t.n:=by simpa using h
 have hjl':j < d.t.ns.length:=by omega
 obtain⟨an,han,hrn⟩:=htc.row Nd.cells_len hjl hjl'
 have hns:=nsum_succ (len:=s.size) hjl'
 have hNj:=hN j
 have hNj2:=hN (j+1)
 have hkn:=(hto _ (List.getElem_mem hjl')).kn
 have hhl:=ndFuel_le hsz' (hkd _ (List.getElem_mem hjl'))
 have hkd2:=hkd _ (List.getElem_mem hjl')
 generalize d.t.ns[j]=nd at hrn hns hkn hhl hkd2
 have hT2:(ndFuel s.size nd:Int)=((1:Int)+(handsL s.size nd:Int)) * ((s.size:Int)+1):=by
  unfold ndFuel
  push_cast
  rfl
 refine IdxOb.mk an j han rfl hjl ?_
 refine LoadOb.mk _ ((hrn _).part (k:=8) (m:=1) (by decide)) ?_
 refine ArithOb.mk ((1+nd.kids.length:Nat):Int) (wr_eq (show (1:Int)+(nd.kn:Int)=_ by omega) (by omega)) ?_
 refine IdxOb.mk an j han rfl hjl ?_
 refine LoadOb.mk _ ((hrn _).part (k:=0) (m:=1) (by decide)) ?_
 refine CondOb.mk (fun h6=>?_) (fun h6=>?_)
 ·have k6:nd.k=6:=of_decide_eq_true h6
  have hL6:(handsL s.size nd:Int)=(s.size:Int)+1+99:=by
   unfold handsL
   rw[if_pos k6]
   omega
  refine ArithOb.mk ((s.size:Int)+1) (wr_eq rfl (by omega)) ?_
  refine ArithOb.mk ((s.size:Int)+1+99) (wr_eq rfl (by omega)) ?_
  refine ArithOb.mk ((1:Int)+(handsL s.size nd:Int)) (wr_eq (by rw[hL6]) (by omega)) ?_
  refine ArithOb.mk ((s.size:Int)+1) (wr_eq rfl (by omega)) ?_
  refine ArithOb.mk (ndFuel s.size nd:Int) (wr_eq hT2.symm (by omega)) ?_
  refine ArithOb.mk ((mostL s.size (g.ds.take i)+nsumL s.size (d.t.ns.take (j+1)):Nat):Int) (wr_eq (by rw[hns];omega) (by omega)) ?_
  refine ArithOb.mk _ (next_wr (i:=j) (by omega)) ?_
  exact⟨j+1,⟨by omega,by omega⟩,.refl,aF8,.cons rfl (.cons rfl (.nil))⟩
 ·have k6:¬ nd.k=6:=of_decide_eq_false h6
  have hL6:(handsL s.size nd:Int)=((1+nd.kids.length:Nat):Int):=by
   unfold handsL
   rw[if_neg k6]
  refine ArithOb.mk ((1:Int)+(handsL s.size nd:Int)) (wr_eq (by rw[hL6]) (by omega)) ?_
  refine ArithOb.mk ((s.size:Int)+1) (wr_eq rfl (by omega)) ?_
  refine ArithOb.mk (ndFuel s.size nd:Int) (wr_eq hT2.symm (by omega)) ?_
  refine ArithOb.mk ((mostL s.size (g.ds.take i)+nsumL s.size (d.t.ns.take (j+1)):Nat):Int) (wr_eq (by rw[hns];omega) (by omega)) ?_
  refine ArithOb.mk _ (next_wr (i:=j) (by omega)) ?_
  exact⟨j+1,⟨by omega,by omega⟩,.refl,aF8,.cons rfl (.cons rfl (.nil))⟩
def shC (n:Nat) (c:Ce):Ce:=bif Nat.beq c.st 3 then { c with to:=c.to+n } else c
theorem shC_st (n:Nat) (c:Ce):(shC n c).st=c.st:=by unfold shC;cases Nat.beq c.st 3<;>rfl
theorem shC_n (n:Nat) (c:Ce):(shC n c).n=c.n:=by unfold shC;cases Nat.beq c.st 3<;>rfl
theorem shC_3 {n:Nat} {c:Ce} (h:c.st=3):shC n c=⟨c.n,c.to+n,c.st⟩:=by unfold shC;rw[h];rfl
theorem shC_no {n:Nat} {c:Ce} (h:c.st≠3):shC n c=c:=by
 unfold shC
 have:Nat.beq c.st 3=false:=by
  rw[Bool.eq_false_iff]
  exact fun e=>h (Nat.eq_of_beq_eq_true e)
 rw[this]
 rfl
theorem shC_M (n to k:Nat):shC n (ceM to k)=ceM (to+n) k:=rfl
def shF (n:Nat) (f:Fm):Fm:=⟨f.nd,f.pl+n,f.times,f.to+n,f.n⟩
def shM (n:Nat) (S:Ms):Ms:=⟨fun k p=>shC n (S.kn k p),S.op.map (shF n),S.used⟩
def shQ (n:Nat):Rq→Rq
 | .begin k a=>.begin k (a+n)
 | .hand c=>.hand (shC n c)
def shE (n:Nat):En→En
 | .err e=>.err e
 | .ok c S=>.ok (shC n c) (shM n S)
def shX (n:Nat):Nx→Nx
 | .stop e=>.stop (shE n e)
 | .more q S=>.more (shQ n q) (shM n S)
structure Beh (P P':Pk) (n:Nat):Prop where
 ns:P'.ns=P.ns
 base:P'.base=P.base+n
 s:∃ t:ByteArray,t.size=n∧P'.s=t++P.s
section
variable {P P':Pk} {n:Nat}
theorem Beh.at_ (h:Beh P P' n) (k:Nat):P'.at_ k=P.at_ k:=by unfold Pk.at_;rw[h.ns]
theorem Beh.byte (h:Beh P P' n) (a:Nat):P'.s.data[a+n]?=P.s.data[a]?:=by
 obtain⟨t,h1,h2⟩:=h.s
 rw[h2,ByteArray.data_append,Array.getElem?_append_right (by show t.size≤_;omega)]
 congr 1
 show a+n - t.size=a
 omega
theorem Beh.size (h:Beh P P' n):P'.s.size=P.s.size+n:=by
 obtain⟨t,h1,h2⟩:=h.s
 rw[h2,ByteArray.size_append]
 omega
theorem Beh.pre (h:Beh P P' n) (t:ByteArray) (a:Nat):preB P'.s t (a+n)=preB P.s t a:=by
 have hs:=h.size
 obtain⟨u,h1,h2⟩:=h.s
 unfold preB
 have e1:decide (a+n+t.size≤P'.s.size)=decide (a+t.size≤P.s.size):=decide_eq_decide.2 (by omega)
 have e2:P'.s.extract (a+n) (a+n+t.size)=P.s.extract a (a+t.size):=by
  rw[h2]
  apply ByteArray.ext
  rw[ByteArray.data_extract,ByteArray.data_extract,ByteArray.data_append,Array.extract_append]
  have z:u.data.size=n:=h1
  have:u.data.extract (a+n) (a+n+t.size)=#[]:=by
   apply Array.eq_empty_of_size_eq_zero
   simp
   omega
  rw[this,Array.empty_append,z,Nat.add_sub_cancel,show a+n+t.size - n=a+t.size by omega]
 rw[e1,e2]
theorem Beh.alone (h:Beh P P' n) (k a:Nat):aloneM P' k (a+n)=(aloneM P k a).map (shC n):=by
 unfold aloneM
 simp only[h.at_,h.byte,h.pre]
 cases decide ((P.at_ k).d.k=0) with
 | true=>rfl
 | false=>
  cases decide ((P.at_ k).d.k=1) with
  | true=>
   simp only[cond_true,cond_false]
   cases P.s.data[a]? with
   | none=>rfl
   | some b=>
    simp only
    cases hasN (P.at_ k).d b.toNat with
    | true=>
     simp only[cond_true,Option.map_some,shC_M]
     rw[Nat.add_right_comm]
    | false=>rfl
  | false=>
   cases decide ((P.at_ k).d.k=2) with
   | true=>
    simp only[cond_true,cond_false]
    cases preB P.s (P.at_ k).d.t a with
    | true=>
     simp only[cond_true,Option.map_some,shC_M]
     rw[Nat.add_right_comm]
    | false=>rfl
   | false=>
    simp only[cond_false]
    cases decide ((P.at_ k).d.k=6) && decide ((P.at_ k).d.hi=0)<;>rfl
theorem Beh.next (h:Beh P P' n) (f:Fm):nextM P' (shF n f)=((nextM P f).1,(nextM P f).2+n):=by
 have ha:P'.at_ (shF n f).nd=P.at_ f.nd:=h.at_ f.nd
 unfold nextM
 simp only[ha]
 cases decide ((P.at_ f.nd).d.k=4) with
 | true=>rfl
 | false=>cases decide ((P.at_ f.nd).d.k=5)<;>rfl
def shH (n:Nat):Hd→Hd
 | .loop=>.loop
 | .on f c d=>.on (shF n f) (shC n c) d
theorem Beh.handle (h:Beh P P' n) (f:Fm) {c:Ce} (hd:isDone c):handleM P' (shF n f) (shC n c)=shH n (handleM P f c):=by
 have ha:P'.at_ (shF n f).nd=P.at_ f.nd:=h.at_ f.nd
 unfold handleM
 simp only[ha,shC_st]
 have m3:Nat.beq c.st 2=false→c.st=3:=fun e=>by
  rcases hd with h2 | h2
  ·rw[h2] at e;cases e
  ·exact h2
 cases decide ((P.at_ f.nd).d.k < 4) with
 | true=>rfl
 | false=>
  cases decide ((P.at_ f.nd).d.k=4) with
  | true=>
   simp only[cond_true,cond_false]
   cases h2:Nat.beq c.st 2 with
   | true=>rfl
   | false=>
    rw[shC_3 (m3 h2)]
    rfl
  | false=>
   cases decide ((P.at_ f.nd).d.k=5) with
   | true=>
    simp only[cond_true,cond_false]
    cases Nat.beq c.st 3<;>rfl
   | false=>
    cases decide ((P.at_ f.nd).d.k=6) with
    | true=>
     simp only[cond_true,cond_false]
     cases h2:Nat.beq c.st 2 with
     | true=>
      simp only[cond_true]
      show (bif decide ((f.times:Int) < _) then _ else _)=_
      cases decide ((f.times:Int) < (P.at_ f.nd).d.lo)<;>rfl
     | false=>
      rw[shC_3 (m3 h2)]
      simp only[cond_false]
      have e:decide (c.to+n=(shF n f).to)=decide (c.to=f.to):=decide_eq_decide.2 (by show c.to+n=f.to+n ↔ _;omega)
      rw[e]
      cases decide ((P.at_ f.nd).d.hi=-1) && decide (c.to=f.to)<;>rfl
    | false=>
     simp only[cond_false]
     cases decide ((P.at_ f.nd).d.k=7) with
     | true=>
      simp only[cond_true]
      cases Nat.beq c.st 3<;>rfl
     | false=>
      simp only[cond_false]
      cases decide ((P.at_ f.nd).d.k=8) with
      | true=>
       simp only[cond_true]
       cases Nat.beq c.st 2<;>rfl
      | false=>
       simp only[cond_false]
       cases h3:Nat.beq c.st 3 with
       | true=>
        rw[shC_3 (Nat.eq_of_beq_eq_true h3)]
        rfl
       | false=>rfl
theorem setKn_sh (kn:Nat→Nat→Ce) (k p:Nat) (c:Ce):(fun i j=>shC n (setKn kn k p c i j))=setKn (fun i j=>shC n (kn i j)) k p (shC n c):=by
 funext i j
 unfold setKn
 cases Nat.beq i k && Nat.beq j p<;>rfl
theorem Beh.finish (h:Beh P P' n) (c:Ce) (S:Ms):finishM P' (shC n c) (shM n S)=shX n (finishM P c S):=by
 unfold finishM
 show (match S.op.map (shF n) with
  | []=>_
  | f::rest=>_)=_
 have e:∀ f:Fm,setKn (fun k p=>shC n (S.kn k p)) f.nd (f.pl+n - P'.base) (shC n c)=fun k p=>shC n (setKn S.kn f.nd (f.pl - P.base) c k p):=fun f=>by
  rw[setKn_sh,h.base,Nat.add_sub_add_right]
 match S.op with
 | []=>rfl
 | [f]=>
  show Nx.stop (.ok _ ⟨setKn (fun k p=>shC n (S.kn k p)) f.nd (f.pl+n - P'.base) (shC n c),[],S.used⟩)=_
  rw[e]
  rfl
 | f::r::rs=>
  show Nx.more (.hand _) ⟨setKn (fun k p=>shC n (S.kn k p)) f.nd (f.pl+n - P'.base) (shC n c),(r::rs).map (shF n),S.used⟩=_
  rw[e]
  rfl
theorem Beh.ask (h:Beh P P' n) (S:Ms):askM P' (shM n S)=shX n (askM P S):=by
 unfold askM
 show (match S.op.map (shF n) with
  | []=>_
  | f::_=>_)=_
 match S.op with
 | []=>rfl
 | f::rest=>
  simp only[List.map_cons,h.next]
  have e:(shM n S).kn (nextM P f).1 ((nextM P f).2+n - P'.base)=shC n (S.kn (nextM P f).1 ((nextM P f).2 - P.base)):=by
   rw[h.base,Nat.add_sub_add_right]
   rfl
  rw[e,shC_st]
  cases Nat.beq (S.kn (nextM P f).1 ((nextM P f).2 - P.base)).st 0 with
  | true=>rfl
  | false=>cases Nat.beq (S.kn (nextM P f).1 ((nextM P f).2 - P.base)).st 1<;>rfl
theorem Beh.step (h:Beh P P' n) {S:Ms} {q:Rq} (hq:RqOk P S q):stepM P' (shQ n q) (shM n S)=shX n (stepM P q S):=by
 cases q with
 | begin k a=>
  obtain⟨b1,b2,b3,b4,b5⟩:=hq
  have hb:begS P' k (a+n) (shM n S)=shM n (begS P k a S):=by
   unfold begS
   have e1:a+n - P'.base=a - P.base:=by rw[h.base,Nat.add_sub_add_right]
   rw[e1]
   have e2:(shM n S).kn k (a - P.base)=S.kn k (a - P.base):=shC_no (by omega)
   rw[e2]
   show (⟨setKn (fun i j=>shC n (S.kn i j)) k (a - P.base) _,_,_⟩:Ms)=⟨fun i j=>shC n (setKn S.kn k (a - P.base) _ i j),_,_⟩
   rw[setKn_sh,shC_no (c:={ S.kn k (a - P.base) with st:=1 }) (by show (1:Nat)≠3;decide)]
   rfl
  show beginM P' k (a+n) (shM n S)=shX n (beginM P k a S)
  unfold beginM
  rw[h.alone,hb]
  cases aloneM P k a with
  | none=>exact h.ask _
  | some c=>exact h.finish _ _
 | hand c=>
  obtain⟨f,rest,hop,hd,hc⟩:=hq
  show handM P' (shC n c) (shM n S)=shX n (handM P c S)
  unfold handM
  have e:(shM n S).op=shF n f::rest.map (shF n):=by show S.op.map (shF n)=_;rw[hop];rfl
  rw[e,hop]
  simp only
  rw[h.handle f hd]
  cases handleM P f c with
  | loop=>rfl
  | on f' c' done=>
   cases done with
   | true=>exact h.finish c' ⟨S.kn,f'::rest,S.used+1⟩
   | false=>exact h.ask ⟨S.kn,f'::rest,S.used+1⟩
theorem Beh.go (h:Beh P P' n) (hP:PkOk P):∀ (m:Nat) {q:Rq} {S:Ms},MsOk P S→RqOk P S q→goM P' m (shQ n q) (shM n S)=shE n (goM P m q S)
 | 0,q,S,_,_=>rfl
 | m+1,q,S,h1,h2=>by
  have s1:=step_ok hP h1 h2
  unfold goM
  rw[h.step h2]
  generalize stepM P q S=x at s1
  match x,s1 with
  | .stop e,s1=>rfl
  | .more q2 S2,s1=>exact h.go hP m s1.1 s1.2
def shS (n:Nat) (l:List (Nat×Nat)):List (Nat×Nat):=l.map fun x=>(x.1,x.2+n)
def shL (n:Nat) (l:List Cp):List Cp:=l.map fun c=>⟨c.name,c.lo+n,c.hi+n⟩
section
variable {kn:Nat→Nat→Ce} {base:Nat}
theorem wsM_sh:∀ (L:List Nat) (a:Nat),wsM (fun k p=>shC n (kn k p)) (base+n) L (a+n)=shS n (wsM kn base L a)
 | [],a=>rfl
 | k::L,a=>by
  simp only[wsM,Nat.add_sub_add_right,shC_st,shC_n]
  cases h3:Nat.beq (kn k (a - base)).st 3 with
  | true=>
   have e:(shC n (kn k (a - base))).to=(kn k (a - base)).to+n:=by rw[shC_3 (Nat.eq_of_beq_eq_true h3)]
   rw[e,wsM_sh L]
   cases Nat.beq (kn k (a - base)).n 0<;>rfl
  | false=>exact wsM_sh L a
theorem wcM_sh:∀ (L:List Nat) (a:Nat),wcM (fun k p=>shC n (kn k p)) (base+n) L (a+n)=shS n (wcM kn base L a)
 | [],a=>rfl
 | k::L,a=>by
  simp only[wcM,Nat.add_sub_add_right,shC_st,shC_n]
  cases h3:Nat.beq (kn k (a - base)).st 3 with
  | true=>cases Nat.beq (kn k (a - base)).n 0<;>rfl
  | false=>exact wcM_sh L a
theorem allM_sh:∀ (L:List Nat) (a:Nat),allM kn base L a→allM (fun k p=>shC n (kn k p)) (base+n) L (a+n)
 | [],a,h=>trivial
 | k::L,a,⟨h1,h2⟩=>by
  refine⟨?_,?_⟩
  ·simp only[Nat.add_sub_add_right,shC_st]
   exact h1
  ·have:=allM_sh L _ h2
   simp only[Nat.add_sub_add_right,shC_3 h1]
   exact this
theorem oneM_sh:∀ (L:List Nat) (a:Nat),oneM kn base L a→oneM (fun k p=>shC n (kn k p)) (base+n) L (a+n)
 | [],a,h=>h
 | k::L,a,.inl h=>.inl (by simp only[Nat.add_sub_add_right,shC_st];exact h)
 | k::L,a,.inr ⟨h1,h2⟩=>.inr ⟨by simp only[Nat.add_sub_add_right,shC_st];exact h1,oneM_sh L a h2⟩
theorem WR.sh {k:Nat} {hi:Int} {t a:Nat} {l:List (Nat×Nat)} (h:WR kn base k hi t a l):WR (fun k p=>shC n (kn k p)) (base+n) k hi t (a+n) (shS n l):=by
 induction h with
 | stop h1=>exact .stop h1
 | fail h1 h2=>exact .fail h1 (by simp only[Nat.add_sub_add_right,shC_st];exact h2)
 | @more t a l hb h1 h2 r ih=>
  have:=WR.more (kn:=fun k p=>shC n (kn k p)) (base:=base+n) (k:=k) (hi:=hi) (t:=t) (a:=a+n) (l:=shS n l) hb h1 (by simp only[Nat.add_sub_add_right,shC_st];exact h2) (by simp only[Nat.add_sub_add_right,shC_3 h2];exact ih)
  simp only[Nat.add_sub_add_right,shC_n] at this
  have e:shS n ((bif Nat.beq (kn k (a - base)).n 0 then [] else [(k,a)])++l)=(bif Nat.beq (kn k (a - base)).n 0 then [] else [(k,a+n)])++shS n l:=by
   cases Nat.beq (kn k (a - base)).n 0<;>rfl
  rw[e]
  exact this
end
theorem Beh.parts (h:Beh P P' n) {kn:Nat→Nat→Ce} {k a:Nat} {l:List (Nat×Nat)} (hp:PartsM P kn k a l):PartsM P' (fun k p=>shC n (kn k p)) k (a+n) (shS n l):=by
 unfold PartsM at hp ⊢
 rw[h.at_,h.base]
 by_cases h6:(P.at_ k).d.k=6
 ·rw[if_pos h6] at hp ⊢
  exact hp.sh
 ·rw[if_neg h6] at hp ⊢
  by_cases h5:(P.at_ k).d.k=5
  ·rw[if_pos h5] at hp ⊢
   exact⟨oneM_sh _ _ hp.1,by rw[hp.2,wcM_sh]⟩
  ·rw[if_neg h5] at hp ⊢
   exact⟨allM_sh _ _ hp.1,by rw[hp.2,wsM_sh]⟩
theorem Beh.gs (h:Beh P P' n) {kn:Nat→Nat→Ce} {m:Nat} {L:List (Nat×Nat)} {l:List Cp} (hg:GS P kn m L l):GS P' (fun k p=>shC n (kn k p)) m (shS n L) (shL n l):=by
 induction hg with
 | nil=>exact .nil
 | @zero m k a rest l h3 h0 r ih=>
  refine GS.zero (k:=k) (a:=a+n) ?_ ?_ ih
  ·simp only[h.base,Nat.add_sub_add_right,shC_st];exact h3
  ·simp only[h.base,Nat.add_sub_add_right,shC_n];exact h0
 | @node m k a parts rest l h3 h0 hp r ih=>
  have e:shL n (capM P kn k a++l)=capM P' (fun k p=>shC n (kn k p)) k (a+n)++shL n l:=by
   unfold capM shL
   rw[h.at_]
   cases decide ((P.at_ k).d.k=9) with
   | true=>simp only[cond_true,List.singleton_append,List.map_cons,h.base,Nat.add_sub_add_right,shC_3 h3]
   | false=>rfl
  rw[e]
  refine GS.node (k:=k) (a:=a+n) ?_ ?_ (h.parts hp) ?_
  ·simp only[h.base,Nat.add_sub_add_right,shC_st];exact h3
  ·simp only[h.base,Nat.add_sub_add_right,shC_n];exact h0
  ·have:shS n (parts++rest)=shS n parts++shS n rest:=by simp[shS]
   show GS P' _ m (shS n parts++shS n rest) (shL n l)
   rw[←this]
   exact ih
def shO (n:Nat) (o:Oc):Oc:=bif o.ok then ⟨true,o.to+n,shL n o.caps⟩ else o
def shR (n:Nat):Rs→Rs
 | .err e=>.err e
 | .ok o u=>.ok (shO n o) u
theorem Beh.run (h:Beh P P' n) (hP:PkOk P) {root at_ fuel:Nat} (h1:root < P.ns.length) (h2:P.base≤at_) (h3:at_≤P.s.size) {r:Rs} (hr:IsRun P root at_ fuel r):IsRun P' root (at_+n) fuel (shR n r):=by
 have hg:=h.go hP fuel (S0_ok P) (S0_q (k:=root) h1 h2 h3)
 have e0:shM n S0=S0:=rfl
 rw[e0] at hg
 cases hr with
 | err hr=>rw[hr] at hg;exact .err hg
 | @fail c S hr a2=>
  rw[hr] at hg
  exact IsRun.fail (P:=P') (c:=shC n c) (S:=shM n S) hg (by rw[shC_st];exact a2)
 | many hr a3 an=>
  rw[hr] at hg
  exact .many hg (by rw[shC_st];exact a3) (by rw[shC_n];exact an)
 | poor hr a3 an af=>
  rw[hr] at hg
  exact .poor hg (by rw[shC_st];exact a3) (by rw[shC_n];exact an) (by rw[shC_n];exact af)
 | @ok c S m l hr a3 an af ag al=>
  rw[hr] at hg
  have:=IsRun.ok (P:=P') (root:=root) (at_:=at_+n) (fuel:=fuel) hg (by rw[shC_st];exact a3) (by rw[shC_n];exact an) (by rw[shC_n];exact af) (h.gs ag) (by rw[shC_n,shL,List.length_map];exact al)
  rw[shC_n,shC_3 a3] at this
  exact this
end
theorem gs_names {P:Pk} {kn:Nat→Nat→Ce} {n:Nat} {L:List (Nat×Nat)} {l:List Cp} (h:GS P kn n L l):∀ c∈l,∃ k,(P.at_ k).d.k=9∧c.name=(P.at_ k).d.t:=by
 induction h with
 | nil=>exact fun c hc=>by cases hc
 | zero _ _ _ ih=>exact ih
 | @node n k a parts rest l h3 h0 hp r ih=>
  intro c hc
  rcases List.mem_append.1 hc with hc | hc
  ·unfold capM at hc
   cases h9:decide ((P.at_ k).d.k=9) with
   | true=>
    rw[h9,cond_true,List.mem_singleton] at hc
    exact⟨k,of_decide_eq_true h9,by rw[hc]⟩
   | false=>rw[h9] at hc;cases hc
  ·exact ih c hc
theorem pk_name {g:Gr} (hm:GMay g) (hk0:∀ d∈g.ds,∀ n∈d.t.ns,0≤n.k) {s:ByteArray} {at_ k:Nat} (h9:((pkG g s at_).at_ k).d.k=9):mayName ((pkG g s at_).at_ k).d.t=true:=by
 by_cases hk:k < (nodesQ g.ds).length
 ·have e:(pkG g s at_).at_ k=(nodesQ g.ds)[k]:=by simp[Pk.at_,pkG,List.getD_eq_getElem?_getD,hk]
  rw[e] at h9 ⊢
  obtain⟨p,hp,e2⟩:=List.mem_map.1 (List.getElem_mem hk)
  rw[←e2] at h9 ⊢
  obtain⟨d,hd,hn,-⟩:=bodyP_mem _ _ _ hp
  obtain⟨j,hj,e3⟩:=List.getElem_of_mem hn
  have hf:=(hm.r d hd).fits j hj
  rw[e3] at hf
  exact(fits_kQ (hk0 d hd _ hn) hf).2.2.2.2.1 h9
 ·have e:(pkG g s at_).at_ k=⟨nd0,[]⟩:=by
   simp only[Pk.at_,pkG,List.getD_eq_getElem?_getD]
   rw[List.getElem?_eq_none (by omega)]
   rfl
  rw[e] at h9
  cases h9
theorem Nst.rng {a b:Nat} {l:List Cp} (h:Nst a b l):∀ c∈l,a≤c.lo∧c.lo≤c.hi∧c.hi≤b:=by
 induction h with
 | nil h=>exact fun c hc=>by cases hc
 | app h1 h2 i1 i2=>
  intro c hc
  have:=h1.le
  have:=h2.le
  rcases List.mem_append.1 hc with hc | hc
  ·have:=i1 c hc;omega
  ·have:=i2 c hc;omega
 | cap h i=>
  intro c hc
  have:=h.le
  rcases List.mem_cons.1 hc with rfl | hc
  ·exact⟨Nat.le_refl _,this,Nat.le_refl _⟩
  ·exact i c hc
section
variable {X:Ctx} {β:Nat→Nat} {F:Fr} {C:Bx} {I:GH} {M:List Blk} {o:Oper} {K:KS}
theorem und_slice {P:Program} {E:Env} (hE:EOK P E) {t e:Nat} {ti:TI} (ht:E t=some ti) (hts:ti.sh=.slice e):P.underlying t=some (.slice e):=by
 obtain⟨dt,htd,hdt⟩:=(hE _ _ ht).und
 have hdt':dt=.slice e:=by
  rw[hts] at hdt
  cases dt<;>simp_all[shOf]
 rw[htd,hdt']
theorem OtherOb.slice3 (hE:EOK X.P X.E) {t:Nat} {x lo hi mx:Operand} (ho:o.op=.slice t x (some lo) (some hi) (some mx)) (hd:∀ d,o.dst=some d→d < X.n)
  {e:Nat} {ti ei:TI} (ht:X.E t=some ti) (hts:ti.sh=.slice e) (he:X.E e=some ei) {ad:Option Addr} {n c:Nat} (l h m:Nat) {k1 k2 k3:IntKind}
  (hx:ev F x=.val (.slice ad n c)) (hlo:ev F lo=.val (.int k1 (l:Nat))) (hhi:ev F hi=.val (.int k2 (h:Nat))) (hmx:ev F mx=.val (.int k3 (m:Nat)))
  (h1:l≤h) (h2:h≤m) (h3:m≤c) (k:K (put o.dst (.val (.slice (if m=l then ad else ad.map (·.add (l * ei.size))) (h - l) (m - l))) F) C I M):OtherOb X o F C I M K:=by
 refine⟨fun a w Q ⟨β,hR⟩=>?_⟩
 have hu:=und_slice hE ht hts
 refine wpIn_val (by rw[ho];simp) (v:=.slice (if m=l then ad else ad.map (·.add (l * ei.size))) (h - l) (m - l)) (w':=w) ?_ ⟨_,_,_,_,⟨β,RelB.put (x:=.val (.slice (if m=l then ad else ad.map (·.add (l * ei.size))) (h - l) (m - l))) hR hd rfl⟩,k⟩
 have ex:=eval_of_ev hR.fr hx
 have e1:=eval_of_ev hR.fr hlo
 have e2:=eval_of_ev hR.fr hhi
 have e3:=eval_of_ev hR.fr hmx
 simp only[execOp,ho,Instr.sliceAt,Instr.slice,Instr.sliceBounds,Instr.sliceBound,ex,Sem.run_bind,run_underlying hu,Result.andThen_ok,(hE _ _ he).run_sizeOf,Sem.run_pure,Option.map_some,Option.map_none,e1,e2,e3,asIntOf_int]
 rw[if_pos ⟨by omega,by omega⟩]
 simp only[Sem.run_pure,Result.andThen_ok,Int.toNat_natCast]
 rw[if_pos ⟨by omega,by omega⟩]
 simp only[Sem.run_pure,Result.andThen_ok,Int.toNat_natCast]
 rw[if_pos ⟨by omega,by omega⟩]
 simp
theorem OtherOb.appIn (hE:EOK X.P X.E) {s x:Operand} {t:Nat} (ho:o.op=.call { callee:=.builtin .append,args:=#[s,x],argTypes:=#[t,t] }) (hd:∀ d,o.dst=some d→d < X.n)
  {e:Nat} {ti ei:TI} (ht:X.E t=some ti) (hts:ti.sh=.slice e) (he:X.E e=some ei)
  {g n c:Nat} {cur:List Value} (hs:ev F s=.val (.slice (some ⟨g,0,none⟩) n c)) (hc:cur.length=c * ei.size)
  {ad:Addr} {m c':Nat} (hx:ev F x=.val (.slice (some ad) m c')) {news:List Value} (hn:Rd I M ad (m * ei.size) news) (h1:allOne news=true) (hroom:n+m≤c)
  (pre post:List Blk) (hM:M=pre++⟨g,.cells cur.toArray e (0,0)⟩::post)
  (k:K (put o.dst (.val (.slice (some ⟨g,0,none⟩) (n+m) c)) F) C I (pre++⟨g,.cells (splice cur (n * ei.size) news).toArray e (0,0)⟩::post)):OtherOb X o F C I M K:=by
 refine⟨fun a w Q ⟨β,hR⟩=>?_⟩
 have hu:=und_slice hE ht hts
 obtain⟨inf,z,hi,hi1,hi2,hi3,hi4⟩:=(hE _ _ he).inf
 have hg:w.heap[g]?=some (.cells cur.toArray e (0,0)):=hR.holds.m ⟨g,.cells cur.toArray e (0,0)⟩ (by rw[hM];simp)
 have hl:news.length=m * ei.size:=by
  obtain⟨_,_,_,_,_,_,h⟩:=hn
  exact h
 have hfit:n * ei.size+news.length≤cur.length:=by rw[hl,hc,←Nat.add_mul];exact Nat.mul_le_mul_right _ hroom
 have hst:=run_storeCells_at X.P g (n * ei.size) e news 0 cur.toArray w hg (by simpa using hfit) (allOne_spec h1)
 simp only[Nat.add_zero] at hst
 have hf:(Builtin.firstCells ei.size m (.slice (some ad) m c')).run X.P w=.ok news.toArray w:=by
  obtain⟨hsp,cs,T,fr,hkn,hv,hl⟩:=hn
  refine run_firstCells_some (P:=X.P) w ei.size m ad m c' news hl fun j v hj=>?_
  rw[addr_add _ hsp,cell_of_block (hkn.heap hR.holds)]
  rw[←hv,List.getElem?_take] at hj
  split at hj
  ·rw[List.getElem?_drop] at hj
   simpa using hj
  ·cases hj
 have es:=eval_of_ev hR.fr hs
 have ex:=eval_of_ev hR.fr hx
 refine wpIn_val (by rw[ho];simp) (v:=.slice (some ⟨g,0,none⟩) (n+m) c) (w':=w.setRow g (splice cur (n * ei.size) news).toArray) ?_ ⟨_,_,_,_,⟨β,RelB.put (x:=.val (.slice (some ⟨g,0,none⟩) (n+m) c)) ?_ hd rfl⟩,k⟩
 ·have hrun:(Builtin.append_ #[t,t] o.type #[.slice (some ⟨g,0,none⟩) n c,.slice (some ad) m c']).run X.P w=.ok (.slice (some ⟨g,0,none⟩) (n+m) c) (w.setRow g (splice cur (n * ei.size) news).toArray):=by
   rw[←hi1] at hf hst ⊢
   simp[Builtin.append_,Builtin.lenOf,run_underlying hu,sizeOf,typeInfo,hi,hroom,hf,Addr.add_lit,hst,splice]
  unfold execOp
  simp only[ho,resolve,invoke,builtin,Sem.run_bind,Sem.run_pure,Result.andThen_ok,List.map_toArray,List.map_cons,List.map_nil,es,ex,hrun]
 ·exact hR.store_blk hM
end
section
variable {X:Ctx} {F:Fr} {C:Bx} {I:GH} {M:List Blk} {o:Oper} {K:KS}
theorem OtherOb.slice03 (hE:EOK X.P X.E) {t:Nat} {x hi mx:Operand} (ho:o.op=.slice t x none (some hi) (some mx)) (hd:∀ d,o.dst=some d→d < X.n)
  {e:Nat} {ti ei:TI} (ht:X.E t=some ti) (hts:ti.sh=.slice e) (he:X.E e=some ei) {g off:Nat} {n c:Nat} (h m:Nat) {k2 k3:IntKind}
  (hx:ev F x=.val (.slice (some ⟨g,off,none⟩) n c)) (hhi:ev F hi=.val (.int k2 (h:Nat))) (hmx:ev F mx=.val (.int k3 (m:Nat)))
  (h2:h≤m) (h3:m≤c) (k:K (put o.dst (.val (.slice (some ⟨g,off,none⟩) h m)) F) C I M):OtherOb X o F C I M K:=by
 refine⟨fun a w Q ⟨β,hR⟩=>?_⟩
 have hu:=und_slice hE ht hts
 refine wpIn_val (by rw[ho];simp) (v:=.slice (some ⟨g,off,none⟩) h m) (w':=w) ?_ ⟨_,_,_,_,⟨β,RelB.put (x:=.val (.slice (some ⟨g,off,none⟩) h m)) hR hd rfl⟩,k⟩
 have ex:=eval_of_ev hR.fr hx
 have e2:=eval_of_ev hR.fr hhi
 have e3:=eval_of_ev hR.fr hmx
 simp only[execOp,ho,Instr.sliceAt,Instr.slice,Instr.sliceBounds,Instr.sliceBound,ex,Sem.run_bind,run_underlying hu,Result.andThen_ok,(hE _ _ he).run_sizeOf,Sem.run_pure,Option.map_some,Option.map_none,e2,e3,asIntOf_int]
 rw[if_pos (show (0:Int)≤(m:Int)∧(m:Int)≤(c:Int) from⟨by omega,by omega⟩)]
 simp only[Sem.run_pure,Result.andThen_ok,Int.toNat_natCast]
 rw[if_pos (show (0:Int)≤(h:Int)∧(h:Int)≤(m:Int) from⟨by omega,by omega⟩)]
 simp
 intro _
 rw[addr_add _ rfl]
 rfl
end
def popC (lo:Nat):List Cp→List Cp
 | []=>[]
 | o::os=>bif decide (o.hi≤lo) then popC lo os else o::os
def nestC:List Cp→Nat→List Cp→Bool
 | _,_,[]=>true
 | op,fr,c::l=>bif decide (c.lo < fr) then false else bif (match popC c.lo op with
   | []=>false
   | o::_=>decide (o.hi < c.hi)) then false else nestC (c::popC c.lo op) c.lo l
theorem nestC_cons (op:List Cp) (fr:Nat) (c:Cp) (l:List Cp):nestC op fr (c::l)=bif decide (c.lo < fr) then false else bif (match popC c.lo op with
   | []=>false
   | o::_=>decide (o.hi < c.hi)) then false else nestC (c::popC c.lo op) c.lo l:=by
 rw[nestC]
theorem nestC_nil (op:List Cp) (fr:Nat):nestC op fr []=true:=by rw[nestC]
theorem popC_sub (lo:Nat):∀ op:List Cp,(∀ o∈popC lo op,o∈op)∧∀ o rest,popC lo op=o::rest→lo < o.hi
 | []=>⟨fun o h=>h,fun o rest h=>by cases h⟩
 | x::op=>by
  obtain⟨i1,i2⟩:=popC_sub lo op
  unfold popC
  cases hb:decide (x.hi≤lo) with
  | true=>exact⟨fun o h=>.tail _ (i1 o h),i2⟩
  | false=>
   refine⟨fun o h=>h,fun o rest h=>?_⟩
   cases h
   have:=of_decide_eq_false hb
   omega
theorem Nst.nest {a b:Nat} {l:List Cp} (h:Nst a b l):∀ (op:List Cp) (fr:Nat) (rest:List Cp),fr≤a→(∀ o∈op,o.hi≤a∨b≤o.hi)→(∀ op' fr',fr'≤b→(∀ o∈op',o∈op∨o.hi≤b)→nestC op' fr' rest=true)→nestC op fr (l++rest)=true:=by
 induction h with
 | nil h=>exact fun op fr rest h1 h2 h3=>h3 op fr (by omega) fun o ho=>.inl ho
 | @app a b c l l' h1 h2 i1 i2=>
  intro op fr rest f1 f2 f3
  have l1:=h1.le
  have l2:=h2.le
  rw[List.append_assoc]
  refine i1 op fr _ f1 (fun o ho=>?_) fun op' fr' g1 g2=>i2 op' fr' _ g1 (fun o ho=>?_) fun op2 fr2 q1 q2=>f3 op2 fr2 q1 fun o ho=>?_
  ·have:=f2 o ho
   omega
  ·rcases g2 o ho with h | h
   ·have:=f2 o h
    omega
   ·exact .inl h
  ·rcases q2 o ho with h | h
   ·rcases g2 o h with h | h
    ·exact .inl h
    ·exact .inr (by omega)
   ·exact .inr h
 | @cap a b l nm h ih=>
  intro op fr rest f1 f2 f3
  have l1:=h.le
  obtain⟨p1,p2⟩:=popC_sub a op
  rw[List.cons_append,nestC_cons]
  simp only
  rw[decide_eq_false (by omega:¬ a < fr),cond_false]
  have hno:(match popC a op with
   | []=>false
   | o::_=>decide (o.hi < b))=false:=by
   cases hp:popC a op with
   | nil=>rfl
   | cons o os=>
    have h1:=p2 o os hp
    have h2:=f2 o (p1 o (by rw[hp];exact .head _))
    exact decide_eq_false (by omega)
  rw[hno,cond_false]
  refine ih _ a rest (Nat.le_refl a) (fun o ho=>?_) fun op' fr' g1 g2=>f3 op' fr' g1 fun o ho=>?_
  ·rcases List.mem_cons.1 ho with rfl | ho
   ·exact .inr (Nat.le_refl b)
   ·exact f2 o (p1 o ho)
  ·rcases g2 o ho with h | h
   ·rcases List.mem_cons.1 h with rfl | h
    ·exact .inr (Nat.le_refl b)
    ·exact .inl (p1 o h)
   ·exact .inr h
theorem Nst.nest0 {a b:Nat} {l:List Cp} (h:Nst a b l):nestC [] 0 l=true:=by
 have:=h.nest [] 0 [] (Nat.zero_le _) (fun o ho=>by cases ho) (fun _ _ _ _=>rfl)
 rwa [List.append_nil] at this
theorem caps_nR {I:GH} {l:List Cp} {a:Option Addr} {n c:Nat} (h:RS I a n c 3 0 (l.flatMap Cp.cells)):l.length=n:=by
 have:=h.len
 rw[flat_len _ 3 Cp.cells_len] at this
 omega
structure NeI (l:List Cp) (n:Nat) (i:Nat) (st:List Cp) (cur:List Value):Prop where
 hst:st.length≤i
 hcur:cur.length=n * 3
 at_:cur.take (st.length * 3)=st.reverse.flatMap Cp.cells
theorem NeI.top {l:List Cp} {n i:Nat} {o:Cp} {os:List Cp} {cur:List Value} (h:NeI l n i (o::os) cur) (hi:i≤n) {I:GH} {M:List Blk} {g T:Nat} (hM:(⟨g,.cells cur.toArray T (0,0)⟩:Blk)∈M):Rd I M ((⟨g,0,none⟩:Addr).add (os.length * 3)) 3 o.cells:=by
 have h1:=h.hcur
 have h2:=h.hst
 rw[List.length_cons] at h2
 have hb:=blk_rd (I:=I) (cs:=cur) (k:=os.length * 3) (n:=3) hM (by omega)
 have e:(cur.drop (os.length * 3)).take 3=o.cells:=by
  have h3:=congrArg (List.drop (os.length * 3)) h.at_
  have e1:List.drop (os.length * 3) (os.reverse.flatMap Cp.cells)=[]:=List.drop_of_length_le (by rw[flat_len _ 3 Cp.cells_len,List.length_reverse];exact Nat.le_refl _)
  rw[List.length_cons,List.drop_take,List.reverse_cons,List.flatMap_append,List.drop_append_of_le_length (by rw[flat_len _ 3 Cp.cells_len,List.length_reverse];exact Nat.le_refl _),e1,show (os.length+1) * 3 - os.length * 3=3 by omega,List.nil_append] at h3
  rw[h3]
  exact List.append_nil _
 rwa [e] at hb
theorem NeI.pop {l:List Cp} {n i:Nat} {o:Cp} {os:List Cp} {cur:List Value} (h:NeI l n i (o::os) cur):NeI l n i os cur:=by
 have h2:=h.hst
 rw[List.length_cons] at h2
 refine⟨by omega,h.hcur,?_⟩
 have h3:=congrArg (List.take (os.length * 3)) h.at_
 rw[List.length_cons,List.take_take,List.reverse_cons,List.flatMap_append,List.take_append_of_le_length (by rw[flat_len _ 3 Cp.cells_len,List.length_reverse];exact Nat.le_refl _)] at h3
 rw[show min (os.length * 3) ((os.length+1) * 3)=os.length * 3 by omega] at h3
 rw[h3]
 exact List.take_of_length_le (by rw[flat_len _ 3 Cp.cells_len,List.length_reverse];exact Nat.le_refl _)
theorem NeI.push {l:List Cp} {n i:Nat} {st:List Cp} {cur:List Value} (h:NeI l n i st cur) (hi:i < n) (c:Cp):NeI l n (i+1) (c::st) (splice cur (st.length * 3) c.cells):=by
 have h1:=h.hcur
 have h2:=h.hst
 have hl:(cur.take (st.length * 3)).length=st.length * 3:=by rw[List.length_take];omega
 refine⟨by rw[List.length_cons];omega,?_,?_⟩
 ·unfold splice
  simp only[List.length_append,List.length_take,List.length_drop,Cp.cells_len]
  omega
 ·unfold splice
  rw[List.take_left' (by rw[List.length_append,hl,Cp.cells_len,List.length_cons];omega),h.at_,List.reverse_cons,List.flatMap_append]
  congr 1
set_option maxRecDepth 100000 in
set_option maxHeartbeats 4000000 in
theorem nested_spec {I:GH} {a:Option Addr} {n c:Nat} {l:List Cp} (h:RS I a n c 3 0 (l.flatMap Cp.cells)) (hb:n≤1048576):Spec Tryz.prog 42 [.slice a n c] I [] fun v I' M'=>v=.bool (nestC [] 0 l)∧I'=I∧M'=[]:=by
 refine spec_of_V [] TryzEOK Tryz.func42 rfl rfl rfl ?_
 intro B h0
 have hln:=caps_nR h
 refine MakeOb.mk 0 n rfl rfl (Nat.zero_le _) (by show 32 * n≤_;omega) (by omega) ?_
 refine AllocOb.mk fun g hg hgM=>?_
 refine LoopOb.inv (ι:=Nat×Nat×List Cp×List Value) (fun y=>{ fl:=[(0,.val (.slice a n c)),(3,.val (.slice (some ⟨g,0,none⟩) y.2.2.1.length n)),(4,.val (.int .i64 y.2.1)),(10,.val (.slice a n c)),(11,.val (.int .i64 n)),(12,.val (.int .i64 y.1))],gi:=I,mi:=[⟨g,.cells y.2.2.2.toArray 36 (0,0)⟩] })
  (fun y=>y.1≤n∧NeI l n y.1 y.2.2.1 y.2.2.2∧nestC [] 0 l=nestC y.2.2.1 y.2.1 (l.drop y.1)) (fun y=>n - y.1) ?_ ?_
 ·exact⟨(0,0,[],_),⟨Nat.zero_le _,⟨Nat.le_refl _,by simp[rowOf],by simp⟩,rfl⟩,.refl,aF6,.nil⟩
 rintro⟨i,fr,st,cur⟩ ⟨hi,hN,hne⟩
 simp only at hi hN hne
 refine CondOb.mk (fun e=>?_) (fun e=>?_)
 rotate_left
 ·have hge:¬ (i:Int) < (n:Int):=of_decide_eq_false e
  refine⟨_,_,.sub (List.nil_sublist _) .refl,?_,rfl,rfl⟩
  rw[hne,List.drop_eq_nil_of_le (by omega),nestC_nil]
 have hlt:i < n:=by have:(i:Int) < (n:Int):=of_decide_eq_true e;omega
 have hil:i < l.length:=by omega
 obtain⟨ad,had,hrd⟩:=h.row Cp.cells_len hlt hil
 rw[List.drop_eq_getElem_cons hil] at hne
 generalize l[i]=x at hrd hne
 refine IdxOb.mk ad i had rfl hlt ?_
 refine LoadOb.mk _ (hrd _) ?_
 rw[nestC_cons] at hne
 refine CondOb.mk (fun e1=>?_) (fun e1=>?_)
 ·have e2:x.lo < fr:=by have:(x.lo:Int) < (fr:Int):=of_decide_eq_true e1;omega
  rw[decide_eq_true e2,cond_true] at hne
  exact⟨_,_,.sub (List.nil_sublist _) .refl,by rw[hne],rfl,rfl⟩
 have e2:¬ x.lo < fr:=by have:¬ (x.lo:Int) < (fr:Int):=of_decide_eq_false e1;omega
 rw[decide_eq_false e2,cond_false] at hne
 refine LoopOb.inv (ι:=List Cp) (fun st=>{ fl:=[(0,.val (.slice a n c)),(3,.val (.slice (some ⟨g,0,none⟩) st.length n)),(4,.val (.int .i64 x.lo)),(6,.ref 6 0),(10,.val (.slice a n c)),(11,.val (.int .i64 n)),(12,.val (.int .i64 i))],cl:=[(6,x.cells)],gi:=I,mi:=[⟨g,.cells cur.toArray 36 (0,0)⟩] })
  (fun st'=>NeI l n i st' cur∧popC x.lo st=popC x.lo st') (fun st=>st.length) ?_ ?_
 ·exact⟨st,⟨hN,rfl⟩,.refl,aF7,.cons rfl (.nil)⟩
 rintro st2 ⟨hN2,hp⟩
 have tail:∀ {st3:List Cp},NeI l n i st3 cur→popC x.lo st=st3→nestC [] 0 l=bif (match st3 with
   | []=>false
   | o::_=>decide (o.hi < x.hi)) then false else nestC (x::st3) x.lo (l.drop (i+1)):=fun _ hp=>by
  rw[←hp]
  exact hne
 cases st2 with
 | nil=>
  refine CodeOb.draw TryzEOK rfl rfl rfl ?_
  refine GuardOb.mk (fun e=>nomatch (show false=true from e)) (fun _=>?_)
  have hq:=tail hN2 (hp.trans rfl)
  refine CodeOb.draw TryzEOK rfl rfl rfl ?_
  refine GuardOb.mk (fun e=>nomatch (show false=true from e)) (fun _=>?_)
  refine AllocOb.mk fun b9 hb9 hM9=>?_
  refine OtherOb.appIn TryzEOK rfl (by simp) (e:=36) rfl rfl rfl (g:=g) (n:=0) (c:=n) (cur:=cur) rfl hN2.hcur (ad:=⟨b9,0,none⟩) (m:=1) rfl (news:=x.cells) (blk_rd (b:=b9) (cs:=x.cells) (k:=0) (n:=3) (T:=36) (.head _) (Nat.le_of_ble_eq_true rfl)) rfl (by have:=hN2.hst;simp only[List.length_cons,List.length_nil] at this ⊢;omega) [⟨b9,_⟩] [] rfl ?_
  refine ArithOb.mk _ (next_wr (i:=i) (by omega)) ?_
  exact⟨(i+1,x.lo,x::[],_),⟨⟨by simp only;omega,hN2.push hlt x,hq⟩,by simp only;omega⟩,.sub (.cons _ (.refl _)) .refl,aF6,.nil⟩
 | cons t st3=>
  have htop:=fun {M:List Blk} (hM:(⟨g,.cells cur.toArray 36 (0,0)⟩:Blk)∈M)=>hN2.top (I:=I) (by omega) hM
  have hst:=hN2.hst
  rw[List.length_cons] at hst
  have hpos:decide ((0:Int) < ((t::st3).length:Int))=true:=decide_eq_true (by simp only[List.length_cons];omega)
  refine CodeOb.draw TryzEOK rfl rfl rfl ?_
  refine GuardOb.mk (fun _=>?_) (fun e=>nomatch (show true=false from hpos.symm.trans e))
  refine ArithOb.mk (st3.length:Int) (wr_eq (by simp only[List.length_cons];omega) (by omega)) ?_
  refine IdxOb.mk ⟨g,0,none⟩ st3.length rfl rfl (by simp) ?_
  refine LoadOb.mk _ ((htop (.head _)).part (k:=2) (m:=1) (by decide)) ?_
  refine CondOb.mk (fun e3=>?_) (fun e3=>?_)
  ·have hle:t.hi≤x.lo:=by have:(t.hi:Int)≤(x.lo:Int):=of_decide_eq_true e3;omega
   refine ArithOb.mk (st3.length:Int) (wr_eq (by simp only[List.length_cons];omega) (by omega)) ?_
   refine OtherOb.slice03 TryzEOK rfl (by simp) rfl rfl rfl st3.length n rfl rfl rfl (by omega) (Nat.le_refl _) ?_
   refine⟨st3,⟨⟨hN2.pop,?_⟩,by simp⟩,.refl,aF7,.cons rfl (.nil)⟩
   rw[hp]
   show (bif decide (t.hi≤x.lo) then _ else _)=_
   rw[decide_eq_true hle]
   rfl
  have hgt:¬ t.hi≤x.lo:=by have:¬ (t.hi:Int)≤(x.lo:Int):=of_decide_eq_false e3;omega
  have hp3:popC x.lo st=t::st3:=by
   rw[hp]
   show (bif decide (t.hi≤x.lo) then _ else _)=_
   rw[decide_eq_false hgt]
   rfl
  have hq:=tail hN2 hp3
  simp only at hq
  refine CodeOb.draw TryzEOK rfl rfl rfl ?_
  refine GuardOb.mk (fun _=>?_) (fun e=>nomatch (show true=false from hpos.symm.trans e))
  refine ArithOb.mk (st3.length:Int) (wr_eq (by simp only[List.length_cons];omega) (by omega)) ?_
  refine IdxOb.mk ⟨g,0,none⟩ st3.length rfl rfl (by simp) ?_
  refine LoadOb.mk _ ((htop (.head _)).part (k:=2) (m:=1) (by decide)) ?_
  refine CondOb.mk (fun e4=>?_) (fun e4=>?_)
  ·have hlt2:t.hi < x.hi:=by have:(t.hi:Int) < (x.hi:Int):=of_decide_eq_true e4;omega
   rw[decide_eq_true hlt2,cond_true] at hq
   exact⟨_,_,.sub (List.nil_sublist _) .refl,by rw[hq],rfl,rfl⟩
  have hlt2:¬ t.hi < x.hi:=by have:¬ (t.hi:Int) < (x.hi:Int):=of_decide_eq_false e4;omega
  rw[decide_eq_false hlt2,cond_false] at hq
  refine AllocOb.mk fun b9 hb9 hM9=>?_
  refine OtherOb.appIn TryzEOK rfl (by simp) (e:=36) rfl rfl rfl (g:=g) (n:=(t::st3).length) (c:=n) (cur:=cur) rfl hN2.hcur (ad:=⟨b9,0,none⟩) (m:=1) rfl (news:=x.cells) (blk_rd (b:=b9) (cs:=x.cells) (k:=0) (n:=3) (T:=36) (.head _) (Nat.le_of_ble_eq_true rfl)) rfl (by have:=hN2.hst;simp only[List.length_cons,List.length_nil] at this ⊢;omega) [⟨b9,_⟩] [] rfl ?_
  refine ArithOb.mk _ (next_wr (i:=i) (by omega)) ?_
  exact⟨(i+1,x.lo,x::t::st3,_),⟨⟨by simp only;omega,hN2.push hlt x,hq⟩,by simp only;omega⟩,.sub (.cons _ (.refl _)) .refl,aF6,.nil⟩
structure OcMay (o:Oc) (n:Nat):Prop where
 no:o.ok=false→o.to=0∧o.caps=[]
 to:o.to≤n
 len:o.caps.length≤65536
 cp:∀ c∈o.caps,mayName c.name=true∧c.lo≤c.hi∧c.hi≤o.to
 ne:nestC [] 0 o.caps=true
set_option maxRecDepth 100000 in
set_option maxHeartbeats 4000000 in
theorem SpMay_spec {I:GH} {o:Oc} {m:Nat} (hm:m≤4096) (h:OcMay o m) {a:Option Addr} {n c:Nat} (hrs:RS I a n c 3 0 (o.caps.flatMap Cp.cells)):Spec Tryz.prog 27 [ocV o (.slice a n c),.int .i64 m] I [] fun v I' M'=>v=.bool true∧I'=I∧M'=[]:=by
 refine spec_of_V [] TryzEOK Tryz.func27 rfl rfl rfl ?_
 intro B h0
 have hln:=caps_nR hrs
 have hlen:=h.len
 have hto:=h.to
 have b1:decide ((m:Int) < 0)=false:=decide_eq_false (by omega)
 have b2:decide ((4096:Int) < (m:Int))=false:=decide_eq_false (by omega)
 refine GuardOb.mk (fun _=>?_) (fun e=>nomatch (show false=true from b1.symm.trans e))
 refine CondOb.mk (fun e=>nomatch (show false=true from b2.symm.trans e)) (fun _=>?_)
 obtain⟨k,to,l⟩:=o
 simp only at hln hlen hto hrs
 cases k with
 | false=>
  obtain⟨q1,q2⟩:=h.no rfl
  simp only at q1 q2
  subst q1
  subst q2
  have hn0:n=0:=hln.symm
  subst hn0
  refine CondOb.mk (fun _=>?_) (fun e=>nomatch (show true=false from e))
  refine GuardOb.mk (fun _=>?_) (fun e=>nomatch (show true=false from e))
  exact⟨_,_,.refl,rfl,rfl,rfl⟩
 | true=>
 have b3:decide ((to:Int) < 0)=false:=decide_eq_false (by omega)
 have b4:decide ((m:Int) < (to:Int))=false:=decide_eq_false (by omega)
 have b5:decide ((65536:Int) < (n:Int))=false:=decide_eq_false (by omega)
 refine CondOb.mk (fun e=>nomatch (show false=true from e)) (fun _=>?_)
 refine GuardOb.mk (fun _=>?_) (fun e=>nomatch (show false=true from b3.symm.trans e))
 refine GuardOb.mk (fun _=>?_) (fun e=>nomatch (show false=true from b4.symm.trans e))
 refine CondOb.mk (fun e=>nomatch (show false=true from b5.symm.trans e)) (fun _=>?_)
 refine LoopOb.inv (ι:=Nat) (fun i=>{ fl:=[(2,.ref 2 0),(41,.val (.slice a n c)),(42,.val (.int .i64 n)),(43,.val (.int .i64 i))],cl:=[(2,[.bool true,.int .i64 to,.slice a n c])],gi:=I }) (fun i=>i≤n) (fun i=>n - i) ?_ ?_
 ·exact⟨0,Nat.zero_le _,.refl,aF4,.cons rfl (.nil)⟩
 intro i hi
 refine CondOb.mk (fun e=>?_) (fun e=>?_)
 rotate_left
 ·refine CallOb.whole _ (nested_spec hrs (by omega)) ?_
  rintro v J N - ⟨rfl,rfl,rfl⟩
  exact⟨_,_,.refl,by rw[h.ne],rfl,rfl⟩
 have hlt:i < n:=by have:(i:Int) < (n:Int):=of_decide_eq_true e;omega
 have hil:i < l.length:=by omega
 obtain⟨ad,had,hrd⟩:=hrs.row Cp.cells_len hlt hil
 obtain⟨c1,c2,c3⟩:=h.cp _ (List.getElem_mem hil)
 simp only at c3
 generalize l[i]=x at hrd c1 c2 c3
 have d1:decide ((x.lo:Int) < 0)=false:=decide_eq_false (by omega)
 have d2:decide ((x.hi:Int) < (x.lo:Int))=false:=decide_eq_false (by omega)
 have d3:decide ((to:Int) < (x.hi:Int))=false:=decide_eq_false (by omega)
 refine IdxOb.mk ad i had rfl hlt ?_
 refine LoadOb.mk _ (hrd _) ?_
 refine CallOb.mk [] [] _ (.refl _) (NMay_spec _ x.name) ?_
 rintro v I' M' - ⟨rfl,rfl,rfl⟩
 have d0:(!mayName x.name)=false:=by rw[c1];rfl
 refine GuardOb.mk (fun _=>?_) (fun e=>nomatch (show false=true from d0.symm.trans e))
 refine GuardOb.mk (fun _=>?_) (fun e=>nomatch (show false=true from d1.symm.trans e))
 refine GuardOb.mk (fun _=>?_) (fun e=>nomatch (show false=true from d2.symm.trans e))
 refine CondOb.mk (fun e=>nomatch (show false=true from d3.symm.trans e)) (fun _=>?_)
 refine ArithOb.mk _ (next_wr (i:=i) (by omega)) ?_
 exact⟨i+1,⟨by omega,by omega⟩,.refl,aF4,.cons rfl (.nil)⟩
theorem caps_one:∀ l:List Cp,allOne (l.flatMap Cp.cells)=true
 | []=>rfl
 | c::l=>by
  have:=caps_one l
  unfold allOne at this ⊢
  rw[List.flatMap_cons,List.all_append,this]
  rfl
theorem RS.oneQ {I:GH} {a:Option Addr} {n c size b:Nat} {vs:List Value} (h:RS I a n c size b vs) (M:List Blk) (h0:0 < n):∃ ad,a=some ad∧Rd I M ad (n * size) vs:=by
 rcases h.rd with h1 | ⟨ad,h1,h2,cs,T,fr,h3,h4⟩
 ·omega
 ·exact⟨ad,h1,h2,cs,T,fr,.inl h3,h4,h.len⟩
set_option maxHeartbeats 2000000 in
theorem together_spec {I:GH} {a:Option Addr} {n c:Nat} {l:List Cp} (h:RS I a n c 3 0 (l.flatMap Cp.cells)) (hb:n≤1048576):Spec Tryz.prog 68 [.slice a n c,.slice none 0 0] I [] fun v I' M'=>I'=I∧∃ os:OS,v=os.val∧os.ok 3 (l.flatMap Cp.cells)∧M'=os.blk 36:=by
 refine spec_of_V [] TryzEOK Tryz.func68 rfl rfl rfl ?_
 intro B h0
 have hln:=caps_nR h
 refine ArithOb.mk (n:Int) (wr_eq (by simp) (by omega)) ?_
 refine CondOb.mk (fun e=>?_) (fun e=>?_)
 ·have e1:n=0:=by have:(n:Int)=0:=of_decide_eq_true e;omega
  have e2:l=[]:=List.eq_nil_of_length_eq_zero (by omega)
  subst e2
  exact⟨_,_,.refl,rfl,⟨none,0,0,[]⟩,rfl,os0_ok 3,rfl⟩
 refine ArithOb.mk (n:Int) (wr_eq (by simp) (by omega)) ?_
 refine MakeOb.mk 0 n rfl rfl (Nat.zero_le _) (by show 32 * n≤_;omega) (by omega) ?_
 refine AllocOb.mk fun b hb hbM=>?_
 refine OtherOb.appL TryzEOK rfl (by simp) (e:=36) rfl rfl rfl ⟨some b,0,n,rowOf [.string ⟨#[]⟩,.int .i64 0,.int .i64 0] (n * 3)⟩ (xs:=[]) ⟨rfl,fun e=>(by cases e),fun g hg=>⟨by simp[rowOf],Nat.zero_le _,by simp only[maxLen];omega,by simp⟩⟩ rfl rfl (news:=l.flatMap Cp.cells) h.len (fun h0=>h.oneQ _ h0) (caps_one l) [] [] (by rw[List.append_nil];rfl) (by simp only;omega) (by show (0+n) * 32≤_;omega) ?_
 rintro os1 hn1 - hok1
 refine OtherOb.appL TryzEOK rfl (by simp) (e:=36) rfl rfl rfl os1 hok1 rfl rfl (news:=[]) rfl (fun h0=>(by omega)) rfl [] [] rfl (by simp only at hn1;omega) (by simp only at hn1;show (os1.n+0) * 32≤_;omega) ?_
 rintro os2 hn2 - hok2
 refine⟨_,os2.blk 36,.eqM (by rw[List.append_nil];rfl),rfl,os2,rfl,?_,rfl⟩
 simpa using hok2
theorem SpCopy_spec {I:GH} {o:Oc} {a:Option Addr} {n c:Nat} (h:RS I a n c 3 0 (o.caps.flatMap Cp.cells)) (hb:n≤1048576):Spec Tryz.prog 40 [ocV o (.slice a n c)] I [] fun v I' M'=>I'=I∧∃ os:OS,v=ocV o os.val∧os.ok 3 (o.caps.flatMap Cp.cells)∧M'=os.blk 36:=by
 refine spec_of_V [] TryzEOK Tryz.func40 rfl rfl rfl ?_
 intro B h0
 obtain⟨k,to,l⟩:=o
 refine CodeOb.draw TryzEOK rfl rfl rfl ?_
 refine PCallOb.whole _ (together_spec h hb) (fun v I' M' h x hx=>by cases hx) ?_
 rintro v I' M' - ⟨rfl,os,rfl,hok,rfl⟩
 exact⟨_,_,.refl,rfl,os,rfl,hok,rfl⟩
structure ShI (n by_:Nat) (l:List Cp) (v0:Value) (i:Nat) (os:OS):Prop where
 hi:i≤n
 v:os.val=v0
 ok:os.ok 3 ((shL by_ (l.take i)++l.drop i).flatMap Cp.cells)
theorem sh_at {by_ i:Nat} {l:List Cp} (hi:i < l.length):i < (shL by_ (l.take i)++l.drop i).length∧∀ h:i < (shL by_ (l.take i)++l.drop i).length,(shL by_ (l.take i)++l.drop i)[i]=l[i]:=by
 have hl:(shL by_ (l.take i)).length=i:=by rw[shL,List.length_map,List.length_take];omega
 refine⟨by rw[List.length_append,hl,List.length_drop];omega,fun h=>?_⟩
 rw[List.getElem_append_right (by omega)]
 simp[hl]
theorem sh_set {by_ i:Nat} {l:List Cp} (hi:i < l.length):(shL by_ (l.take i)++l.drop i).set i ⟨l[i].name,l[i].lo+by_,l[i].hi+by_⟩=shL by_ (l.take (i+1))++l.drop (i+1):=by
 have hl:(shL by_ (l.take i)).length=i:=by rw[shL,List.length_map,List.length_take];omega
 rw[List.set_append_right _ _ (by omega),hl,Nat.sub_self,List.drop_eq_getElem_cons hi,List.set_cons_zero,List.take_succ_eq_append_getElem hi,shL,shL,List.map_append,List.append_assoc]
 rfl
set_option maxRecDepth 100000 in
set_option maxHeartbeats 4000000 in
theorem Shift_spec {I:GH} {o:Oc} (hm:OcMay o 4096) {a:Option Addr} {n c:Nat} (h:RS I a n c 3 0 (o.caps.flatMap Cp.cells)) {by_:Nat} (hby:by_≤4096) (hto:o.to+by_≤4096) :
  Spec Tryz.prog 26 [ocV o (.slice a n c),.int .i64 by_] I [] fun v I' M'=>I'=I∧∃ os:OS,v=.tuple #[ocV (shO by_ o) os.val,.bool true]∧os.ok 3 ((shO by_ o).caps.flatMap Cp.cells)∧M'=os.blk 36:=by
 refine spec_of_V [] TryzEOK Tryz.func26 rfl rfl rfl ?_
 intro B h0
 refine CallOb.whole _ (SpMay_spec (Nat.le_refl 4096) hm h) ?_
 rintro v J N - ⟨rfl,rfl,rfl⟩
 refine CondOb.mk (fun e=>nomatch (show false=true from e)) (fun _=>?_)
 have hln:=caps_nR h
 have hlen:=hm.len
 have hcp:=hm.cp
 obtain⟨k,to,l⟩:=o
 simp only at hln hlen hto h hcp
 cases k with
 | false=>
  obtain⟨q1,q2⟩:=hm.no rfl
  simp only at q1 q2
  subst q1
  subst q2
  refine CondOb.mk (fun _=>?_) (fun e=>nomatch (show true=false from e))
  refine CallOb.whole _ Fail_spec ?_
  rintro v I' M' - ⟨rfl,rfl,rfl⟩
  exact⟨_,_,.refl,rfl,⟨none,0,0,[]⟩,rfl,os0_ok 3,rfl⟩
 | true=>
 have b1:decide ((by_:Int) < -4096)=false:=decide_eq_false (by omega)
 have b2:decide ((4096:Int) < (by_:Int))=false:=decide_eq_false (by omega)
 have b3:decide (((to+by_:Nat):Int) < 0)=false:=decide_eq_false (by omega)
 have b4:decide ((4096:Int) < ((to+by_:Nat):Int))=false:=decide_eq_false (by omega)
 refine CondOb.mk (fun e=>nomatch (show false=true from e)) (fun _=>?_)
 refine GuardOb.mk (fun _=>?_) (fun e=>nomatch (show false=true from b1.symm.trans e))
 refine GuardOb.mk (fun _=>?_) (fun e=>nomatch (show false=true from b2.symm.trans e))
 refine ArithOb.mk ((to+by_:Nat):Int) (wr_eq (by simp) (by omega)) ?_
 refine GuardOb.mk (fun _=>?_) (fun e=>nomatch (show false=true from b3.symm.trans e))
 refine ArithOb.mk ((to+by_:Nat):Int) (wr_eq (by simp) (by omega)) ?_
 refine CondOb.mk (fun e=>nomatch (show false=true from b4.symm.trans e)) (fun _=>?_)
 refine CallOb.whole _ (SpCopy_spec (o:=⟨true,to,l⟩) h (by omega)) ?_
 rintro v I' M' - ⟨rfl,os0,rfl,hok0,rfl⟩
 have hon:os0.n=l.length:=by
  have:=hok0.len
  rw[flat_len _ 3 Cp.cells_len] at this
  simp only at this
  omega
 refine ArithOb.mk ((to+by_:Nat):Int) (wr_eq (by simp) (by omega)) ?_
 refine LoopOb.inv (ι:=Nat×OS) (fun y=>{ fl:=[(1,.val (.int .i64 by_)),(4,.ref 4 0),(6,.ref 6 0),(47,.val (.int .i64 os0.n)),(48,.val (.int .i64 y.1))],cl:=[(4,[.bool false,.int .i64 0,.slice none 0 0]),(6,[.bool true,.int .i64 ((to+by_:Nat):Int),os0.val])],gi:=I',mi:=y.2.blk 36 }) (fun y=>ShI os0.n by_ l os0.val y.1 y.2) (fun y=>os0.n - y.1) ?_ ?_
 ·exact⟨(0,os0),⟨Nat.zero_le _,rfl,by simpa[shL] using hok0⟩,.refl,aF5,.cons rfl (.cons rfl (.nil))⟩
 rintro⟨i,os⟩ ⟨hi,hov,hok⟩
 simp only at hi hov hok
 refine CondOb.mk (fun e=>?_) (fun e=>?_)
 rotate_left
 ·have hge:¬ (i:Int) < (os0.n:Int):=of_decide_eq_false e
  refine⟨_,_,.refl,rfl,os,by rw[hov];rfl,?_,rfl⟩
  rw[List.take_of_length_le (by omega),List.drop_eq_nil_of_le (by omega),List.append_nil] at hok
  exact hok
 have hlt:i < os0.n:=by have:(i:Int) < (os0.n:Int):=of_decide_eq_true e;omega
 have hil:i < l.length:=by omega
 obtain⟨hx1,hx2⟩:=sh_at (by_:=by_) hil
 obtain⟨c1,c2,c3⟩:=hcp _ (List.getElem_mem hil)
 have hset:=sh_set (by_:=by_) hil
 have hx2:=hx2 hx1
 generalize hx:l[i]=x at hx2 c1 c2 c3 hset
 obtain⟨ad,had,hrd⟩:=OS.ok.row (I:=I') (M:=os.blk 36) (e:=36) Cp.cells_len (by decide) hok (fun z hz=>hz) hx1
 rw[hx2] at hrd
 have had0:os0.a.map (fun g=>(⟨g,0,none⟩:Addr))=some ad:=by
  have h9:=hov
  unfold OS.val at h9
  injection h9 with h1 h2 h3
  rw[←h1]
  exact had
 refine IdxOb.mk ad i had0 rfl hlt ?_
 refine LoadOb.mk _ (hrd.part (k:=1) (m:=1) (by decide)) ?_
 have d1:decide (((x.lo+by_:Nat):Int) < 0)=false:=decide_eq_false (by omega)
 refine ArithOb.mk ((x.lo+by_:Nat):Int) (wr_eq (by simp) (by omega)) ?_
 refine CondOb.mk (fun e=>nomatch (show false=true from d1.symm.trans e)) (fun _=>?_)
 refine LoadOb.mk _ (hrd.part (k:=1) (m:=1) (by decide)) ?_
 refine ArithOb.mk ((x.lo+by_:Nat):Int) (wr_eq (by simp) (by omega)) ?_
 refine OS.putP (e:=36) Cp.cells 3 Cp.cells_len hok hx1 1 (vs:=[.int .i64 ((x.lo+by_:Nat):Int)]) (Nat.le_of_ble_eq_true rfl) rfl ⟨x.name,x.lo+by_,x.hi⟩ (by rw[hx2];rfl) [] [] (by simp) had ?_
 intro os2 hv2 ha2 hn2 hok2
 have hx3:i < ((shL by_ (l.take i)++l.drop i).set i ⟨x.name,x.lo+by_,x.hi⟩).length:=by rw[List.length_set];exact hx1
 obtain⟨ad2,had2,hrd2⟩:=OS.ok.row (I:=I') (M:=[]++(os2.blk 36++[])) (e:=36) Cp.cells_len (by decide) hok2 (fun z hz=>by simpa using hz) hx3
 rw[List.getElem_set_self] at hrd2
 rw[ha2,had] at had2
 obtain rfl:=Option.some.inj had2
 refine LoadOb.mk _ (hrd2.part (k:=2) (m:=1) (by decide)) ?_
 refine ArithOb.mk ((x.hi+by_:Nat):Int) (wr_eq (by simp) (by omega)) ?_
 refine OS.putP (e:=36) Cp.cells 3 Cp.cells_len hok2 hx3 2 (vs:=[.int .i64 ((x.hi+by_:Nat):Int)]) (Nat.le_of_ble_eq_true rfl) rfl ⟨x.name,x.lo+by_,x.hi+by_⟩ (by rw[List.getElem_set_self];rfl) [] [] rfl (by rw[ha2];exact had) ?_
 intro os3 hv3 ha3 hn3 hok3
 rw[List.set_set,hset] at hok3
 refine ArithOb.mk _ (next_wr (i:=i) (by omega)) ?_
 exact⟨(i+1,os3),⟨⟨by simp only;omega,hv3.trans (hv2.trans hov),hok3⟩,by simp only;omega⟩,.eqM (by simp),aF5,.cons rfl (.cons rfl (.nil))⟩
theorem mayP_moved {deb:List Int} {g:Gr} {rule fuel:Int} {n k:Nat} (h1:n≤200) (h2:k≤200):mayP deb g rule (k+n) (k:Int) fuel=mayP deb g rule n 0 fuel:=by
 unfold mayP
 rw[decide_eq_false (by omega:¬ (4096:Int) < ((k+n:Nat):Int)),decide_eq_false (by omega:¬ (4096:Int) < (n:Int)),decide_eq_false (by omega:¬ (k:Int) < 0),decide_eq_false (by omega:¬ (0:Int) < 0),decide_eq_false (by omega:¬ ((k+n:Nat):Int) < (k:Int)),decide_eq_false (by omega:¬ (n:Int) < 0)]
theorem run_moved {deb:List Int} {g:Gr} {rule fuel:Int} {s t:ByteArray} {r r':Rs} (hg:∀ d∈g.ds,d.t.ns.length=d.t.n) (hk0:∀ d∈g.ds,∀ n∈d.t.ns,0≤n.k) (hgn:g.ds.length=g.n) (h1:s.size≤200) (h2:t.size≤200)
  (h:RunG deb g rule s 0 fuel r) (h':RunG deb g rule (t++s) t.size fuel r'):r'=shR t.size r:=by
 have hsz:(t++s).size=t.size+s.size:=ByteArray.size_append
 have hm:=mayP_moved (deb:=deb) (g:=g) (rule:=rule) (fuel:=fuel) h1 h2
 rcases h with ⟨q1,rfl⟩ | ⟨q1,q2⟩
 ·rcases h' with ⟨-,rfl⟩ | ⟨w1,-⟩
  ·rw[hsz,hm]
   rfl
  ·rw[hsz,hm] at w1
   exact absurd w1 q1
 ·rcases h' with ⟨w1,-⟩ | ⟨-,w2⟩
  ·rw[hsz,hm] at w1
   exact absurd q1 w1
  ·have hK:=runK (at_:=0) (fuel:=fuel) hg hk0 hgn q1
   have hb:Beh (pkG g s 0) (pkG g (t++s) t.size) t.size:=⟨rfl,by show t.size=0+t.size;omega,t,rfl,rfl⟩
   have h3:=hb.run hK.ok hK.q.1 hK.q.2.1 hK.q.2.2.1 q2
   rw[show (0:Int).toNat+t.size=t.size by simp] at h3
   exact w2.det h3
theorem run_may {g:Gr} (hm:GMay g) (hk0:∀ d∈g.ds,∀ n∈d.t.ns,0≤n.k) {s:ByteArray} {at_ root fuel:Nat} (hP:PkOk (pkG g s at_)) (h1:root < (pkG g s at_).ns.length) (h3:at_≤s.size) {o:Oc} {u:Nat} (h:IsRun (pkG g s at_) root at_ fuel (.ok o u)) :
  OcMay o s.size∧(∀ c∈o.caps,at_≤c.lo)∧(o.ok=true→at_≤o.to):=by
 cases h with
 | fail h h2=>exact⟨⟨fun _=>⟨rfl,rfl⟩,Nat.zero_le _,Nat.zero_le _,fun c hc=>(by cases hc),rfl⟩,fun c hc=>(by cases hc),fun e=>by cases e⟩
 | @ok c S n l h h3' hn hf hgs hl=>
  obtain⟨i1,i2,i3,i4,i5,i6⟩:=run_of hP h1 (Nat.le_refl at_) h3 h
  obtain⟨n',l',g1,g2,g3⟩:=i6 h3'
  obtain rfl:=hgs.det g1
  have hc:=(i2.kn root (at_ - (pkG g s at_).base)).m (by rw[i5];exact h3')
  rw[i5] at hc
  have hr:=g3.rng
  refine⟨⟨fun e=>(by cases e),hc.2.1,by show l.length≤_;omega,fun x hx=>?_,g3.nest0⟩,fun x hx=>(hr x hx).1,fun _=>g3.le⟩
  obtain⟨k,k9,kn⟩:=gs_names hgs x hx
  have:=hr x hx
  exact⟨by rw[kn];exact pk_name hm hk0 k9,this.2.1,this.2.2⟩
def ShPost (o:Oc) (by_:Nat) (I:GH) (M0:List Blk) (v:Value) (I':GH) (M':List Blk):Prop:=(∀ b o,I b=some o→I' b=some o)∧M'=M0∧∃ (a:Option Addr) (n c:Nat),v=.tuple #[ocV (shO by_ o) (.slice a n c),.bool true]∧RS I' a n c 3 0 ((shO by_ o).caps.flatMap Cp.cells)
theorem Shift_fr {I:GH} {M0:List Blk} {o:Oc} (hm:OcMay o 4096) {a:Option Addr} {n c:Nat} (h:RS I a n c 3 0 (o.caps.flatMap Cp.cells)) {by_:Nat} (hby:by_≤4096) (hto:o.to+by_≤4096) :
  Spec Tryz.prog 26 [ocV o (.slice a n c),.int .i64 by_] I M0 (ShPost o by_ I M0):=by
 refine Spec.weakK (Spec.frame (Spec.frz (Shift_spec hm h hby hto))) ?_
 rintro v J M ⟨M',rfl,-,hJ,rfl,-,I',M1,⟨rfl,os,rfl,hos,rfl⟩,hF⟩
 exact⟨hJ,rfl,os.a.map fun g=>⟨g,0,none⟩,os.n,os.c,rfl,OS.frzQ hF hos (fun _ h=>h) (by omega)⟩
set_option maxRecDepth 100000 in
set_option maxHeartbeats 4000000 in
theorem packMoved_V {I:GH} (hT:Tabs I debL) {g:Gr} (hgw:GrW I g) {rule:Int} (hr1:i64ok rule) {t:ByteArray} (ht:t.size≤9223372036854775807) {s:ByteArray} (hs:s.size≤9223372036854775807) {fuel:Int} (hfu:i64ok fuel):SpecE Tryz.prog 7 [g.val,.int .i64 rule,.string t,.string s,.int .i64 fuel] I [] fun v I' M'=>v=.bool true:=by
 refine specE_of_V [] TryzEOK Tryz.func7 rfl rfl rfl ?_
 intro B h0
 refine CallOb.mk [] [] _ (.refl _) (works16_spec hT) ?_
 rintro v J1 N - ⟨rfl,hJ1,rfl⟩
 have hT1:=hT.mono hJ1
 have hgw1:=hgw.mono hJ1
 refine GuardOb.mk (fun _=>?_) (fun h=>absurd h (by simp))
 refine CallOb.mk [] [] _ (.refl _) (long16_spec hgw1 (os0:=⟨none,0,0,[]⟩) (L0:=[]) (os0_ok 2) (fun t ht=>by cases ht) (Nat.zero_le _)) ?_
 rintro v J2 N - ⟨⟨r0,rfl,hr0⟩,hJ2,hN⟩
 subst J2
 subst N
 cases r0 with
 | true=>
  refine GuardOb.mk (fun h=>absurd h (by simp)) (fun _=>?_)
  refine CallOb.mk [] [] _ (.refl _) (works16_spec hT1) ?_
  rintro v J3 N - ⟨rfl,hJ3,rfl⟩
  exact⟨_,_,.refl,rfl⟩
 | false=>
 have hg:=hgw1.ok (hr0 rfl).1
 have hgl:∀ d∈g.ds,d.t.ns.length=d.t.n:=fun d hd=>(hg.ds d hd).t.n
 have hk0:∀ d∈g.ds,∀ n∈d.t.ns,0≤n.k:=fun d hd n hn=>((hg.ds d hd).t.ns n hn).k.1
 have hgn:=hg.n
 refine GuardOb.mk (fun _=>?_) (fun h=>absurd h (by simp))
 refine GuardOb.mk (fun htz=>?_) (fun htz=>?_)
 rotate_left
 ·refine CallOb.mk [] [] _ (.refl _) (works16_spec hT1) ?_
  rintro v J3 N - ⟨rfl,hJ3,rfl⟩
  exact⟨_,_,.refl,rfl⟩
 refine CondOb.mk (fun _=>?_) (fun hsz=>?_)
 ·refine CallOb.mk [] [] _ (.refl _) (works16_spec hT1) ?_
  rintro v J3 N - ⟨rfl,hJ3,rfl⟩
  exact⟨_,_,.refl,rfl⟩
 have ht2:t.size≤200:=by
  have:¬ (200:Int) < (t.size:Int):=of_decide_eq_false htz
  omega
 have hs2:s.size≤200:=by
  have:¬ (200:Int) < (s.size:Int):=of_decide_eq_false hsz
  omega
 refine CallOb.whole _ (PRun_fr hT1 hg rule s 0 fuel) ?_
 rintro v J3 N - ⟨hJ3,rfl,r,a,n,c,hr,rfl,hrs⟩
 have hT3:=hT1.mono hJ3
 have hg3:=hg.mono hJ3
 refine BinOb.concat (by omega) ?_
 refine CallOb.whole _ (PRun_fr hT3 hg3 rule (t++s) t.size fuel) ?_
 rintro v J4 N - ⟨hJ4,rfl,r2,a2,n2,c2,hr2,rfl,hrs2⟩
 have hmv:=run_moved hgl hk0 hgn hs2 ht2 hr hr2
 have e1:r2.e=r.e:=by rw[hmv];cases r<;>rfl
 have e2:r2.u=r.u:=by rw[hmv];cases r<;>rfl
 have b1:(!decide (r.e=r2.e))=false:=by rw[e1,decide_eq_true rfl];rfl
 have b2:(!decide ((r.u:Int)=(r2.u:Int)))=false:=by rw[e2,decide_eq_true rfl];rfl
 refine GuardOb.mk (fun _=>?_) (fun h=>gF b1 h)
 refine CondOb.mk (fun h=>gF b2 h) (fun _=>?_)
 refine CondOb.mk (fun e0=>?_) (fun e0=>?_)
 ·exact⟨_,_,.refl,rfl⟩
 have he0:r.e=0:=by
  have e1:(!decide (r.e=0))=false:=e0
  simpa using e1
 have hro:=(hr.e0' hgl hk0 hgn he0).1
 have hK:=(hr.e0' hgl hk0 hgn he0).2.1
 have hrun:=(hr.e0' hgl hk0 hgn he0).2.2
 have hm:=gmay (mayP_ok hK.may).1 hgl
 have hsz2:(t++s).size=t.size+s.size:=ByteArray.size_append
 have hw:=run_may hm hk0 hK.ok hK.q.1 (by show (0:Int).toNat≤s.size;simp) hrun
 have w1:=hw.1
 have hro2:r2.o=shO t.size r.o:=by rw[hmv];cases r<;>rfl
 have hmv2:r2=.ok (shO t.size r.o) r.u:=by
  rw[hmv]
  conv=>lhs;rw[hro]
  rfl
 have hm2:mayP debL g rule (t++s).size t.size fuel=0:=by rw[hsz2,mayP_moved hs2 ht2];exact hK.may
 have hK2:=runK (s:=t++s) (at_:=t.size) (fuel:=fuel) hgl hk0 hgn hm2
 have hrun2:=hr2.run hm2
 rw[hmv2] at hrun2
 have hx:=run_may hm hk0 hK2.ok hK2.q.1 (by show ((t.size:Nat):Int).toNat≤(t++s).size;rw[hsz2];simp) hrun2
 have x1:=hx.1
 have x2':∀ c∈(shO t.size r.o).caps,t.size≤c.lo:=hx.2.1
 have x3':(shO t.size r.o).ok=true→t.size≤(shO t.size r.o).to:=hx.2.2
 rw[hsz2] at x1
 have w4096:OcMay r.o 4096:=⟨w1.no,by have:=w1.to;omega,w1.len,w1.cp,w1.ne⟩
 have n2b:n2≤140737488355327:=by
  have:=caps_n hrs2
  rw[hro2] at this
  have:=x1.len
  omega
 have hrs4:=hrs.mono hJ4
 have x4:OcMay r2.o (t.size+s.size):=by rw[hro2];exact x1
 refine CallOb.whole _ (Shift_fr w4096 hrs4 (by_:=t.size) (by omega) (by have:=w1.to;omega)) ?_
 rintro v J5 N - ⟨hJ5,rfl,a5,n5,c5,rfl,hrs5⟩
 refine GuardOb.mk (fun _=>?_) (fun h=>absurd h (by simp))
 have n5b:n5≤140737488355327:=by
  have:=caps_n hrs5
  have:=x1.len
  omega
 refine CallOb.whole _ (SSame_spec (o:=shO t.size r.o) (o':=r2.o) hrs5 (hrs2.mono hJ5) n5b) ?_
 rintro v J6 N - ⟨⟨b,rfl,hb⟩,rfl,rfl⟩
 have hb1:(!b)=false:=by rw[hb.2 hro2.symm];rfl
 refine GuardOb.mk (fun _=>?_) (fun h=>gF hb1 h)
 refine ArithOb.mk ((t.size+s.size:Nat):Int) (wr_eq (by simp) (by omega)) ?_
 refine CallOb.whole _ (SpMay_spec (by omega) x4 (hrs2.mono hJ5)) ?_
 rintro v J7 N - ⟨rfl,rfl,rfl⟩
 refine CondOb.mk (fun h=>gF (X:=!true) rfl h) (fun _=>?_)
 have hrs2':=hrs2.mono hJ5
 have hln:=caps_n hrs2'
 refine LoopOb.inv (ι:=Nat) (fun i=>{ fl:=[(2,.val (.string t)),(14,.ref 14 0),(19,.val (.int .i64 i))],cl:=[(14,[.bool r2.o.ok,.int .i64 r2.o.to,.slice a2 n2 c2])],gi:=J7 }) (fun i=>i≤n2) (fun i=>n2 - i) ?_ ?_
 ·exact⟨0,Nat.zero_le _,.refl,aF3,.cons rfl (.nil)⟩
 intro i hi
 refine CondOb.mk (fun e=>?_) (fun e=>?_)
 rotate_left
 ·cases hk:r2.o.ok with
  | false=>
   refine GuardOb.mk (fun e=>?_) (fun _=>?_)
   ·exact gT (X:=!false) rfl e
   ·exact⟨_,_,.refl,rfl⟩
  | true=>
   have hle:t.size≤r2.o.to:=by rw[hro2] at hk ⊢;exact x3' hk
   refine GuardOb.mk (fun _=>?_) (fun e=>?_)
   ·refine⟨_,_,.refl,?_⟩
    show Value.bool (decide ((t.size:Int)≤(r2.o.to:Int)))=_
    rw[decide_eq_true (by omega)]
   ·exact gF (X:=!true) rfl e
 have hlt:i < n2:=by have:(i:Int) < (n2:Int):=of_decide_eq_true e;omega
 have hil:i < r2.o.caps.length:=by omega
 obtain⟨ad,had,hrd⟩:=hrs2'.row Cp.cells_len hlt hil
 have hlo:t.size≤(r2.o.caps[i]).lo:=x2' _ (by rw[←hro2];exact List.getElem_mem hil)
 generalize r2.o.caps[i]=x at hrd hlo
 have d1:decide ((x.lo:Int) < (t.size:Int))=false:=decide_eq_false (by omega)
 refine IdxOb.mk ad i had rfl hlt ?_
 refine LoadOb.mk _ ((hrd _).part (k:=1) (m:=1) (by decide)) ?_
 refine CondOb.mk (fun h=>gF d1 h) (fun _=>?_)
 refine ArithOb.mk _ (next_wr (i:=i) (by omega)) ?_
 exact⟨i+1,⟨by omega,by omega⟩,.refl,aF3,.cons rfl (.nil)⟩
end Go.V
