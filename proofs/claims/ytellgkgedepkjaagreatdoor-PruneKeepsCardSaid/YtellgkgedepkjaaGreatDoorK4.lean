/-
  Part 4 of what the proofs of this seat share: the executor, data in memory, walks.
-/
import Derived.Test.YtellgkgedepkjaaGreatDoorK3
import Derived.WideKeyArgs
import Derived.Below
import Derived.JoinedOf
import Derived.Test.YtellgkgedepkjaaGreatDoorK2
import Derived.Laws.IdiomStrings
set_option linter.all false
namespace Go.V
open Go Go.Proofs
section
variable {H:Type} {enc:TypeId×Value->H} {P:Program} {W:World} {base:Nat} {sp:Nat->Bool} {held:Bool}
theorem Z7a {α:Type} {p:Nat->α->Prop}:∀ (n:Nat),(∀ i,i < n->∃ d,p i d)->∃ l:List α,l.length=n∧∀ i (h:i < l.length),p i l[i]
 | 0,_=>⟨[],rfl,fun i h=>by simp at h⟩
 | n+1,h=>by
  obtain⟨l,h1,h2⟩:=Z7a n fun i hi=>h i (by omega)
  obtain⟨d,hd⟩:=h n (by omega);refine⟨l++[d],by simp[h1],fun i hi=>?_⟩
  by_cases hlt:i < l.length
  ·rw[List.getElem_append_left hlt]
   exact h2 i hlt
  ·have e:i=l.length:=by simp at hi;omega
   subst e
   simpa[h1] using hd
theorem Zc4 {α:Type} {f:α->List Value} {size:Nat} (hs:0 < size) (hf:∀ x,(f x).length=size) (ok:α->Prop) {t e:TypeId} (ht:P.underlying t=some (.slice e)) (hc:P.cellsOf e=size)
  (hin:∀ fuel cs x,DataW.trod enc P W base sp held fuel e cs=some x->∃ d,cs=f d∧ok d) {fuel:Nat} {cs:List Value} {x:DataW H×List MemPlace} (h:DataW.trod enc P W base sp held fuel t cs=some x) :
  ∃ (a:Option Addr) (n c:Nat) (l:List α),cs=[.slice a n c]∧RS (Z4n W) a n c size 0 (l.flatMap f)∧l.length=n∧(∀ d∈l,ok d)∧(a=none->c=0)∧c≤maxLen:=by
 rcases DataW.trod_slice ht h with ⟨rfl,_⟩ | ⟨a,len,cap,elems,rest,m,_,rfl,_,hb,hl,hm,hlen,hel,_,_⟩
 ·exact⟨none,0,0,[],rfl,⟨by simp,⟨Nat.le_refl _,by omega⟩,.inl rfl⟩,rfl,fun d hd=>by simp at hd,fun _=>rfl,by unfold maxLen;omega⟩
 have each:∀ i,i < len->∃ d,ok d∧W.cells? base (a.add (i * size)) size=some (f d):=fun i hi=>by
  have h1:=hel i hi;rw[hc,List.getElem?_eq_getElem (by omega)] at h1;obtain⟨cs',h2,h3⟩:=Option.bind_eq_some_iff.1 h1;obtain⟨d,rfl,hd⟩:=hin _ _ _ h3;exact⟨d,hd,h2⟩
 obtain⟨l,hll,hlp⟩:=Z7a len each;refine⟨some a,len,cap,l,rfl,⟨by rw[Z0i f size hf,hll],⟨hl,by omega⟩,?_⟩,hll,fun d hd=>?_,fun h=>by simp at h,hm⟩
 ·by_cases h0:len=0
  ·exact .inl h0
  right
  have c0:=(hlp 0 (by omega)).2;obtain⟨-,-,hcell⟩:=World.cells?_some c0;have h00:=hcell 0 hs;rw[List.getElem?_eq_getElem (by rw[hf];exact hs)] at h00
  have hspot:a.spot=none:=by
   have:=World.cell?_spot h00
   cases hsp:a.spot with
   | none=>rfl
   | some s=>simp[Addr.add,hsp] at this
  refine⟨a,rfl,hspot,?_⟩
  have hcell':∀ i (hi:i < l.length),∀ k,k < size->W.cell? ⟨a.block,a.off+(i * size+k),none⟩=(f l[i])[k]?:=fun i hi k hk=>by
   obtain⟨-,-,hh⟩:=World.cells?_some (hlp i hi).2;have:=hh k hk;rw[Z06 _ hspot,Z06 _ rfl] at this;rw[←this]
   congr 2
   simp only[];omega
  have hblk:∃ cs T fr,W.heap[a.block]?=some (.cells cs T fr):=by
   have h1:=hcell' 0 (by omega) 0 hs;rw[List.getElem?_eq_getElem (by rw[hf];exact hs)] at h1;unfold World.cell? at h1
   cases hh:W.heap[a.block]? with
   | none=>simp[hh] at h1
   | some o=>
    cases o with
    | cells cs T fr=>exact⟨cs,T,fr,rfl⟩
    | _=>simp[hh] at h1
  obtain⟨cs,T,fr,hh⟩:=hblk;refine⟨cs,T,fr,hh,?_⟩;have hfl:=Z0i f size hf l
  apply List.ext_getElem?
  intro j
  by_cases hj:j < len * size
  ·have hdiv:j / size < l.length:=by
    rw[hll];exact Nat.div_lt_of_lt_mul (by rw[Nat.mul_comm];exact hj)
   have hmod:=Nat.mod_lt j hs;have e:=Nat.div_add_mod j size;rw[Nat.mul_comm] at e;have h1:=hcell' (j / size) hdiv (j % size) hmod;rw[e] at h1;have h2:=Z3j f size hf l (j / size) hdiv
   have h3:(l.flatMap f)[j]?=(f l[j / size])[j % size]?:=by
    rw[←h2,List.getElem?_take,if_pos hmod,List.getElem?_drop,e]
   rw[h3,←h1,List.getElem?_take,if_pos hj,List.getElem?_drop];simp[World.cell?,hh]
  ·rw[List.getElem?_eq_none (by rw[List.length_take];omega),List.getElem?_eq_none (by rw[hfl,hll];omega)]
 ·obtain⟨i,hi,rfl⟩:=List.getElem_of_mem hd
  exact(hlp i hi).1
theorem Z3R {k:IntKind} {t:TypeId} {fuel:Nat} {cs:List Value} {x:DataW H×List MemPlace} (ht:P.underlying t=some (.int k)) (h:DataW.trod enc P W base sp held fuel t cs=some x):∃ n,cs=[.int k n]∧(Lit.int k n).wf=true:=by
 obtain⟨n,h1,_,h2⟩:=DataW.trod_int ht h;exact⟨n,h1,h2⟩
theorem Zdp {n:Int} (h:(Lit.int .i64 n).wf=true):Z22 n:=by
 simp[Lit.wf,IntKind.min,IntKind.max,IntKind.signed,IntKind.bits] at h;exact h
theorem ZmE {n:Int} (h:(Lit.int .u64 n).wf=true):Z0G n:=by
 simp[Lit.wf,IntKind.min,IntKind.max,IntKind.signed,IntKind.bits] at h;unfold Z0G;omega
theorem Zo1 {n:Int} (h:(Lit.int .u8 n).wf=true):0≤n∧n < 256:=by
 simp[Lit.wf,IntKind.min,IntKind.max,IntKind.signed,IntKind.bits] at h;omega
end
section
variable {H:Type} {enc:TypeId×Value->H} {W:World} {base:Nat} {sp:Nat->Bool} {held:Bool}
theorem Z8B {fuel:Nat} {cs:List Value} {x:DataW H×List MemPlace} (h:DataW.trod enc Tryz.prog W base sp held fuel 57 cs=some x) :
  ∃ (a:Option Addr) (n c:Nat) (l:List Int),cs=[.slice a n c]∧RS (Z4n W) a n c 1 0 (l.map (.int .i64 ·))∧l.length=n∧∀ k∈l,Z22 k:=by
 obtain⟨a,n,c,l,h1,h2,h3,h4,-,-⟩:=Zc4 (f:=fun k=>[Value.int .i64 k]) (size:=1) (by decide) (fun _=>rfl) Z22 (show Tryz.prog.underlying 57=some (.slice 3) by kernel_rfl) (by kernel_rfl)
  (fun fuel cs x h=>by
   obtain⟨n,h1,h2⟩:=Z3R (show Tryz.prog.underlying 3=some (.int .i64) by kernel_rfl) h
   exact⟨n,h1,Zdp h2⟩) h
 refine⟨a,n,c,l,h1,?_,h3,h4⟩
 rwa [←List.map_eq_flatMap] at h2
theorem Zo2 {α:Type} {l:List α} (h:l.length=4):∃ a b c d,l=[a,b,c,d]:=by
 match l,h with
 | [a,b,c,d],_=>exact⟨a,b,c,d,rfl⟩
theorem Zo3 {α:Type} {l:List α} (h:l.length=9):∃ a b c d e f g i j,l=[a,b,c,d,e,f,g,i,j]:=by
 match l,h with
 | [a,b,c,d,e,f,g,i,j],_=>exact⟨a,b,c,d,e,f,g,i,j,rfl⟩
theorem Zo4 {α:Type} {l:List α} (h:l.length=3):∃ a b c,l=[a,b,c]:=by
 match l,h with
 | [a,b,c],_=>exact⟨a,b,c,rfl⟩
theorem Zo5 {α:Type} {l:List α} (h:l.length=2):∃ a b,l=[a,b]:=by
 match l,h with
 | [a,b],_=>exact⟨a,b,rfl⟩
theorem Zo6 {α:Type} {l:List α} (h:l.length=1):∃ a,l=[a]:=by
 match l,h with
 | [a],_=>exact⟨a,rfl⟩
theorem Zg7 {fuel:Nat} {cs:List Value} {x:DataW H×List MemPlace} (h:DataW.trod enc Tryz.prog W base sp held fuel 89 cs=some x) :
  ∃ a b c d:Int,cs=[.int .u64 a,.int .u64 b,.int .u64 c,.int .u64 d]∧Z0G a∧Z0G b∧Z0G c∧Z0G d:=by
 obtain⟨xs,m,_,_,hl,hxl,hi⟩:=DataW.trod_array (show Tryz.prog.underlying 89=some (.array 4 87) by kernel_rfl) h;rw[show Tryz.prog.cellsOf 89=4 by kernel_rfl] at hl;rw[show Tryz.prog.cellsOf 87=1 by kernel_rfl] at hi
 have hu:Tryz.prog.underlying 87=some (.int .u64):=by kernel_rfl
 obtain⟨a,b,c,d,rfl⟩:=Zo2 hl
 have get:∀ i,(hi4:i < 4)->∃ n,(([a,b,c,d]:List Value).drop (i * 1)).take 1=[.int .u64 n]∧Z0G n:=fun i hi4=>by
  have h1:=hi i hi4;rw[List.getElem?_eq_getElem (by omega)] at h1;obtain⟨n,h2,h3⟩:=Z3R hu h1;exact⟨n,h2,ZmE h3⟩
 obtain⟨n0,e0,k0⟩:=get 0 (by decide);obtain⟨n1,e1,k1⟩:=get 1 (by decide)
 obtain⟨n2,e2,k2⟩:=get 2 (by decide);obtain⟨n3,e3,k3⟩:=get 3 (by decide)
 simp at e0 e1 e2 e3;subst e0 e1 e2 e3;exact⟨_,_,_,_,rfl,k0,k1,k2,k3⟩
theorem Z1L {P:Program} {t:Nat} {l:List (Nat×Nat)} (h:(match P.underlying t with
  | some (.struct fs)=>decide (fs.toList.map (fun f=>(f.type,f.offset))=l)
  | _=>false)=true):∃ fs,P.underlying t=some (.struct fs)∧fs.toList.map (fun f=>(f.type,f.offset))=l:=by
 split at h
 ·rename_i fs hu
  exact⟨fs,hu,of_decide_eq_true h⟩
 ·cases h
theorem Z6l {P:Program} {fs:Array Field} {l:List (Nat×Nat)} {q:Nat->Nat->Prop} (hf:fs.toList.map (fun f=>(f.type,f.offset))=l) (h:∀ (i:Nat) (f:Field),fs[i]?=some f->q f.type f.offset):∀ (i t o:Nat),l[i]?=some (t,o)->q t o:=by
 subst hf;intro i t o hi;simp only[List.getElem?_map,Option.map_eq_some_iff,Prod.mk.injEq] at hi;obtain⟨f,h1,rfl,rfl⟩:=hi;exact h i f (by simpa using h1)
theorem Z37 {P:Program} {t:TypeId} {fs:Array Field} {fuel:Nat} {cs:List Value} {x:DataW H×List MemPlace} (ht:P.underlying t=some (.struct fs)) (h:DataW.trod enc P W base sp held fuel t cs=some x) :
  cs.length=P.cellsOf t∧∀ (i:Nat) (f:Field),fs[i]?=some f->∃ fuel y,DataW.trod enc P W base sp held fuel f.type ((cs.drop f.offset).take (P.cellsOf f.type))=some y:=by
 obtain⟨xs,m,_,_,hl,hxl,hi⟩:=DataW.trod_struct ht h;refine⟨hl,fun i f hf=>?_⟩;have hlt:=(Array.getElem?_eq_some_iff.1 hf).1
 have h1:=hi i f hf;rw[List.getElem?_eq_getElem (by omega)] at h1;exact⟨_,_,h1⟩
theorem Zg8 {fuel:Nat} {cs:List Value} {x:DataW H×List MemPlace} (h:DataW.trod enc Tryz.prog W base sp held fuel 91 cs=some x):∃ d:Nd,cs=d.cells∧NdW (Z4n W) d:=by
 obtain⟨fs,ht,hf⟩:∃ fs,Tryz.prog.underlying 91=some (.struct fs)∧fs.toList.map (fun f=>(f.type,f.offset))=[(5,0),(89,1),(9,5),(3,6),(3,7),(57,8)]:=Z1L (by kernel_rfl);obtain⟨hl,hi⟩:=Z37 ht h
 have hi:∀ (i t o:Nat),[(5,0),(89,1),(9,5),(3,6),(3,7),(57,8)][i]?=some (t,o)->∃ fuel y,DataW.trod enc Tryz.prog W base sp held fuel t ((cs.drop o).take (Tryz.prog.cellsOf t))=some y:=Z6l (P:=Tryz.prog) hf hi;rw[show Tryz.prog.cellsOf 91=9 by kernel_rfl] at hl;obtain⟨c0,c1,c2,c3,c4,c5,c6,c7,c8,rfl⟩:=Zo3 hl;obtain⟨_,_,h0⟩:=hi 0 _ _ rfl;obtain⟨_,_,h1⟩:=hi 1 _ _ rfl;obtain⟨_,_,h2⟩:=hi 2 _ _ rfl;obtain⟨_,_,h3⟩:=hi 3 _ _ rfl;obtain⟨_,_,h4⟩:=hi 4 _ _ rfl;obtain⟨_,_,h5⟩:=hi 5 _ _ rfl;rw[show Tryz.prog.cellsOf 5=1 by kernel_rfl] at h0;rw[show Tryz.prog.cellsOf 89=4 by kernel_rfl] at h1;rw[show Tryz.prog.cellsOf 9=1 by kernel_rfl] at h2;rw[show Tryz.prog.cellsOf 3=1 by kernel_rfl] at h3 h4;rw[show Tryz.prog.cellsOf 57=1 by kernel_rfl] at h5;obtain⟨k,e0,w0⟩:=Z3R (show Tryz.prog.underlying 5=some (.int .u8) by kernel_rfl) h0;obtain⟨a,b,c,d,e1,w1,w2,w3,w4⟩:=Zg7 h1;obtain⟨s,e2,-,ws⟩:=DataW.trod_string (show Tryz.prog.underlying 9=some .string by kernel_rfl) h2;obtain⟨lo,e3,wl⟩:=Z3R (show Tryz.prog.underlying 3=some (.int .i64) by kernel_rfl) h3;obtain⟨hi',e4,wh⟩:=Z3R (show Tryz.prog.underlying 3=some (.int .i64) by kernel_rfl) h4;obtain⟨ka,kn,kc,kids,e5,hrs,hkn,hkids⟩:=Z8B h5;simp at e0 e1 e2 e3 e4 e5;obtain⟨e1a,e1b,e1c,e1d⟩:=e1;subst e0 e1a e1b e1c e1d e2 e3 e4 e5;exact⟨⟨k,a,b,c,d,s,lo,hi',ka,kn,kc,kids⟩,rfl,Zo1 w0,w1,w2,w3,w4,Zdp wl,Zdp wh,hrs,hkids,by unfold maxLen at ws;omega⟩
theorem Zg9 {fuel:Nat} {cs:List Value} {x:DataW H×List MemPlace} (h:DataW.trod enc Tryz.prog W base sp held fuel 42 cs=some x):∃ t:Tr,cs=t.cells∧TrW (Z4n W) t:=by
 obtain⟨fs,ht,hf⟩:∃ fs,Tryz.prog.underlying 42=some (.struct fs)∧fs.toList.map (fun f=>(f.type,f.offset))=[(40,0),(3,1)]:=Z1L (by kernel_rfl);obtain⟨hl,hi⟩:=Z37 ht h
 have hi:∀ (i t o:Nat),[(40,0),(3,1)][i]?=some (t,o)->∃ fuel y,DataW.trod enc Tryz.prog W base sp held fuel t ((cs.drop o).take (Tryz.prog.cellsOf t))=some y:=Z6l (P:=Tryz.prog) hf hi;rw[show Tryz.prog.cellsOf 42=2 by kernel_rfl] at hl;obtain⟨c0,c1,rfl⟩:=Zo5 hl;obtain⟨_,_,h0⟩:=hi 0 _ _ rfl;obtain⟨_,_,h1⟩:=hi 1 _ _ rfl;rw[show Tryz.prog.cellsOf 40=1 by kernel_rfl] at h0;rw[show Tryz.prog.cellsOf 3=1 by kernel_rfl] at h1;obtain⟨a,n,c,l,e0,hrs,hn,hok,-,-⟩:=Zc4 (f:=Nd.cells) (size:=9) (by decide) Nd.cells_len (NdW (Z4n W)) (show Tryz.prog.underlying 40=some (.slice 91) by kernel_rfl) (by kernel_rfl) (fun fuel cs x h=>Zg8 h) h0;obtain⟨r,e1,wr⟩:=Z3R (show Tryz.prog.underlying 3=some (.int .i64) by kernel_rfl) h1;simp at e0 e1;subst e0 e1;exact⟨⟨l,a,n,c,r⟩,rfl,hrs,hok,Zdp wr⟩
theorem ZiS {fuel:Nat} {cs:List Value} {x:DataW H×List MemPlace} (h:DataW.trod enc Tryz.prog W base sp held fuel 46 cs=some x):∃ d:Df,cs=d.cells∧DfW (Z4n W) d:=by
 obtain⟨fs,ht,hf⟩:∃ fs,Tryz.prog.underlying 46=some (.struct fs)∧fs.toList.map (fun f=>(f.type,f.offset))=[(9,0),(42,1)]:=Z1L (by kernel_rfl);obtain⟨hl,hi⟩:=Z37 ht h
 have hi:∀ (i t o:Nat),[(9,0),(42,1)][i]?=some (t,o)->∃ fuel y,DataW.trod enc Tryz.prog W base sp held fuel t ((cs.drop o).take (Tryz.prog.cellsOf t))=some y:=Z6l (P:=Tryz.prog) hf hi;rw[show Tryz.prog.cellsOf 46=3 by kernel_rfl] at hl;obtain⟨c0,c1,c2,rfl⟩:=Zo4 hl;obtain⟨_,_,h0⟩:=hi 0 _ _ rfl;obtain⟨_,_,h1⟩:=hi 1 _ _ rfl;rw[show Tryz.prog.cellsOf 9=1 by kernel_rfl] at h0;rw[show Tryz.prog.cellsOf 42=2 by kernel_rfl] at h1;obtain⟨s,e0,-,ws⟩:=DataW.trod_string (show Tryz.prog.underlying 9=some .string by kernel_rfl) h0;obtain⟨t,e1,ht⟩:=Zg9 h1;simp[Tr.cells] at e0 e1;obtain⟨e1a,e1b⟩:=e1;subst e0 e1a e1b;exact⟨⟨s,t⟩,rfl,by unfold maxLen at ws;exact ws,ht⟩
theorem Zax {fuel:Nat} {cs:List Value} {x:DataW H×List MemPlace} (h:DataW.trod enc Tryz.prog W base sp held fuel 30 cs=some x):∃ g:Gr,cs=[.slice g.a g.n g.c]∧GrW (Z4n W) g:=by
 obtain⟨fs,ht,hf⟩:∃ fs,Tryz.prog.underlying 30=some (.struct fs)∧fs.toList.map (fun f=>(f.type,f.offset))=[(28,0)]:=Z1L (by kernel_rfl);obtain⟨hl,hi⟩:=Z37 ht h
 have hi:∀ (i t o:Nat),[(28,0)][i]?=some (t,o)->∃ fuel y,DataW.trod enc Tryz.prog W base sp held fuel t ((cs.drop o).take (Tryz.prog.cellsOf t))=some y:=Z6l (P:=Tryz.prog) hf hi;rw[show Tryz.prog.cellsOf 30=1 by kernel_rfl] at hl;obtain⟨c0,rfl⟩:=Zo6 hl;obtain⟨_,_,h0⟩:=hi 0 _ _ rfl;rw[show Tryz.prog.cellsOf 28=1 by kernel_rfl] at h0;obtain⟨a,n,c,l,e0,hrs,hn,hok,-,-⟩:=Zc4 (f:=Df.cells) (size:=3) (by decide) Df.cells_len (DfW (Z4n W)) (show Tryz.prog.underlying 28=some (.slice 46) by kernel_rfl) (by kernel_rfl) (fun fuel cs x h=>ZiS h) h0;exact⟨⟨l,a,n,c⟩,e0,hrs,hok⟩
theorem ZmF {P:Program} {w:World} {r:Reach} {base t:Nat} {v:Value} {fs:Array Field} (ht:P.underlying t=some (.struct fs)) (h:Value.okWide P w r base t v):∃ cs,v=.agg cs:=by
 obtain⟨cs,h1,-⟩:=Go.WideShapes.okWide_struct ht h;exact⟨cs,h1⟩
set_option maxRecDepth 100000 in
theorem Zc5 {W:World} {base:Nat} {v:Value} {d:DataW H} {p:List MemPlace} (h:DataW.Trod enc Tryz.prog W 0 (fun _=>true) true 30 v d p) (hv:Value.okWide Tryz.prog W .any base 30 v):∃ g:Gr,v=g.val∧GrW (Z4n W) g:=by
 obtain⟨fs,ht,-⟩:=Z1L (P:=Tryz.prog) (t:=30) (l:=[(28,0)]) (by kernel_rfl);obtain⟨cs,rfl⟩:=ZmF ht hv
 obtain⟨fuel,hf⟩:=h;obtain⟨g,e,hg⟩:=Zax hf;refine⟨g,?_,hg⟩;have e':cs.toList=[.slice g.a g.n g.c]:=e
 cases cs;simp only at e';subst e';rfl
end
theorem Z4L {H:Type} {enc:TypeId×Value->H} {P:Program} (hl:laidOutB P=true) {W W':World} (hk:OldKept W W'):∀ {ts:List TypeId} {vs:List Value} {ds:List (DataW H)} {ps:List MemPlace},(∀ t∈ts,P.readableRec t=true∧t < P.types.size) ->
  DataW.TrodAll enc P W 0 (fun _=>true) true ts vs ds ps->(∀ p∈ps,p.block < W.heap.size)->∀ sp:Nat->Bool,(∀ p∈ps,sp p.block=true)->DataW.TrodAll enc P W' 0 sp true ts vs ds ps
 | [],[],[],_,_,h,_,_,_=>h
 | t::ts,v::vs,d::ds,_,ht,⟨p,q,h1,h2,e⟩,hlt,sp,hs=>by
  subst e;refine⟨p,q,?_,?_,rfl⟩
  ·refine Go.WideElems.Trod_stays hl (ht t (.head _)).1 (ht t (.head _)).2 h1 (fun x hx=>?_) (fun x hx=>hs x (List.mem_append.2 (.inl hx)))
   have hlt':=hlt x (List.mem_append.2 (.inl hx))
   cases x with
   | cell b o=>exact World.cell?_of_block (w:=W) (hk.old b hlt')
   | map b=>exact hk.old b hlt'
  ·exact Z4L hl hk (fun t h=>ht t (.tail _ h)) h2 (fun x hx=>hlt x (List.mem_append.2 (.inr hx))) sp (fun x hx=>hs x (List.mem_append.2 (.inr hx)))
theorem Zay:mapsRowed Tryz.prog=true:=by kernel_rfl
theorem Z9o:Tryz.prog.stopsHeard=true:=by kernel_rfl
theorem Zc6:Tryz.prog.mayEnter=true:=by kernel_rfl
section
variable {H:Type} {enc:TypeId×Value->H}
end
structure Stp where
 p:Int
 w:Int
 r:Int
 pa:Option Addr
 pn:Nat
 pc:Nat
 pl:List Int
 at_:Int
def Stp.cells (s:Stp):List Value:=[.int .u8 s.p,.int .u8 s.w,.int .i64 s.r,.slice s.pa s.pn s.pc,.int .i64 s.at_]
def Stp.val (s:Stp):Value:=.agg #[.int .u8 s.p,.int .u8 s.w,.int .i64 s.r,.slice s.pa s.pn s.pc,.int .i64 s.at_]
theorem Stp.cells_len (s:Stp):s.cells.length=5:=rfl
structure RwW (I:GH) (x:Rw):Prop where
 rs:RS I x.a x.n x.c 1 0 (x.l.map (.int .i64 ·))
 val:∀ k∈x.l,Z22 k
theorem RwW.mono {I I':GH} {x:Rw} (h:RwW I x) (hI:∀ b o,I b=some o->I' b=some o):RwW I' x:=⟨h.rs.mono hI,h.val⟩
section
variable {H:Type} {enc:TypeId×Value->H}
set_option maxRecDepth 100000 in
theorem ZiT {W:World} {base:Nat} {v:Value} {d:DataW H} {p:List MemPlace} (h:DataW.Trod enc Tryz.prog W 0 (fun _=>true) true 57 v d p) (hv:Value.okWide Tryz.prog W .any base 57 v):∃ x:Rw,v=x.val∧RwW (Z4n W) x:=by
 have ht:Tryz.prog.underlying 57=some (.slice 3):=by kernel_rfl
 obtain⟨a,n,c,rfl⟩:=Go.WideShapes.okWide_slice ht hv;obtain⟨fuel,hf⟩:=h;obtain⟨a',n',c',l,e0,hrs,hn,hl⟩:=Z8B hf;have e1:[Value.slice a n c]=[Value.slice a' n' c']:=e0;simp only[List.cons.injEq,Value.slice.injEq,and_true] at e1;obtain⟨rfl,rfl,rfl⟩:=e1;exact⟨⟨a,n,c,l⟩,rfl,hrs,hl⟩
end
theorem Z5O (I:GH) (c:UInt8):Spec Tryz.prog 191 [.int .u8 c.toNat] I [] (fun v I' M'=>v=.bool (Z1V c)∧I'=I∧M'=[]):=by
 refine Z01 [] Z00 Tryz.func191 rfl rfl rfl ?_;intro B h0
 repeat' (refine GuardOb.mk (fun h=>?_) (fun h=>?_))
 all_goals
  refine⟨_,_,.refl,?_⟩;refine⟨?_,rfl,rfl⟩
  simp_all[Z1V]
  all_goals first
   | omega
   |(rw[Bool.eq_iff_iff];simp;omega)
theorem Zc7 (I:GH) (c:UInt8):Spec Tryz.prog 192 [.int .u8 c.toNat] I [] (fun v I' M'=>v=.bool (Z9f c)∧I'=I∧M'=[]):=by
 refine Z01 [] Z00 Tryz.func192 rfl rfl rfl ?_;intro B h0
 repeat' (refine GuardOb.mk (fun h=>?_) (fun h=>?_))
 all_goals
  refine⟨_,_,.refl,?_⟩;refine⟨?_,rfl,rfl⟩
  simp_all[Z9f]
  all_goals first
   | omega
   |(rw[Bool.eq_iff_iff];simp;omega)
theorem ZeA (I:GH) (s:ByteArray) (hs:s.size≤140737488355328):Spec Tryz.prog 157 [.string s] I [] (fun v I' M'=>v=.string (s.extract 0 (Z0V s))∧I'=I∧M'=[]):=by
 refine Z01 [] Z00 Tryz.func157 rfl rfl rfl ?_;intro B h0
 have e0:∀ {s:ByteArray},Z0V s=0->s.extract 0 (Z0V s)=⟨#[]⟩:=fun h=>by rw[h];apply ByteArray.ext;simp[ByteArray.data_extract]
 refine GuardOb.mk (fun h=>?_) (fun h=>?_)
 ·have h1:s≠⟨#[]⟩:=by simpa using h
  have hpos:0 < s.size:=by
   refine Nat.pos_of_ne_zero fun e=>h1 ?_
   apply ByteArray.ext
   exact Array.eq_empty_of_size_eq_zero e
  refine StrOb.mk 0 rfl hpos ?_;refine CallOb.mk [] [] _ (.refl _) (Z5O I s[0]) ?_;rintro v I' M' - ⟨rfl,rfl,rfl⟩;refine CondOb.mk (fun h=>?_) (fun h=>?_)
  ·have hl:Z1V s[0]=false:=by simpa using h
   refine⟨_,_,.refl,?_,rfl,rfl⟩;rw[e0]
   ·unfold Z0V
    cases hd:s.data.toList with
    | nil=>rfl
    | cons c r=>
     have:s[0]=c:=by
      show s.data.toList[0]=c
      simp only[hd];rfl
     rw[this] at hl;simp[hl]
  ·have hl:Z1V s[0]=true:=by simpa using h
   refine LoopOb.inv (ι:=Nat) (fun i=>{ fl:=[(0,.val (.string s)),(3,.val (.int .i64 i))],gi:=I' }) (fun i=>i≤s.size∧∀ j (h:j < s.size),1≤j->j < i->Z1q s[j]=true) (fun i=>s.size - i) ?_ ?_
   ·exact⟨0,⟨by omega,fun j _ h1 h2=>by omega⟩,.refl,aF2,.nil⟩
   ·rintro i ⟨hi2,hi3⟩
    have hch0:Z1q s[0]=true:=by simp[Z1q,hl]
    have next:∀ (hlt:i < s.size),Z1q s[i]=true->(i+1≤s.size∧∀ k (h:k < s.size),1≤k->k < i+1->Z1q s[k]=true)∧s.size - (i+1) < s.size - i:=fun hlt hc=>
     ⟨⟨by omega,fun j hj h1 h2=>by
      by_cases e:j=i
      ·subst e;exact hc
      ·exact hi3 j hj h1 (by omega)⟩,by omega⟩
    have out:(∀ (h:i < s.size),Z1q s[i]=false)->s.extract 0 i=s.extract 0 (Z0V s):=fun hn=>by
     have hi1:1≤i:=by
      apply Nat.one_le_iff_ne_zero.2
      intro e;subst e;rw[hn hpos] at hch0;cases hch0
     rw[Z8t hpos hl hi1 hi2 hi3 hn]
    have hsz:(s.extract 0 i).size≤140737488355328:=by
     rw[ByteArray.size_extract];omega
    have hwr:IntKind.i64.wrap ((i:Int)+1)=((i+1:Nat):Int):=by
     rw[Z08 ⟨by omega,by omega⟩];omega
    refine GuardOb.mk (fun h=>?_) (fun h=>?_)
    ·have hlt:i < s.size:=by simpa using h
     refine StrOb.mk i rfl hlt ?_;refine CallOb.mk [] [] _ (.refl _) (Z5O I' s[i]) ?_;rintro v I' M' - ⟨rfl,rfl,rfl⟩;refine GuardOb.mk (fun h=>?_) (fun h=>?_)
     ·refine StrOb.mk i rfl hlt ?_
      refine CallOb.mk [] [] _ (.refl _) (Zc7 _ s[i]) ?_;rintro v I' M' - ⟨rfl,rfl,rfl⟩;refine CondOb.mk (fun h2=>?_) (fun h2=>?_)
      ·refine ArithOb.mk _ hwr ?_
       exact⟨i+1,next hlt (by simp only[Z1q];rw[show Z9f s[i]=true from h2];simp),.refl,aF2,.nil⟩
      ·refine SliceOb.mk 0 i rfl rfl (by omega) (by omega) ?_
       refine⟨_,_,.refl,?_,rfl,rfl⟩;rw[←out fun _=>by simp only[Z1q];rw[show Z1V s[i]=false from h,show Z9f s[i]=false from h2];rfl]
     ·refine ArithOb.mk _ hwr ?_
      exact⟨i+1,next hlt (by simp only[Z1q];rw[show Z1V s[i]=true from h];simp),.refl,aF2,.nil⟩
    ·have hge:¬ i < s.size:=by simpa using h
     refine SliceOb.mk 0 i rfl rfl (by omega) (by omega) ?_;refine⟨_,_,.refl,?_,rfl,rfl⟩;rw[←out fun h=>(hge h).elim]
 ·have h1:s=⟨#[]⟩:=by simpa using h
  subst h1;refine⟨_,_,.refl,?_,rfl,rfl⟩;rw[e0]
  rfl
theorem Z7b (I:GH) (s:ByteArray):Spec Tryz.prog 124 [.string s] I [] (fun v I' M'=>v=.bool (Z0u s)∧I'=I∧M'=[]):=by
 refine Z01 [] Z00 Tryz.func124 rfl rfl rfl ?_;intro B h0;refine GuardOb.mk (fun h1=>?_) (fun h1=>?_)
 ·refine GuardOb.mk (fun h2=>?_) (fun h2=>?_)
  ·have h2':s.size≤32:=by simp at h2;omega
   refine CallOb.mk [] [] _ (.refl _) (ZeA I s (by omega)) ?_;rintro v I' M' - ⟨rfl,rfl,rfl⟩;refine⟨_,_,.refl,?_,rfl,rfl⟩
   have hle:=Z8u s
   have e1:(s.extract 0 (Z0V s)).size=Z0V s:=by rw[ByteArray.size_extract];omega
   have e2:decide (s.extract 0 (Z0V s)=s)=decide (Z0V s=s.size):=by
    rw[decide_eq_decide]
    constructor
    ·intro h
     rw[←e1,h]
    ·intro h
     rw[h]
     apply ByteArray.ext
     simp[ByteArray.data_extract]
   have h1':decide (s≠⟨#[]⟩)=true:=by simpa using h1
   simp only[Z0u,h1',Bool.true_and,show decide (s.size≤32)=true from decide_eq_true h2',←e2]
  ·refine⟨_,_,.refl,?_,rfl,rfl⟩
   have h1':decide (s≠⟨#[]⟩)=true:=by simpa using h1
   have h2':decide (s.size≤32)=false:=by simp at h2;simp;omega
   simp only[Z0u,h1',h2',Bool.true_and,Bool.false_and]
 ·refine⟨_,_,.refl,?_,rfl,rfl⟩
  have h1':decide (s≠⟨#[]⟩)=false:=by simpa using h1
  simp only[Z0u,h1',Bool.false_and]
theorem i0:Z22 0:=⟨by decide,by decide⟩
def Zaz (k:Int) (s:ByteArray):Nd:=⟨k,0,0,0,0,s,0,0,none,0,0,[]⟩
def Z3s (d:Nd):Bool:=decide (d.t=⟨#[]⟩) && (decide (d.lo=0) && decide (d.hi=0))
def Zo7 (d:Nd) (n:Int):Bool:=
 bif decide (d.k=0) then Z3s d && decide (n=0) else
 bif decide (d.k=1) then Z3s d && decide (n=0) else
 bif decide (d.k=2) then decide (d.lo=0) && (decide (d.hi=0) && (decide (n=0) && (decide ((1:Int)≤d.t.size) && decide ((d.t.size:Int)≤255)))) else
 bif decide (d.k=3) then decide (d.lo=0) && (decide (d.hi=0) && (decide (n=0) && Z0u d.t)) else
 bif decide (d.k=4) || decide (d.k=5) then Z3s d && decide (2≤n) else
 bif decide (d.k=6) then decide (d.t=⟨#[]⟩) && (decide (n=1) && (decide (0≤d.lo) && (decide (d.lo≤99) && (decide (d.hi=-1) || (decide (d.lo≤d.hi) && decide (d.hi≤99)))))) else
 bif decide (d.k=7) || decide (d.k=8) then Z3s d && decide (n=1) else
 bif decide (d.k=9) then decide (d.lo=0) && (decide (d.hi=0) && (decide (n=1) && Z0u d.t)) else false
def Zga (z:Bool) (d:Nd) (n:Int):Bool:=
 bif decide (d.k=0) then z && (Z3s d && decide (n=0)) else
 bif decide (d.k=1) then Z3s d && decide (n=0) else
 bif decide (d.k=2) then z && (decide (d.lo=0) && (decide (d.hi=0) && (decide (n=0) && (decide ((1:Int)≤d.t.size) && decide ((d.t.size:Int)≤255))))) else
 bif decide (d.k=3) then z && (decide (d.lo=0) && (decide (d.hi=0) && (decide (n=0) && Z0u d.t))) else
 bif decide (d.k=4) || decide (d.k=5) then z && (Z3s d && decide (2≤n)) else
 bif decide (d.k=6) then z && (decide (d.t=⟨#[]⟩) && (decide (n=1) && (decide (0≤d.lo) && (decide (d.lo≤99) && (decide (d.hi=-1) || (decide (d.lo≤d.hi) && decide (d.hi≤99))))))) else
 bif decide (d.k=7) || decide (d.k=8) then z && (Z3s d && decide (n=1)) else
 bif decide (d.k=9) then z && (decide (d.lo=0) && (decide (d.hi=0) && (decide (n=1) && Z0u d.t))) else false
theorem ZeB (s:ByteArray):decide (s=⟨#[]⟩)=decide (s.size=0):=by
 rw[Bool.eq_iff_iff];simp only[decide_eq_true_eq]
 constructor
 ·rintro rfl
  rfl
 ·intro h
  cases s with
  | mk d=>
   have:d.size=0:=h;simp[Array.eq_empty_of_size_eq_zero this]
theorem ZiU {d:Nd} (hk:0≤d.k∧d.k < 256) (n:Int):Zga d.setZ d n=Z31 d n:=by
 by_cases h10:10≤d.k
 ·have e:Z31 d n=false:=by simp[Z31,h10]
  rw[e];unfold Zga
  have h:∀ j:Int,j < 10->decide (d.k=j)=false:=fun j hj=>by simp;omega
  rw[h 0,h 1,h 2,h 3,h 4,h 5,h 6,h 7,h 8,h 9]<;>first | rfl | omega
 have hcases:d.k=0∨d.k=1∨d.k=2∨d.k=3∨d.k=4∨d.k=5∨d.k=6∨d.k=7∨d.k=8∨d.k=9:=by omega
 generalize hz:d.setZ=z;have hsz:=ZeB d.t
 have hemp:(d.t=ByteArray.empty) ↔ d.t.size=0:=by
  rw[←decide_eq_decide];exact hsz
 rcases hcases with h | h | h | h | h | h | h | h | h | h<;>rw[Bool.eq_iff_iff]<;>simp[Zga,Z31,h,hz,Z3s,Z9g,Z6P,countsL,hemp]<;>cases z<;>first | (simp;done) | grind
theorem BinOb.eq4z {P:Program} {E:Env} (hE:EOK P E) {t e:Nat} {ti ei:TI} {x y:Operand} (ht:E t=some ti) (hts:ti.sh=.array 4 e) (he:E e=some ei) {k:IntKind} (hes:ei.sh=.int k)
  (hg:P.eqGuardType P.depth t=false) {a0 a1 a2 a3 b0 b1 b2 b3:Int} {V:Value->Prop} {other:Prop} (z:Bool) (hz:(a0 == b0 && (a1 == b1 && (a2 == b2 && a3 == b3)))=z)
  (h:V (.bool z)):BinOb P .eql t x y (.val (.agg #[.int k a0,.int k a1,.int k a2,.int k a3])) (.val (.agg #[.int k b0,.int k b1,.int k b2,.int k b3])) V other:=
 .eq4 hE ht hts he hes hg (by rw[hz];exact h)
set_option maxHeartbeats 40000000 in
set_option maxRecDepth 20000 in
theorem Zgb {I:GH} {d:Nd} (hk:0≤d.k∧d.k < 256) (n:Int):Spec Tryz.prog 193 [d.val,.int .i64 n] I []
  (fun v I' M'=>v=.bool (Z31 d n)∧I'=I∧M'=[]):=by
 rw[←ZiU hk];obtain⟨k,s0,s1,s2,s3,s,lo,hi,ka,kn,kc,kids⟩:=d
 clear hk;refine Z01 [] Z00 Tryz.func193 rfl rfl rfl ?_;intro B h0;obtain⟨z,hz⟩:∃ z,Nd.setZ ⟨k,s0,s1,s2,s3,s,lo,hi,ka,kn,kc,kids⟩=z:=⟨_,rfl⟩;rw[hz]
 refine BinOb.eq4z Z00 (e:=87) rfl rfl rfl rfl (by kernel_rfl) z hz ?_
 repeat' (first
  | refine GuardOb.mk (fun h=>?_) (fun h=>?_)
  | refine CondOb.mk (fun h=>?_) (fun h=>?_)
  | refine BinOb.eq4z Z00 (e:=87) rfl rfl rfl rfl (by kernel_rfl) z hz ?_
  |(refine CallOb.mk [] [] _ (.refl _) (Z7b _ s) ?_;rintro v I' M' - ⟨rfl,rfl,rfl⟩))
 all_goals clear hz
 all_goals first
  |(refine⟨_,_,.refl,?_,rfl,rfl⟩;simp_all[Zga,Z3s];done)
  |(refine⟨_,_,.refl,?_,rfl,rfl⟩;simp_all[Zga,Z3s];omega)
  |(exfalso;simp_all;done)
  |(exfalso;simp_all;omega)
  | skip
def b2i (b:Bool):Int:=bif b then 1 else 0
theorem Z45 {i:Nat}:∀ {ks:List Int} {s:List Bool} {k:Int},k∈ks->(k < 0∨(i:Int)≤k)->Z1g i ks s=none
 | a::ks,s,k,hk,h=>by
  unfold Z1g
  cases hb:decide (a < 0) || (decide ((i:Int)≤a) || s.getD a.toNat false) with
  | true=>rfl
  | false=>
   simp only[cond_false];simp only[Bool.or_eq_false_iff,decide_eq_false_iff_not] at hb
   rcases List.mem_cons.1 hk with rfl | hk
   ·rcases h with h | h
    ·exact(hb.1 h).elim
    ·exact(hb.2.1 h).elim
   ·exact Z45 hk h
theorem Z3t {root:Int}:∀ {s:List Bool} {i j:Nat},j < s.length->(s.getD j false == decide (((i+j:Nat):Int)=root))=true->Z24 root i s=false
 | b::s,i,0,_,h=>by
  unfold Z24;rw[show (b == decide ((i:Int)=root))=true by simpa using h];rfl
 | b::s,i,j+1,hj,h=>by
  unfold Z24
  cases b == decide ((i:Int)=root) with
  | true=>rfl
  | false=>
   simp only[cond_false];refine Z3t (j:=j) (by simpa using hj) ?_
   rw[show i+1+j=i+(j+1) by omega]
   simpa using h
theorem Z7c {root:Int}:∀ {s:List Bool} {i:Nat},(∀ j,j < s.length->(s.getD j false == decide (((i+j:Nat):Int)=root))=false)->Z24 root i s=true
 | [],i,h=>rfl
 | b::s,i,h=>by
  unfold Z24;have h0:=h 0 (by simp);rw[show (b == decide ((i:Int)=root))=false by simpa using h0]
  simp only[cond_false]
  refine Z7c fun j hj=>?_
  have:=h (j+1) (by simpa using hj);rw[show i+1+j=i+(j+1) by omega]
  simpa using this
structure ParInv (t:Tr) (P:List Int) (W:Int):Prop where
 len:P.length=t.ns.length
 bd:∀ c∈P,0≤c∧c≤W
def ParAt (t:Tr) (P:List Int) (rest:List Bool->Option (List Bool)):Prop:=
 (∃ s:List Bool,s.length=t.ns.length∧P=s.map b2i∧Z0n 0 t.ns (List.replicate t.ns.length false)=rest s) ∨
 (Z0n 0 t.ns (List.replicate t.ns.length false)=none∧∃ k,k < t.ns.length∧2≤P.getD k 0)
def Z6a (t:Tr) (i:Nat) (s:List Bool):Option (List Bool):=Z0n i (t.ns.drop i) s
def Z8c (t:Tr) (i:Nat) (d:Nd) (k:Nat) (s:List Bool):Option (List Bool):=match Z1g i (d.kids.drop k) s with
 | some s'=>Z0n (i+1) (t.ns.drop (i+1)) s'
 | none=>none
theorem Z5l {t:Tr} (h:Z0n 0 t.ns (List.replicate t.ns.length false)=none):right t=false:=by
 simp[right,h]
theorem ParAt.start (t:Tr):ParAt t (List.replicate t.ns.length 0) (Z6a t 0):=
 .inl ⟨List.replicate t.ns.length false,by simp,by simp[b2i],rfl⟩
theorem ParAt.enter {t:Tr} {P:List Int} {i:Nat} (h:ParAt t P (Z6a t i)) (hi:i < t.ns.length) (hf:Z31 t.ns[i] t.ns[i].kids.length=true):ParAt t P (Z8c t i t.ns[i] 0):=by
 rcases h with ⟨s,h1,h2,h3⟩ | h
 ·refine .inl ⟨s,h1,h2,?_⟩
  rw[h3,Z6a,List.drop_eq_getElem_cons hi,Z0n,hf];rfl
 ·exact .inr h
theorem ParAt.unfit {t:Tr} {P:List Int} {i:Nat} (h:ParAt t P (Z6a t i)) (hi:i < t.ns.length) (hf:Z31 t.ns[i] t.ns[i].kids.length=false):right t=false:=by
 refine Z5l ?_
 rcases h with ⟨s,h1,h2,h3⟩ | h
 ·rw[h3,Z6a,List.drop_eq_getElem_cons hi,Z0n,hf]
  rfl
 ·exact h.1
theorem ParAt.out {t:Tr} {P:List Int} {i k:Nat} {d:Nd} (h:ParAt t P (Z8c t i d k)) (hk:k < d.kids.length) (hf:d.kids[k] < 0∨(i:Int)≤d.kids[k]):right t=false:=by
 refine Z5l ?_
 rcases h with ⟨s,h1,h2,h3⟩ | h
 ·rw[h3,Z8c,Z45 (k:=d.kids[k]) (by rw[List.drop_eq_getElem_cons hk];exact .head _) hf]
 ·exact h.1
theorem ParAt.kid {t:Tr} {P:List Int} {i k:Nat} {d:Nd} (hl:P.length=t.ns.length) (hi:i≤t.ns.length) (h:ParAt t P (Z8c t i d k)) (hk:k < d.kids.length) (h0:0≤d.kids[k]) (h1:d.kids[k] < i) :
  ParAt t (P.set d.kids[k].toNat (P.getD d.kids[k].toNat 0+1)) (Z8c t i d (k+1)):=by
 have hkl:d.kids[k].toNat < P.length:=by omega
 rcases h with ⟨s,g1,g2,g3⟩ | ⟨g1,j,g2,g3⟩
 ·have hsl:d.kids[k].toNat < s.length:=by omega
  have hg:P.getD d.kids[k].toNat 0=b2i (s.getD d.kids[k].toNat false):=by
   rw[g2];simp[List.getD_eq_getElem?_getD,hsl]
  cases hb:s.getD d.kids[k].toNat false with
  | false=>
   refine .inl ⟨s.set d.kids[k].toNat true,by simpa using g1,?_,?_⟩
   ·rw[hg,hb,g2,List.map_set]
    rfl
   ·rw[g3,Z8c,List.drop_eq_getElem_cons hk,Z1g,hb]
    simp only[Bool.or_false];rw[decide_eq_false (by omega),decide_eq_false (by omega)]
    rfl
  | true=>
   refine .inr ⟨?_,d.kids[k].toNat,by omega,?_⟩
   ·rw[g3,Z8c,List.drop_eq_getElem_cons hk,Z1g,hb]
    simp
   ·rw[hg,hb]
    simp[List.getD_eq_getElem?_getD,List.getElem?_set,hkl,b2i]
 ·refine .inr ⟨g1,j,g2,?_⟩
  simp only[List.getD_eq_getElem?_getD,List.getElem?_set] at g3 ⊢
  by_cases e:d.kids[k].toNat=j
  ·subst e
   simp[hkl] at g3 ⊢;omega
  ·rw[if_neg e]
   exact g3
theorem ParAt.leave {t:Tr} {P:List Int} {i k:Nat} {d:Nd} (h:ParAt t P (Z8c t i d k)) (hk:d.kids.length≤k):ParAt t P (Z6a t (i+1)):=by
 rcases h with ⟨s,h1,h2,h3⟩ | h
 ·refine .inl ⟨s,h1,h2,?_⟩
  rw[h3,Z8c,List.drop_eq_nil_of_le hk];rfl
 ·exact .inr h
theorem ParInv.kid {t:Tr} {P:List Int} {W:Int} (h:ParInv t P W) {k:Nat} (hk:k < P.length):ParInv t (P.set k (P.getD k 0+1)) (W+1):=by
 refine⟨by simpa using h.len,fun c hc=>?_⟩
 have hg:P.getD k 0∈P:=by
  simp only[List.getD_eq_getElem?_getD,List.getElem?_eq_getElem hk,Option.getD_some];exact List.getElem_mem hk
 have:=h.bd _ hg
 rcases List.mem_or_eq_of_mem_set hc with hc | rfl
 ·have:=h.bd c hc
  omega
 ·omega
def Z46 (t:Tr) (P:List Int) (i:Nat):Bool:=(decide ((i:Int)=t.root) && !decide (P.getD i 0=0)) || (!decide ((i:Int)=t.root) && !decide (P.getD i 0=1))
theorem ParAt.bad {t:Tr} {P:List Int} (h:ParAt t P (Z6a t t.ns.length)) {i:Nat} (hi:i < t.ns.length) (hq:Z46 t P i=true):right t=false:=by
 rcases h with ⟨s,h1,h2,h3⟩ | h
 ·rw[Z6a,List.drop_length,Z0n] at h3
  have:Z24 t.root 0 s=false:=by
   refine Z3t (j:=i) (by omega) ?_
   have hg:P.getD i 0=b2i (s.getD i false):=by
    rw[h2];simp[List.getD_eq_getElem?_getD,h1,hi]
   rw[Z46,hg] at hq;rw[Nat.zero_add];generalize s.getD i false=x at hq ⊢
   cases x<;>cases hd:decide ((i:Int)=t.root)<;>simp_all[b2i]
  simp[right,h3,this]
 ·exact Z5l h.1
theorem ParAt.good {t:Tr} {P:List Int} (h:ParAt t P (Z6a t t.ns.length)) (h0:0≤t.root∧t.root < t.ns.length) (hq:∀ i,i < t.ns.length->Z46 t P i=false):right t=true:=by
 rcases h with ⟨s,h1,h2,h3⟩ | ⟨h1,k,h2,h3⟩
 ·rw[Z6a,List.drop_length,Z0n] at h3
  have:Z24 t.root 0 s=true:=by
   refine Z7c fun i hi=>?_
   have hg:P.getD i 0=b2i (s.getD i false):=by
    rw[h2];simp[List.getD_eq_getElem?_getD,hi]
   have hq':=hq i (by omega);rw[Z46,hg] at hq'
   rw[Nat.zero_add];generalize s.getD i false=x at hq' ⊢
   cases x<;>cases hd:decide ((i:Int)=t.root)<;>simp_all[b2i]
  simp[right,h3,this,h0.1,h0.2]
 ·have:=hq k h2
  simp only[Z46,Bool.or_eq_false_iff,Bool.and_eq_false_iff,decide_eq_false_iff_not,Bool.not_eq_false',decide_eq_true_eq] at this;omega
set_option maxHeartbeats 4000000 in
theorem Z2i {I:GH} {t:Tr} (ht:t.ok I) (W:Nat) (hW:∀ d∈t.ns,d.kn≤W) (hb:t.n * W≤1152921504606846976):Spec Tryz.prog 158 [t.val] I [] fun v I' M'=>v=.bool (right t)∧I'=I∧M'=[]:=by
 refine Z01 [] Z00 Tryz.func158 rfl rfl rfl ?_;intro B h0;have htn:=ht.n;have hcap:=ht.rs.cap;refine GuardOb.mk (fun h=>?_) (fun h=>?_)
 rotate_left
 ·refine⟨_,_,.refl,?_,rfl,rfl⟩
  have:t.root < 0:=by simpa using h
  rw[show right t=false by simp[right];omega]
 have hr0:0≤t.root:=by have:=of_decide_eq_false h;omega
 refine CondOb.mk (fun h2=>?_) (fun h2=>?_)
 ·refine⟨_,_,.refl,?_,rfl,rfl⟩
  have:=of_decide_eq_true h2;rw[show right t=false by simp[right];omega]
 have hr1:t.root < t.n:=by have:=of_decide_eq_false h2;omega
 refine MakeOb.mk t.n t.n rfl rfl (Nat.le_refl _) (by show 8 * t.n≤_;omega) (by omega) ?_
 refine AllocOb.mk fun b1 hb1 hbM1=>?_
 refine LoopOb.inv (ι:=Nat×List Int) (fun x=>{ fl:=[(1,.ref 1 0),(3,.val (.slice (some ⟨b1,0,none⟩) t.n t.n)),(4,.val (.int .i64 x.1))],cl:=[(1,t.cells)],gi:=I,mi:=[Z0v b1 x.2] })
  (fun x=>x.1≤t.n∧ParInv t x.2 (x.1 * W:Nat)∧ParAt t x.2 (Z6a t x.1)) (fun x=>t.n - x.1) ?_ ?_
 ·refine⟨(0,List.replicate t.n 0),⟨Nat.zero_le _,⟨by simp[htn],fun c hc=>by have:=List.eq_of_mem_replicate hc;simp only;omega⟩,by rw[←htn];exact ParAt.start t⟩,?_,aF3,.cons rfl .nil⟩
  simp only[Z1W,Z0v,List.map_replicate,Nat.mul_one];exact .refl
 rintro⟨i,P⟩ ⟨hi,hP,hA⟩;simp only at hi hP hA
 have hPl:=hP.len;refine CondOb.mk (fun h=>?_) (fun h=>?_)
 ·have hlt:i < t.n:=by have:=of_decide_eq_true h;omega
  have hlt':i < t.ns.length:=by omega
  obtain⟨ad,had,hrd⟩:=ht.rs.row Nd.cells_len hlt hlt';have hdm:t.ns[i]∈t.ns:=List.getElem_mem hlt';have hd:=ht.ns _ hdm;have hkn:=hd.kn;have hkW:=hW _ hdm;have hcap2:=hd.rs.cap;have hiW:(i+1) * W≤1152921504606846976:=Nat.le_trans (Nat.mul_le_mul_right W hlt) hb;rw[Nat.add_mul,Nat.one_mul] at hiW;refine IdxOb.mk ad i had rfl hlt ?_;refine LoadOb.mk _ (hrd _) ?_;refine CallOb.mk [] _ _ (.refl _) (Zgb hd.k t.ns[i].kn) ?_;rintro v I2 M2 - ⟨rfl,rfl,rfl⟩;rw[←hkn]
  refine CondOb.mk (fun h3=>?_) (fun h3=>?_)
  ·refine⟨_,_,.sub (List.nil_sublist _) .refl,?_,rfl,rfl⟩
   rw[hA.unfit hlt' (by simpa using h3)]
  have hA:=hA.enter hlt' (by simpa using h3);generalize hdd:t.ns[i]=d at hd hkn hkW hcap2 hrd hA
  refine LoopOb.inv (ι:=Nat×List Int) (fun x=>{ fl:=[(1,.ref 1 0),(3,.val (.slice (some ⟨b1,0,none⟩) t.n t.n)),(4,.val (.int .i64 i)),(5,.ref 5 0),(6,.val (.int .i64 x.1))],cl:=[(1,t.cells),(5,d.cells)],gi:=I2,mi:=[Z0v b1 x.2] })
   (fun x=>x.1≤d.kn∧ParInv t x.2 (i * W+x.1:Nat)∧ParAt t x.2 (Z8c t i d x.1)) (fun x=>d.kn - x.1) ?_ ?_
  ·exact⟨(0,P),⟨Nat.zero_le _,hP,hA⟩,.refl,aF5,.cons rfl (.cons rfl .nil)⟩
  rintro⟨k,Q⟩ ⟨hk,hQ,hB⟩;simp only at hk hQ hB
  have hQl:=hQ.len;refine CondOb.mk (fun h4=>?_) (fun h4=>?_)
  ·have hkl:k < d.kn:=by have:=of_decide_eq_true h4;omega
   have hkl':k < d.kids.length:=by omega
   obtain⟨ak,hak,hrk⟩:=hd.rs.one hkl hkl';refine IdxOb.mk ak k hak rfl hkl ?_;refine LoadOb.mk _ (hrk _) ?_;refine GuardOb.mk (fun h5=>?_) (fun h5=>?_)
   rotate_left
   ·refine⟨_,_,.sub (List.nil_sublist _) .refl,?_,rfl,rfl⟩
    rw[hB.out hkl' (.inl (by simpa using h5))]
   have hk0:0≤d.kids[k]:=by have:=of_decide_eq_false h5;omega
   refine IdxOb.mk ak k hak rfl hkl ?_;refine LoadOb.mk _ (hrk _) ?_;refine CondOb.mk (fun h6=>?_) (fun h6=>?_)
   ·refine⟨_,_,.sub (List.nil_sublist _) .refl,?_,rfl,rfl⟩
    rw[hB.out hkl' (.inr (of_decide_eq_true h6))]
   have hk1:d.kids[k] < i:=by have:=of_decide_eq_false h6;omega
   have hkQ:d.kids[k].toNat < Q.length:=by omega
   have hQb:0≤Q[d.kids[k].toNat]∧Q[d.kids[k].toNat]≤(i * W+k:Nat):=hQ.bd _ (List.getElem_mem hkQ)
   have hQg:Q.getD d.kids[k].toNat 0=Q[d.kids[k].toNat]:=by simp[List.getD_eq_getElem?_getD,hkQ]
   have hB':=hB.kid hQl (by omega) hkl' hk0 hk1;have hQ':=hQ.kid hkQ;rw[hQg] at hB' hQ';refine IdxOb.mk ak k hak rfl hkl ?_;refine LoadOb.mk _ (hrk _) ?_;refine IdxOb.mk ⟨b1,0,none⟩ d.kids[k].toNat rfl (by omega) (by omega) ?_;refine LoadOb.mk _ (Z3k (s:=Q) (.head _) hkQ) ?_;refine ArithOb.mk (Q[d.kids[k].toNat]+1) (Z3h rfl (by omega)) ?_;refine IdxOb.mk ⟨b1,0,none⟩ d.kids[k].toNat rfl (by omega) (by omega) ?_;refine StoreOb.add [] [] _ _ rfl ?_ rfl ?_
   ·simp only[List.size_toArray,List.length_map]
    show 0+d.kids[k].toNat * 1+1≤_
    omega
   have e:=Z2h Q d.kids[k].toNat hkQ (Q[d.kids[k].toNat]+1);refine ArithOb.mk _ (Z03 (i:=k) (by omega)) ?_
   refine⟨(k+1,Q.set d.kids[k].toNat (Q[d.kids[k].toNat]+1)),⟨⟨by simp only;omega,?_,hB'⟩,by simp only;omega⟩,?_,aF5,.cons rfl (.cons rfl .nil)⟩
   ·simp only
    rw[show ((i * W+(k+1):Nat):Int)=((i * W+k:Nat):Int)+1 by omega];exact hQ'
   ·simp only[Z0v]
    rw[←e];simp only[Nat.zero_add,Nat.mul_one]
    exact .refl
  ·have hge:d.kn≤k:=by have:=of_decide_eq_false h4;omega
   refine ArithOb.mk _ (Z03 (i:=i) (by omega)) ?_;refine⟨(i+1,Q),⟨⟨by simp only;omega,⟨hQl,fun c hc=>?_⟩,hB.leave (by omega)⟩,by simp only;omega⟩,.refl,aF3,.cons rfl .nil⟩;have:=hQ.bd c hc
   simp only[Nat.add_mul,Nat.one_mul];omega
 have hge:i=t.n:=by have:=of_decide_eq_false h;omega
 have hA2:ParAt t P (Z6a t t.ns.length):=by rw[htn,←hge];exact hA
 clear hP h hi hA;subst hge
 refine LoopOb.inv (ι:=Nat) (fun x=>{ fl:=[(1,.ref 1 0),(3,.val (.slice (some ⟨b1,0,none⟩) t.n t.n)),(7,.val (.int .i64 x))],cl:=[(1,t.cells)],gi:=I,mi:=[Z0v b1 P] })
  (fun x=>x≤t.n∧∀ j,j < x->Z46 t P j=false) (fun x=>t.n - x) ?_ ?_
 ·exact⟨0,⟨Nat.zero_le _,fun j hj=>by omega⟩,.refl,aF3,.cons rfl .nil⟩
 rintro i ⟨hi,hq⟩;refine CondOb.mk (fun h=>?_) (fun h=>?_)
 rotate_left
 ·have hge:i=t.n:=by have:=of_decide_eq_false h;omega
  refine⟨_,_,.sub (List.nil_sublist _) .refl,?_,rfl,rfl⟩;rw[hA2.good ⟨hr0,by omega⟩ fun j hj=>hq j (by omega)]
 have hlt:i < t.n:=by have:=of_decide_eq_true h;omega
 have hiP:i < P.length:=by omega
 have hrd:Rd I [Z0v b1 P] ((⟨b1,0,none⟩:Addr).add (i * 1)) 1 [.int .i64 P[i]]:=Z3k (.head _) hiP
 have hg:P.getD i 0=P[i]:=by simp[List.getD_eq_getElem?_getD,hiP]
 have hbad:Z46 t P i=true->right t=false:=hA2.bad (by omega)
 have hgo:Z46 t P i=false->∀ j,j < i+1->Z46 t P j=false:=fun h j hj=>by
  by_cases e:j=i
  ·rw[e];exact h
  ·exact hq j (by omega)
 rw[Z46,hg] at hbad hgo;clear h hq hA2;generalize P[i]=c at hbad hgo hrd;refine GuardOb.mk (fun h=>?_) (fun h=>?_)
 ·rw[h] at hbad hgo
  refine IdxOb.mk ⟨b1,0,none⟩ i rfl rfl hlt ?_;refine LoadOb.mk _ hrd ?_;refine GuardOb.mk (fun h2=>?_) (fun h2=>?_)
  ·refine GuardOb.mk (fun h3=>?_) (fun _=>?_)
   ·exfalso
    rw[h] at h3;cases h3
   ·refine ArithOb.mk _ (Z03 (i:=i) (by omega)) ?_
    exact⟨i+1,⟨⟨by omega,hgo (by simp[h2])⟩,by omega⟩,.refl,aF3,.cons rfl .nil⟩
  ·refine⟨_,_,.sub (List.nil_sublist _) .refl,?_,rfl,rfl⟩
   rw[hbad (by simp[h2])]
 ·rw[show decide ((i:Int)=t.root)=false from h] at hbad hgo
  refine GuardOb.mk (fun h3=>?_) (fun h3=>?_)
  ·refine IdxOb.mk ⟨b1,0,none⟩ i rfl rfl hlt ?_
   refine LoadOb.mk _ hrd ?_;refine CondOb.mk (fun h2=>?_) (fun h2=>?_)
   ·refine⟨_,_,.sub (List.nil_sublist _) .refl,?_,rfl,rfl⟩
    rw[hbad (by simp[h2])]
   ·refine ArithOb.mk _ (Z03 (i:=i) (by omega)) ?_
    exact⟨i+1,⟨⟨by omega,hgo (by simp[h2])⟩,by omega⟩,.refl,aF3,.cons rfl .nil⟩
  ·exfalso
   rw[show decide ((i:Int)=t.root)=false from h] at h3;cases h3
structure LeafAt (I:GH) (a:Option Addr) (c:Nat) (k:Int) (s:ByteArray):Prop where
 rs:RS I a 1 c 9 96 (Zaz k s).cells
theorem LeafAt.rd {I:GH} {a:Option Addr} {c:Nat} {k:Int} {s:ByteArray} (h:LeafAt I a c k s):∃ ad,a=some ad∧∀ M,Rd I M (ad.add (0 * 9)) 9 (Zaz k s).cells:=by
 have:=RS.row (f:=Nd.cells) (l:=[Zaz k s]) Nd.cells_len (size:=9) (j:=0) (by simpa using h.rs) (by decide) (Nat.le_refl 1)
 simpa using this
theorem OtherOb.nd {X:Ctx} {o:Oper} {F:Fr} {C:Bx} {I:GH} {M:List Blk} {K:KS} (h:OtherOb X o F C I M (fun F C I M=>(M.map (·.num)).Nodup->(∀ x∈M,I x.num=none)->K F C I M)):OtherOb X o F C I M K:=
 ⟨fun a w Q hR=>Oper.wpIn_mono (fun a' w'=>fun ⟨F',C',I',M',⟨β,hr⟩,hk⟩=>⟨F',C',I',M',⟨β,hr⟩,hk hr.holds.nd hr.holds.d⟩) (h.1 a w Q hR)⟩
theorem Zgc {os:OS} {xs ys:List Value} {size:Nat} (hos:os.ok size xs) {g c:Nat} {cur:List Value} (hy:ys.length=size) (h1:cur.length=c * size) (h2:os.n+1≤c) (h3:c≤maxLen) (h4:cur.take ((os.n+1) * size)=xs++ys) :
  OS.ok ⟨some g,os.n+1,c,cur⟩ size (xs++ys):=by
 have hl:=hos.len;refine⟨?_,(fun h=>by cases h),fun g3 hg3=>⟨h1,h2,h3,h4⟩⟩;rw[List.length_append,hl,hy]
 simp only;rw[Nat.add_mul,Nat.one_mul]
abbrev Lf:=Tr×Int×ByteArray
def Lf.nd (x:Lf):Nd:=Zaz x.2.1 x.2.2
structure Lf.ok (I:GH) (x:Lf):Prop where
 t:x.1.ok I
 ns:x.1.ns=[x.nd]
 root:x.1.root=0
 Z31:Zo7 x.nd 0=true
theorem Lf.ok.at {I:GH} {x:Lf} (h:Lf.ok I x):∃ a c,x.1.cells=[.slice a 1 c,.int .i64 0]∧LeafAt I a c x.2.1 x.2.2:=by
 obtain⟨⟨ns,a,n,c,root⟩,k,s⟩:=x;obtain⟨ht,h1,h2,h3⟩:=h;have h1':ns=[Zaz k s]:=h1;clear h1 h3;simp only at h2 ht;subst h1';subst h2;have hn:=ht.n;simp only[List.length_cons,List.length_nil] at hn;subst hn;exact⟨a,c,rfl,⟨by simpa[Lf.nd] using ht.rs⟩⟩
def Z9Y (ns:List Nd):Int->Nat:=Z69 0 (fun d g=>1+Z16 g d.kids) ns
theorem Z9p {t:Tr} (hr:right t=true) {j:Nat} (hj:j < t.ns.length):Z9Y t.ns j=1+Z16 (Z9Y t.ns) t.ns[j].kids:=
 Z4C (fun d g g' h=>by rw[Z6Y h]) hr hj
theorem Zl1 {t:Tr} (hr:right t=true):Z9Y t.ns t.root≤t.ns.length:=by
 have:=Z6S hr (g:=Z9Y t.ns) (c:=fun _=>1) fun j hj=>by rw[Z9p hr hj];exact Nat.le_refl _
 rwa [Z4F,Nat.one_mul] at this
theorem Z7d {i:Nat}:∀ {ks:List Int} {s s':List Bool},Z1g i ks s=some s'->∀ j,s'.getD j false=true->s.getD j false=true∨((j:Int)∈ks∧j < i)
 | [],s,s',h,j,hj=>by
  simp only[Z1g,Option.some.injEq] at h;subst h;exact .inl hj
 | k::ks,s,s',h,j,hj=>by
  unfold Z1g at h
  cases hb:decide (k < 0) || (decide ((i:Int)≤k) || s.getD k.toNat false) with
  | true=>rw[hb] at h;cases h
  | false=>
   rw[hb] at h;simp only[cond_false] at h;simp only[Bool.or_eq_false_iff,decide_eq_false_iff_not] at hb
   rcases Z7d h j hj with h1 | h1
   ·by_cases e:k.toNat=j
    ·right
     refine⟨?_,by omega⟩
     have:(j:Int)=k:=by omega
     rw[this];exact .head _
    ·left
     simp only[List.getD_eq_getElem?_getD,List.getElem?_set] at h1 ⊢
     rwa [if_neg e] at h1
   ·exact .inr ⟨.tail _ h1.1,h1.2⟩
theorem Z5P:∀ {ds:List Nd} {i:Nat} {s s':List Bool},Z0n i ds s=some s'->∀ j,s'.getD j false=true->s.getD j false=true∨∃ q,∃ h:q < ds.length,(j:Int)∈ds[q].kids∧j < i+q
 | [],i,s,s',h,j,hj=>by
  simp only[Z0n,Option.some.injEq] at h;subst h;exact .inl hj
 | d::ds,i,s,s',h,j,hj=>by
  unfold Z0n at h
  cases hf:Z31 d d.kids.length with
  | false=>rw[hf] at h;cases h
  | true=>
   rw[hf] at h;simp only[cond_true] at h
   split at h
   ·rename_i s1 hs1
    rcases Z5P h j hj with h1 | ⟨q,hq,h1,h2⟩
    ·rcases Z7d hs1 j h1 with h3 | ⟨h3,h4⟩
     ·exact .inl h3
     ·exact .inr ⟨0,by simp,h3,by omega⟩
    ·exact .inr ⟨q+1,by simpa using hq,by simpa using h1,by omega⟩
   ·cases h
theorem Z5Q {t:Tr} (hr:right t=true) {j:Nat} (hj:j < t.ns.length) (hne:(j:Int)≠t.root):∃ p,∃ h:p < t.ns.length,(j:Int)∈t.ns[p].kids∧j < p:=by
 unfold right at hr;simp only[Bool.and_eq_true] at hr;obtain⟨_,_,hr⟩:=hr
 split at hr
 ·rename_i s hs
  have hsl:=(Z5c (g:=fun _=>0) (c:=fun _=>0) hs (by simp) (fun j hj=>by simp)).1
  have hm:s.getD j false=true:=by
   cases hb:s.getD j false with
   | true=>rfl
   | false=>
    have:=Z3t (root:=t.root) (s:=s) (i:=0) (j:=j) (by rw[hsl];simpa using hj) (by rw[hb,Nat.zero_add];simp[hne]);rw[this] at hr
    cases hr
  rcases Z5P hs j hm with h1 | ⟨q,hq,h1,h2⟩
  ·simp[List.getD_eq_getElem?_getD,hj] at h1
  ·exact⟨q,hq,h1,by omega⟩
 ·cases hr
theorem ZaA {g:Int->Nat}:∀ {ks:List Int} {k:Int},k∈ks->g k≤Z16 g ks
 | a::ks,k,h=>by
  simp only[Z16,List.map_cons,List.sum_cons]
  rcases List.mem_cons.1 h with rfl | h
  ·omega
  ·have:=ZaA (g:=g) h
   simp only[Z16] at this;omega
theorem ZmG {t:Tr} (hr:right t=true):∀ (m j:Nat),j < t.ns.length->t.ns.length - j≤m->Z9Y t.ns j≤t.ns.length
 | 0,j,hj,hm=>by omega
 | m+1,j,hj,hm=>by
  by_cases e:(j:Int)=t.root
  ·rw[e]
   exact Zl1 hr
  ·obtain⟨p,hp,hk,hlt⟩:=Z5Q hr hj e
   have h1:=ZmG hr m p hp (by omega);rw[Z9p hr hp] at h1
   have:=ZaA (g:=Z9Y t.ns) hk;omega
theorem Z1Z (g:Int->Nat) (a b:List Int):Z16 g (a++b)=Z16 g a+Z16 g b:=by
 simp[Z16]
theorem Z5m {t:Tr} (hr:right t=true):∀ {l:List Int},Z2d t.ns.length l->l.length≤Z16 (Z9Y t.ns) l
 | [],_=>by simp
 | a::l,hv=>by
  have h1:=Z5m hr (l:=l) fun k hk=>hv k (.tail _ hk)
  have h2:=hv a (.head _);obtain⟨a,rfl⟩:=Int.eq_ofNat_of_zero_le h2.1
  have h3:=Z9p hr (j:=a) (by omega);simp only[Z16,List.map_cons,List.sum_cons,List.length_cons] at h1 ⊢
  have h4:Z9Y t.ns (Int.ofNat a)=Z9Y t.ns a:=rfl;omega
def Z47 (ns:List Nd):Nat->List Int->List Int->List Int
 | 0,_,b=>b
 | f+1,todo,b=>match todo.getLast? with
  | none=>b
  | some n=>Z47 ns f (todo.dropLast++(Z1h ns n.toNat).kids) (b++[n])
def Z8C (ns:List Nd) (node:Int):List Int:=Z47 ns (ns.length+1) [node] []
theorem ZeC (ns:List Nd) (f:Nat) (b:List Int):Z47 ns f [] b=b:=by cases f<;>rfl
theorem Zc8 (ns:List Nd) (f:Nat) (todo:List Int) (n:Int) (b:List Int):Z47 ns (f+1) (todo++[n]) b=Z47 ns f (todo++(Z1h ns n.toNat).kids) (b++[n]):=by
 rw[Z47];simp only[List.getLast?_concat,List.dropLast_concat]
def Nd.ct (d:Nd):Nd:=⟨d.k,d.s0,d.s1,d.s2,d.s3,d.t,d.lo,d.hi,none,0,0,d.kids⟩
def Nd.withKids (d:Nd) (l:List Int):Nd:=⟨d.k,d.s0,d.s1,d.s2,d.s3,d.t,d.lo,d.hi,none,0,0,l⟩
def Z7e (ns:List Nd) (st:List Int×List Nd) (b:Int):List Int×List Nd:=
 (st.1.set b.toNat st.2.length,st.2++[(Z1h ns b.toNat).withKids ((Z1h ns b.toNat).kids.map fun k=>(st.1.set b.toNat st.2.length).getD k.toNat 0)])
def Zfw (ns:List Nd) (node:Int):List Nd:=((Z8C ns node).reverse.foldl (Z7e ns) (List.replicate ns.length 0,[])).2
theorem OS.pop {os:OS} {xs:List Value} {x:Value} (h:os.ok 1 (xs++[x])):OS.ok ⟨os.a,os.n - 1,os.c,os.cur⟩ 1 xs:=by
 have hl:=h.len;simp only[List.length_append,List.length_cons,List.length_nil,Nat.mul_one] at hl;refine⟨by simp only;omega,fun ha=>?_,fun g hg=>?_⟩
 ·have:=h.nil ha
  simp only;omega
 ·obtain⟨h1,h2,h3,h4⟩:=h.cap g hg
  refine⟨h1,by simp only;omega,h3,?_⟩;simp only
  have e:os.n * 1=xs.length+1:=by omega
  rw[e] at h4
  have:os.cur.take xs.length=(os.cur.take (xs.length+1)).take xs.length:=by rw[List.take_take];congr 1;omega
  rw[show (os.n - 1) * 1=xs.length by omega,this,h4,List.take_left]
structure BackInv (t:Tr) (node:Int) (x:OS×List Int×OS×List Int×Nat):Prop where
 todo:x.1.ok 1 (x.2.1.map (.int .i64 ·))
 back:x.2.2.1.ok 1 (x.2.2.2.1.map (.int .i64 ·))
 vt:Z2d t.ns.length x.2.1
 vb:Z2d t.ns.length x.2.2.2.1
 sum:Z16 (Z9Y t.ns) x.2.1+x.2.2.2.1.length=Z9Y t.ns node
 fuel:Z16 (Z9Y t.ns) x.2.1+1≤x.2.2.2.2
 eq:Z8C t.ns node=Z47 t.ns x.2.2.2.2 x.2.1 x.2.2.2.1
structure SubInv (I:GH) (t:Tr) (rb:List Int) (x:Nat×List Int×OS×List Nd×GH):Prop where
 j:x.1≤rb.length
 len:x.2.1.length=t.ns.length
 out:x.2.2.1.ok 9 (x.2.2.2.1.flatMap Nd.cells)
 on:x.2.2.2.1.length=x.1
 eq:(rb.take x.1).foldl (Z7e t.ns) (List.replicate t.ns.length 0,[])=(x.2.1,x.2.2.2.1.map Nd.ct)
 ok:∀ d∈x.2.2.2.1,d.ok x.2.2.2.2
 le:∀ b o,I b=some o->x.2.2.2.2 b=some o
 bd:∀ c∈x.2.1,0≤c∧c≤rb.length
 kb:∀ d∈x.2.2.2.1,∀ k∈d.kids,0≤k∧k≤rb.length
structure Fl where
 z:Bool
 s:Bool
 f:Bool
 deriving DecidableEq
def Fl.cells (x:Fl):List Value:=[.bool x.z,.bool x.s,.bool x.f]
def Fl.val (x:Fl):Value:=.agg #[.bool x.z,.bool x.s,.bool x.f]
theorem Fl.cells_len (x:Fl):x.cells.length=3:=rfl
def Fl.suc (x:Fl):Bool:=x.z || x.s
theorem ZiV (x y:Fl) (p q:Operand) (w:World):(do eqGuard .neq 220 p q x.val y.val;binOp .neq 220 x.val y.val:Sem Value).run Tryz.prog w=.ok (.bool (!decide (x=y))) w:=by
 obtain⟨a,b,c⟩:=x;obtain⟨d,e,f⟩:=y
 cases a<;>cases b<;>cases c<;>cases d<;>cases e<;>cases f<;>kernel_rfl
theorem BinOb.neF {x y:Operand} {p q:Fl} {V:Value->Prop} {other:Prop} (h:V (.bool (!decide (p=q)))):BinOb Tryz.prog .neq 220 x y (.val (.agg #[.bool p.z,.bool p.s,.bool p.f])) (.val (.agg #[.bool q.z,.bool q.s,.bool q.f])) V other:=
 .mk _ _ _ rfl rfl (fun w=>ZiV p q x y w) h
theorem Zl2 {z s f:Bool} {x:Fl} (h1:z=x.z) (h2:s=x.s) (h3:f=x.f):Value.agg #[.bool z,.bool s,.bool f]=x.val:=by
 subst h1 h2 h3;rfl
theorem Zdq {z s f:Bool} {x:Fl} (h1:z=x.z) (h2:s=x.s) (h3:f=x.f):[Value.bool z,Value.bool s,Value.bool f]=x.cells:=by
 subst h1 h2 h3;rfl
theorem Zl3 {a b:Bool} (h:a=b):SvLe (.val (.bool a)) (.val (.bool b)):=by
 subst h;exact .refl
theorem Zdr {a b:Bool} (h:a=b):SvLe (.lit a) (.val (.bool b)):=by
 subst h;exact .lit
theorem Z1d {M:List Blk}:M.Perm (M++[]):=by simp
theorem BinOb.ne4 {P:Program} {E:Env} (hE:EOK P E) {t e:Nat} {ti ei:TI} {x y:Operand} (ht:E t=some ti) (hts:ti.sh=.array 4 e) (he:E e=some ei) {k:IntKind} (hes:ei.sh=.int k)
  (hg:P.eqGuardType P.depth t=false) {a0 a1 a2 a3 b0 b1 b2 b3:Int} {V:Value->Prop} {other:Prop}
  (h:V (.bool (!(a0 == b0 && (a1 == b1 && (a2 == b2 && a3 == b3)))))):BinOb P .neq t x y (.val (.agg #[.int k a0,.int k a1,.int k a2,.int k a3])) (.val (.agg #[.int k b0,.int k b1,.int k b2,.int k b3])) V other:=by
 obtain⟨d,hud,hdd⟩:=(hE _ _ ht).und;obtain⟨de,hue,hde⟩:=(hE _ _ he).und;obtain⟨inf,z,hi,hi1,_⟩:=(hE _ _ he).inf
 have h1:d=.array 4 e:=by rw[hts] at hdd;cases d<;>simp_all[Z2k]
 have h2:de=.int k:=by rw[hes] at hde;cases de<;>simp_all[Z2k]
 subst h1;subst h2
 have hs1:inf.size=1:=by rw[hi1];exact(hE _ _ he).sz1 (by rw[hes];rfl)
 refine .mk _ _ _ rfl rfl (fun w=>?_) h;simp only[Sem.run_bind,run_eqGuard_agg (hm:=hg),Result.andThen_ok,binOp,ZfI hud hue hi hs1,Sem.run_pure]
theorem Z9q {I:GH} {M:List Blk} (x:Fl):Spec Tryz.prog 250 [x.val] I M fun v I' M'=>v=.bool x.suc∧I'=I∧M'=M:=by
 obtain⟨a,b,c⟩:=x;refine Z01 [] Z00 Tryz.func250 rfl rfl rfl ?_;intro B h0;refine GuardOb.mk (fun h=>?_) (fun h=>?_)
 ·exact⟨_,_,.refl,by rw[show a=false from h];rfl,rfl,rfl⟩
 ·exact⟨_,_,.refl,by rw[show a=true from h];rfl,rfl,rfl⟩
structure FsAt (I:GH) (M:List Blk) (a:Option Addr) (n:Nat) (ks:List Fl):Prop where
 n:ks.length=n
 rd:∀ j (h:j < ks.length),∃ ad,a=some ad∧Rd I M (ad.add (j * 3)) 3 ks[j].cells
def Z1p (st:Fl×Bool) (k:Fl):Fl×Bool:=(⟨st.1.z && k.z,st.1.s || k.s,st.1.f || (st.2 && k.f)⟩,st.2 && k.suc)
def Z6b (ks:List Fl):Fl×Bool:=ks.foldl Z1p (⟨true,false,false⟩,true)
def Zgd (ks:List Fl):Fl:=⟨(Z6b ks).1.z,(Z6b ks).1.s && (Z6b ks).2,(Z6b ks).1.f⟩
def Z48 (f k:Fl):Fl:=⟨f.z || (f.f && k.z),f.s || (f.f && k.s),f.f && k.f⟩
def ZnM (ks:List Fl):Fl:=ks.foldl Z48 ⟨false,false,true⟩
def fl0:Fl:=⟨false,false,false⟩
def Z9r (d:Nd) (k:Fl):Fl:=bif decide (d.hi=0) then ⟨true,false,false⟩ else ⟨k.z || (decide (d.lo=0) && k.f),k.s,decide (0 < d.lo) && k.f⟩
def Z0P (d:Nd) (ks:List Fl):Fl:=
 bif decide (d.k=0) then ⟨true,false,false⟩ else
 bif decide (d.k=1) then ⟨false,!d.setZ,true⟩ else
 bif decide (d.k=2) then ⟨false,true,true⟩ else
 bif decide (d.k=3) then ks.headD fl0 else
 bif decide (d.k=4) then Zgd ks else
 bif decide (d.k=5) then ZnM ks else
 bif decide (d.k=6) then Z9r d (ks.headD fl0) else
 bif decide (d.k=7) then ⟨(ks.headD fl0).suc,false,(ks.headD fl0).f⟩ else
 bif decide (d.k=8) then ⟨(ks.headD fl0).f,false,(ks.headD fl0).suc⟩ else ks.headD fl0
section
variable {I:GH} {M:List Blk} {d:Nd} {a:Option Addr} {n c:Nat} {ks:List Fl}
theorem FsAt.head (hk:FsAt I M a n ks) (h0:0 < n):∃ ad,a=some ad∧Rd I M (ad.add (0 * 3)) 3 (ks.headD fl0).cells:=by
 have h1:0 < ks.length:=by rw[hk.n];exact h0
 obtain⟨ad,h2,h3⟩:=hk.rd 0 h1;refine⟨ad,h2,?_⟩
 cases ks with
 | nil=>simp at h1
 | cons k ks=>exact h3
theorem Zc9:Spec Tryz.prog 221 [d.val,.slice a n c] I M fun v I' M'=>v=Fl.val ⟨true,false,false⟩∧I'=I∧M'=M:=by
 refine Z01 [] Z00 Tryz.func221 rfl rfl rfl ?_;intro B h0;exact⟨_,_,.refl,rfl,rfl,rfl⟩
theorem ZeD:Spec Tryz.prog 223 [d.val,.slice a n c] I M fun v I' M'=>v=Fl.val ⟨false,true,true⟩∧I'=I∧M'=M:=by
 refine Z01 [] Z00 Tryz.func223 rfl rfl rfl ?_;intro B h0;exact⟨_,_,.refl,rfl,rfl,rfl⟩
theorem Z5R (hk:FsAt I M a n ks) (h0:0 < n):Spec Tryz.prog 224 [d.val,.slice a n c] I M fun v I' M'=>v=(ks.headD fl0).val∧I'=I∧M'=M:=by
 refine Z01 [] Z00 Tryz.func224 rfl rfl rfl ?_;intro B h0';obtain⟨ad,had,hrd⟩:=hk.head h0;refine IdxOb.mk ad 0 had rfl h0 ?_;refine LoadOb.mk _ hrd ?_;exact⟨_,_,.refl,rfl,rfl,rfl⟩
theorem Zge (hk:FsAt I M a n ks) (h0:0 < n):Spec Tryz.prog 228 [d.val,.slice a n c] I M fun v I' M'=>v=Fl.val ⟨(ks.headD fl0).suc,false,(ks.headD fl0).f⟩∧I'=I∧M'=M:=by
 refine Z01 [] Z00 Tryz.func228 rfl rfl rfl ?_;intro B h0';obtain⟨ad,had,hrd⟩:=hk.head h0;refine CodeOb.draw Z00 rfl rfl rfl ?_;refine IdxOb.mk ad 0 had rfl h0 ?_;refine LoadOb.mk _ hrd ?_;refine IdxOb.mk ad 0 had rfl h0 ?_;refine LoadOb.mk _ (hrd.part (k:=2) (m:=1) (by decide)) ?_;refine PCallOb.mkR M [] _ Z1d (Z9q (ks.headD fl0)) (fun v I' M' h x hx=>by rw[h.2.2];exact hx) ?_;rintro v I' M' - ⟨rfl,rfl,rfl⟩;rw[List.append_nil]
 exact⟨_,_,.refl,rfl,rfl,rfl⟩
theorem Zgf (hk:FsAt I M a n ks) (h0:0 < n):Spec Tryz.prog 229 [d.val,.slice a n c] I M fun v I' M'=>v=Fl.val ⟨(ks.headD fl0).f,false,(ks.headD fl0).suc⟩∧I'=I∧M'=M:=by
 refine Z01 [] Z00 Tryz.func229 rfl rfl rfl ?_;intro B h0';obtain⟨ad,had,hrd⟩:=hk.head h0;refine CodeOb.draw Z00 rfl rfl rfl ?_;refine IdxOb.mk ad 0 had rfl h0 ?_;refine LoadOb.mk _ (hrd.part (k:=2) (m:=1) (by decide)) ?_;refine IdxOb.mk ad 0 had rfl h0 ?_;refine LoadOb.mk _ hrd ?_;refine PCallOb.mkR M [] _ Z1d (Z9q (ks.headD fl0)) (fun v I' M' h x hx=>by rw[h.2.2];exact hx) ?_;rintro v I' M' - ⟨rfl,rfl,rfl⟩;rw[List.append_nil]
 exact⟨_,_,.refl,rfl,rfl,rfl⟩
theorem Zgg:Spec Tryz.prog 222 [d.val,.slice a n c] I M fun v I' M'=>v=Fl.val ⟨false,!d.setZ,true⟩∧I'=I∧M'=M:=by
 refine Z01 [] Z00 Tryz.func222 rfl rfl rfl ?_;intro B h0;refine BinOb.ne4 Z00 (e:=87) rfl rfl rfl rfl (by kernel_rfl) ?_;exact⟨_,_,.refl,rfl,rfl,rfl⟩
theorem Zgh (hk:FsAt I M a n ks) (h0:0 < n):Spec Tryz.prog 227 [d.val,.slice a n c] I M fun v I' M'=>v=(Z9r d (ks.headD fl0)).val∧I'=I∧M'=M:=by
 refine Z01 [] Z00 Tryz.func227 rfl rfl rfl ?_;intro B h0';obtain⟨ad,had,hrd⟩:=hk.head h0;generalize ks.headD fl0=k at hrd;obtain⟨kz,kss,kf⟩:=k;refine CondOb.mk (fun h=>?_) (fun h=>?_)
 ·refine⟨_,_,.refl,Zl2 ?_ ?_ ?_,rfl,rfl⟩<;>simp[Z9r,h]
 refine IdxOb.mk ad 0 had rfl h0 ?_;refine LoadOb.mk _ hrd ?_
 repeat' refine GuardOb.mk (fun h=>?_) (fun h=>?_)
 all_goals refine⟨_,_,.refl,Zl2 ?_ ?_ ?_,rfl,rfl⟩
 all_goals first | (simp_all[Z9r];done) | (simp_all[Z9r];intros;omega)
theorem ZaB (hk:FsAt I M a n ks) (hn:n≤140737488355328):Spec Tryz.prog 226 [d.val,.slice a n c] I M fun v I' M'=>v=(ZnM ks).val∧I'=I∧M'=M:=by
 refine Z01 [] Z00 Tryz.func226 rfl rfl rfl ?_;intro B h0';have hkn:=hk.n
 refine LoopOb.inv (ι:=Nat×Fl) (fun x=>{ fl:=[(4,.ref 4 0),(5,.ref 5 0),(9,.val (.slice a n c)),(10,.val (.int .i64 n)),(11,.val (.int .i64 x.1))],cl:=[(4,fl0.cells),(5,x.2.cells)],gi:=I,mi:=M })
  (fun x=>x.1≤n∧x.2=(ks.take x.1).foldl Z48 ⟨false,false,true⟩) (fun x=>n - x.1) ?_ ?_
 ·exact⟨(0,⟨false,false,true⟩),⟨Nat.zero_le _,rfl⟩,.refl,aF5,.cons rfl (.cons rfl .nil)⟩
 rintro⟨i,f⟩ ⟨hi,hf⟩;simp only at hi hf
 refine CondOb.mk (fun h=>?_) (fun h=>?_)
 rotate_left
 ·have hge:n≤i:=by have:=of_decide_eq_false h;omega
  refine⟨_,_,.refl,?_,rfl,rfl⟩;rw[List.take_of_length_le (by omega)] at hf
  rw[ZnM,←hf];rfl
 have hlt:i < n:=by have:=of_decide_eq_true h;omega
 obtain⟨ad,had,hrd⟩:=hk.rd i (by omega)
 have hst:∀ g:Fl,g=Z48 f (ks[i]'(by omega))->g=(ks.take (i+1)).foldl Z48 ⟨false,false,true⟩:=fun g hg=>by
  rw[List.take_succ_eq_append_getElem (by omega),List.foldl_append,←hf,hg];rfl
 generalize ks[i]'(by omega)=k at hrd hst;obtain⟨kz,kss,kf⟩:=k;obtain⟨z,s,ff⟩:=f;refine IdxOb.mk ad i had rfl hlt ?_;refine LoadOb.mk _ hrd ?_
 repeat' refine GuardOb.mk (fun h=>?_) (fun h=>?_)
 all_goals refine ArithOb.mk _ (Z03 (i:=i) (by omega)) ?_
 all_goals refine⟨(i+1,_),⟨⟨by simp only;omega,hst _ rfl⟩,by simp only;omega⟩,.refl,aF5,.cons rfl (.cons ?_ .nil)⟩
 all_goals clear hst hf hrd
 all_goals (refine congrArg some (Zdq ?_ ?_ ?_)<;>simp_all[Z48])
theorem ZeE (l:List Fl) (k:Fl):Z6b (l++[k])=Z1p (Z6b l) k:=by simp[Z6b]
set_option maxHeartbeats 4000000 in
theorem Zgi (hk:FsAt I M a n ks) (hn:n≤140737488355328):Spec Tryz.prog 225 [d.val,.slice a n c] I M fun v I' M'=>v=(Zgd ks).val∧I'=I∧M'=M:=by
 refine Z01 [] Z00 Tryz.func225 rfl rfl rfl ?_;intro B h0';have hkn:=hk.n
 refine LoopOb.inv (ι:=Nat×Fl×Bool) (fun x=>{ fl:=[(4,.ref 4 0),(5,.ref 5 0),(6,.val (.bool x.2.2)),(10,.val (.slice a n c)),(11,.val (.int .i64 n)),(12,.val (.int .i64 x.1))],cl:=[(4,fl0.cells),(5,x.2.1.cells)],gi:=I,mi:=M })
  (fun x=>x.1≤n∧x.2=Z6b (ks.take x.1)) (fun x=>n - x.1) ?_ ?_
 ·exact⟨(0,⟨true,false,false⟩,true),⟨Nat.zero_le _,rfl⟩,.refl,.cons .refl (.cons .refl (.cons .lit (aF3))),.cons rfl (.cons rfl .nil)⟩
 rintro⟨i,f,sc⟩ ⟨hi,hf⟩;simp only at hi hf
 refine CondOb.mk (fun h=>?_) (fun h=>?_)
 rotate_left
 ·have hge:n≤i:=by have:=of_decide_eq_false h;omega
  rw[List.take_of_length_le (by omega)] at hf;obtain⟨z,s,ff⟩:=f
  have e1:(Z6b ks).1=⟨z,s,ff⟩:=by rw[←hf]
  have e2:(Z6b ks).2=sc:=by rw[←hf]
  refine GuardOb.mk (fun h2=>?_) (fun h2=>?_)
  all_goals refine⟨_,_,.refl,Zl2 ?_ ?_ ?_,rfl,rfl⟩
  all_goals simp_all[Zgd]
 have hlt:i < n:=by have:=of_decide_eq_true h;omega
 obtain⟨ad,had,hrd⟩:=hk.rd i (by omega)
 have hst:∀ g:Fl×Bool,g=Z1p (f,sc) (ks[i]'(by omega))->g=Z6b (ks.take (i+1)):=fun g hg=>by
  rw[List.take_succ_eq_append_getElem (by omega),ZeE,←hf,hg]
 generalize ks[i]'(by omega)=k at hrd hst;obtain⟨kz,kss,kf⟩:=k;obtain⟨z,s,ff⟩:=f;refine IdxOb.mk ad i had rfl hlt ?_;refine LoadOb.mk _ hrd ?_
 repeat' first
  | refine GuardOb.mk (fun h=>?_) (fun h=>?_)
  |(refine CallOb.mk M [] _ Z1d (Z9q ⟨kz,kss,kf⟩) ?_;rintro v I' M' - ⟨rfl,rfl,rfl⟩;rw[List.append_nil])
 all_goals refine ArithOb.mk _ (Z03 (i:=i) (by omega)) ?_
 all_goals refine⟨(i+1,_),⟨⟨by simp only;omega,hst _ rfl⟩,by simp only;omega⟩,.refl,.cons .refl (.cons .refl (.cons ?_ (aF3))),.cons rfl (.cons ?_ .nil)⟩
 all_goals clear hst hf hrd
 all_goals first
  |(refine congrArg some (Zdq ?_ ?_ ?_)<;>simp_all[Z1p])
  |(refine Zl3 ?_;simp_all[Z1p])
  |(refine Zdr ?_;simp_all[Z1p])
end
structure Fit (t:Tr) (W:Nat):Prop where
 w:∀ d∈t.ns,d.kn≤W
 b:t.n * W≤1152921504606846976
 n:t.n≤1099511627776
theorem Rd.mono {I I':GH} {M:List Blk} {a:Addr} {n:Nat} {vs:List Value} (h:Rd I M a n vs) (hI:∀ b o,I b=some o->I' b=some o):Rd I' M a n vs:=by
 obtain⟨h1,cs,T,fr,h2,h3⟩:=h;exact⟨h1,cs,T,fr,h2.imp (hI _ _) id,h3⟩
theorem Rd.sub {I:GH} {M M':List Blk} {a:Addr} {n:Nat} {vs:List Value} (h:Rd I M a n vs) (hM:∀ x∈M,x∈M'):Rd I M' a n vs:=by
 obtain⟨h1,cs,T,fr,h2,h3⟩:=h;refine⟨h1,cs,T,fr,h2.imp id ?_,h3⟩;rintro⟨x,hx,e1,e2⟩
 exact⟨x,hM x hx,e1,e2⟩
def Zk3 (st:List Nd×List Int) (l:List Nd):List Nd×List Int:=
 (st.1++l.map (fun x=>x.withKids (x.kids.map fun k=>(st.1.length:Int)+k)),st.2++[((st.1.length+l.length:Nat):Int) - 1])
def Zo8 (d:Nd) (ls:List (List Nd)):List Nd:=(ls.foldl Zk3 ([],[])).1++[d.withKids (ls.foldl Zk3 ([],[])).2]
section
variable {X:Ctx} {β:Nat->Nat} {a:Act} {w:World} {F:Fr} {C:Bx} {I:GH} {M:List Blk} {o:Oper} {Q:Exit->Act->World->Prop} {K:KS}
theorem Z7f (hE:EOK X.P X.E) {t:Nat} {ti tk:TI} {k e:Nat} (ht:X.E t=some ti) (hts:ti.sh=.map k e) (hk:X.E k=some tk) (hks:tk.sh=.string)
  (hz:∀ w,(zeroValue e).run X.P w=.ok (.int .i64 0) w) {g:Nat} {l:List (ByteArray×Int)} {s:ByteArray} (hg:w.heap[g]?=some (Z58 l)) (ok:Bool) :
  (Instr.lookup t (.map (some g)) (.string s) ok).run X.P w=.ok (bif ok then .tuple #[.int .i64 ((Z0q s l).getD 0),.bool (Z0q s l).isSome] else .int .i64 ((Z0q s l).getD 0)) w:=by
 obtain⟨d,hud,hdd⟩:=(hE _ _ ht).und
 have h1:d=.map k e:=by rw[hts] at hdd;cases d<;>simp_all[Z2k]
 subst h1;obtain⟨dk,huk,hdk⟩:=(hE _ _ hk).und
 have h2:dk=.string:=by rw[hks] at hdk;cases dk<;>simp_all[Z2k]
 subst h2;have hg:w.heap[g]?=some (.map (Zao l 0).toArray l.length):=hg;obtain⟨r,hf1,hf2⟩:=Z2C s l 0 0;have hc:(Instr.checkKey (Zao l 0).toArray.isEmpty 10000 k (.string s)).run X.P w=.ok () w:=MapKept.run_checkKey (k:=.string s) huk (by simp[MapKept.IsKey]) _ 9999;have hfk:(Instr.findKey k (.string s) (Zao l 0)).run X.P w=.ok r w:=MapKept.run_findKey huk hf1;unfold Instr.lookup;simp only[Sem.run_bind,run_underlying hud,Result.andThen_ok,MapKept.run_getObj_map hg,Sem.run_pure,hc,hfk]
 cases r with
 | none=>
  cases hl:Z0q s l with
  | none=>cases ok<;>simp[hz]
  | some v=>rw[hl] at hf2;simp at hf2
 | some p=>
  cases hl:Z0q s l with
  | none=>rw[hl] at hf2;simp at hf2
  | some v=>
   rw[hl] at hf2;simp only[Option.map_some,Option.some.injEq] at hf2
   cases ok<;>simp[hf2]
theorem OtherOb.lookupT (hE:EOK X.P X.E) {t:Nat} {x y:Operand} (ho:o.op=.lookup t x y true) (hd:∀ d,o.dst=some d->d < X.n) {ti tk:TI} {k e:Nat} (ht:X.E t=some ti) (hts:ti.sh=.map k e) (hk:X.E k=some tk) (hks:tk.sh=.string)
  (hz:∀ w,(zeroValue e).run X.P w=.ok (.int .i64 0) w) {g:Nat} {l:List (ByteArray×Int)} {s:ByteArray} (hx:ev F x=.val (.map (some g))) (hy:ev F y=.val (.string s)) (hM:Kn I M g (Z58 l))
  (h:K (put o.dst (.val (.tuple #[.int .i64 ((Z0q s l).getD 0),.bool (Z0q s l).isSome])) F) C I M):OtherOb X o F C I M K:=by
 refine⟨fun a w Q ⟨β,hR⟩=>?_⟩;have hrun:=Z7f hE ht hts hk hks hz (hM.heap hR.holds) (s:=s) true
 have ex:=Z04 hR.fr hx;have ey:=Z04 hR.fr hy;refine Z2J hR hd (by rw[ho];simp) ?_ h;unfold execOp;simp only[ho,ex,ey,Sem.run_bind,hrun,Result.andThen_ok,Sem.run_pure,cond_true]
theorem OtherOb.lookupF (hE:EOK X.P X.E) {t:Nat} {x y:Operand} (ho:o.op=.lookup t x y false) (hd:∀ d,o.dst=some d->d < X.n) {ti tk:TI} {k e:Nat} (ht:X.E t=some ti) (hts:ti.sh=.map k e) (hk:X.E k=some tk) (hks:tk.sh=.string)
  (hz:∀ w,(zeroValue e).run X.P w=.ok (.int .i64 0) w) {g:Nat} {l:List (ByteArray×Int)} {s:ByteArray} (hx:ev F x=.val (.map (some g))) (hy:ev F y=.val (.string s)) (hM:Kn I M g (Z58 l))
  (h:K (put o.dst (.val (.int .i64 ((Z0q s l).getD 0))) F) C I M):OtherOb X o F C I M K:=by
 refine⟨fun a w Q ⟨β,hR⟩=>?_⟩;have hrun:=Z7f hE ht hts hk hks hz (hM.heap hR.holds) (s:=s) false
 have ex:=Z04 hR.fr hx;have ey:=Z04 hR.fr hy;refine Z2J hR hd (by rw[ho];simp) ?_ h;unfold execOp;simp only[ho,ex,ey,Sem.run_bind,hrun,Result.andThen_ok,Sem.run_pure,cond_false]
end
def Z1e:List (ByteArray×Int)->Nat->List Df->List (ByteArray×Int)
 | acc,_,[]=>acc
 | acc,i,d::ds=>Z1e (bif (Z0q d.name acc).isSome then acc else acc++[(d.name,(i:Int))]) (i+1) ds
def Z02 (ds:List Df):List (ByteArray×Int):=Z1e [] 0 ds
set_option maxHeartbeats 1000000 in
theorem Z7g {I:GH} {g:Gr} (hg:g.ok I):Spec Tryz.prog 177 [g.val] I [] fun v I' M'=>(∀ b o,I b=some o->I' b=some o)∧M'=[]∧∃ gm,v=.map (some gm)∧I' gm=some (Z58 (Z02 g.ds)):=by
 refine Z8p [] Z00 Tryz.func177 rfl rfl rfl ?_;intro B h0;have hgn:=hg.n;have hcap:=hg.rs.cap
 refine OtherOb.makeMap Z00 rfl (by simp) rfl rfl rfl fun bm=>?_
 refine LoopOb.inv (ι:=Nat×List (ByteArray×Int)) (fun x=>{ fl:=[(1,.ref 1 0),(3,.val (.map (some bm))),(13,.val (.slice g.a g.n g.c)),(14,.val (.int .i64 g.n)),(15,.val (.int .i64 x.1))],cl:=[(1,[.slice g.a g.n g.c])],gi:=I,mi:=[⟨bm,Z58 x.2⟩] })
  (fun x=>x.1≤g.n∧Z02 g.ds=Z1e x.2 x.1 (g.ds.drop x.1)) (fun x=>g.n - x.1) ?_ ?_
 ·exact⟨(0,[]),⟨Nat.zero_le _,rfl⟩,.refl,aF5,.cons rfl .nil⟩
 rintro⟨i,acc⟩ ⟨hi,hp⟩;simp only at hi hp
 refine CondOb.mk (fun h=>?_) (fun h=>?_)
 ·have hlt:i < g.n:=by have:(i:Int) < (g.n:Int):=of_decide_eq_true h;omega
  have hlt':i < g.ds.length:=by omega
  obtain⟨ad,had,hrd⟩:=hg.rs.row Df.cells_len hlt hlt';rw[List.drop_eq_getElem_cons hlt',Z1e] at hp;refine IdxOb.mk ad i had rfl hlt ?_;refine LoadOb.mk _ (hrd _) ?_;refine OtherOb.lookupT Z00 rfl (by simp) rfl rfl rfl rfl (fun w=>Z4H w) (l:=acc) (g:=bm) rfl rfl (.inr ⟨_,.head _,rfl,rfl⟩) ?_;refine CondOb.mk (fun h3=>?_) (fun h3=>?_)
  ·have hn:(Z0q g.ds[i].name acc).isSome=false:=by simpa using h3
   have hl:Z0q g.ds[i].name acc=none:=by simpa using hn
   rw[hn,cond_false] at hp;refine OtherOb.mapNew Z00 rfl rfl rfl rfl rfl rfl rfl rfl rfl hl (Mr:=[]) (.refl _) ?_;refine ArithOb.mk _ (Z03 (i:=i) (by omega)) ?_;exact⟨(i+1,_),⟨⟨by simp only;omega,hp⟩,by simp only;omega⟩,.refl,aF5,.cons rfl .nil⟩
  ·have hn:(Z0q g.ds[i].name acc).isSome=true:=by simpa using h3
   rw[hn,cond_true] at hp;refine ArithOb.mk _ (Z03 (i:=i) (by omega)) ?_;exact⟨(i+1,_),⟨⟨by simp only;omega,hp⟩,by simp only;omega⟩,.refl,aF5,.cons rfl .nil⟩
 have hge:g.n≤i:=by have:¬ (i:Int) < (g.n:Int):=of_decide_eq_false h;omega
 rw[List.drop_eq_nil_of_le (by omega),Z1e] at hp;intro hfa;have hb:=hfa.d ⟨bm,Z58 acc⟩ (.head _);exact⟨_,_,.prom rfl (by simp) .refl,Z2p hb,rfl,bm,rfl,by rw[hp];exact Z2b ..⟩
def comeFs:List Nat:=[221,222,223,224,225,226,227,228,229,224]
def comeVs:List Value:=[.func (.func 221) #[] #[],.func (.func 222) #[] #[],.func (.func 223) #[] #[],.func (.func 224) #[] #[],.func (.func 225) #[] #[],.func (.func 226) #[] #[],.func (.func 227) #[] #[],.func (.func 228) #[] #[],.func (.func 229) #[] #[],.func (.func 224) #[] #[]]
theorem ZeF {I:GH}:Spec Tryz.prog 208 [] I [] fun v I' M'=>v=.agg comeVs.toArray∧I'=I∧M'=[]:=by
 refine Z01 [] Z00 Tryz.func208 rfl rfl rfl ?_;intro B h0;exact⟨_,_,.refl,rfl,rfl,rfl⟩
theorem Z2N {I:GH} {M:List Blk} {d:Nd} {a:Option Addr} {n c:Nat} {ks:List Fl} (hk:FsAt I M a n ks) (hn:n≤140737488355328) (j:Nat) (hj:j < 10) (hd:d.k=j) (h0:(j=3∨6≤j)->0 < n) :
  Spec Tryz.prog (comeFs.getD j 0) [d.val,.slice a n c] I M fun v I' M'=>v=(Z0P d ks).val∧I'=I∧M'=M:=by
 match j,hj,hd,h0 with
 | 0,_,hd,_=>rw[show Z0P d ks=⟨true,false,false⟩ by simp[Z0P,hd]];exact Zc9 (I:=I) (M:=M) (d:=d) (a:=a) (n:=n) (c:=c)
 | 1,_,hd,_=>rw[show Z0P d ks=⟨false,!d.setZ,true⟩ by simp[Z0P,hd]];exact Zgg (I:=I) (M:=M) (d:=d) (a:=a) (n:=n) (c:=c)
 | 2,_,hd,_=>rw[show Z0P d ks=⟨false,true,true⟩ by simp[Z0P,hd]];exact ZeD (I:=I) (M:=M) (d:=d) (a:=a) (n:=n) (c:=c)
 | 3,_,hd,h0=>rw[show Z0P d ks=ks.headD fl0 by simp[Z0P,hd]];exact Z5R (d:=d) (c:=c) hk (h0 (by omega))
 | 4,_,hd,_=>rw[show Z0P d ks=Zgd ks by simp[Z0P,hd]];exact Zgi (d:=d) (c:=c) hk hn
 | 5,_,hd,_=>rw[show Z0P d ks=ZnM ks by simp[Z0P,hd]];exact ZaB (d:=d) (c:=c) hk hn
 | 6,_,hd,h0=>rw[show Z0P d ks=Z9r d (ks.headD fl0) by simp[Z0P,hd]];exact Zgh (d:=d) (c:=c) hk (h0 (by omega))
 | 7,_,hd,h0=>rw[show Z0P d ks=⟨(ks.headD fl0).suc,false,(ks.headD fl0).f⟩ by simp[Z0P,hd]];exact Zge (d:=d) (c:=c) hk (h0 (by omega))
 | 8,_,hd,h0=>rw[show Z0P d ks=⟨(ks.headD fl0).f,false,(ks.headD fl0).suc⟩ by simp[Z0P,hd]];exact Zgf (d:=d) (c:=c) hk (h0 (by omega))
 | 9,_,hd,h0=>rw[show Z0P d ks=ks.headD fl0 by simp[Z0P,hd]];exact Z5R (d:=d) (c:=c) hk (h0 (by omega))
def Z0M (b:Nat) (l:List Fl):Blk:=⟨b,.cells (l.flatMap Fl.cells).toArray 220 (0,0)⟩
theorem Z7h (l:List Fl):(l.flatMap Fl.cells).length=l.length * 3:=Z0i _ 3 Fl.cells_len l
theorem Z3S {I:GH} {M:List Blk} {b:Nat} {l:List Fl} (hM:Z0M b l∈M) {j:Nat} (hj:j < l.length):Rd I M ((⟨b,0,none⟩:Addr).add (j * 3)) 3 l[j].cells:=by
 have h:=Z0d (I:=I) (cs:=l.flatMap Fl.cells) (k:=j * 3) (n:=3) hM (by rw[Z7h];omega)
 rwa [Z3j Fl.cells 3 Fl.cells_len l j hj] at h
theorem Z7i (l:List Fl) (j:Nat) (hj:j < l.length) (x:Fl):Z05 (l.flatMap Fl.cells) (j * 3) x.cells=(l.set j x).flatMap Fl.cells:=by
 have e:l.flatMap Fl.cells=(l.take j).flatMap Fl.cells++(l[j].cells++(l.drop (j+1)).flatMap Fl.cells):=by
  have h1:l=l.take j++(l[j]::l.drop (j+1)):=by rw[←List.drop_eq_getElem_cons hj,List.take_append_drop]
  have h2:=congrArg (fun q:List Fl=>q.flatMap Fl.cells) h1;simp only[List.flatMap_append,List.flatMap_cons] at h2;exact h2
 have hl:((l.take j).flatMap Fl.cells).length=j * 3:=by rw[Z7h,List.length_take];congr 1;omega
 unfold Z05;rw[List.set_eq_take_append_cons_drop,if_pos hj,List.flatMap_append,List.flatMap_cons,e,List.append_assoc]
 congr 1
 ·rw[←hl,List.take_left]
 ·congr 1
  rw[Fl.cells_len,←hl,←List.append_assoc,List.drop_left' (by rw[List.length_append,Fl.cells_len])]
theorem ZaC (l:List Fl) (x:Fl):(l++[x]).flatMap Fl.cells=l.flatMap Fl.cells++x.cells:=by simp
theorem OS.zero {os:OS} {size:Nat} {xs:List Value} (h:os.ok size xs):OS.ok ⟨os.a,0,os.c,os.cur⟩ size []:=by
 refine⟨by simp,fun ha=>⟨rfl,(h.nil ha).2⟩,fun g hg=>?_⟩;obtain⟨h1,h2,h3,h4⟩:=h.cap g hg
 exact⟨h1,Nat.zero_le _,h3,by simp⟩
theorem OS.fsAt {I:GH} {M:List Blk} {os:OS} {l:List Fl} {e:Nat} (h:os.ok 3 (l.flatMap Fl.cells)) (hM:∀ x∈os.blk e,x∈M):FsAt I M (os.a.map fun g=>⟨g,0,none⟩) os.n l:=by
 have hl:=h.len;rw[Z7h] at hl;refine⟨by omega,fun j hj=>?_⟩;obtain⟨a,n,c,cur⟩:=os
 simp only at hl
 cases a with
 | none=>have:=(h.nil rfl).1;simp only at this;omega
 | some g=>
  obtain⟨h1,h2,h3,h4⟩:=h.cap g rfl;simp only at h1 h2 h4;refine⟨⟨g,0,none⟩,rfl,?_⟩;have hm:(⟨g,.cells cur.toArray e (0,0)⟩:Blk)∈M:=hM _ (by simp[OS.blk])
  have hr:=Z0d (I:=I) (cs:=cur) (k:=j * 3) (n:=3) hm (by omega)
  have e1:(cur.drop (j * 3)).take 3=((cur.take (n * 3)).drop (j * 3)).take 3:=by
   rw[List.drop_take,List.take_take]
   congr 1
   omega
  rw[e1,h4,Z3j Fl.cells 3 Fl.cells_len l j hj] at hr;exact hr
def Z5n (pl:List (ByteArray×Int)) (fl acc:List Fl) (d:Nd):List Fl:=
 d.kids.map (fun k=>acc.getD k.toNat fl0)++bif decide (d.k=3) then [fl.getD ((Z0q d.t pl).getD 0).toNat fl0] else []
def Z0e (pl:List (ByteArray×Int)) (fl:List Fl):List Nd->List Fl->List Fl
 | [],acc=>acc
 | d::ds,acc=>Z0e pl fl ds (acc++[Z0P d (Z5n pl fl acc d)])
theorem Z2V (pl:List (ByteArray×Int)) (fl:List Fl):∀ (ds:List Nd) (acc:List Fl),(Z0e pl fl ds acc).length=acc.length+ds.length
 | [],acc=>rfl
 | d::ds,acc=>by
  rw[Z0e,Z2V];simp
  omega
def Zk4 (pl:List (ByteArray×Int)) (n:Nat) (ns:List Nd):Prop:=∀ d∈ns,d.k=3->∃ i:Nat,Z0q d.t pl=some (i:Int)∧i < n
theorem Zk5 {d:Nd} {n:Int} (h:Z31 d n=true):d.k < 10:=by
 apply Int.lt_of_not_ge
 intro hge;have:(10:Int)≤d.k:=hge;simp[Z31,this] at h
theorem Zds {d:Nd} {n:Int} (h0:0≤d.k) (h:Z31 d n=true) (hk:6≤d.k):0 < n:=by
 have h10:=Zk5 h
 have hcases:d.k=6∨d.k=7∨d.k=8∨d.k=9:=by omega
 rcases hcases with e | e | e | e<;>(simp[Z31,e,Z9g,Z6P,countsL] at h;omega)
theorem ZmH (acc:List Fl) (n i:Nat) (hl:acc.length=i) (hi:i < n) (x:Fl):(acc++List.replicate (n - i) fl0).set i x=(acc++[x])++List.replicate (n - (i+1)) fl0:=by
 subst hl;rw[List.set_append_right _ _ (Nat.le_refl _),Nat.sub_self,show n - acc.length=(n - (acc.length+1))+1 by omega,List.replicate_succ,List.set_cons_zero];simp
theorem Zdt:∀ n:Nat,Z15 fl0.cells (n * 3)=(List.replicate n fl0).flatMap Fl.cells:=fun n=>by
 apply List.ext_getElem
 ·rw[Z7h,List.length_replicate]
  simp[Z28,madeCells]
 intro i h1 h2
 have h3:∀ x∈(List.replicate n fl0).flatMap Fl.cells,x=Value.bool false:=fun x hx=>by
  obtain⟨y,hy,hx⟩:=List.mem_flatMap.1 hx;have:=List.eq_of_mem_replicate hy;subst this
  simpa[Fl.cells,fl0] using hx
 rw[h3 _ (List.getElem_mem h2)]
 have hz:∀ j,j < 3->fl0.cells[j]! = Value.bool false:=fun j hj=>by
  match j,hj with
  | 0,_=>rfl
  | 1,_=>rfl
  | 2,_=>rfl
 simp only[Z15,List.getElem_map,List.getElem_range];exact hz _ (Nat.mod_lt _ (by decide))
theorem Z49 {acc:List Fl} {n i:Nat} (hacc:acc.length=i) (hlt:i < n) (x:Fl):Nat.ble (0+i * 3+x.cells.length) ((acc++List.replicate (n - i) fl0).flatMap Fl.cells).length=true:=by
 rw[Nat.ble_eq,Z7h,Fl.cells_len,List.length_append,List.length_replicate];omega
set_option maxRecDepth 100000 in
set_option maxHeartbeats 16000000 in
theorem Z7j {I:GH} {M0:List Blk} {t:Tr} (ht:t.ok I) (hr:right t=true) {gm:Nat} {pl:List (ByteArray×Int)} (hm:I gm=some (Z58 pl)) {la:Option Addr} {ln lc:Nat} {fl:List Fl} (hfl:FsAt I M0 la ln fl) (hc:Zk4 pl ln t.ns) :
  Spec Tryz.prog 179 [.map (some gm),.slice la ln lc,t.val] I M0 fun v I' M'=>I'=I∧∃ b,v=.slice (some ⟨b,0,none⟩) t.n t.n∧M'=Z0M b (Z0e pl fl t.ns [])::M0:=by
 refine Z01 [] Z00 Tryz.func179 rfl rfl rfl ?_;intro B h0;have htn:=ht.n;have hcap:=ht.rs.cap;refine CallOb.mk [] M0 _ (.refl _) ZeF ?_;rintro v I1 M1 - ⟨rfl,rfl,rfl⟩;refine MakeOb.mk t.n t.n rfl rfl (Nat.le_refl _) (by show 3 * t.n≤_;omega) (by omega) ?_
 refine AllocOb.mk fun b8 hb8 hbM8=>?_
 refine LoopOb.inv (ι:=Nat×List Fl×OS) (fun x=>{ fl:=[(0,.val (.map (some gm))),(1,.val (.slice la ln lc)),(5,.ref 5 0),(7,.ref 7 0),(8,.val (.slice (some ⟨b8,0,none⟩) t.n t.n)),(9,.val x.2.2.val),(20,.val (.slice t.a t.n t.c)),(21,.val (.int .i64 t.n)),(22,.val (.int .i64 x.1))],cl:=[(5,t.cells),(7,comeVs)],gi:=I1,mi:=Z0M b8 (x.2.1++List.replicate (t.n - x.1) fl0)::(x.2.2.blk 220++M0) })
  (fun x=>x.1≤t.n∧x.2.1.length=x.1∧Z0e pl fl t.ns []=Z0e pl fl (t.ns.drop x.1) x.2.1∧∃ ks,x.2.2.ok 3 ks) (fun x=>t.n - x.1) ?_ ?_
 ·refine⟨(0,[],OS0),⟨Nat.zero_le _,rfl,rfl,[],Z1C 3⟩,?_,aF9,.cons rfl (.cons rfl .nil)⟩
  have e:Z15 fl0.cells (t.n * 3)=(List.replicate t.n fl0).flatMap Fl.cells:=Zdt t.n;simp only[Z0M,List.nil_append,Nat.sub_zero];rw[←e]
  exact .refl
 rintro⟨i,acc,ko⟩ ⟨hi,hacc,hnf,kx,hko⟩;simp only at hi hacc hnf hko
 refine CondOb.mk (fun h=>?_) (fun h=>?_)
 rotate_left
 ·have hge:i=t.n:=by have:¬ (i:Int) < (t.n:Int):=of_decide_eq_false h;omega
  subst hge;rw[List.drop_eq_nil_of_le (by omega),Z0e] at hnf;refine⟨I1,Z0M b8 (acc++List.replicate (t.n - t.n) fl0)::M0,.sub (.cons_cons _ (List.sublist_append_right _ _)) .refl,rfl,b8,rfl,?_⟩;rw[hnf,Nat.sub_self,List.replicate_zero,List.append_nil]
 have hlt:i < t.n:=by have:(i:Int) < (t.n:Int):=of_decide_eq_true h;omega
 have hlt':i < t.ns.length:=by omega
 obtain⟨ad,had,hrd⟩:=ht.rs.row Nd.cells_len hlt hlt';have hdm:=List.getElem_mem hlt';have hd:=ht.ns _ hdm;have hkn:=hd.kn;have hkc:=hd.rs.cap;have hkv:=Z0j hr i hlt';have hft:=Z1A hr hlt';have hcd:=hc _ hdm
 have hnf':Z0e pl fl t.ns []=Z0e pl fl (t.ns.drop (i+1)) (acc++[Z0P t.ns[i] (Z5n pl fl acc t.ns[i])]):=by
  rw[hnf,List.drop_eq_getElem_cons hlt',Z0e]
 generalize t.ns[i]=d at hrd hd hkn hkc hkv hft hcd hnf';have hk0:=hd.k.1;have hk10:=Zk5 hft
 have hrow:∀ {M:List Blk} {q:Int},Z0M b8 (acc++List.replicate (t.n - i) fl0)∈M->q∈d.kids->Rd I1 M ((⟨b8,0,none⟩:Addr).add (q.toNat * 3)) 3 (acc.getD q.toNat fl0).cells:=fun {M q} hM hq=>by
  have hq':=hkv q hq
  have hql:q.toNat < acc.length:=by omega
  have:=Z3S (I:=I1) hM (j:=q.toNat) (by rw[List.length_append];omega);rw[List.getElem_append_left hql] at this
  simpa[List.getD_eq_getElem?_getD,hql] using this
 refine IdxOb.mk ad i had rfl hlt ?_;refine LoadOb.mk _ (hrd _) ?_;refine SliceOb.mk 0 0 rfl rfl (Nat.le_refl _) (Nat.zero_le _) ?_
 refine LoopOb.inv (ι:=Nat×OS×List Fl) (fun x=>{ fl:=[(0,.val (.map (some gm))),(1,.val (.slice la ln lc)),(5,.ref 5 0),(7,.ref 7 0),(8,.val (.slice (some ⟨b8,0,none⟩) t.n t.n)),(9,.val x.2.1.val),(10,.val (.int .i64 i)),(11,.ref 11 0),(20,.val (.slice t.a t.n t.c)),(21,.val (.int .i64 t.n)),(22,.val (.int .i64 i)),(30,.val (.slice d.ka d.kn d.kc)),(31,.val (.int .i64 d.kn)),(32,.val (.int .i64 x.1))],cl:=[(5,t.cells),(7,comeVs),(11,d.cells)],gi:=I1,mi:=Z0M b8 (acc++List.replicate (t.n - i) fl0)::(x.2.1.blk 220++M0) })
  (fun x=>x.1≤d.kn∧x.2.1.ok 3 (x.2.2.flatMap Fl.cells)∧x.2.2=(d.kids.take x.1).map fun k=>acc.getD k.toNat fl0) (fun x=>d.kn - x.1) ?_ ?_
 ·exact⟨(0,⟨ko.a,0,ko.c,ko.cur⟩,[]),⟨Nat.zero_le _,OS.zero hko,rfl⟩,.refl,Zoz,.cons rfl (.cons rfl (.cons rfl .nil))⟩
 rintro⟨k,k2,kl⟩ ⟨hk,hk2,hkl⟩;simp only at hk hk2 hkl
 have hk2n:k2.n=kl.length:=by have:=hk2.len;rw[Z7h] at this;omega
 have hkll:kl.length≤k:=by rw[hkl,List.length_map];exact List.length_take_le _ _
 refine CondOb.mk (fun h=>?_) (fun h=>?_)
 ·have hkk:k < d.kn:=by have:(k:Int) < (d.kn:Int):=of_decide_eq_true h;omega
  have hkk':k < d.kids.length:=by omega
  obtain⟨ak,hak,hrk⟩:=hd.rs.one hkk hkk';have hq:=hkv _ (List.getElem_mem hkk');refine IdxOb.mk ak k hak rfl hkk ?_
  refine LoadOb.mk _ (hrk _) ?_;refine IdxOb.mk ⟨b8,0,none⟩ d.kids[k].toNat rfl (by omega) (by omega) ?_;refine LoadOb.mk _ (hrow (.head _) (List.getElem_mem hkk')) ?_
  refine AllocOb.mk fun b9 hb9 hbM9=>?_
  refine OtherOb.append Z00 rfl (by simp) (e:=220) rfl rfl rfl k2 hk2 rfl (m:=1) rfl (news:=(acc.getD d.kids[k].toNat fl0).cells) (by decide) (Z0d (b:=b9) (cs:=(acc.getD d.kids[k].toNat fl0).cells) (k:=0) (n:=3) (T:=220) (.head _) (Nat.le_of_ble_eq_true rfl)) rfl (Mr:=⟨b9,.cells (acc.getD d.kids[k].toNat fl0).cells.toArray 220 (0,0)⟩::Z0M b8 (acc++List.replicate (t.n - i) fl0)::M0) (by
   have:=List.perm_append_comm_assoc [(⟨b9,.cells (acc.getD d.kids[k].toNat fl0).cells.toArray 220 (0,0)⟩:Blk),Z0M b8 (acc++List.replicate (t.n - i) fl0)] (k2.blk 220) M0
   exact this) (by simp only[maxLen];omega) (by show (k2.n+1) * 3≤_;omega) ?_
  intro g2 c2 cur2 r1 r2 r3 r4;refine ArithOb.mk _ (Z03 (i:=k) (by omega)) ?_;refine⟨(k+1,⟨some g2,k2.n+1,c2,cur2⟩,kl++[acc.getD d.kids[k].toNat fl0]),⟨⟨by simp only;omega,?_,?_⟩,by simp only;omega⟩,.sub (M1:=[(⟨g2,.cells cur2.toArray 220 (0,0)⟩:Blk),Z0M b8 (acc++List.replicate (t.n - i) fl0)]++M0) (.cons_cons _ (.cons _ (.refl _))) (.perm (List.Perm.swap _ _ _) .refl),Zoz,.cons rfl (.cons rfl (.cons rfl .nil))⟩
  ·simp only
   rw[ZaC];exact Zgc hk2 (Fl.cells_len _) r1 r2 r3 r4
  ·simp only
   rw[List.take_succ_eq_append_getElem hkk',List.map_append,←hkl];rfl
 have hge:d.kn≤k:=by have:¬ (k:Int) < (d.kn:Int):=of_decide_eq_false h;omega
 rw[List.take_of_length_le (by omega)] at hkl
 have hkln:kl.length=d.kids.length:=by rw[hkl,List.length_map]
 have hb2:k2.n+1≤140737488355328:=by omega
 clear h hk hkll
 have hset:∀ x:Fl,Z05 ((acc++List.replicate (t.n - i) fl0).flatMap Fl.cells) (0+i * 3) x.cells=((acc++[x])++List.replicate (t.n - (i+1)) fl0).flatMap Fl.cells:=fun x=>by
  rw[Nat.zero_add,Z7i _ _ (by simp;omega),ZmH acc t.n i hacc hlt]
 have hinv:∀ (ko2:OS) (ks2:List Value),ko2.ok 3 ks2->((i+1≤t.n∧(acc++[Z0P d (Z5n pl fl acc d)]).length=i+1∧Z0e pl fl t.ns []=Z0e pl fl (t.ns.drop (i+1)) (acc++[Z0P d (Z5n pl fl acc d)])∧∃ ks,ko2.ok 3 ks)∧t.n - (i+1) < t.n - i):=fun ko2 ks2 h2=>
  ⟨⟨hlt,by simp[hacc],hnf',ks2,h2⟩,by omega⟩
 by_cases h3:d.k=3
 ·refine CondOb.mk (fun _=>?_) (fun h=>absurd h (by simp[h3]))
  obtain⟨q,hq1,hq2⟩:=hcd h3
  have hkf:Z5n pl fl acc d=kl++[fl.getD q fl0]:=by
   rw[Z5n,←hkl,hq1,h3];rfl
  have hql:q < fl.length:=by rw[hfl.n];exact hq2
  obtain⟨al,hal,hrl⟩:=hfl.rd q hql
  have hgq:fl.getD q fl0=fl[q]:=by simp[List.getD_eq_getElem?_getD,hql]
  refine OtherOb.lookupF Z00 rfl (by simp) rfl rfl rfl rfl (fun w=>Z4H w) (l:=pl) (g:=gm) rfl rfl (.inl hm) ?_;rw[hq1];refine IdxOb.mk al q hal rfl hq2 ?_
  refine LoadOb.mk _ (hrl.sub fun x hx=>by simp[hx]) ?_
  refine AllocOb.mk fun b9 hb9 hbM9=>?_
  refine OtherOb.append Z00 rfl (by simp) (e:=220) rfl rfl rfl k2 hk2 rfl (m:=1) rfl (news:=fl[q].cells) (by decide) (Z0d (b:=b9) (cs:=fl[q].cells) (k:=0) (n:=3) (T:=220) (.head _) (Nat.le_of_ble_eq_true rfl)) rfl (Mr:=⟨b9,.cells fl[q].cells.toArray 220 (0,0)⟩::Z0M b8 (acc++List.replicate (t.n - i) fl0)::M0) (by
   have:=List.perm_append_comm_assoc [(⟨b9,.cells fl[q].cells.toArray 220 (0,0)⟩:Blk),Z0M b8 (acc++List.replicate (t.n - i) fl0)] (k2.blk 220) M0
   exact this) (by simp only[maxLen];omega) (by show (k2.n+1) * 3≤_;omega) ?_
  intro g2 c2 cur2 r1 r2 r3 r4;have hok2:=Zgc (g:=g2) hk2 (Fl.cells_len fl[q]) r1 r2 r3 r4;rw[←ZaC,←hgq,←hkf] at hok2
  have hks:=OS.fsAt (I:=I1) (M:=⟨g2,.cells cur2.toArray 220 (0,0)⟩::⟨b9,.cells fl[q].cells.toArray 220 (0,0)⟩::Z0M b8 (acc++List.replicate (t.n - i) fl0)::M0) (e:=220) hok2 (fun x hx=>by
   simp only[OS.blk,List.mem_singleton] at hx;subst hx
   exact .head _)
  refine CodeOb.draw Z00 rfl rfl rfl ?_;obtain⟨dk,s0,s1,s2,s3,dt,lo,hi',dka,dkn,dkc,dkids⟩:=d;simp only at h3;subst h3;refine ArrOb.mk 3 rfl (by decide) ?_;refine PCallOb.mkR _ [] _ Z1d (Z2N (d:=⟨3,s0,s1,s2,s3,dt,lo,hi',dka,dkn,dkc,dkids⟩) hks hb2 3 (by decide) rfl (fun _=>Nat.succ_pos _)) (fun v I' M' h x hx=>by rw[h.2.2];exact hx) ?_;rintro v I2 M2 - ⟨rfl,rfl,rfl⟩;rw[List.append_nil]
  refine IdxOb.mk ⟨b8,0,none⟩ i rfl rfl hlt ?_;refine StoreOb.addTo [(⟨g2,.cells cur2.toArray 220 (0,0)⟩:Blk),⟨b9,.cells fl[q].cells.toArray 220 (0,0)⟩] M0 ((acc++List.replicate (t.n - i) fl0).flatMap Fl.cells) _ rfl (Z49 hacc hlt _) rfl _ (hset _) ?_;refine ArithOb.mk _ (Z03 (i:=i) (by omega)) ?_;exact⟨(i+1,_,⟨some g2,k2.n+1,c2,cur2⟩),hinv _ _ hok2,.sub (M1:=[(⟨g2,.cells cur2.toArray 220 (0,0)⟩:Blk),Z0M b8 _]++M0) (.cons_cons _ (.cons _ (.refl _))) (.perm (List.Perm.swap _ _ _) .refl),aF9,.cons rfl (.cons rfl .nil)⟩
 refine CondOb.mk (fun h=>absurd (of_decide_eq_true h) h3) (fun _=>?_)
 have hkf:Z5n pl fl acc d=kl:=by
  rw[Z5n,←hkl,decide_eq_false h3];simp
 rw[hkf] at hinv;have hks:=OS.fsAt (I:=I1) (M:=Z0M b8 (acc++List.replicate (t.n - i) fl0)::(k2.blk 220++M0)) (e:=220) hk2 (fun x hx=>by simp[hx])
 have hpos:6≤d.k->0 < k2.n:=fun h6=>by
  have:=Zds hk0 hft h6;omega
 have hcases:d.k=0∨d.k=1∨d.k=2∨d.k=4∨d.k=5∨d.k=6∨d.k=7∨d.k=8∨d.k=9:=by omega
 obtain⟨dk,s0,s1,s2,s3,dt,lo,hi',dka,dkn,dkc,dkids⟩:=d;simp only at hcases hpos h3;refine CodeOb.draw Z00 rfl rfl rfl ?_
 rcases hcases with rfl | rfl | rfl | rfl | rfl | rfl | rfl | rfl | rfl
 ·refine ArrOb.mk 0 rfl (by decide) ?_
  refine PCallOb.mkR _ [] _ Z1d (Z2N (d:=⟨0,s0,s1,s2,s3,dt,lo,hi',dka,dkn,dkc,dkids⟩) hks (Nat.le_of_succ_le hb2) 0 (by decide) rfl (fun h=>by omega)) (fun v I' M' h x hx=>by rw[h.2.2];exact hx) ?_;rintro v I2 M2 - ⟨rfl,rfl,rfl⟩;rw[List.append_nil]
  refine IdxOb.mk ⟨b8,0,none⟩ i rfl rfl hlt ?_;refine StoreOb.addTo [] (k2.blk 220++M0) ((acc++List.replicate (t.n - i) fl0).flatMap Fl.cells) _ rfl (Z49 hacc hlt _) rfl _ (hset _) ?_;refine ArithOb.mk _ (Z03 (i:=i) (by omega)) ?_;exact⟨(i+1,_,k2),hinv _ _ hk2,.refl,aF9,.cons rfl (.cons rfl .nil)⟩
 ·refine ArrOb.mk 1 rfl (by decide) ?_
  refine PCallOb.mkR _ [] _ Z1d (Z2N (d:=⟨1,s0,s1,s2,s3,dt,lo,hi',dka,dkn,dkc,dkids⟩) hks (Nat.le_of_succ_le hb2) 1 (by decide) rfl (fun h=>by omega)) (fun v I' M' h x hx=>by rw[h.2.2];exact hx) ?_;rintro v I2 M2 - ⟨rfl,rfl,rfl⟩;rw[List.append_nil]
  refine IdxOb.mk ⟨b8,0,none⟩ i rfl rfl hlt ?_;refine StoreOb.addTo [] (k2.blk 220++M0) ((acc++List.replicate (t.n - i) fl0).flatMap Fl.cells) _ rfl (Z49 hacc hlt _) rfl _ (hset _) ?_;refine ArithOb.mk _ (Z03 (i:=i) (by omega)) ?_;exact⟨(i+1,_,k2),hinv _ _ hk2,.refl,aF9,.cons rfl (.cons rfl .nil)⟩
 ·refine ArrOb.mk 2 rfl (by decide) ?_
  refine PCallOb.mkR _ [] _ Z1d (Z2N (d:=⟨2,s0,s1,s2,s3,dt,lo,hi',dka,dkn,dkc,dkids⟩) hks (Nat.le_of_succ_le hb2) 2 (by decide) rfl (fun h=>by omega)) (fun v I' M' h x hx=>by rw[h.2.2];exact hx) ?_;rintro v I2 M2 - ⟨rfl,rfl,rfl⟩;rw[List.append_nil]
  refine IdxOb.mk ⟨b8,0,none⟩ i rfl rfl hlt ?_;refine StoreOb.addTo [] (k2.blk 220++M0) ((acc++List.replicate (t.n - i) fl0).flatMap Fl.cells) _ rfl (Z49 hacc hlt _) rfl _ (hset _) ?_;refine ArithOb.mk _ (Z03 (i:=i) (by omega)) ?_;exact⟨(i+1,_,k2),hinv _ _ hk2,.refl,aF9,.cons rfl (.cons rfl .nil)⟩
 ·refine ArrOb.mk 4 rfl (by decide) ?_
  refine PCallOb.mkR _ [] _ Z1d (Z2N (d:=⟨4,s0,s1,s2,s3,dt,lo,hi',dka,dkn,dkc,dkids⟩) hks (Nat.le_of_succ_le hb2) 4 (by decide) rfl (fun h=>by omega)) (fun v I' M' h x hx=>by rw[h.2.2];exact hx) ?_;rintro v I2 M2 - ⟨rfl,rfl,rfl⟩;rw[List.append_nil]
  refine IdxOb.mk ⟨b8,0,none⟩ i rfl rfl hlt ?_;refine StoreOb.addTo [] (k2.blk 220++M0) ((acc++List.replicate (t.n - i) fl0).flatMap Fl.cells) _ rfl (Z49 hacc hlt _) rfl _ (hset _) ?_;refine ArithOb.mk _ (Z03 (i:=i) (by omega)) ?_;exact⟨(i+1,_,k2),hinv _ _ hk2,.refl,aF9,.cons rfl (.cons rfl .nil)⟩
 ·refine ArrOb.mk 5 rfl (by decide) ?_
  refine PCallOb.mkR _ [] _ Z1d (Z2N (d:=⟨5,s0,s1,s2,s3,dt,lo,hi',dka,dkn,dkc,dkids⟩) hks (Nat.le_of_succ_le hb2) 5 (by decide) rfl (fun h=>by omega)) (fun v I' M' h x hx=>by rw[h.2.2];exact hx) ?_;rintro v I2 M2 - ⟨rfl,rfl,rfl⟩;rw[List.append_nil]
  refine IdxOb.mk ⟨b8,0,none⟩ i rfl rfl hlt ?_;refine StoreOb.addTo [] (k2.blk 220++M0) ((acc++List.replicate (t.n - i) fl0).flatMap Fl.cells) _ rfl (Z49 hacc hlt _) rfl _ (hset _) ?_;refine ArithOb.mk _ (Z03 (i:=i) (by omega)) ?_;exact⟨(i+1,_,k2),hinv _ _ hk2,.refl,aF9,.cons rfl (.cons rfl .nil)⟩
 ·refine ArrOb.mk 6 rfl (by decide) ?_
  refine PCallOb.mkR _ [] _ Z1d (Z2N (d:=⟨6,s0,s1,s2,s3,dt,lo,hi',dka,dkn,dkc,dkids⟩) hks (Nat.le_of_succ_le hb2) 6 (by decide) rfl (fun _=>hpos (by decide))) (fun v I' M' h x hx=>by rw[h.2.2];exact hx) ?_;rintro v I2 M2 - ⟨rfl,rfl,rfl⟩;rw[List.append_nil]
  refine IdxOb.mk ⟨b8,0,none⟩ i rfl rfl hlt ?_;refine StoreOb.addTo [] (k2.blk 220++M0) ((acc++List.replicate (t.n - i) fl0).flatMap Fl.cells) _ rfl (Z49 hacc hlt _) rfl _ (hset _) ?_;refine ArithOb.mk _ (Z03 (i:=i) (by omega)) ?_;exact⟨(i+1,_,k2),hinv _ _ hk2,.refl,aF9,.cons rfl (.cons rfl .nil)⟩
 ·refine ArrOb.mk 7 rfl (by decide) ?_
  refine PCallOb.mkR _ [] _ Z1d (Z2N (d:=⟨7,s0,s1,s2,s3,dt,lo,hi',dka,dkn,dkc,dkids⟩) hks (Nat.le_of_succ_le hb2) 7 (by decide) rfl (fun _=>hpos (by decide))) (fun v I' M' h x hx=>by rw[h.2.2];exact hx) ?_;rintro v I2 M2 - ⟨rfl,rfl,rfl⟩;rw[List.append_nil]
  refine IdxOb.mk ⟨b8,0,none⟩ i rfl rfl hlt ?_;refine StoreOb.addTo [] (k2.blk 220++M0) ((acc++List.replicate (t.n - i) fl0).flatMap Fl.cells) _ rfl (Z49 hacc hlt _) rfl _ (hset _) ?_;refine ArithOb.mk _ (Z03 (i:=i) (by omega)) ?_;exact⟨(i+1,_,k2),hinv _ _ hk2,.refl,aF9,.cons rfl (.cons rfl .nil)⟩
 ·refine ArrOb.mk 8 rfl (by decide) ?_
  refine PCallOb.mkR _ [] _ Z1d (Z2N (d:=⟨8,s0,s1,s2,s3,dt,lo,hi',dka,dkn,dkc,dkids⟩) hks (Nat.le_of_succ_le hb2) 8 (by decide) rfl (fun _=>hpos (by decide))) (fun v I' M' h x hx=>by rw[h.2.2];exact hx) ?_;rintro v I2 M2 - ⟨rfl,rfl,rfl⟩;rw[List.append_nil]
  refine IdxOb.mk ⟨b8,0,none⟩ i rfl rfl hlt ?_;refine StoreOb.addTo [] (k2.blk 220++M0) ((acc++List.replicate (t.n - i) fl0).flatMap Fl.cells) _ rfl (Z49 hacc hlt _) rfl _ (hset _) ?_;refine ArithOb.mk _ (Z03 (i:=i) (by omega)) ?_;exact⟨(i+1,_,k2),hinv _ _ hk2,.refl,aF9,.cons rfl (.cons rfl .nil)⟩
 ·refine ArrOb.mk 9 rfl (by decide) ?_
  refine PCallOb.mkR _ [] _ Z1d (Z2N (d:=⟨9,s0,s1,s2,s3,dt,lo,hi',dka,dkn,dkc,dkids⟩) hks (Nat.le_of_succ_le hb2) 9 (by decide) rfl (fun _=>hpos (by decide))) (fun v I' M' h x hx=>by rw[h.2.2];exact hx) ?_;rintro v I2 M2 - ⟨rfl,rfl,rfl⟩;rw[List.append_nil]
  refine IdxOb.mk ⟨b8,0,none⟩ i rfl rfl hlt ?_;refine StoreOb.addTo [] (k2.blk 220++M0) ((acc++List.replicate (t.n - i) fl0).flatMap Fl.cells) _ rfl (Z49 hacc hlt _) rfl _ (hset _) ?_;refine ArithOb.mk _ (Z03 (i:=i) (by omega)) ?_;exact⟨(i+1,_,k2),hinv _ _ hk2,.refl,aF9,.cons rfl (.cons rfl .nil)⟩
structure Fl.le (a b:Fl):Prop where
 z:a.z=true->b.z=true
 s:a.s=true->b.s=true
 f:a.f=true->b.f=true
theorem Fl.le_refl (a:Fl):a.le a:=⟨id,id,id⟩
theorem Fl.le.trans {a b c:Fl} (h:a.le b) (h':b.le c):a.le c:=⟨fun x=>h'.z (h.z x),fun x=>h'.s (h.s x),fun x=>h'.f (h.f x)⟩
theorem Fl.le.antisymm {a b:Fl} (h:a.le b) (h':b.le a):a=b:=by
 obtain⟨a1,a2,a3⟩:=a;obtain⟨b1,b2,b3⟩:=b
 have e:∀ {x y:Bool},(x=true->y=true)->(y=true->x=true)->x=y:=fun {x y} h h'=>by cases x<;>cases y<;>simp_all
 have e1:a1=b1:=e h.z h'.z;have e2:a2=b2:=e h.s h'.s;have e3:a3=b3:=e h.f h'.f;subst e1 e2 e3;rfl
theorem Fl.bot (a:Fl):fl0.le a:=⟨(fun h=>by cases h),(fun h=>by cases h),(fun h=>by cases h)⟩
def ZoE (a b:Fl):Bool:=(!a.z || b.z) && ((!a.s || b.s) && (!a.f || b.f))
theorem Fl.suc_mono {a b:Fl} (h:a.le b):a.suc=true->b.suc=true:=by
 intro hs;simp only[Fl.suc,Bool.or_eq_true] at hs ⊢;exact hs.imp h.z h.s
inductive LeL:List Fl->List Fl->Prop
 | nil:LeL [] []
 | cons {a b l m} (h:Fl.le a b) (t:LeL l m):LeL (a::l) (b::m)
theorem LeL.refl:∀ l,LeL l l
 | []=>.nil
 | a::l=>.cons a.le_refl (LeL.refl l)
theorem LeL.trans:∀ {a b c},LeL a b->LeL b c->LeL a c
 | _,_,_,.nil,.nil=>.nil
 | _,_,_,.cons h t,.cons h' t'=>.cons (h.trans h') (t.trans t')
theorem LeL.antisymm:∀ {a b},LeL a b->LeL b a->a=b
 | _,_,.nil,_=>rfl
 | _,_,.cons h t,.cons h' t'=>by rw[h.antisymm h',t.antisymm t']
theorem LeL.len:∀ {a b},LeL a b->a.length=b.length
 | _,_,.nil=>rfl
 | _,_,.cons h t=>by simp[t.len]
theorem LeL.append:∀ {a b c d},LeL a b->LeL c d->LeL (a++c) (b++d)
 | _,_,_,_,.nil,h=>h
 | _,_,_,_,.cons h t,h'=>.cons h (t.append h')
theorem LeL.getD:∀ {a b},LeL a b->∀ i,(a.getD i fl0).le (b.getD i fl0)
 | _,_,.nil,i=>by simp;exact Fl.le_refl _
 | _,_,.cons h t,0=>h
 | _,_,.cons h t,i+1=>by simpa using t.getD i
theorem LeL.of:∀ {a b:List Fl},a.length=b.length->(∀ i,i < a.length->(a.getD i fl0).le (b.getD i fl0))->LeL a b
 | [],[],_,_=>.nil
 | x::a,y::b,hl,h=>.cons (by simpa using h 0 (by simp)) (LeL.of (by simpa using hl) fun i hi=>by simpa using h (i+1) (by simpa using hi))
theorem LeL.map {α:Type} {f g:α->Fl}:∀ {l:List α},(∀ x∈l,(f x).le (g x))->LeL (l.map f) (l.map g)
 | [],_=>.nil
 | x::l,h=>.cons (h x (.head _)) (LeL.map fun y hy=>h y (.tail _ hy))
theorem LeL.head {a b:List Fl} (h:LeL a b):(a.headD fl0).le (b.headD fl0):=by
 cases h with
 | nil=>exact Fl.le_refl _
 | cons h _=>exact h
theorem LeL.bot:∀ l:List Fl,LeL (List.replicate l.length fl0) l
 | []=>.nil
 | a::l=>.cons a.bot (LeL.bot l)
theorem Zdu:∀ {a b:List Fl},LeL a b->∀ {x y:Fl×Bool},x.1.le y.1->(x.2=true->y.2=true)->(a.foldl Z1p x).1.le (b.foldl Z1p y).1∧((a.foldl Z1p x).2=true->(b.foldl Z1p y).2=true)
 | _,_,.nil,_,_,h1,h2=>⟨h1,h2⟩
 | _,_,.cons h t,x,y,h1,h2=>by
  refine Zdu t ⟨?_,?_,?_⟩ ?_
  ·simp only[Z1p,Bool.and_eq_true]
   exact fun g=>⟨h1.z g.1,h.z g.2⟩
  ·simp only[Z1p,Bool.or_eq_true]
   exact fun g=>g.imp h1.s h.s
  ·simp only[Z1p,Bool.or_eq_true,Bool.and_eq_true]
   exact fun g=>g.imp h1.f fun g=>⟨h2 g.1,h.f g.2⟩
  ·simp only[Z1p,Bool.and_eq_true]
   exact fun g=>⟨h2 g.1,Fl.suc_mono h g.2⟩
theorem Zgj:∀ {a b:List Fl},LeL a b->∀ {x y:Fl},x.le y->(a.foldl Z48 x).le (b.foldl Z48 y)
 | _,_,.nil,_,_,h1=>h1
 | _,_,.cons h t,x,y,h1=>by
  refine Zgj t ⟨?_,?_,?_⟩
  ·simp only[Z48,Bool.or_eq_true,Bool.and_eq_true]
   exact fun g=>g.imp h1.z fun g=>⟨h1.f g.1,h.z g.2⟩
  ·simp only[Z48,Bool.or_eq_true,Bool.and_eq_true]
   exact fun g=>g.imp h1.s fun g=>⟨h1.f g.1,h.s g.2⟩
  ·simp only[Z48,Bool.and_eq_true]
   exact fun g=>⟨h1.f g.1,h.f g.2⟩
theorem ZiW (d:Nd) {a b:Fl} (h:a.le b):(Z9r d a).le (Z9r d b):=by
 unfold Z9r
 cases decide (d.hi=0) with
 | true=>exact Fl.le_refl _
 | false=>
  refine⟨?_,h.s,?_⟩
  ·simp only[cond_false,Bool.or_eq_true,Bool.and_eq_true]
   exact fun g=>g.imp h.z fun g=>⟨g.1,h.f g.2⟩
  ·simp only[cond_false,Bool.and_eq_true]
   exact fun g=>⟨g.1,h.f g.2⟩
theorem Zgk (d:Nd) {a b:List Fl} (h:LeL a b):(Z0P d a).le (Z0P d b):=by
 have hh:=h.head;unfold Z0P
 cases decide (d.k=0) with
 | true=>exact Fl.le_refl _
 | false=>
 cases decide (d.k=1) with
 | true=>exact Fl.le_refl _
 | false=>
 cases decide (d.k=2) with
 | true=>exact Fl.le_refl _
 | false=>
 cases decide (d.k=3) with
 | true=>exact hh
 | false=>
 cases decide (d.k=4) with
 | true=>
  have hs:=Zdu h (x:=(⟨true,false,false⟩,true)) (y:=(⟨true,false,false⟩,true)) (Fl.le_refl _) id;refine⟨hs.1.z,?_,hs.1.f⟩;simp only[cond_true,cond_false,Zgd,Z6b,Bool.and_eq_true]
  exact fun g=>⟨hs.1.s g.1,hs.2 g.2⟩
 | false=>
 cases decide (d.k=5) with
 | true=>exact Zgj h (Fl.le_refl _)
 | false=>
 cases decide (d.k=6) with
 | true=>exact ZiW d hh
 | false=>
 cases decide (d.k=7) with
 | true=>exact⟨Fl.suc_mono hh,id,hh.f⟩
 | false=>
 cases decide (d.k=8) with
 | true=>exact⟨hh.f,id,Fl.suc_mono hh⟩
 | false=>exact hh
theorem Zgl {pl:List (ByteArray×Int)} {fl fl' acc acc':List Fl} (h:LeL fl fl') (ha:LeL acc acc') (d:Nd):LeL (Z5n pl fl acc d) (Z5n pl fl' acc' d):=by
 unfold Z5n;refine(LeL.map fun k _=>ha.getD _).append ?_
 cases decide (d.k=3) with
 | true=>exact .cons (h.getD _) .nil
 | false=>exact .nil
theorem Z8D {pl:List (ByteArray×Int)} {fl fl':List Fl} (h:LeL fl fl'):∀ (ds:List Nd) {acc acc':List Fl},LeL acc acc'->LeL (Z0e pl fl ds acc) (Z0e pl fl' ds acc')
 | [],_,_,ha=>ha
 | d::ds,_,_,ha=>Z8D h ds (ha.append (.cons (Zgk d (Zgl h ha d)) .nil))
def Z1M (pl:List (ByteArray×Int)) (fl:List Fl) (d:Df):Fl:=(Z0e pl fl d.t.ns []).getD d.t.root.toNat fl0
theorem Z3u {pl:List (ByteArray×Int)} {fl fl':List Fl} (h:LeL fl fl') (d:Df):(Z1M pl fl d).le (Z1M pl fl' d):=(Z8D h d.t.ns .nil).getD _
def Z14 (pl:List (ByteArray×Int)):Nat->List Df->List Fl->List Fl
 | _,[],l=>l
 | i,d::ds,l=>Z14 pl (i+1) ds (l.set i (Z1M pl l d))
structure PreF (ds:List Df) (l:List Fl):Prop where
 len:l.length=ds.length
 up:∀ i (h:i < ds.length),(l.getD i fl0).le (Z1M (Z02 ds) l ds[i])
 least:∀ m:List Fl,m.length=ds.length->(∀ i (h:i < ds.length),(Z1M (Z02 ds) m ds[i]).le (m.getD i fl0))->LeL l m
theorem Z4M (l:List Fl) (i j:Nat) (x:Fl) (hi:i < l.length):(l.set i x).getD j fl0=if i=j then x else l.getD j fl0:=by
 simp only[List.getD_eq_getElem?_getD,List.getElem?_set]
 by_cases e:i=j
 ·subst e
  simp[hi]
 ·rw[if_neg e,if_neg e]
theorem PreF.start (ds:List Df):PreF ds (List.replicate ds.length fl0):=by
 refine⟨by simp,fun i h=>?_,fun m hm _=>by rw[←hm];exact LeL.bot m⟩
 have:(List.replicate ds.length fl0).getD i fl0=fl0:=by simp[List.getD_eq_getElem?_getD,h]
 rw[this];exact Fl.bot _
theorem PreF.step {ds:List Df} {l:List Fl} (h:PreF ds l) {i:Nat} (hi:i < ds.length):PreF ds (l.set i (Z1M (Z02 ds) l ds[i]))∧LeL l (l.set i (Z1M (Z02 ds) l ds[i])):=by
 have hil:i < l.length:=by rw[h.len];exact hi
 have hle:LeL l (l.set i (Z1M (Z02 ds) l ds[i])):=LeL.of (by simp) fun j hj=>by
  rw[Z4M _ _ _ _ hil]
  by_cases e:i=j
  ·subst e
   rw[if_pos rfl];exact h.up i hi
  ·rw[if_neg e]
   exact Fl.le_refl _
 refine⟨⟨by simpa using h.len,fun j hj=>?_,fun m hm hc=>?_⟩,hle⟩
 ·rw[Z4M _ _ _ _ hil]
  by_cases e:i=j
  ·subst e
   rw[if_pos rfl];exact Z3u hle _
  ·rw[if_neg e]
   exact(h.up j hj).trans (Z3u hle _)
 ·have hlm:=h.least m hm hc
  refine LeL.of (by simp[h.len,hm]) fun j hj=>?_
  rw[Z4M _ _ _ _ hil]
  by_cases e:i=j
  ·subst e
   rw[if_pos rfl];exact(Z3u hlm _).trans (hc i hi)
  ·rw[if_neg e]
   exact hlm.getD j
theorem Z4p {ds:List Df}:∀ (rest pre:List Df) {l:List Fl},ds=pre++rest->PreF ds l->PreF ds (Z14 (Z02 ds) pre.length rest l)∧LeL l (Z14 (Z02 ds) pre.length rest l) ∧
  (Z14 (Z02 ds) pre.length rest l=l->∀ i (h:i < ds.length),pre.length≤i->l.getD i fl0=Z1M (Z02 ds) l ds[i])
 | [],pre,l,hds,h=>⟨h,LeL.refl l,fun _ i hi hge=>by
  rw[hds,List.append_nil] at hi
  omega⟩
 | d::rest,pre,l,hds,h=>by
  have hi:pre.length < ds.length:=by rw[hds];simp
  have hd:ds[pre.length]=d:=by simp[hds]
  have hil:pre.length < l.length:=by rw[h.len];exact hi
  obtain⟨s1,s2⟩:=h.step hi;rw[hd] at s1 s2;obtain⟨r1,r2,r3⟩:=Z4p rest (pre++[d]) (by rw[hds];simp) s1;rw[List.length_append,List.length_cons,List.length_nil,Nat.zero_add] at r1 r2 r3;refine⟨r1,s2.trans r2,fun e i hi2 hge=>?_⟩
  have e1:l.set pre.length (Z1M (Z02 ds) l d)=l:=by
   refine LeL.antisymm ?_ s2;have:Z14 (Z02 ds) pre.length (d::rest) l=Z14 (Z02 ds) (pre.length+1) rest (l.set pre.length (Z1M (Z02 ds) l d)):=rfl;rw[this] at e;rw[e] at r2;exact r2
  have e2:Z14 (Z02 ds) (pre.length+1) rest l=l:=by
   have:Z14 (Z02 ds) pre.length (d::rest) l=Z14 (Z02 ds) (pre.length+1) rest (l.set pre.length (Z1M (Z02 ds) l d)):=rfl;rw[this,e1] at e;exact e
  rw[e1] at r3
  by_cases hp:i=pre.length
  ·subst hp
   have h4:=Z4M l pre.length pre.length (Z1M (Z02 ds) l d) hil;rw[e1,if_pos rfl] at h4;rw[h4,hd]
  ·exact r3 e2 i hi2 (by omega)
structure IsFlow (ds:List Df) (l:List Fl):Prop where
 len:l.length=ds.length
 fix:∀ i (h:i < ds.length),l.getD i fl0=Z1M (Z02 ds) l ds[i]
 least:∀ m:List Fl,m.length=ds.length->(∀ i (h:i < ds.length),(Z1M (Z02 ds) m ds[i]).le (m.getD i fl0))->LeL l m
theorem PreF.done {ds:List Df} {l:List Fl} (h:PreF ds l) (hf:Z14 (Z02 ds) 0 ds l=l):IsFlow ds l:=
 ⟨h.len,fun i hi=>(Z4p ds [] rfl h).2.2 hf i hi (Nat.zero_le _),h.least⟩
theorem IsFlow.unique {ds:List Df} {l l':List Fl} (h:IsFlow ds l) (h':IsFlow ds l'):l=l':=
 LeL.antisymm (h.least l' h'.len fun i hi=>by rw[←h'.fix i hi];exact Fl.le_refl _) (h'.least l h.len fun i hi=>by rw[←h.fix i hi];exact Fl.le_refl _)
def Zmn (x:Fl):Nat:=(bif x.z then 0 else 1)+((bif x.s then 0 else 1)+(bif x.f then 0 else 1))
def Zk6 (l:List Fl):Nat:=(l.map Zmn).sum
theorem Zl4 {a b:Fl} (h:a.le b):Zmn b≤Zmn a∧(Zmn a≤Zmn b->a=b):=by
 obtain⟨a1,a2,a3⟩:=a;obtain⟨b1,b2,b3⟩:=b;obtain⟨h1,h2,h3⟩:=h
 cases a1<;>cases b1<;>cases a2<;>cases b2<;>cases a3<;>cases b3<;>simp_all[Zmn]
theorem Zgm:∀ {l m:List Fl},LeL l m->Zk6 m≤Zk6 l∧(Zk6 l≤Zk6 m->l=m)
 | _,_,.nil=>⟨Nat.le_refl _,fun _=>rfl⟩
 | _,_,.cons h t=>by
  obtain⟨h1,h2⟩:=Zl4 h;obtain⟨t1,t2⟩:=Zgm t;simp only[Zk6,List.map_cons,List.sum_cons] at t1 t2 ⊢;refine⟨by omega,fun h=>?_⟩
  rw[h2 (by omega),t2 (by omega)]
theorem Zl5 {l m:List Fl} (h:LeL l m) (hne:m≠l):Zk6 m < Zk6 l:=by
 obtain⟨h1,h2⟩:=Zgm h
 apply Nat.lt_of_le_of_ne h1
 intro e;exact hne (h2 (by omega)).symm
def Z38 (nm:ByteArray):List Df->Nat->Option Int
 | [],_=>none
 | d::ds,i=>bif decide (nm=d.name) then some (i:Int) else Z38 nm ds (i+1)
theorem Z8E (s n:ByteArray) (v:Int):∀ l:List (ByteArray×Int),Z0q s (l++[(n,v)])=match Z0q s l with
  | some x=>some x
  | none=>bif decide (s=n) then some v else none
 | []=>rfl
 | p::l=>by
  have ih:=Z8E s n v l;simp only[List.cons_append,Z0q]
  cases decide (s=p.1) with
  | true=>rfl
  | false=>simpa using ih
theorem Z7k:∀ (ds:List Df) (acc:List (ByteArray×Int)) (i:Nat) (nm:ByteArray),Z0q nm (Z1e acc i ds)=match Z0q nm acc with
  | some x=>some x
  | none=>Z38 nm ds i
 | [],acc,i,nm=>by
  rw[Z1e,Z38]
  cases Z0q nm acc<;>rfl
 | d::ds,acc,i,nm=>by
  rw[Z1e,Z7k ds,Z38]
  cases hd:(Z0q d.name acc).isSome with
  | true=>
   simp only[cond_true]
   cases hl:Z0q nm acc with
   | some x=>rfl
   | none=>
    have:decide (nm=d.name)=false:=by
     rw[decide_eq_false_iff_not];intro e
     rw[←e,hl] at hd;cases hd
    rw[this];rfl
  | false=>
   simp only[cond_false,Z8E]
   cases hl:Z0q nm acc with
   | some x=>rfl
   | none=>cases decide (nm=d.name)<;>rfl
theorem Z3v (ds:List Df) (nm:ByteArray):Z0q nm (Z02 ds)=Z38 nm ds 0:=Z7k ds [] 0 nm
theorem Z5o:∀ {ds:List Df} {i:Nat} {nm:ByteArray} {v:Int},Z38 nm ds i=some v->∃ j:Nat,v=((i+j:Nat):Int)∧j < ds.length
 | d::ds,i,nm,v,h=>by
  unfold Z38 at h
  cases hd:decide (nm=d.name) with
  | true=>
   rw[hd] at h;simp only[cond_true,Option.some.injEq] at h;exact⟨0,by rw[←h];rfl,by simp⟩
  | false=>
   rw[hd] at h;obtain⟨j,h1,h2⟩:=Z5o h;exact⟨j+1,by rw[h1];congr 1;omega,by simpa using h2⟩
def Z2t (pl:List (ByteArray×Int)) (ns:List Nd):Bool:=ns.all fun d=>!decide (d.k=3) || (Z0q d.t pl).isSome
theorem ZaD {ds:List Df} {ns:List Nd} (h:Z2t (Z02 ds) ns=true):Zk4 (Z02 ds) ds.length ns:=by
 intro d hd hk;have:=List.all_eq_true.1 h d hd;simp only[hk,decide_true,Bool.not_true,Bool.false_or] at this;obtain⟨v,hv⟩:=Option.isSome_iff_exists.1 this;have hv':=hv;rw[Z3v] at hv';obtain⟨j,h1,h2⟩:=Z5o hv';rw[Nat.zero_add] at h1;exact⟨j,by rw[hv,h1],h2⟩
theorem Z7l:∀ (ds:List Df) {acc r:List (ByteArray×Int)} {i:Nat},Z86 acc i ds=some r->Z1e acc i ds=r
 | [],acc,r,i,h=>by
  simp only[Z86,Option.some.injEq] at h;exact h
 | d::ds,acc,r,i,h=>by
  unfold Z86 at h
  cases hd:(Z0q d.name acc).isSome with
  | true=>rw[hd] at h;cases h
  | false=>
   rw[hd] at h;rw[Z1e,hd];exact Z7l ds h
theorem Zgn {d:Df} {nd:Nd} (hn:nd∈d.t.ns):∀ (ds:List Df) (i:Nat),d∈ds->∃ j,(j,nd)∈Z0L i ds:=by
 intro ds
 induction ds with
 | nil=>intro i hd;cases hd
 | cons x ds ih=>
  intro i hd
  rcases List.mem_cons.1 hd with e | hd
  ·subst e
   exact⟨i,List.mem_append.2 (.inl (List.mem_map.2 ⟨nd,hn,rfl⟩))⟩
  ·obtain⟨j,hj⟩:=ih (i+1) hd
   exact⟨j,List.mem_append.2 (.inr hj)⟩
theorem Zgo {deb:List Int} {g:Gr} (h:Z13 deb g=0):∀ d∈g.ds,Z2t (Z02 g.ds) d.t.ns=true:=by
 unfold Z13 at h
 cases h1:decide ((g.n:Int)=0) with
 | true=>rw[h1] at h;cases h
 | false=>
 cases h2:Z1B g.ds with
 | false=>rw[h1,h2] at h;cases h
 | true=>
 cases h3:Z0Y deb g with
 | true=>rw[h1,h2,h3] at h;cases h
 | false=>
 rw[h1,h2,h3] at h;simp only[cond_false,Bool.not_true] at h
 split at h
 ·cases h
 ·rename_i acc hacc
  have hp:Z02 g.ds=acc:=Z7l g.ds hacc
  cases h4:Z1c acc g.ds with
  | false=>rw[h4] at h;cases h
  | true=>
   intro d hd;rw[hp,Z2t,List.all_eq_true];intro nd hnd
   obtain⟨j,hj⟩:=Zgn hnd g.ds 0 hd;exact List.all_eq_true.1 h4 _ hj
theorem ZmI {deb:List Int} {g:Gr} (h:Z13 deb g=0):Z1B g.ds=true:=by
 unfold Z13 at h
 cases h1:decide ((g.n:Int)=0) with
 | true=>rw[h1] at h;cases h
 | false=>
 cases h2:Z1B g.ds with
 | false=>rw[h1,h2] at h;cases h
 | true=>rfl
theorem FsAt.mono {I I':GH} {M:List Blk} {a:Option Addr} {n:Nat} {ks:List Fl} (h:FsAt I M a n ks) (hI:∀ b o,I b=some o->I' b=some o):FsAt I' M a n ks:=
 ⟨h.n,fun j hj=>by
  obtain⟨ad,h1,h2⟩:=h.rd j hj
  exact⟨ad,h1,h2.mono hI⟩⟩
theorem FsAt.sub {I:GH} {M M':List Blk} {a:Option Addr} {n:Nat} {ks:List Fl} (h:FsAt I M a n ks) (hM:∀ x∈M,x∈M'):FsAt I M' a n ks:=
 ⟨h.n,fun j hj=>by
  obtain⟨ad,h1,h2⟩:=h.rd j hj
  exact⟨ad,h1,h2.sub hM⟩⟩
theorem Z6m {I:GH} {M:List Blk} {b:Nat} {l:List Fl} (hM:Z0M b l∈M):FsAt I M (some ⟨b,0,none⟩) l.length l:=
 ⟨rfl,fun j hj=>⟨_,rfl,Z3S hM hj⟩⟩
def Z5S (g:Gr) (fl:List Fl) (t:Tr):Option (List Fl):=bif decide (fl.length=g.n) && (right t && Z2t (Z02 g.ds) t.ns) then some (Z0e (Z02 g.ds) fl t.ns []) else none
set_option maxHeartbeats 4000000 in
theorem Zca {I:GH} {M0:List Blk} {deb:List Int} (hT:Tabs I deb) {g:Gr} (hg:g.ok I) {t:Tr} (ht:t.ok I) {la:Option Addr} {ln lc:Nat} {fl:List Fl} (hfl:FsAt I M0 la ln fl) :
  Spec Tryz.prog 141 [g.val,.slice la ln lc,t.val] I M0 fun v I' M'=>(∀ b o,I b=some o->I' b=some o) ∧
   ((Z5S g fl t=none∧v=.tuple #[.slice none 0 0,.bool false]∧M'=M0)∨∃ r b,Z5S g fl t=some r∧v=.tuple #[.slice (some ⟨b,0,none⟩) t.n t.n,.bool true]∧M'=Z0M b r::M0):=by
 refine Z01 [] Z00 Tryz.func141 rfl rfl rfl ?_;intro B h0;have hgn:=hg.n;have htn:=ht.n;have hcap:=ht.rs.cap;have hfn:=hfl.n;refine GuardOb.mk (fun h=>?_) (fun h=>?_)
 rotate_left
 ·refine⟨_,_,.refl,fun _ _ h=>h,.inl ⟨?_,rfl,rfl⟩⟩
  have hne:¬ (ln:Int)=(g.n:Int):=by simpa using h
  have:decide (fl.length=g.n)=false:=decide_eq_false (by omega);simp[Z5S,this]
 have hln:ln=g.n:=by
  have:(ln:Int)=(g.n:Int):=by simpa using h
  omega
 have hd1:decide (fl.length=g.n)=true:=decide_eq_true (by omega);refine CallOb.mk [] M0 _ (.refl _) (Z1l hT.c ht) ?_
 rintro v I1 M1 - ⟨rfl,rfl,rfl⟩;refine CondOb.mk (fun h=>?_) (fun h=>?_)
 ·refine⟨_,_,.refl,fun _ _ h=>h,.inl ⟨?_,rfl,rfl⟩⟩
  have:right t=false:=by simpa using h
  simp[Z5S,this]
 have hr:right t=true:=by simpa using h
 refine CallOb.mk [] M0 _ (.refl _) (Z7g hg) ?_;rintro v I2 M2 - ⟨hI2,rfl,gm,rfl,hgm⟩;have ht2:=ht.mono hI2
 refine LoopOb.inv (ι:=Nat) (fun x=>{ fl:=[(1,.val (.slice la ln lc)),(3,.ref 3 0),(5,.ref 5 0),(8,.val (.map (some gm))),(27,.val (.slice t.a t.n t.c)),(28,.val (.int .i64 t.n)),(29,.val (.int .i64 x))],cl:=[(3,[.slice g.a g.n g.c]),(5,t.cells)],gi:=I2,mi:=M0 })
  (fun x=>x≤t.n∧∀ d∈t.ns.take x,(!decide (d.k=3) || (Z0q d.t (Z02 g.ds)).isSome)=true) (fun x=>t.n - x) ?_ ?_
 ·exact⟨0,⟨Nat.zero_le _,fun d hd=>by simp at hd⟩,.refl,aF7,.cons rfl (.cons rfl .nil)⟩
 rintro i ⟨hi,hnm⟩;refine CondOb.mk (fun h=>?_) (fun h=>?_)
 ·have hlt:i < t.n:=by have:(i:Int) < (t.n:Int):=of_decide_eq_true h;omega
  have hlt':i < t.ns.length:=by omega
  obtain⟨ad,had,hrd⟩:=ht2.rs.row Nd.cells_len hlt hlt';have htk:t.ns.take (i+1)=t.ns.take i++[t.ns[i]]:=List.take_succ_eq_append_getElem hlt';have hmem:=List.getElem_mem hlt'
  have next:(!decide (t.ns[i].k=3) || (Z0q t.ns[i].t (Z02 g.ds)).isSome)=true->∀ d∈t.ns.take (i+1),(!decide (d.k=3) || (Z0q d.t (Z02 g.ds)).isSome)=true:=fun h d hd=>by
   rw[htk] at hd
   rcases List.mem_append.1 hd with hd | hd
   ·exact hnm d hd
   ·simp only[List.mem_singleton] at hd
    rw[hd];exact h
  refine IdxOb.mk ad i had rfl hlt ?_;refine LoadOb.mk _ (hrd _) ?_;refine CondOb.mk (fun h3=>?_) (fun h3=>?_)
  ·refine ArithOb.mk _ (Z03 (i:=i) (by omega)) ?_
   refine⟨i+1,⟨⟨by omega,next ?_⟩,by omega⟩,.refl,aF7,.cons rfl (.cons rfl .nil)⟩;rw[show (!decide (t.ns[i].k=3))=true from h3]
   rfl
  ·refine OtherOb.lookupT Z00 rfl (by simp) rfl rfl rfl rfl (fun w=>Z4H w) (l:=Z02 g.ds) (g:=gm) rfl rfl (.inl hgm) ?_
   refine CondOb.mk (fun h4=>?_) (fun h4=>?_)
   ·refine⟨_,_,.refl,hI2,.inl ⟨?_,rfl,rfl⟩⟩
    have h5:Z2t (Z02 g.ds) t.ns=false:=by
     rw[Z2t,List.all_eq_false];refine⟨_,hmem,?_⟩
     have h6:(Z0q t.ns[i].t (Z02 g.ds)).isSome=false:=by simpa using h4
     rw[h6,show (!decide (t.ns[i].k=3))=false from h3];simp
    simp[Z5S,h5]
   ·refine ArithOb.mk _ (Z03 (i:=i) (by omega)) ?_
    refine⟨i+1,⟨⟨by omega,next ?_⟩,by omega⟩,.refl,aF7,.cons rfl (.cons rfl .nil)⟩
    have h6:(Z0q t.ns[i].t (Z02 g.ds)).isSome=true:=by simpa using h4
    rw[h6];simp
 have hge:i=t.n:=by have:¬ (i:Int) < (t.n:Int):=of_decide_eq_false h;omega
 rw[List.take_of_length_le (by omega)] at hnm;have hno:Z2t (Z02 g.ds) t.ns=true:=List.all_eq_true.2 hnm;have hca:=ZaD hno;rw[hgn,←hln] at hca;refine CallOb.mk M0 [] _ Z1d (Z7j ht2 hr hgm (hfl.mono hI2) hca) ?_;rintro v I3 M3 - ⟨rfl,b,rfl,rfl⟩;rw[List.append_nil]
 exact⟨_,_,.refl,hI2,.inr ⟨_,b,by rw[Z5S,hd1,hr,hno];rfl,rfl,rfl⟩⟩
structure MayF (g:Gr):Prop where
 n:g.ds.length=g.n
 right:∀ d∈g.ds,right d.t=true
 named:∀ d∈g.ds,Z2t (Z02 g.ds) d.t.ns=true
theorem Z9s {deb:List Int} {g:Gr} (hn:g.ds.length=g.n) (h:Z13 deb g=0):MayF g:=by
 refine⟨hn,fun d hd=>?_,Zgo h⟩;have:=List.all_eq_true.1 (ZmI h) d hd
 simp only[normal,Bool.and_eq_true] at this;exact this.2.1
def ofM (b6 gm b5 bl b1:Nat) (g:Gr) (l:List Fl):List Blk:=[⟨b6,.cells #[.map (some gm)] 110 (0,0)⟩,⟨b5,.cells #[.slice (some ⟨bl,0,none⟩) g.n g.n] 192 (0,0)⟩,Z0M bl l,⟨b1,.cells #[.slice g.a g.n g.c] 30 (0,0)⟩]
theorem Z4N {α:Type} (a b c d:α):[a,b,c,d].Perm ([c]++[a,b,d]):=List.perm_middle (l₁:=[a,b]) (l₂:=[d])
theorem ZiX {α:Type} (x a b c d:α):[x,a,b,c,d].Perm ([c]++[x,a,b,d]):=List.perm_middle (l₁:=[x,a,b]) (l₂:=[d])
theorem Z9t {I:GH} {M:List Blk} {b:Nat} {f:Fl} (hM:(⟨b,.cells f.cells.toArray 220 (0,0)⟩:Blk)∈M):Rd I M (⟨b,0,none⟩:Addr) 3 f.cells:=⟨rfl,_,_,_,.inr ⟨_,hM,rfl,rfl⟩,rfl,rfl⟩
theorem Zgp {l:List Fl} {i:Nat} (hi:i < l.length) {x:Fl}:Nat.ble (0+i * 3+x.cells.length) (l.flatMap Fl.cells).length=true:=by
 rw[Nat.ble_eq,Z7h,Fl.cells_len];omega
theorem StoreOb.to {M:List Blk} {a:Addr} {vs:List Value} {K:List Blk->Prop} (pre post:List Blk) (cs:Array Value) (T:Nat) (hM:M=pre++⟨a.block,.cells cs T (0,0)⟩::post) (hs:a.spot=none) (hb:Nat.ble (a.off+vs.length) cs.size=true) (h1:Z0z vs=true)
  (cs':List Value) (he:Z05 cs.toList a.off vs=cs') (k:K (pre++⟨a.block,.cells cs'.toArray T (0,0)⟩::post)):StoreOb M a vs K:=
 ⟨pre,post,cs,T,hM,hs,Nat.le_of_ble_eq_true hb,h1,by rw[he];exact k⟩
set_option maxRecDepth 100000 in
set_option maxHeartbeats 8000000 in
theorem ZiY {I:GH} {g:Gr} (hg:g.ok I) (hm:MayF g) {b6 gm b5 bl b1:Nat} (hgm:I gm=some (Z58 (Z02 g.ds))) {l0:List Fl} (hl0:PreF g.ds l0) :
  Spec Tryz.prog 178 [ptr b1,ptr b6,ptr b5] I (ofM b6 gm b5 bl b1 g l0) fun v I' M'=>v=.bool (decide (Z14 (Z02 g.ds) 0 g.ds l0≠l0))∧I'=I∧M'=ofM b6 gm b5 bl b1 g (Z14 (Z02 g.ds) 0 g.ds l0):=by
 refine Z01 [] Z00 Tryz.func178 rfl rfl rfl ?_;intro B h0;have hgn:=hg.n;have hcap:=hg.rs.cap
 have rd1:∀ {M:List Blk},(⟨b1,.cells #[.slice g.a g.n g.c] 30 (0,0)⟩:Blk)∈M->Rd I M ((⟨b1,0,none⟩:Addr).add 0) 1 [.slice g.a g.n g.c]:=fun hM=>Z0d (cs:=[.slice g.a g.n g.c]) (k:=0) (n:=1) hM (by simp)
 have rd6:∀ {M:List Blk},(⟨b6,.cells #[.map (some gm)] 110 (0,0)⟩:Blk)∈M->Rd I M (⟨b6,0,none⟩:Addr) 1 [.map (some gm)]:=fun hM=>⟨rfl,_,_,_,.inr ⟨_,hM,rfl,rfl⟩,rfl,rfl⟩
 have rd5:∀ {M:List Blk},(⟨b5,.cells #[.slice (some ⟨bl,0,none⟩) g.n g.n] 192 (0,0)⟩:Blk)∈M->Rd I M (⟨b5,0,none⟩:Addr) 1 [.slice (some ⟨bl,0,none⟩) g.n g.n]:=fun hM=>⟨rfl,_,_,_,.inr ⟨_,hM,rfl,rfl⟩,rfl,rfl⟩
 refine LoadOb.mk _ (rd1 (by simp[ofM])) ?_
 refine LoopOb.inv (ι:=Nat×List Fl) (fun x=>{ fl:=[(0,.val (ptr b1)),(1,.val (ptr b6)),(2,.val (ptr b5)),(4,.val (.bool (decide (x.2≠l0)))),(9,.val (.slice g.a g.n g.c)),(10,.val (.int .i64 g.n)),(11,.val (.int .i64 x.1))],gi:=I,mi:=ofM b6 gm b5 bl b1 g x.2 })
  (fun x=>x.1≤g.n∧PreF g.ds x.2∧LeL l0 x.2∧Z14 (Z02 g.ds) 0 g.ds l0=Z14 (Z02 g.ds) x.1 (g.ds.drop x.1) x.2) (fun x=>g.n - x.1) ?_ ?_
 ·refine⟨(0,l0),⟨Nat.zero_le _,hl0,LeL.refl _,rfl⟩,.refl,.cons .refl (.cons .refl (.cons .refl (.cons ?_ (aF3)))),.nil⟩
  exact Zdr (by simp)
 rintro⟨i,l⟩ ⟨hi,hP,hle,hgo⟩;simp only at hi hP hle hgo
 have hll:=hP.len;refine CondOb.mk (fun h=>?_) (fun h=>?_)
 rotate_left
 ·have hge:i=g.n:=by have:¬ (i:Int) < (g.n:Int):=of_decide_eq_false h;omega
  rw[List.drop_eq_nil_of_le (by omega),Z14] at hgo;exact⟨_,_,.refl,by rw[hgo],rfl,by rw[hgo]⟩
 have hlt:i < g.n:=by have:(i:Int) < (g.n:Int):=of_decide_eq_true h;omega
 have hlt':i < g.ds.length:=by omega
 have hil:i < l.length:=by omega
 obtain⟨ad,had,hrd⟩:=hg.rs.row Df.cells_len hlt hlt';have hdm:=List.getElem_mem hlt';have hd:=hg.ds _ hdm;have hr:=hm.right _ hdm;have hca:=ZaD (hm.named _ hdm);rw[show g.ds.length=l.length from hll.symm] at hca
 obtain⟨hP',hle'⟩:=hP.step hlt'
 have hgo':Z14 (Z02 g.ds) 0 g.ds l0=Z14 (Z02 g.ds) (i+1) (g.ds.drop (i+1)) (l.set i (Z1M (Z02 g.ds) l g.ds[i])):=by
  rw[hgo,List.drop_eq_getElem_cons hlt',Z14]
 have hbody:Z1M (Z02 g.ds) l g.ds[i]=(Z0e (Z02 g.ds) l g.ds[i].t.ns []).getD g.ds[i].t.root.toNat fl0:=rfl;generalize Z1M (Z02 g.ds) l g.ds[i]=f at hP' hle' hgo' hbody;generalize g.ds[i]=d at hrd hd hr hca hbody;have hroot:=Z0Q hr;have htn:=hd.t.n;have hnl:=Z2V (Z02 g.ds) l d.t.ns [];simp only[List.length_nil,Nat.zero_add] at hnl
 have hrl:d.t.root.toNat < (Z0e (Z02 g.ds) l d.t.ns []).length:=by omega
 have hfe:(Z0e (Z02 g.ds) l d.t.ns [])[d.t.root.toNat]=f:=by
  rw[hbody];simp[List.getD_eq_getElem?_getD,hrl]
 have hspec:=Z7j (M0:=[Z0M bl l]) (ln:=l.length) (lc:=g.n) hd.t hr hgm (Z6m (I:=I) (List.mem_singleton.2 rfl)) hca;rw[show l.length=g.n by omega] at hspec;refine IdxOb.mk ad i had rfl hlt ?_;refine LoadOb.mk _ (hrd _) ?_
 have hlf:l.getD i fl0=l[i]:=by simp[List.getD_eq_getElem?_getD,hil]
 have more:(!decide (f=l[i]))=true->decide (l.set i f≠l0)=true:=fun h=>by
  have hne:f≠l[i]:=by simpa using h
  rw[decide_eq_true_eq];intro e
  have e2:l.set i f=l:=by
   refine LeL.antisymm ?_ hle';rw[e];exact hle
  have h3:=Z4M l i i f hil;rw[e2,if_pos rfl,hlf] at h3;exact hne h3.symm
 have same:(!decide (f=l[i]))=false->l.set i f=l:=fun h=>by
  have he:f=l[i]:=by simpa using h
  rw[he];exact List.set_getElem_self hil
 refine CodeOb.draw Z00 rfl rfl rfl ?_;refine LoadOb.mk _ (rd6 (by simp[ofM])) ?_;refine LoadOb.mk _ (rd5 (by simp[ofM])) ?_;refine⟨?_,?_⟩
 ·refine PCallOb.mkR [Z0M bl l] [⟨b6,.cells #[.map (some gm)] 110 (0,0)⟩,⟨b5,.cells #[.slice (some ⟨bl,0,none⟩) g.n g.n] 192 (0,0)⟩,⟨b1,.cells #[.slice g.a g.n g.c] 30 (0,0)⟩] _ (Z4N ..) hspec (fun v I' M' h x hx=>by obtain⟨-,b,-,rfl⟩:=h;exact .tail _ hx) ?_
  rintro v I2 M2 - ⟨rfl,b,rfl,rfl⟩;refine IdxOb.mk ⟨b,0,none⟩ d.t.root.toNat rfl (by omega) (by omega) ?_
  refine LoadOb.mk _ (Z3S (.head _) hrl) ?_;rw[hfe]
  refine AllocOb.mk fun b7 hb7 hbM7=>?_
  refine StoreOb.to [] [Z0M b (Z0e (Z02 g.ds) l d.t.ns []),Z0M bl l,⟨b6,.cells #[.map (some gm)] 110 (0,0)⟩,⟨b5,.cells #[.slice (some ⟨bl,0,none⟩) g.n g.n] 192 (0,0)⟩,⟨b1,.cells #[.slice g.a g.n g.c] 30 (0,0)⟩] _ _ rfl rfl rfl rfl f.cells rfl ?_;refine CodeOb.draw Z00 rfl rfl rfl ?_;refine LoadOb.mk f.cells (Z9t (by simp)) ?_;refine LoadOb.mk _ (rd5 (by simp)) ?_;refine IdxOb.mk ⟨bl,0,none⟩ i rfl rfl hlt ?_;refine LoadOb.mk _ (Z3S (by simp) hil) ?_;refine BinOb.neF (p:=f) (q:=l[i]) ?_;refine CondOb.mk (fun h=>?_) (fun h=>?_)
  ·refine LoadOb.mk _ (rd5 (by simp)) ?_
   refine LoadOb.mk f.cells (Z9t (by simp)) ?_;refine IdxOb.mk ⟨bl,0,none⟩ i rfl rfl hlt ?_;refine StoreOb.addTo [(⟨b7,.cells f.cells.toArray 220 (0,0)⟩:Blk),Z0M b (Z0e (Z02 g.ds) l d.t.ns [])] [⟨b6,.cells #[.map (some gm)] 110 (0,0)⟩,⟨b5,.cells #[.slice (some ⟨bl,0,none⟩) g.n g.n] 192 (0,0)⟩,⟨b1,.cells #[.slice g.a g.n g.c] 30 (0,0)⟩] (l.flatMap Fl.cells) _ rfl (Zgp hil) rfl ((l.set i f).flatMap Fl.cells) (by rw[Nat.zero_add];exact Z7i l i hil f) ?_;refine ArithOb.mk _ (Z03 (i:=i) (by omega)) ?_;refine⟨(i+1,l.set i f),⟨⟨by simp only;omega,hP',hle.trans hle',hgo'⟩,by simp only;omega⟩,.sub (M1:=[Z0M bl (l.set i f),⟨b6,.cells #[.map (some gm)] 110 (0,0)⟩,⟨b5,.cells #[.slice (some ⟨bl,0,none⟩) g.n g.n] 192 (0,0)⟩,⟨b1,.cells #[.slice g.a g.n g.c] 30 (0,0)⟩]) (by exact .cons _ (.cons _ (.refl _))) (.perm (Z4N ..).symm .refl),.cons .refl (.cons .refl (.cons .refl (.cons (Zdr (more h).symm) (aF3)))),.nil⟩
  ·have he:l.set i f=l:=same h
   rw[he] at hgo';refine ArithOb.mk _ (Z03 (i:=i) (by omega)) ?_;exact⟨(i+1,l),⟨⟨by simp only;omega,hP,hle,hgo'⟩,by simp only;omega⟩,.sub (M1:=[Z0M bl l,⟨b6,.cells #[.map (some gm)] 110 (0,0)⟩,⟨b5,.cells #[.slice (some ⟨bl,0,none⟩) g.n g.n] 192 (0,0)⟩,⟨b1,.cells #[.slice g.a g.n g.c] 30 (0,0)⟩]) (by exact .cons _ (.cons _ (.refl _))) (.perm (Z4N ..).symm .refl),aF7,.nil⟩
 ·refine AllocOb.mk fun b7 hb7 hbM7=>?_
  refine PCallOb.mkR [Z0M bl l] [(⟨b7,.cells fl0.cells.toArray 220 (0,0)⟩:Blk),⟨b6,.cells #[.map (some gm)] 110 (0,0)⟩,⟨b5,.cells #[.slice (some ⟨bl,0,none⟩) g.n g.n] 192 (0,0)⟩,⟨b1,.cells #[.slice g.a g.n g.c] 30 (0,0)⟩] _ (ZiX ..) hspec (fun v I' M' h x hx=>by obtain⟨-,b,-,rfl⟩:=h;exact .tail _ hx) ?_;rintro v I2 M2 - ⟨rfl,b,rfl,rfl⟩;refine IdxOb.mk ⟨b,0,none⟩ d.t.root.toNat rfl (by omega) (by omega) ?_
  refine LoadOb.mk _ (Z3S (.head _) hrl) ?_;rw[hfe];refine StoreOb.to [Z0M b (Z0e (Z02 g.ds) l d.t.ns []),Z0M bl l] [⟨b6,.cells #[.map (some gm)] 110 (0,0)⟩,⟨b5,.cells #[.slice (some ⟨bl,0,none⟩) g.n g.n] 192 (0,0)⟩,⟨b1,.cells #[.slice g.a g.n g.c] 30 (0,0)⟩] _ _ rfl rfl rfl rfl f.cells rfl ?_
  refine CodeOb.draw Z00 rfl rfl rfl ?_;refine LoadOb.mk f.cells (Z9t (by simp)) ?_;refine LoadOb.mk _ (rd5 (by simp)) ?_;refine IdxOb.mk ⟨bl,0,none⟩ i rfl rfl hlt ?_;refine LoadOb.mk _ (Z3S (by simp) hil) ?_;refine BinOb.neF (p:=f) (q:=l[i]) ?_;refine CondOb.mk (fun h=>?_) (fun h=>?_)
  ·refine LoadOb.mk _ (rd5 (by simp)) ?_
   refine LoadOb.mk f.cells (Z9t (by simp)) ?_;refine IdxOb.mk ⟨bl,0,none⟩ i rfl rfl hlt ?_;refine StoreOb.addTo [Z0M b (Z0e (Z02 g.ds) l d.t.ns [])] [(⟨b7,.cells f.cells.toArray 220 (0,0)⟩:Blk),⟨b6,.cells #[.map (some gm)] 110 (0,0)⟩,⟨b5,.cells #[.slice (some ⟨bl,0,none⟩) g.n g.n] 192 (0,0)⟩,⟨b1,.cells #[.slice g.a g.n g.c] 30 (0,0)⟩] (l.flatMap Fl.cells) _ rfl (Zgp hil) rfl ((l.set i f).flatMap Fl.cells) (by rw[Nat.zero_add];exact Z7i l i hil f) ?_;refine ArithOb.mk _ (Z03 (i:=i) (by omega)) ?_;refine⟨(i+1,l.set i f),⟨⟨by simp only;omega,hP',hle.trans hle',hgo'⟩,by simp only;omega⟩,.sub (M1:=[Z0M bl (l.set i f),⟨b6,.cells #[.map (some gm)] 110 (0,0)⟩,⟨b5,.cells #[.slice (some ⟨bl,0,none⟩) g.n g.n] 192 (0,0)⟩,⟨b1,.cells #[.slice g.a g.n g.c] 30 (0,0)⟩]) (by exact .cons _ (.cons_cons _ (.cons _ (.refl _)))) (.perm (Z4N ..).symm .refl),.cons .refl (.cons .refl (.cons .refl (.cons (Zdr (more h).symm) (aF3)))),.nil⟩
  ·have he:l.set i f=l:=same h
   rw[he] at hgo';refine ArithOb.mk _ (Z03 (i:=i) (by omega)) ?_;exact⟨(i+1,l),⟨⟨by simp only;omega,hP,hle,hgo'⟩,by simp only;omega⟩,.sub (M1:=[Z0M bl l,⟨b6,.cells #[.map (some gm)] 110 (0,0)⟩,⟨b5,.cells #[.slice (some ⟨bl,0,none⟩) g.n g.n] 192 (0,0)⟩,⟨b1,.cells #[.slice g.a g.n g.c] 30 (0,0)⟩]) (by exact .cons _ (.cons_cons _ (.cons _ (.refl _)))) (.perm (Z4N ..).symm .refl),aF7,.nil⟩
set_option maxHeartbeats 4000000 in
theorem ZiZ {I:GH} {deb:List Int} (hT:Tabs I deb) {g:Gr} (hg:g.ok I):Spec Tryz.prog 140 [g.val] I [] fun v I' M'=>(∀ b o,I b=some o->I' b=some o) ∧
  ((Z13 deb g≠0∧v=.tuple #[.slice none 0 0,.int .i64 (Z13 deb g)]∧M'=[])∨(Z13 deb g=0∧∃ b l,v=.tuple #[.slice (some ⟨b,0,none⟩) g.n g.n,.int .i64 0]∧M'=[Z0M b l]∧IsFlow g.ds l)):=by
 refine Z01 [1,5,6] Z00 Tryz.func140 rfl rfl rfl ?_;intro B h0;have hgn:=hg.n;have hcap:=hg.rs.cap
 refine AllocOb.mk fun b1 hb1 hbM1=>?_
 refine LoadOb.mk [.slice g.a g.n g.c] ⟨rfl,_,_,_,.inr ⟨_,.head _,rfl,rfl⟩,rfl,rfl⟩ ?_;refine CallOb.mk [] [⟨b1,.cells #[.slice g.a g.n g.c] 30 (0,0)⟩] _ (.refl _) (Z6i hT hg) ?_;rintro v I1 M1 - ⟨rfl,hI1,rfl⟩;refine CondOb.mk (fun h=>?_) (fun h=>?_)
 ·have hm:Z13 deb g≠0:=by simpa using h
  exact⟨_,_,.sub (List.nil_sublist _) .refl,hI1,.inl ⟨hm,rfl,rfl⟩⟩
 have hm:Z13 deb g=0:=by simpa using h
 have hM:=Z9s hgn hm;refine LoadOb.mk _ (Z0d (b:=b1) (cs:=[.slice g.a g.n g.c]) (k:=0) (n:=1) (T:=30) (.head _) (by simp)) ?_;refine MakeOb.mk g.n g.n rfl rfl (Nat.le_refl _) (by show 3 * g.n≤_;omega) (by omega) ?_
 refine AllocOb.mk fun bl hbl hbMl=>?_
 have e:Z15 fl0.cells (g.n * 3)=(List.replicate g.ds.length fl0).flatMap Fl.cells:=by rw[hgn];exact Zdt g.n
 refine AllocOb.mk fun b5 hb5 hbM5=>?_
 refine StoreOb.to [] _ _ _ rfl rfl rfl rfl [.slice (some ⟨bl,0,none⟩) g.n g.n] rfl ?_;refine LoadOb.mk [.slice g.a g.n g.c] ⟨rfl,_,_,_,.inr ⟨_,.tail _ (.tail _ (.head _)),rfl,rfl⟩,rfl,rfl⟩ ?_;refine CallOb.mk [] _ _ (.refl _) (Z7g (hg.mono hI1)) ?_;rintro v I2 M2 - ⟨hI2,rfl,gm,rfl,hgm⟩
 refine AllocOb.mk fun b6 hb6 hbM6=>?_
 refine StoreOb.to [] _ _ _ rfl rfl rfl rfl [.map (some gm)] rfl ?_;refine LoopOb.inv (ι:=List Fl) (fun l=>{ fl:=[(5,.val (ptr b5)),(7,.val (.func (.func 178) #[] #[ptr b1,ptr b6,ptr b5]))],gi:=I2,mi:=ofM b6 gm b5 bl b1 g l }) (PreF g.ds) Zk6 ?_ ?_
 ·refine⟨List.replicate g.ds.length fl0,.start g.ds,?_,aF2,.nil⟩
  simp only[ofM,Z0M];rw[←e]
  exact .refl
 intro l hl;refine CallOb.mk (ofM b6 gm b5 bl b1 g l) [] _ (.refl _) (ZiY ((hg.mono hI1).mono hI2) hM hgm hl) ?_;rintro v I3 M3 - ⟨rfl,rfl,rfl⟩;obtain⟨r1,r2,-⟩:=Z4p g.ds [] rfl hl
 refine CondOb.mk (fun h=>?_) (fun h=>?_)
 ·exact⟨_,⟨r1,Zl5 r2 (of_decide_eq_true h)⟩,.refl,aF2,.nil⟩
 ·have hf:Z14 (Z02 g.ds) 0 g.ds l=l:=by
   have:=of_decide_eq_false h;exact Classical.not_not.1 this
  rw[hf];refine LoadOb.mk [.slice (some ⟨bl,0,none⟩) g.n g.n] ⟨rfl,_,_,_,.inr ⟨_,.tail _ (.head _),rfl,rfl⟩,rfl,rfl⟩ ?_
  refine⟨I3,[Z0M bl l],.sub (.cons _ (.cons _ (.cons_cons _ (List.nil_sublist _)))) .refl,fun b o h=>hI2 _ _ (hI1 _ _ h),.inr ⟨hm,bl,l,rfl,rfl,hl.done hf⟩⟩
def Tr.ct (t:Tr):Tr:=⟨t.ns.map Nd.ct,none,t.n,0,t.root⟩
def Df.ct (d:Df):Df:=⟨d.name,d.t.ct⟩
def Gr.ct (g:Gr):Gr:=⟨g.ds.map Df.ct,none,g.n,0⟩
theorem Z8F:∀ (ds:List Nd) (i:Nat) (s:List Bool),Z0n i (ds.map Nd.ct) s=Z0n i ds s
 | [],i,s=>rfl
 | d::ds,i,s=>by
  have h:∀ s',Z0n (i+1) (ds.map Nd.ct) s'=Z0n (i+1) ds s':=fun s'=>Z8F ds (i+1) s'
  rw[List.map_cons,Z0n,Z0n];simp only[h]
  rfl
theorem Z39 (t:Tr):right t.ct=right t:=by
 unfold right Tr.ct;simp only[Z8F,List.length_map]
theorem ZaE (ns:List Nd) (k:Int):Z0m (ns.map Nd.ct) k=Z0m ns k:=by
 unfold Z0m;rw[List.map_map];rfl
theorem Z7m (ns:List Nd) (kind:Int):∀ ks,Z0y (ns.map Nd.ct) kind ks=Z0y ns kind ks
 | []=>rfl
 | k::ks=>by rw[Z0y,Z0y,ZaE,Z7m ns kind ks]
theorem Z5T (ns:List Nd):∀ ds:List Nd,Z0l (ns.map Nd.ct) (ds.map Nd.ct)=Z0l ns ds
 | []=>rfl
 | d::ds=>by
  have h:=Z7m ns d.k d.kids;rw[List.map_cons,Z0l,Z0l,Z5T ns ds]
  show (bif !decide (d.k=4) && !decide (d.k=5) then Z0l ns ds else bif Z0y (ns.map Nd.ct) d.k d.kids then Z0l ns ds else false)=_
  rw[h]
theorem Zgq (t:Tr):normal t.ct=normal t:=by
 unfold normal;rw[Z39]
 congr 1
 exact Z5T t.ns t.ns
theorem Z4O:∀ (ds:List Nd) (i:Nat) (dp:List Int),Z0H i (ds.map Nd.ct) dp=Z0H i ds dp
 | [],i,dp=>rfl
 | d::ds,i,dp=>by
  rw[List.map_cons,Z0H,Z0H,Z4O ds];rfl
theorem Zj0 (t:Tr):depth t.ct=depth t:=by
 unfold depth;rw[Z39];simp only[Tr.ct,Z4O,List.length_map]
theorem ZeG (t:Tr):Z0o t.ct=Z0o t:=by
 unfold Z0o;rw[Z39,Zj0];rfl
theorem Zdv {α:Type} {z:α} {f g:Nd->(Int->α)->α} (h:∀ d q,f d.ct q=g d q):∀ (ds:List Nd) (acc:List α),tab z f (ds.map Nd.ct) acc=tab z g ds acc
 | [],acc=>rfl
 | d::ds,acc=>by rw[List.map_cons,tab,tab,h,Zdv h ds]
theorem Zgr (deb:List Int) (ns:List Nd) (k:Int):Z0s deb (ns.map Nd.ct) k=Z0s deb ns k:=by
 unfold Z0s Z69;rw[Zdv (g:=Z9i deb ns) (fun d q=>?_)]
 show Z1b deb d++(Z3n (Z3o d) (fun k=>Z3g (Z0p d.k (Z0m (ns.map Nd.ct) k)) (q k)) false d.kids++Z0D d)=_
 simp only[ZaE];rfl
theorem Zj1 (deb:List Int) (t:Tr):Z1E deb t.ct=Z1E deb t:=by
 unfold Z1E;rw[Z39];have:Z0s deb t.ct.ns t.ct.root=Z0s deb t.ns t.root:=Zgr deb t.ns t.root
 rw[this]
theorem Zl6 (deb:List Int) (d:Df):Z8a deb d.ct=Z8a deb d:=by
 unfold Z8a;have:Z1E deb d.ct.t=Z1E deb d.t:=Zj1 deb d.t;rw[this];rfl
theorem Zdw (deb:List Int):∀ (ds:List Df) (acc:List UInt8),Z1F deb (ds.map Df.ct) acc=Z1F deb ds acc
 | [],acc=>rfl
 | d::ds,acc=>by rw[List.map_cons,Z1F,Z1F,Zl6,Zdw deb ds]
theorem Zgs (g:Gr):Z2r g.ct=Z2r g:=by
 unfold Z2r Gr.ct;rw[List.map_map]
 congr 1
 refine List.map_congr_left fun d _=>?_
 show Z2M d.t.ct=Z2M d.t
 unfold Z2M;rw[Z39];rfl
theorem Zk7 {q:Df->Bool} (h:∀ d,q d.ct=q d) (ds:List Df):(ds.map Df.ct).all q=ds.all q:=by
 rw[List.all_map]
 congr 1
 funext d
 exact h d
theorem Zgt (deb:List Int) (g:Gr):Z0Y deb g.ct=Z0Y deb g:=by
 unfold Z0Y;rw[Zgs]
 have h1:(g.ct.ds.all fun d=>Z0o d.t)=g.ds.all fun d=>Z0o d.t:=Zk7 (fun d=>ZeG d.t) g.ds
 have h2:Z1F deb g.ct.ds []=Z1F deb g.ds []:=Zdw deb g.ds [];rw[h1,h2]
 rfl
theorem Zgu (ds:List Df):Z1B (ds.map Df.ct)=Z1B ds:=Zk7 (q:=fun d=>Z0u d.name && normal d.t) (fun d=>by
 show (Z0u d.name && normal d.t.ct)=_
 rw[Zgq]) ds
theorem Zgv:∀ (ds:List Df) (acc:List (ByteArray×Int)) (i:Nat),Z86 acc i (ds.map Df.ct)=Z86 acc i ds
 | [],acc,i=>rfl
 | d::ds,acc,i=>by
  rw[List.map_cons,Z86,Z86]
  show (bif (Z0q d.name acc).isSome then none else Z86 (acc++[(d.name,(i:Int))]) (i+1) (ds.map Df.ct))=_
  rw[Zgv ds]
theorem Zdx:∀ (ds:List Df) (i:Nat),Z0L i (ds.map Df.ct)=(Z0L i ds).map fun p=>(p.1,p.2.ct)
 | [],i=>rfl
 | d::ds,i=>by
  rw[List.map_cons,Z0L,Z0L,Zdx ds,List.map_append,List.map_map]
  show (d.t.ns.map Nd.ct).map (fun n=>(i,n))++_=_
  rw[List.map_map];rfl
theorem Zcb (acc:List (ByteArray×Int)) (ds:List Df):Z1c acc (ds.map Df.ct)=Z1c acc ds:=by
 unfold Z1c;rw[Zdx,List.all_map];rfl
theorem Z9u (deb:List Int) (g:Gr):Z13 deb g.ct=Z13 deb g:=by
 unfold Z13;rw[Zgt];have h1:Z1B g.ct.ds=Z1B g.ds:=Zgu g.ds
 have h2:Z86 [] 0 g.ct.ds=Z86 [] 0 g.ds:=Zgv g.ds [] 0
 have h3:∀ acc,Z1c acc g.ct.ds=Z1c acc g.ds:=fun acc=>Zcb acc g.ds
 rw[h1,h2];simp only[h3]
 rfl
theorem ZaF (ns:List Nd) (j:Nat):(Z1h (ns.map Nd.ct) j).ct=(Z1h ns j).ct:=by
 unfold Z1h;simp only[List.getD_eq_getElem?_getD,List.getElem?_map]
 cases ns[j]?<;>rfl
theorem Zgw (ns:List Nd) (j:Nat):(Z1h (ns.map Nd.ct) j).kids=(Z1h ns j).kids:=by
 have h:=congrArg Nd.kids (ZaF ns j);exact h
theorem ZaG (ns:List Nd):∀ (f:Nat) (todo b:List Int),Z47 (ns.map Nd.ct) f todo b=Z47 ns f todo b
 | 0,todo,b=>rfl
 | f+1,todo,b=>by
  unfold Z47
  cases todo.getLast? with
  | none=>rfl
  | some n=>
   simp only;rw[Zgw,ZaG ns f]
theorem Z7n (d:Nd) (l:List Int):d.ct.withKids l=d.withKids l:=rfl
theorem ZeH (ns:List Nd):Z7e (ns.map Nd.ct)=Z7e ns:=by
 funext st b
 unfold Z7e;rw[Zgw,←Z7n (Z1h (ns.map Nd.ct) b.toNat),ZaF,Z7n]
theorem Zgx (ns:List Nd) (node:Int):Zfw (ns.map Nd.ct) node=Zfw ns node:=by
 unfold Zfw Z8C;rw[ZeH,ZaG,List.length_map]
theorem ZaH (pl:List (ByteArray×Int)) (fl:List Fl):∀ (ds:List Nd) (acc:List Fl),Z0e pl fl (ds.map Nd.ct) acc=Z0e pl fl ds acc
 | [],acc=>rfl
 | d::ds,acc=>by
  rw[List.map_cons,Z0e,Z0e,ZaH pl fl ds];rfl
theorem Z7o:∀ (ds:List Df) (acc:List (ByteArray×Int)) (i:Nat),Z1e acc i (ds.map Df.ct)=Z1e acc i ds
 | [],acc,i=>rfl
 | d::ds,acc,i=>by
  rw[List.map_cons,Z1e,Z1e,Z7o ds];rfl
theorem Z3T (ds:List Df):Z02 (ds.map Df.ct)=Z02 ds:=Z7o ds [] 0
theorem Zdy (pl:List (ByteArray×Int)) (fl:List Fl) (d:Df):Z1M pl fl d.ct=Z1M pl fl d:=by
 unfold Z1M;have:Z0e pl fl d.ct.t.ns []=Z0e pl fl d.t.ns []:=ZaH pl fl d.t.ns [];rw[this]
 rfl
structure TC (I:GH) (t:Tr) (l:List Nd):Prop where
 ok:t.ok I
 ct:t.ns.map Nd.ct=l
 root:t.root=(l.length:Int) - 1
theorem TC.len {I:GH} {t:Tr} {l:List Nd} (h:TC I t l):t.n=l.length:=by
 rw[←h.ok.n,←h.ct,List.length_map]
theorem TC.leaf {I:GH} {t:Tr} {d:Nd} (ht:t.ok I) (h1:t.ns=[d]) (h2:t.root=0) (hd:d.ct=d):TC I t [d]:=⟨ht,by rw[h1];simp[hd],by rw[h2];rfl⟩
def ZmJ (l:List Nd):List Nd:=Zfw l ((l.length:Int) - 1)
def Zgy (ns:List Nd):List Int:=ns.flatMap (·.kids)
def Zo9 (l:List Int):Prop:=l.Pairwise (·≠·)
structure Right (t:Tr):Prop where
 root:0≤t.root∧t.root < t.ns.length
 Z31:∀ j (h:j < t.ns.length),Z31 t.ns[j] t.ns[j].kids.length=true
 kids:∀ j (h:j < t.ns.length),∀ k∈t.ns[j].kids,0≤k∧k < j
 diff:Zo9 (Zgy t.ns)
 all:∀ j:Nat,j < t.ns.length->((j:Int)∈Zgy t.ns ↔ (j:Int)≠t.root)
section
variable {t:Tr} (hr:Right t)
include hr
end
structure Ws where
 a:BitVec 64
 b:BitVec 64
 c:BitVec 64
 d:BitVec 64
 deriving DecidableEq
def Ws.zero:Ws:=⟨0,0,0,0⟩
def Ws.or (x y:Ws):Ws:=⟨x.a ||| y.a,x.b ||| y.b,x.c ||| y.c,x.d ||| y.d⟩
def Ws.and (x y:Ws):Ws:=⟨x.a &&& y.a,x.b &&& y.b,x.c &&& y.c,x.d &&& y.d⟩
def Ws.sub (x y:Ws):Bool:=decide (x.and y=x)
def Ws.cells (x:Ws):List Value:=[.int .u64 x.a.toNat,.int .u64 x.b.toNat,.int .u64 x.c.toNat,.int .u64 x.d.toNat]
def Ws.val (x:Ws):Value:=.agg #[.int .u64 x.a.toNat,.int .u64 x.b.toNat,.int .u64 x.c.toNat,.int .u64 x.d.toNat]
structure Fi where
 w:Ws
 f:Bool
 deriving DecidableEq
def Fi.cells (x:Fi):List Value:=[.int .u64 x.w.a.toNat,.int .u64 x.w.b.toNat,.int .u64 x.w.c.toNat,.int .u64 x.w.d.toNat,.bool x.f]
def Fi.val (x:Fi):Value:=.agg #[.int .u64 x.w.a.toNat,.int .u64 x.w.b.toNat,.int .u64 x.w.c.toNat,.int .u64 x.w.d.toNat,.bool x.f]
theorem Fi.cells_len (x:Fi):x.cells.length=5:=rfl
def fi0:Fi:=⟨.zero,false⟩
def fiT:Fi:=⟨.zero,true⟩
def Fi.seq (a b:Fi):Fi:=bif a.f then ⟨a.w.or b.w,b.f⟩ else a
def Fi.choice (a b:Fi):Fi:=⟨a.w.or b.w,a.f || b.f⟩
theorem Ws.ext' {x y:Ws} (h1:x.a=y.a) (h2:x.b=y.b) (h3:x.c=y.c) (h4:x.d=y.d):x=y:=by
 obtain⟨a,b,c,d⟩:=x;obtain⟨a',b',c',d'⟩:=y;simp only at h1 h2 h3 h4;subst h1 h2 h3 h4;rfl
theorem Ws.or_assoc (x y z:Ws):(x.or y).or z=x.or (y.or z):=by simp only[Ws.or,BitVec.or_assoc]
theorem Ws.or_comm (x y:Ws):x.or y=y.or x:=by simp only[Ws.or,BitVec.or_comm]
theorem Ws.or_self (x:Ws):x.or x=x:=by simp[Ws.or]
theorem Ws.zero_or (x:Ws):Ws.zero.or x=x:=by simp[Ws.or,Ws.zero]
theorem bv_or_of {x y:BitVec 64}:x &&& y=x ↔ x ||| y=y:=by
 constructor
 ·intro h
  apply BitVec.eq_of_getElem_eq
  intro i hi;have:=congrArg (fun w:BitVec 64=>w[i]) h;simp only[BitVec.getElem_and,BitVec.getElem_or] at this ⊢
  revert this
  cases x[i]<;>cases y[i]<;>simp
 ·intro h
  apply BitVec.eq_of_getElem_eq
  intro i hi;have:=congrArg (fun w:BitVec 64=>w[i]) h;simp only[BitVec.getElem_and,BitVec.getElem_or] at this ⊢
  revert this
  cases x[i]<;>cases y[i]<;>simp
theorem Ws.sub_iff {x y:Ws}:x.sub y=true ↔ x.or y=y:=by
 unfold Ws.sub;rw[decide_eq_true_eq]
 constructor
 ·intro h
  have h1:=congrArg Ws.a h;have h2:=congrArg Ws.b h;have h3:=congrArg Ws.c h;have h4:=congrArg Ws.d h;exact Ws.ext' (bv_or_of.1 h1) (bv_or_of.1 h2) (bv_or_of.1 h3) (bv_or_of.1 h4)
 ·intro h
  have h1:=congrArg Ws.a h;have h2:=congrArg Ws.b h;have h3:=congrArg Ws.c h;have h4:=congrArg Ws.d h;exact Ws.ext' (bv_or_of.2 h1) (bv_or_of.2 h2) (bv_or_of.2 h3) (bv_or_of.2 h4)
theorem Ws.sub_refl (x:Ws):x.sub x=true:=Ws.sub_iff.2 x.or_self
theorem Ws.sub_trans {x y z:Ws} (h:x.sub y=true) (h':y.sub z=true):x.sub z=true:=by
 rw[Ws.sub_iff] at h h' ⊢;rw[←h',←Ws.or_assoc,h]
theorem Ws.sub_antisymm {x y:Ws} (h:x.sub y=true) (h':y.sub x=true):x=y:=by
 rw[Ws.sub_iff] at h h';exact h'.symm.trans ((Ws.or_comm y x).trans h)
theorem Ws.sub_or (x y:Ws):x.sub (x.or y)=true:=by
 rw[Ws.sub_iff,←Ws.or_assoc,Ws.or_self]
theorem Ws.zero_sub (x:Ws):Ws.zero.sub x=true:=by rw[Ws.sub_iff,Ws.zero_or]
structure IsAt (I:GH) (M:List Blk) (a:Option Addr) (n:Nat) (ks:List Fi):Prop where
 n:ks.length=n
 rd:∀ j (h:j < ks.length),∃ ad,a=some ad∧Rd I M (ad.add (j * 5)) 5 ks[j].cells
structure Fi.le (a b:Fi):Prop where
 w:a.w.sub b.w=true
 f:a.f=true->b.f=true
theorem Fi.le_refl (a:Fi):a.le a:=⟨Ws.sub_refl _,id⟩
theorem Fi.le.trans {a b c:Fi} (h:a.le b) (h':b.le c):a.le c:=⟨Ws.sub_trans h.w h'.w,fun x=>h'.f (h.f x)⟩
theorem Fi.le.antisymm {a b:Fi} (h:a.le b) (h':b.le a):a=b:=by
 have h1:=Ws.sub_antisymm h.w h'.w;obtain⟨aw,af⟩:=a;obtain⟨bw,bf⟩:=b;simp only at h1;subst h1;have hf:=h.f;have hf':=h'.f
 cases af<;>cases bf<;>simp_all
theorem Fi.bot (a:Fi):fi0.le a:=⟨Ws.zero_sub _,fun h=>by cases h⟩
theorem Z6n (x:BitVec 64):BitVec.ofInt 64 (x.toNat:Int)=x:=by
 rw[BitVec.ofInt_natCast,BitVec.ofNat_toNat,BitVec.setWidth_eq]
theorem Zgz (x:BitVec 64):IntKind.u64.wrap (x.toNat:Int)=(x.toNat:Int):=by
 have:=x.isLt;unfold IntKind.wrap;simp only[IntKind.bits,IntKind.signed];simp
 omega
theorem ZeI {x y:BitVec 64}:((x.toNat:Int) == (y.toNat:Int))=decide (x=y):=by
 rw[Bool.eq_iff_iff];simp[BitVec.toNat_eq]
 omega
structure OrdB (α:Type) where
 le:α->α->Prop
 bot:α
 refl:∀ a,le a a
 trans:∀ {a b c},le a b->le b c->le a c
 anti:∀ {a b},le a b->le b a->a=b
 low:∀ a,le bot a
structure LeR {α:Type} (O:OrdB α) (l m:List α):Prop where
 len:l.length=m.length
 at':∀ i,O.le (l.getD i O.bot) (m.getD i O.bot)
section
variable {α:Type} {O:OrdB α}
theorem LeR.refl (l:List α):LeR O l l:=⟨rfl,fun _=>O.refl _⟩
theorem LeR.trans {a b c:List α} (h:LeR O a b) (h':LeR O b c):LeR O a c:=⟨h.len.trans h'.len,fun i=>O.trans (h.at' i) (h'.at' i)⟩
theorem LeR.of {a b:List α} (hl:a.length=b.length) (h:∀ i,i < a.length->O.le (a.getD i O.bot) (b.getD i O.bot)):LeR O a b:=⟨hl,fun i=>by
 by_cases hi:i < a.length
 ·exact h i hi
 ·have e:a.getD i O.bot=O.bot:=by simp[List.getD_eq_getElem?_getD,List.getElem?_eq_none (Nat.le_of_not_lt hi)]
  rw[e]
  exact O.low _⟩
theorem Z9v (l:List α) (b:α) (i j:Nat) (x:α) (hi:i < l.length):(l.set i x).getD j b=if i=j then x else l.getD j b:=by
 simp only[List.getD_eq_getElem?_getD,List.getElem?_set]
 by_cases e:i=j
 ·subst e
  simp[hi]
 ·rw[if_neg e,if_neg e]
structure PreR (O:OrdB α) (n:Nat) (body:List α->Nat->α) (l:List α):Prop where
 len:l.length=n
 up:∀ i,i < n->O.le (l.getD i O.bot) (body l i)
 least:∀ m:List α,m.length=n->(∀ i,i < n->O.le (body m i) (m.getD i O.bot))->LeR O l m
structure IsR (O:OrdB α) (n:Nat) (body:List α->Nat->α) (l:List α):Prop where
 len:l.length=n
 fix:∀ i,i < n->l.getD i O.bot=body l i
 least:∀ m:List α,m.length=n->(∀ i,i < n->O.le (body m i) (m.getD i O.bot))->LeR O l m
section
variable {n:Nat} {body:List α->Nat->α} (hmono:∀ {l m:List α},LeR O l m->∀ i,i < n->O.le (body l i) (body m i))
include hmono
theorem PreR.step {l:List α} (h:PreR O n body l) {i:Nat} (hi:i < n):PreR O n body (l.set i (body l i))∧LeR O l (l.set i (body l i)):=by
 have hil:i < l.length:=by rw[h.len];exact hi
 have hle:LeR O l (l.set i (body l i)):=.of (by simp) fun j hj=>by
  rw[Z9v _ _ _ _ _ hil]
  by_cases e:i=j
  ·subst e
   rw[if_pos rfl];exact h.up i hi
  ·rw[if_neg e]
   exact O.refl _
 refine⟨⟨by simpa using h.len,fun j hj=>?_,fun m hm hc=>?_⟩,hle⟩
 ·rw[Z9v _ _ _ _ _ hil]
  by_cases e:i=j
  ·subst e
   rw[if_pos rfl];exact hmono hle _ hi
  ·rw[if_neg e]
   exact O.trans (h.up j hj) (hmono hle _ hj)
 ·have hlm:=h.least m hm hc
  refine .of (by simp[h.len,hm]) fun j hj=>?_
  rw[Z9v _ _ _ _ _ hil]
  by_cases e:i=j
  ·subst e
   rw[if_pos rfl];exact O.trans (hmono hlm _ hi) (hc i hi)
  ·rw[if_neg e]
   exact hlm.at' j
end
end
theorem Z5U {α:Type} {p q:α->Bool}:∀ {l:List α},(∀ x∈l,p x=true->q x=true)->l.countP q≤l.countP p->∀ x∈l,q x=true->p x=true
 | [],_,_,x,hx,_=>by cases hx
 | y::l,h,hle,x,hx,hq=>by
  have hm:=List.countP_mono_left (p:=p) (q:=q) (l:=l) (fun x hx=>h x (.tail _ hx));rw[List.countP_cons,List.countP_cons] at hle
  have hy:=h y (.head _)
  have key:(q y=true->p y=true)∧l.countP q≤l.countP p:=by
   cases hp:p y<;>cases hqy:q y<;>simp_all<;>omega
  rcases List.mem_cons.1 hx with rfl | hx
  ·exact key.1 hq
  ·exact Z5U (fun x hx=>h x (.tail _ hx)) key.2 x hx hq
def ZmK (x:BitVec 64):Nat:=(List.range 64).countP fun i=>!x.getLsbD i
theorem Zl7 {x y:BitVec 64} (h:x &&& y=x):ZmK y≤ZmK x∧(ZmK x≤ZmK y->x=y):=by
 have hb:∀ i,x.getLsbD i=true->y.getLsbD i=true:=fun i hx=>by
  have:=congrArg (fun w:BitVec 64=>w.getLsbD i) h;simp only[BitVec.getLsbD_and,hx,Bool.true_and] at this;exact this
 have hp:∀ i∈List.range 64,(!y.getLsbD i)=true->(!x.getLsbD i)=true:=fun i _ hi=>by
  have h1:=hb i
  cases hx:x.getLsbD i with
  | false=>rfl
  | true=>rw[h1 hx] at hi;cases hi
 refine⟨List.countP_mono_left hp,fun hle=>?_⟩;have:=Z5U hp hle
 apply BitVec.eq_of_getLsbD_eq
 intro i hi;have h1:=hb i;have h2:=this i (List.mem_range.2 hi)
 cases hx:x.getLsbD i<;>cases hy:y.getLsbD i<;>simp_all
def OI:OrdB Fi:=⟨Fi.le,fi0,Fi.le_refl,fun h h'=>h.trans h',fun h h'=>h.antisymm h',Fi.bot⟩
def Ws.at (w:Ws) (i:Nat):BitVec 64:=bif decide (i=0) then w.a else bif decide (i=1) then w.b else bif decide (i=2) then w.c else w.d
def Ws.one (i:Nat) (x:BitVec 64):Ws:=⟨bif decide (i=0) then x else 0,bif decide (i=1) then x else 0,bif decide (i=2) then x else 0,bif decide (i=3) then x else 0⟩
def Zoa (b:UInt8):Ws:=.one (b.toNat / 64) (1#64 <<< (b.toNat % 64))
def ofW (l:List UInt8):Ws:=l.foldl (fun w b=>w.or (Zoa b)) .zero
def Nd.ws (d:Nd):Ws:=⟨BitVec.ofInt 64 d.s0,BitVec.ofInt 64 d.s1,BitVec.ofInt 64 d.s2,BitVec.ofInt 64 d.s3⟩
def Zob (d:Nd) (k:Fi):Fi:=bif decide (d.hi=0) then fiT else ⟨k.w,k.f || decide (d.lo=0)⟩
def Zoc (ks:List Fi):Fi:=ks.foldl Fi.seq fiT
def ZoY (ks:List Fi):Fi:=ks.foldl Fi.choice fi0
def ZmL (t:ByteArray):Fi:=⟨ofW (t.data.toList.take 1),false⟩
def ZmM (d:Nd) (x:Fl) (ks:List Fi):Fi:=
 bif decide (d.k=0) then ⟨.zero,x.suc⟩ else
 bif decide (d.k=1) then ⟨d.ws,false⟩ else
 bif decide (d.k=2) then ZmL d.t else
 bif decide (d.k=3) then ks.headD fi0 else
 bif decide (d.k=4) then Zoc ks else
 bif decide (d.k=5) then ZoY ks else
 bif decide (d.k=6) then Zob d (ks.headD fi0) else
 bif decide (d.k=7) then ⟨.zero,x.suc⟩ else
 bif decide (d.k=8) then ⟨.zero,x.suc⟩ else ks.headD fi0
def Zod (pl:List (ByteArray×Int)) (fl acc:List Fi) (d:Nd):List Fi:=
 d.kids.map (fun k=>acc.getD k.toNat fi0)++bif decide (d.k=3) then [fl.getD ((Z0q d.t pl).getD 0).toNat fi0] else []
def ZaI (pl:List (ByteArray×Int)) (fl:List Fi) (xs:List Fl):List Nd->List Fi->List Fi
 | [],acc=>acc
 | d::ds,acc=>ZaI pl fl xs ds (acc++[ZmM d (xs.getD acc.length fl0) (Zod pl fl acc d)])
theorem Z8G (pl:List (ByteArray×Int)) (fl:List Fi) (xs:List Fl):∀ (ds:List Nd) (acc:List Fi),(ZaI pl fl xs ds acc).length=acc.length+ds.length
 | [],acc=>rfl
 | d::ds,acc=>by
  rw[ZaI,Z8G];simp
  omega
theorem LeI.map {α:Type} {f g:α->Fi} {l:List α} (h:∀ x∈l,(f x).le (g x)):LeR OI (l.map f) (l.map g):=.of (by simp) fun i hi=>by
 have hi':i < l.length:=by simpa using hi
 have:=h _ (List.getElem_mem hi')
 simpa[List.getD_eq_getElem?_getD,hi'] using (show OI.le _ _ from this)
def Zoe (pl:List (ByteArray×Int)) (F:List Fl) (ds:List Df) (l:List Fi) (i:Nat):Fi:=match ds[i]? with
 | some d=>(ZaI pl l (Z0e pl F d.t.ns []) d.t.ns []).getD d.t.root.toNat fi0
 | none=>fi0
def Zl8 (ds:List Df) (F:List Fl) (l:List Fi):Prop:=IsR OI ds.length (Zoe (Z02 ds) F ds) l
def Ws.has (w:Ws) (n:Nat):Bool:=(w.at (n / 64)).getLsbD (n % 64)
structure FR2 (x:Fl) (k:Fi):Prop where
 z:x.z=true->k.f=true
 s:x.s=true->k.w≠.zero
theorem FR2.none (k:Fi):FR2 fl0 k:=⟨fun h=>(by cases h),fun h=>(by cases h)⟩
theorem FR2.suc {x:Fl} {k:Fi} (h:FR2 x k) (hs:x.suc=true):k.f=true∨k.w≠.zero:=by
 simp only[Fl.suc,Bool.or_eq_true] at hs;exact hs.imp h.z h.s
inductive FR2s:List Fl->List Fi->Prop
 | nil:FR2s [] []
 | cons {x k l m} (h:FR2 x k) (t:FR2s l m):FR2s (x::l) (k::m)
theorem FR2s.getD:∀ {l:List Fl} {m:List Fi},FR2s l m->∀ i,FR2 (l.getD i fl0) (m.getD i fi0)
 | _,_,.nil,i=>by simpa using FR2.none fi0
 | _,_,.cons h t,0=>h
 | _,_,.cons h t,i+1=>by simpa using t.getD i
theorem FR2s.len:∀ {l:List Fl} {m:List Fi},FR2s l m->l.length=m.length
 | _,_,.nil=>rfl
 | _,_,.cons h t=>by simp[t.len]
theorem FR2s.of:∀ {l:List Fl} {m:List Fi},l.length=m.length->(∀ i,i < l.length->FR2 (l.getD i fl0) (m.getD i fi0))->FR2s l m
 | [],[],_,_=>.nil
 | x::l,k::m,hl,h=>.cons (by simpa using h 0 (by simp)) (FR2s.of (by simpa using hl) fun i hi=>by simpa using h (i+1) (by simpa using hi))
theorem FR2s.head {l:List Fl} {m:List Fi} (h:FR2s l m):FR2 (l.headD fl0) (m.headD fi0):=by
 cases h with
 | nil=>exact FR2.none _
 | cons h t=>exact h
theorem FR2s.map {α:Type} {f:α->Fl} {g:α->Fi}:∀ {l:List α},(∀ x∈l,FR2 (f x) (g x))->FR2s (l.map f) (l.map g)
 | [],_=>.nil
 | x::l,h=>.cons (h x (.head _)) (FR2s.map fun y hy=>h y (.tail _ hy))
theorem Zl9 {x y:Ws} (h:x≠.zero∨y≠.zero):x.or y≠.zero:=by
 intro e;have hx:x=.zero:=Ws.sub_antisymm (by rw[←e];exact Ws.sub_or x y) (Ws.zero_sub _);have hy:y=.zero:=Ws.sub_antisymm (by rw[←e,Ws.or_comm];exact Ws.sub_or y x) (Ws.zero_sub _)
 rcases h with h | h
 ·exact h hx
 ·exact h hy
structure SqR (p:Fl×Bool) (k:Fi):Prop where
 z:p.1.z=true->k.f=true
 s:p.1.s=true->p.2=true->k.w≠.zero
 c:p.2=true->k.f=true∨k.w≠.zero
theorem SqR.step {p:Fl×Bool} {k:Fi} {x:Fl} {y:Fi} (h:SqR p k) (hx:FR2 x y):SqR (Z1p p x) (k.seq y):=by
 obtain⟨⟨pz,ps,pf⟩,pc⟩:=p;obtain⟨h1,h2,h3⟩:=h;obtain⟨xz,xs,xf⟩:=x;have hs:=hx.suc;obtain⟨g1,g2⟩:=hx;obtain⟨kw,kf⟩:=k;obtain⟨yw,yf⟩:=y;simp only[Z1p,Fl.suc] at *
 cases kf with
 | false=>
  simp only[Fi.seq,cond_false];refine⟨?_,?_,?_⟩
  ·intro h
   simp only[Bool.and_eq_true] at h;exact h1 h.1
  ·intro _ h
   simp only[Bool.and_eq_true] at h;exact(h3 h.1).resolve_left (by simp)
  ·intro h
   simp only[Bool.and_eq_true] at h;exact .inr ((h3 h.1).resolve_left (by simp))
 | true=>
  simp only[Fi.seq,cond_true];refine⟨?_,?_,?_⟩
  ·intro h
   simp only[Bool.and_eq_true] at h;exact g1 h.2
  ·intro h h'
   simp only[Bool.or_eq_true,Bool.and_eq_true] at h h'
   rcases h with h | h
   ·exact Zl9 (.inl (h2 h h'.1))
   ·exact Zl9 (.inr (g2 h))
  ·intro h
   simp only[Bool.and_eq_true] at h
   rcases hs h.2 with e | e
   ·exact .inl e
   ·exact .inr (Zl9 (.inr e))
structure SubAt (t:Tr) (k:Int) (t':Tr):Prop where
 ct:t'.ns.map Nd.ct=Zfw t.ns k
 root:t'.root=(t'.ns.length:Int) - 1
def ZaJ:List (Fl×List Nat)->List Nat
 | []=>[]
 | x::xs=>x.2++bif x.1.z then ZaJ xs else []
def Z27 (pl:List (ByteArray×Int)) (d:Nd) (xs:List (Fl×List Nat)):List Nat:=
 bif decide (d.k=3) then [((Z0q d.t pl).getD 0).toNat] else
 bif decide (d.k=4) then ZaJ xs else
 bif decide (d.k=6) && decide (d.hi=0) then [] else xs.flatMap (·.2)
def Z8d (pl:List (ByteArray×Int)) (F:List Fl) (d:Nd) (xs:List (Fl×List Nat)):Fl×List Nat:=
 (Z0P d (xs.map (·.1)++bif decide (d.k=3) then [F.getD ((Z0q d.t pl).getD 0).toNat fl0] else []),Z27 pl d xs)
def Z0w (pl:List (ByteArray×Int)) (F:List Fl) (ns:List Nd) (j:Int):Fl×List Nat:=Z69 (fl0,[]) (fun d g=>Z8d pl F d (d.kids.map g)) ns j
theorem Zcc {pl:List (ByteArray×Int)} {F:List Fl} {t:Tr} (hr:right t=true) {j:Nat} (hj:j < t.ns.length):Z0w pl F t.ns j=Z8d pl F t.ns[j] (t.ns[j].kids.map (Z0w pl F t.ns)):=
 Z4C (fun d g g' h=>by rw[List.map_congr_left h]) hr hj
theorem Zla (pl:List (ByteArray×Int)) (F:List Fl) (ns:List Nd) (j:Int):Z0w pl F (ns.map Nd.ct) j=Z0w pl F ns j:=by
 unfold Z0w Z69;rw[Zdv (f:=fun d g=>Z8d pl F d (d.kids.map g)) (g:=fun d g=>Z8d pl F d (d.kids.map g)) (fun d q=>rfl)]
theorem ZaK (acc:List (Fl×List Nat)) (i:Nat):(acc.getD i (fl0,[])).1=(acc.map (·.1)).getD i fl0:=by
 simp only[List.getD_eq_getElem?_getD,List.getElem?_map]
 cases acc[i]?<;>rfl
theorem Zdz (pl:List (ByteArray×Int)) (F:List Fl):∀ (ds:List Nd) (acc:List (Fl×List Nat)),
  (tab (fl0,[]) (fun d g=>Z8d pl F d (d.kids.map g)) ds acc).map (·.1)=Z0e pl F ds (acc.map (·.1))
 | [],acc=>rfl
 | d::ds,acc=>by
  have e1:(Z8d pl F d (d.kids.map fun k=>acc.getD k.toNat (fl0,[]))).1=Z0P d (Z5n pl F (acc.map (·.1)) d):=by
   unfold Z8d Z5n;simp only[List.map_map,Function.comp_def,ZaK]
  have h1:=Zdz pl F ds (acc++[Z8d pl F d (d.kids.map fun k=>acc.getD k.toNat (fl0,[]))]);rw[List.map_append,List.map_cons,List.map_nil,e1] at h1
  rw[tab,h1,Z0e]
theorem ZaL (pl:List (ByteArray×Int)) (F:List Fl) (ns:List Nd) (j:Int):(Z0w pl F ns j).1=(Z0e pl F ns []).getD j.toNat fl0:=by
 have h:=Zdz pl F ns [];unfold Z0w Z69
 rw[ZaK,h];rfl
abbrev W64:=BitVec 64
def Z7p (k:Nat):W64:=1#64 <<< k
theorem Z6o {k i:Nat} (hi:i < 64):(Z7p k).getLsbD i=decide (i=k):=by
 unfold Z7p;rw[BitVec.getLsbD_shiftLeft];simp only[hi,decide_true,Bool.true_and]
 by_cases h:i < k
 ·have hne:¬ i=k:=by omega
  simp[h,hne]
 ·simp only[h,decide_false,Bool.not_false,Bool.true_and]
  by_cases e:i=k
  ·subst e
   simp
  ·rw[decide_eq_false e]
   have h2:0 < i - k:=by omega
   rw[BitVec.getLsbD_one];simp
   omega
theorem ZeJ (l:List Nat):∀ (w:W64) {i:Nat},i < 64->(l.foldl (fun w k=>w ||| Z7p k) w).getLsbD i=(w.getLsbD i || l.contains i):=by
 induction l with
 | nil=>intro w i hi;simp
 | cons k l ih=>
  intro w i hi;rw[List.foldl_cons,ih _ hi,BitVec.getLsbD_or,Z6o hi,List.contains_cons,Bool.or_assoc];rfl
def Z1D (m:List W64):Nat->Nat->W64->W64
 | _,0,w=>w
 | k,f+1,w=>Z1D m (k+1) f (bif w.getLsbD k then w ||| m.getD k 0 else w)
def Z4P (m:List W64):List W64:=(List.range 64).map fun i=>Z1D m 0 64 (m.getD i 0)
inductive ComesM (m:List W64):Nat->Nat->Prop
 | one {i k} (hk:k < 64) (h:(m.getD i 0).getLsbD k=true):ComesM m i k
 | step {i j k} (h:(m.getD i 0).getLsbD j=true) (hj:j < 64) (t:ComesM m j k):ComesM m i k
theorem ComesM.trans {m:List W64} {i j k:Nat} (h:ComesM m i j) (h':ComesM m j k):ComesM m i k:=by
 induction h with
 | one hk h=>exact .step h hk h'
 | step h hj t ih=>exact .step h hj (ih h')
def SubW (x y:W64):Prop:=∀ i,i < 64->x.getLsbD i=true->y.getLsbD i=true
theorem SubW.refl (x:W64):SubW x x:=fun _ _ h=>h
theorem SubW.trans {x y z:W64} (h:SubW x y) (h':SubW y z):SubW x z:=fun i hi hx=>h' i hi (h i hi hx)
theorem SubW.or (x y:W64):SubW x (x ||| y):=fun i hi h=>by rw[BitVec.getLsbD_or,h];rfl
theorem SubW.or' (x y:W64):SubW y (x ||| y):=fun i hi h=>by rw[BitVec.getLsbD_or,h,Bool.or_true]
theorem SubW.anti {x y:W64} (h:SubW x y) (h':SubW y x):x=y:=BitVec.eq_of_getLsbD_eq fun i hi=>by
 have h1:=h i hi;have h2:=h' i hi
 cases hx:x.getLsbD i<;>cases hy:y.getLsbD i<;>simp_all
theorem SubW.and {x y:W64} (h:SubW x y):x &&& y=x:=BitVec.eq_of_getLsbD_eq fun i hi=>by
 have h1:=h i hi;rw[BitVec.getLsbD_and]
 cases hx:x.getLsbD i<;>simp_all
theorem Z3w (m:List W64):∀ (f k:Nat) (w:W64),SubW w (Z1D m k f w)
 | 0,k,w=>SubW.refl w
 | f+1,k,w=>by
  rw[Z1D]
  cases w.getLsbD k with
  | true=>exact(SubW.or _ _).trans (Z3w m f (k+1) _)
  | false=>exact Z3w m f (k+1) _
theorem Z3x {m:List W64} {P:Nat->Prop} (hm:∀ j,P j->∀ x,x < 64->(m.getD j 0).getLsbD x=true->P x):∀ (f k:Nat) (w:W64),k+f≤64->(∀ x,x < 64->w.getLsbD x=true->P x)->∀ x,x < 64->(Z1D m k f w).getLsbD x=true->P x
 | 0,k,w,_,hw=>hw
 | f+1,k,w,hk,hw=>by
  rw[Z1D]
  cases hb:w.getLsbD k with
  | true=>
   refine Z3x hm f (k+1) _ (by omega) fun x hx h=>?_
   rw[cond_true,BitVec.getLsbD_or,Bool.or_eq_true] at h
   rcases h with h | h
   ·exact hw x hx h
   ·exact hm k (hw k (by omega) hb) x hx h
  | false=>exact Z3x hm f (k+1) _ (by omega) hw
theorem Z5p {m:List W64}:∀ (f k:Nat) {w:W64},Z1D m k f w=w->∀ j,k≤j->j < k+f->w.getLsbD j=true->SubW (m.getD j 0) w
 | 0,k,w,_,j,h1,h2,_=>by omega
 | f+1,k,w,h,j,h1,h2,hj=>by
  rw[Z1D] at h
  cases hb:w.getLsbD k with
  | true=>
   rw[hb,cond_true] at h
   have e:w ||| m.getD k 0=w:=by
    refine SubW.anti ?_ (SubW.or _ _);have:=Z3w m f (k+1) (w ||| m.getD k 0)
    rwa [h] at this
   by_cases ek:j=k
   ·subst ek
    have:=SubW.or' w (m.getD j 0)
    rwa [e] at this
   ·rw[e] at h
    exact Z5p f (k+1) h j (by omega) (by omega) hj
  | false=>
   rw[hb,cond_false] at h
   by_cases ek:j=k
   ·subst ek
    rw[hb] at hj;cases hj
   ·exact Z5p f (k+1) h j (by omega) (by omega) hj
theorem ZaM (m:List W64):(Z4P m).length=64:=by simp[Z4P]
theorem Z4Q (m:List W64) {i:Nat} (h:i < 64):(Z4P m).getD i 0=Z1D m 0 64 (m.getD i 0):=by simp[Z4P,List.getD_eq_getElem?_getD,h]
structure OnM (m0 m:List W64):Prop where
 len:m.length=64
 le:∀ i,i < 64->SubW (m0.getD i 0) (m.getD i 0)
 ok:∀ i,i < 64->∀ k,k < 64->(m.getD i 0).getLsbD k=true->ComesM m0 i k
theorem OnM.start {m0:List W64} (h:m0.length=64):OnM m0 m0:=⟨h,fun i _=>SubW.refl _,fun i _ k hk hb=>.one hk hb⟩
theorem OnM.next {m0 m:List W64} (h:OnM m0 m):OnM m0 (Z4P m):=by
 refine⟨ZaM m,fun i hi=>?_,fun i hi k hk hb=>?_⟩
 ·rw[Z4Q m hi]
  exact(h.le i hi).trans (Z3w m 64 0 _)
 ·rw[Z4Q m hi] at hb
  refine Z3x (P:=fun x=>x < 64∧ComesM m0 i x) (fun j hj x hx hb=>⟨hx,hj.2.trans (h.ok j hj.1 x hx hb)⟩) 64 0 _ (Nat.le_refl _) (fun x hx hb=>⟨hx,h.ok i hi x hx hb⟩) k hk hb |>.2
theorem OnM.done {m0 m:List W64} (h:OnM m0 m) (hf:Z4P m=m) {i k:Nat} (hi:i < 64) (hk:k < 64):(m.getD i 0).getLsbD k=true ↔ ComesM m0 i k:=by
 refine⟨h.ok i hi k hk,fun hc=>?_⟩
 have hcl:∀ i,i < 64->∀ j,j < 64->(m.getD i 0).getLsbD j=true->SubW (m.getD j 0) (m.getD i 0):=fun i hi j hj hb=>by
  have:=Z4Q m hi;rw[hf] at this;exact Z5p 64 0 this.symm j (Nat.zero_le _) (by omega) hb
 revert hi
 induction hc with
 | one hk' hb=>exact fun hi=>h.le _ hi _ hk' hb
 | step hb hj t ih=>exact fun hi=>hcl _ hi _ hj (h.le _ hi _ hj hb) _ hk (ih hk hj)
def Zk8 (m:List W64):Nat:=(m.map ZmK).sum
theorem ZgA:∀ {m n:List W64},m.length=n.length->(∀ i,i < m.length->SubW (m.getD i 0) (n.getD i 0))->Zk8 n≤Zk8 m∧(Zk8 m≤Zk8 n->m=n)
 | [],[],_,_=>⟨Nat.le_refl _,fun _=>rfl⟩
 | [],_::_,h,_=>by simp at h
 | _::_,[],h,_=>by simp at h
 | a::m,b::n,h,hs=>by
  have h0:SubW a b:=by simpa using hs 0 (by simp)
  obtain⟨h1,h2⟩:=Zl7 h0.and
  obtain⟨t1,t2⟩:=ZgA (m:=m) (n:=n) (by simpa using h) fun i hi=>by simpa using hs (i+1) (by simpa using hi)
  simp only[Zk8,List.map_cons,List.sum_cons] at t1 t2 ⊢;refine⟨by omega,fun hle=>?_⟩
  rw[h2 (by omega),t2 (by omega)]
theorem ZgB {m:List W64} (hl:m.length=64) (h:Z4P m≠m):Zk8 (Z4P m) < Zk8 m:=by
 have hs:=ZgA (m:=m) (n:=Z4P m) (by rw[hl,ZaM]) fun i hi=>by
  rw[Z4Q m (by omega)];exact Z3w m 64 0 _
 refine Nat.lt_of_le_of_ne hs.1 fun e=>h (hs.2 (by omega)).symm
def Zlb (m:List W64):W64:=(List.range 64).foldl (fun w i=>w ||| ((m.getD i 0) &&& Z7p i)) 0
theorem ZaN (m:List W64):∀ (l:List Nat) (w:W64) {i:Nat},i < 64->(∀ k∈l,k < 64)->(l.foldl (fun w i=>w ||| ((m.getD i 0) &&& Z7p i)) w).getLsbD i=(w.getLsbD i || (l.contains i && (m.getD i 0).getLsbD i))
 | [],w,i,hi,_=>by simp
 | k::l,w,i,hi,hl=>by
  rw[List.foldl_cons,ZaN m l _ hi fun k hk=>hl k (.tail _ hk),BitVec.getLsbD_or,BitVec.getLsbD_and,Z6o hi,List.contains_cons]
  by_cases e:i=k
  ·subst e
   simp
   cases w.getLsbD i<;>cases (m.getD i 0).getLsbD i<;>simp
  ·have e':(i == k)=false:=by simpa using e
   rw[decide_eq_false e,e'];simp
theorem ZgC (m:List W64) {i:Nat} (hi:i < 64):(Zlb m).getLsbD i=(m.getD i 0).getLsbD i:=by
 unfold Zlb;rw[ZaN m _ _ hi fun k hk=>List.mem_range.1 hk]
 have:(List.range 64).contains i=true:=by simpa using hi
 rw[this];simp
def Z3y (w:W64) (n:Nat):List Nat:=(List.range n).filter fun i=>w.getLsbD i
theorem Z7q (w:W64) (n:Nat):Z3y w (n+1)=Z3y w n++(bif w.getLsbD n then [n] else []):=by
 unfold Z3y;rw[List.range_succ,List.filter_append]
 cases h:w.getLsbD n<;>simp[h]
theorem ZeK (w:W64) (n:Nat):(Z3y w n).length≤n:=by
 unfold Z3y;have:=List.length_filter_le (fun i=>w.getLsbD i) (List.range n)
 simpa using this
section
variable {X:Ctx} {o:Oper} {F:Fr} {C:Bx} {I:GH} {M:List Blk} {K:KS}
theorem OtherOb.bytesS (hE:EOK X.P X.E) {x:Operand} {src dst e:Nat} (ho:o.op=.convert src dst x) (hd:∀ d,o.dst=some d->d < X.n)
  {ti ei di:TI} (ht:X.E src=some ti) (hts:ti.sh=.slice e) (he:X.E e=some ei) (hes:ei.sh=.int .u8) (hdt:X.E dst=some di) (hds:di.sh=.string)
  {ad:Addr} {n c:Nat} {l:List UInt8} (hx:ev F x=.val (.slice (some ad) n c)) (hn:l.length=n) (hrd:Rd I M ad n (l.map fun b=>.int .u8 b.toNat))
  (h:K (put o.dst (.val (.string ⟨l.toArray⟩)) F) C I M):OtherOb X o F C I M K:=by
 subst hn;refine⟨fun a w Q ⟨β,hR⟩=>?_⟩;obtain⟨hs,cs,T,fr,hk,hv,hl⟩:=hrd
 have hg:=hk.heap hR.holds;obtain⟨d,hud,hdd⟩:=(hE _ _ ht).und
 have h1:d=.slice e:=by rw[hts] at hdd;cases d<;>simp_all[Z2k]
 subst h1;obtain⟨d2,hu2,hd2⟩:=(hE _ _ he).und
 have h2:d2=.int .u8:=by rw[hes] at hd2;cases d2<;>simp_all[Z2k]
 subst h2;obtain⟨d3,hu3,hd3⟩:=(hE _ _ hdt).und
 have h3:d3=.string:=by rw[hds] at hd3;cases d3<;>simp_all[Z2k]
 subst h3
 have hc:∀ j (hj:j < l.length),w.cell? (ad.add j)=some (.int .u8 (l[j].toNat:Int)):=by
  intro j hj;rw[Z06 ad hs,Z0C hg]
  have hj':(l.map fun b=>Value.int .u8 b.toNat)[j]?=some (.int .u8 (l[j].toNat:Int)):=by simp[hj]
  rw[←hv,List.getElem?_take,if_pos hj,List.getElem?_drop] at hj'
  simpa using hj'
 have ex:=Z04 hR.fr hx;refine Z2J hR hd (by rw[ho];simp) ?_ h;unfold execOp;simp only[ho,Sem.run_bind,Sem.run_pure,ex,run_convert_bytes_back w src dst e ad c l hud hu2 hu3 hc,Result.andThen_ok]
theorem Zlc {P:Program} {t e:Nat} (ht:P.underlying t=some (.array 2 e)) {k:IntKind} (he:P.underlying e=some (.int k)) {inf:TypeInfo} (hi:P.info? e=some inf) (hs:inf.size=1) (a0 a1 b0 b1:Int) (w:World) :
  (Op.equal t (.agg #[.int k a0,.int k a1]) (.agg #[.int k b0,.int k b1])).run P w=.ok (a0 == b0 && a1 == b1) w:=by
 have hpart:∀ (xs:Array Value) (i:Nat) (v:Value) (w:World),xs[i]?=some v->(part e xs i).run P w=.ok v w:=fun xs i v w h=>by
  have hagg:(isAgg e).run P w=.ok false w:=by
   unfold isAgg;simp[run_underlying he]
  unfold part;simp[hagg,sizeOf,typeInfo,hi,hs,h]
 have hint:∀ (d:Nat) (x y:Int) (w:World),(Op.equalIn (d+1) e (.int k x) (.int k y)).run P w=.ok (x == y) w:=fun d x y w=>by
  simp[Op.equalIn,run_underlying he]
 have key:∀ m,(∀ (x y:Int) (w:World),(Op.equalIn m e (.int k x) (.int k y)).run P w=.ok (x == y) w)->(Op.equalIn (m+1) t (.agg #[.int k a0,.int k a1]) (.agg #[.int k b0,.int k b1])).run P w=.ok (a0 == b0 && a1 == b1) w:=fun m hint=>by
  rw[Op.equalIn];simp only[Sem.run_bind,run_underlying ht,Result.andThen_ok,sizeOf,typeInfo,hi,run_program,Sem.run_pure,hs]
  simp only[Std.Legacy.Range.forIn_eq_forIn_range']
  have hr:List.range' 0 ([:2]:Std.Legacy.Range).size=[0,1]:=by decide
  rw[hr]
  have pa:=fun (i:Nat) (v:Value) (w:World)=>hpart #[.int k a0,.int k a1] i v w
  have pb:=fun (i:Nat) (v:Value) (w:World)=>hpart #[.int k b0,.int k b1] i v w
  simp only[List.forIn_cons,List.forIn_nil,Sem.run_bind];rw[pa (0 * 1) (.int k a0) w rfl]
  simp only[Result.andThen_ok,Sem.run_bind];rw[pb (0 * 1) (.int k b0) w rfl]
  simp only[Result.andThen_ok,Sem.run_bind];rw[hint]
  simp only[Result.andThen_ok];cases (a0 == b0)
  ·simp
  simp only[Bool.not_true,Bool.false_eq_true,if_false,Sem.run_pure,Result.andThen_ok,Sem.run_bind];rw[pa (1 * 1) (.int k a1) w rfl]
  simp only[Result.andThen_ok,Sem.run_bind];rw[pb (1 * 1) (.int k b1) w rfl]
  simp only[Result.andThen_ok,Sem.run_bind];rw[hint]
  simp only[Result.andThen_ok];cases (a1 == b1)
  ·simp
  simp
 exact key 9999 (hint 9998)
theorem BinOb.eq2 {P:Program} {E:Env} (hE:EOK P E) {t e:Nat} {ti ei:TI} {x y:Operand} (ht:E t=some ti) (hts:ti.sh=.array 2 e) (he:E e=some ei) {k:IntKind} (hes:ei.sh=.int k)
  (hg:P.eqGuardType P.depth t=false) {a0 a1 b0 b1:Int} {V:Value->Prop} {other:Prop}
  (h:V (.bool (a0 == b0 && a1 == b1))):BinOb P .eql t x y (.val (.agg #[.int k a0,.int k a1])) (.val (.agg #[.int k b0,.int k b1])) V other:=by
 obtain⟨d,hud,hdd⟩:=(hE _ _ ht).und;obtain⟨de,hue,hde⟩:=(hE _ _ he).und;obtain⟨inf,z,hi,hi1,_⟩:=(hE _ _ he).inf
 have h1:d=.array 2 e:=by rw[hts] at hdd;cases d<;>simp_all[Z2k]
 have h2:de=.int k:=by rw[hes] at hde;cases de<;>simp_all[Z2k]
 subst h1;subst h2
 have hs1:inf.size=1:=by rw[hi1];exact(hE _ _ he).sz1 (by rw[hes];rfl)
 refine .mk _ _ _ rfl rfl (fun w=>?_) h;simp only[Sem.run_bind,run_eqGuard_agg (hm:=hg),Result.andThen_ok,binOp,Zlc hud hue hi hs1,Sem.run_pure]
end
section
variable {X:Ctx} {F:Fr} {C:Bx} {I:GH} {M:List Blk} {o:Oper} {K:KS}
theorem OtherOb.bytesN (hE:EOK X.P X.E) {x:Operand} {src dst e:Nat} (ho:o.op=.convert src dst x) (hd:∀ d,o.dst=some d->d < X.n)
  {ti ei di:TI} (ht:X.E src=some ti) (hts:ti.sh=.slice e) (he:X.E e=some ei) (hes:ei.sh=.int .u8) (hdt:X.E dst=some di) (hds:di.sh=.string)
  {c:Nat} (hx:ev F x=.val (.slice none 0 c))
  (h:K (put o.dst (.val (.string ⟨#[]⟩)) F) C I M):OtherOb X o F C I M K:=by
 refine⟨fun a w Q ⟨β,hR⟩=>?_⟩;obtain⟨d,hud,hdd⟩:=(hE _ _ ht).und
 have h1:d=.slice e:=by rw[hts] at hdd;cases d<;>simp_all[Z2k]
 subst h1;obtain⟨d2,hu2,hd2⟩:=(hE _ _ he).und
 have h2:d2=.int .u8:=by rw[hes] at hd2;cases d2<;>simp_all[Z2k]
 subst h2;obtain⟨d3,hu3,hd3⟩:=(hE _ _ hdt).und
 have h3:d3=.string:=by rw[hds] at hd3;cases d3<;>simp_all[Z2k]
 subst h3;have ex:=Z04 hR.fr hx;refine Z2J hR hd (by rw[ho];simp) ?_ h;unfold execOp
 have hrun:(convert src dst (.slice none 0 c)).run X.P w=.ok (.string ⟨#[]⟩) w:=by
  rw[run_convert_bytes_string w src dst e none 0 c hud hu2 hu3];rfl
 simp only[ho,Sem.run_bind,Sem.run_pure,ex,hrun,Result.andThen_ok]
end
theorem CallOb.whole {foot:List Nat} {P:Program} {f:Nat} {args:List Value} {I:GH} {M:List Blk} {K:Value->GH->List Blk->Prop} (post:Value->GH->List Blk->Prop) (hs:Spec P f args I M post)
  (k:∀ v I' M',(∀ b o,I b=some o->I' b=some o)->post v I' M'->K v I' M'):CallOb foot P f args I M K:=
 .mk M [] post (by simp) hs fun v I' M' h1 h2=>by rw[List.append_nil];exact k v I' M' h1 h2
theorem PCallOb.whole {foot:List Nat} {P:Program} {f:Nat} {args:List Value} {I:GH} {M:List Blk} {K:Value->GH->List Blk->Prop} (post:Value->GH->List Blk->Prop) (hs:Spec P f args I M post) (keep:∀ v I' M',post v I' M'->∀ x∈M,x∈M')
  (k:∀ v I' M',(∀ b o,I b=some o->I' b=some o)->post v I' M'->K v I' M'):PCallOb foot P f args I M K:=
 .mkR M [] post (by simp) hs keep fun v I' M' h1 h2=>by rw[List.append_nil];exact k v I' M' h1 h2
section
variable {X:Ctx} {β:Nat->Nat} {a:Act} {w:World} {F:Fr} {C:Bx} {I:GH} {M:List Blk} {o:Oper} {K:KS}
theorem Wk.eqM {foot:List Nat} {I:GH} {M M':List Blk} (h:M=M'):Wk foot I M I M':=by
 subst h;exact .refl
theorem OtherOb.wk (h:OtherOb X o F C I M fun F C I M=>∃ I' M',Wk X.foot I M I' M'∧K F C I' M'):OtherOb X o F C I M K:=by
 obtain⟨h⟩:=h;refine⟨fun a w Q hR=>Oper.wpIn_mono ?_ (h a w Q hR)⟩;rintro a' w' ⟨F',C',I',M',⟨β,hr⟩,I2,M2,hw,hk⟩
 exact⟨F',C',I2,M2,⟨β,hr.wk hw⟩,hk⟩
theorem OtherOb.app1 (hE:EOK X.P X.E) {s x:Operand} {t:Nat} (ho:o.op=.call { callee:=.builtin .append,args:=#[s,x],argTypes:=#[t,t] }) (hd:∀ d,o.dst=some d->d < X.n)
  {e:Nat} {ti ei:TI} (ht:X.E t=some ti) (hts:ti.sh=.slice e) (he:X.E e=some ei)
  (os:OS) {xs:List Value} (hok:os.ok ei.size xs) (hs:ev F s=.val os.val)
  {b9:Nat} {cs:List Value} {c':Nat} (hx:ev F x=.val (.slice (some ⟨b9,0,none⟩) 1 c')) (hl:cs.length=ei.size) (h1:Z0z cs=true)
  (pre post:List Blk) (hM:M=⟨b9,.cells cs.toArray e (0,0)⟩::(pre++(os.blk e++post))) (b1:os.n+1≤9223372036854775807) (b2:(os.n+1) * ei.bytes≤140737488355328)
  (k:∀ os':OS,os'.n=os.n+1->(∀ g,os'.a=some g->I g=none)->os'.ok ei.size (xs++cs)->K (put o.dst (.val os'.val) F) C I (pre++(os'.blk e++post))):OtherOb X o F C I M K:=by
 refine .wk (.appendN hE ho hd ht hts he os hok hs (m:=1) (news:=cs) hx (by decide) ?_ h1 (Mr:=⟨b9,.cells cs.toArray e (0,0)⟩::(pre++post)) ?_ (by unfold maxLen;exact b1) b2 ?_)
 ·rw[Nat.one_mul]
  refine⟨rfl,_,_,_,.inr ⟨⟨b9,.cells cs.toArray e (0,0)⟩,by rw[hM];exact .head _,rfl,rfl⟩,?_,hl⟩;simp only[List.drop_zero]
  exact List.take_of_length_le (by omega)
 ·rw[hM]
  have h2:(⟨b9,.cells cs.toArray e (0,0)⟩::(pre++(os.blk e++post)):List Blk).Perm (⟨b9,.cells cs.toArray e (0,0)⟩::(os.blk e++(pre++post))):=.cons _ (List.perm_append_comm_assoc _ _ _);exact h2.trans List.perm_middle.symm
 ·intro g c cur hI q1 q2 q3 q4
  refine⟨I,pre++((⟨some g,os.n+1,c,cur⟩:OS).blk e++post),.sub (M1:=⟨g,.cells cur.toArray e (0,0)⟩::(pre++post)) (.cons_cons _ (.cons _ (.refl _))) (.perm ?_ .refl),k ⟨some g,os.n+1,c,cur⟩ rfl (fun g' hg=>by cases hg;exact hI) ⟨?_,(fun h=>by cases h),fun g' hg=>?_⟩⟩
  ·exact List.perm_middle.symm
  ·rw[List.length_append,hok.len,hl,Nat.add_mul,Nat.one_mul]
  ·cases hg
   exact⟨q1,q2,q3,q4⟩
theorem OtherOb.appL (hE:EOK X.P X.E) {s x:Operand} {t:Nat} (ho:o.op=.call { callee:=.builtin .append,args:=#[s,x],argTypes:=#[t,t] }) (hd:∀ d,o.dst=some d->d < X.n)
  {e:Nat} {ti ei:TI} (ht:X.E t=some ti) (hts:ti.sh=.slice e) (he:X.E e=some ei)
  (os:OS) {xs:List Value} (hok:os.ok ei.size xs) (hs:ev F s=.val os.val)
  {sa:Option Addr} {m c':Nat} {news:List Value} (hx:ev F x=.val (.slice sa m c')) (hl:news.length=m * ei.size) (hn:0 < m->∃ ad,sa=some ad∧Rd I M ad (m * ei.size) news) (h1:Z0z news=true)
  (pre post:List Blk) (hM:M=pre++(os.blk e++post)) (b1:os.n+m≤9223372036854775807) (b2:(os.n+m) * ei.bytes≤140737488355328)
  (k:∀ os':OS,os'.n=os.n+m->(0 < m->∀ g,os'.a=some g->I g=none)->os'.ok ei.size (xs++news)->K (put o.dst (.val os'.val) F) C I (pre++(os'.blk e++post))):OtherOb X o F C I M K:=by
 by_cases h0:m=0
 ·subst h0
  have hnil:news=[]:=List.eq_nil_of_length_eq_zero (by simpa using hl);subst hnil
  refine .append0 hE ho hd ht hts ht (fun k=>by rw[hts];simp) he (sa:=os.a.map fun g=>⟨g,0,none⟩) (n:=os.n) (c:=os.c) hs ?_ hx (.inl ⟨_,_,rfl⟩) ?_
  ·cases ha:os.a with
   | none=>obtain⟨q1,q2⟩:=hok.nil ha;omega
   | some g=>exact(hok.cap g ha).2.1
  ·have:=k os rfl (fun h=>by omega) (by rw[List.append_nil];exact hok)
   rw[hM];exact this
 obtain⟨ad,rfl,hrd⟩:=hn (by omega);refine .wk (.appendN hE ho hd ht hts he os hok hs (m:=m) (news:=news) hx (by omega) hrd h1 (Mr:=pre++post) ?_ (by unfold maxLen;exact b1) b2 ?_)
 ·rw[hM]
  exact(List.perm_append_comm_assoc _ _ _)
 ·intro g c cur hI q1 q2 q3 q4
  refine⟨I,pre++((⟨some g,os.n+m,c,cur⟩:OS).blk e++post),.perm ?_ .refl,k ⟨some g,os.n+m,c,cur⟩ rfl (fun _ g' hg=>by cases hg;exact hI) ⟨?_,(fun h=>by cases h),fun g' hg=>?_⟩⟩
  ·exact List.perm_middle.symm
  ·rw[List.length_append,hok.len,hl,Nat.add_mul]
  ·cases hg
   exact⟨q1,q2,q3,q4⟩
end
end Go.V
