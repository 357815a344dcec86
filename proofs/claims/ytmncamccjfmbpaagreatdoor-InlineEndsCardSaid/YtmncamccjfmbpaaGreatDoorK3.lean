/- Part 3 of what the proofs of this seat share: the executor, data in memory, walks.
-/
import Derived.Test.YtmncamccjfmbpaaGreatDoorK2
import Derived.Lib.Builder
import Derived.Lib.Bytealg
import Derived.Laws.Pointers
import Derived.Laws.StructEq
import Derived.WideMake
set_option linter.all false
set_option maxHeartbeats 8000000
set_option maxRecDepth 100000
namespace Go.V
open Go Go.Proofs
def ea:=@Int.eq_ofNat_of_zero_le
def eI:=@List.perm_append_comm
def dY:=@List.append_assoc
def fN:=@List.take_of_length_le
def dU:=@decide_eq_false
def fO:=@List.map_congr_left
def fr:=@List.getElem_map
def dw:=@Nat.zero_le
def eV:=@decide_eq_true
def fs:=@List.length_nil
def hn:=@List.flatMap_append
def nj:=@List.getElem?_append_right
def iu:=@List.getElem?_set
def hI:=@List.sum_cons
def mF:=@List.cons_append
def qN:=@Bool.or_eq_false_iff
def rY:=@List.take_append_drop
def sO:=@List.length_replicate
def om:=@Bool.true_and
def qO:=@List.take_left'
def wG:=@List.eq_nil_or_concat
def rZ:=@List.sum_append
def x':=@Int.ofNat_eq_natCast
def zK:=@List.reverse_singleton
def zL:=@Int.toNat_of_nonneg
def zM:=@List.filter_sublist
def Em:=@List.sublist_cons_self
def En:=@MapKept.run_getObj_map
def zN:=@List.ext_getElem?
def B5:=@List.length_take_le
def ya:=@List.cons.injEq
def Eo:=@List.drop_eq_nil_iff
def Ep:=@MapKept.run_checkKey
def yb:=@Bool.false_and
def Er:=@MapKept.run_findKey
def K6:=@Int.fdiv_eq_ediv_of_nonneg
def K7:=@List.perm_append_singleton
def B6:=@List.drop_left'
def K8:=@ByteArray.size_append
def K9:=@List.mem_of_mem_take
def Hn:=@List.getElem_set
def zO:=@Nat.mul_add
def B7:=@List.sum_nil
def Ho:=@List.all_append
def PQ:=@MapKept.run_setObj_map
def K':=@List.all_eq_false
def La:=@BitVec.toNat_and
def Lb:=@Nat.lt_of_not_le
def PR:=@Bool.not_eq_false'
def Lc:=@List.set_set
variable{I:aM}{b j g c bo e T k i:Nat}{s:ByteArray}{v pU p:Value}{t:bP}{P:Program}{w:Bool}{sa:Option Addr}{x y:Operand}{c7 tN:dH}{cs:List Value}{al:List Int}{os:aY}{α:Type}{F:Fr}{C:dF}{l:List (ByteArray×Int)}
def dG(b:Nat)(s:List Int):aE:=⟨b,.cells (s.map (Value.int .i64)).toArray 3 (0,0)⟩
def Hp{M:List aE}{s:List Int}(a':dG b s∈M)(ai:j<s.length):cO I M ((⟨b,0,none⟩:Addr).add (j*1)) 1 [.int .i64 s[j]]:=by
 rw[eU _ rfl];refine⟨rfl,_,3,(0,0),.inr ⟨_,a',rfl,rfl⟩,?_,rfl⟩;have aa:j<(s.map (Value.int .i64)).length:=by simpa using ai
 simp only[cX,fa];rw[e1 aa,qB,rG];simp
def Hq{M:List aE}{s:List Int}{v:Int}(ai:j<s.length)(ah:s[j]=v)(a':dG b s∈M):cO I M ((⟨b,0,none⟩:Addr).add (j*1)) 1 [.int .i64 v]:=ah ▸ Hp a' ai
def o8(s:List Int)(j:Nat)(ai:j<s.length)(b:Int):ck (s.map (Value.int .i64)) j [.int .i64 b]=(s.set j b).map (Value.int .i64):=by unfold ck;rw[o1,D8];simp[ai]
def W3(an:nh I)(ax:t.ok I):Spec Tryz.prog 36 [t.val] I [] (λv I' M'=>v=.int .i64 (bif right t then(t.n:Int)else 0)/\I'=I/\M'=[]):=by
 refine cg [] a7 Tryz.func36 rfl rfl rfl ?_;intro B az;refine bd.mk [] [] _ (.refl _) (qM an ax) ?_;rintro v I' M' -⟨rfl,rfl,rfl⟩;refine a3.mk (λh=>?_) (λh=>?_)
 ·refine⟨_,_,.refl,?_,rfl,rfl⟩;rw[show right t=false by simpa using h];rfl
 ·refine⟨_,_,.refl,?_,rfl,rfl⟩;rw[show right t=true by simpa using h];rfl
def W4{i:Nat}:∀ {ks:List Int} {s cf:List Bool},la i ks s=some cf->∀ k∈ks,0<=k/\k<i
 |[],s,cf,_,k,ae=>by cases ae
 |x::ks,s,cf,h,k,ae=>by
  unfold la at h;cases ag:(decide (x<0)||(decide ((i:Int)<=x)||s.getD x.toNat false))with
  |true=>rw[ag]at h;cases h
  |false=>
   rw[ag]at h;simp only[qN,qz]at ag;rcases eg.1 ae with rfl | ae;·omega
   ·exact W4 h k ae
def W5:∀ {i:Nat} {ds:List ap} {s cf:List Bool},jI i ds s=some cf->∀ j (h:j<ds.length),∀ k∈ds[j].aw,0<=k/\k<(i+j:Nat)
 |i,[],s,cf,_,j,ai,_,_=>by cases ai
 |i,d::ds,s,cf,h,j,ai,k,ae=>by
  unfold jI at h;cases aA:fits d d.aw.length with
  |false=>rw[aA]at h;cases h
  |true=>
   rw[aA]at h;simp only[cb]at h;cases aK:la i d.aw s with
   |none=>rw[aK]at h;cases h
   |some s1=>
    rw[aK]at h;cases j with
    |zero=>exact W4 aK k (by simpa using ae)| succ j=>have:=W5 h j (by simpa using ai) k (by simpa using ae);omega
def mG(h:right t=true):∀ j (ai:j<t.ns.length),∀ k∈t.ns[j].aw,0<=k/\k<j:=by
 unfold right at h;simp only[cz]at h;obtain⟨_,_,h⟩:=h;split at h
 ·rename_i s au;intro j ai k ae;have:=W5 au j ai k ae;omega
 ·cases h
def qP(h:right t=true):0<=t.bA/\t.bA<t.ns.length:=by unfold right at h;simp only[cz,hq]at h;exact⟨h.1,h.2.1⟩
def nk(eC:List Int):List Int->Int->Int
 |[],m=>m| k::ks,m=>nk eC ks (max m (eC.getD k.toNat 0))
def oo:Nat->List ap->List Int->List Int
 |_,[],eC=>eC| i,d::ds,eC=>oo (i+1) ds (eC.set i (nk eC d.aw 0+1))
def depth(t:bP):Int:=bif right t then(oo 0 t.ns (List.replicate t.ns.length 0)).getD t.bA.toNat 0 else 0
def PS(an:nh I)(ax:t.ok I):Spec Tryz.prog 48 [t.val] I [] (λv I' M'=>v=.int .i64 (depth t)/\I'=I/\M'=[]):=by
 refine cg [] a7 Tryz.func48 rfl rfl rfl ?_;intro B az;have aC:=ax.n;have jJ:=ax.a2.cap;refine bd.mk [] [] _ (.refl _) (qM an ax) ?_;rintro v I' M' -⟨rfl,rfl,rfl⟩;refine a3.mk (λh=>?_) (λh=>?_)
 ·refine⟨_,_,.refl,?_,rfl,rfl⟩;simp[depth,show right t=false by simpa using h]
 ·have af:right t=true:=by simpa using h
  have sP:=mG af;obtain⟨a8,ba⟩:=qP af;refine m0.mk t.n t.n rfl rfl (b2 _) (by show 8*t.n<=_;omega) (by omega) ?_;refine b'.mk λb ag sN=>?_;refine dg.inv (ι:=Nat×List Int) (λx=>{ bj:=[(1,.ref 1 0),(3,.val (.slice (some ⟨b,0,none⟩) t.n t.n)),(16,.val (.slice t.a t.n t.c)),(17,.val (.int .i64 t.n)),(18,.val (.int .i64 x.1))],cl:=[(1,t.cells)],cI:=I',de:=[dG b x.2] }) (λx=>x.1<=t.n/\x.2.length=t.n/\(∀ j,0<=x.2.getD j 0/\x.2.getD j 0<=x.1)/\(∀ j,x.1<=j->x.2.getD j 0=0)/\oo 0 t.ns (List.replicate t.ns.length 0)=oo x.1 (t.ns.drop x.1) x.2) (λx=>t.n-x.1) ?_ ?_
  ·have z:∀ j,(List.replicate t.n (0:Int)).getD j 0=0:=λj=>by
    by_cases ai:j<t.n<;>simp[bt,ai]
   refine⟨(0,List.replicate t.n 0),⟨by omega,by simp,λj=>by rw[z];simp,λj _=>z j,by simp[aC]⟩,?_,hv,.cons rfl .nil⟩;show il _ _ [⟨b,.cells (rowOf [Value.int .i64 0] (t.n*1)).toArray 3 (0,0)⟩] _ [dG b (List.replicate t.n 0)];rw[tL,fa];simp only[dG,xY];exact .refl
  ·rintro⟨i,eC⟩⟨ft,iW,iB,kE,BK⟩;simp only at ft iW iB kE BK;refine a3.mk (λh=>?_) (λh=>?_)
   ·have a1:i<t.n:=by simpa using h
    have cq:i<t.ns.length:=by omega
    obtain⟨aU,bK,bm⟩:=ax.a2.row ap.cT a1 cq;have hV:=ax.ns t.ns[i] (bi cq);have ff:=hV.aO;have jn:t.ns.drop i=t.ns[i]::t.ns.drop (i+1):=e1 cq;refine bf.mk aU i bK rfl a1 ?_;refine aR.mk t.ns[i].cells (bm _) ?_;refine dg.inv (ι:=Nat×Int) (λx=>{ bj:=[(1,.ref 1 0),(3,.val (.slice (some ⟨b,0,none⟩) t.n t.n)),(4,.val (.int .i64 i)),(16,.val (.slice t.a t.n t.c)),(17,.val (.int .i64 t.n)),(18,.val (.int .i64 i)),(24,.val (.slice t.ns[i].dE t.ns[i].aO t.ns[i].du)),(25,.val (.int .i64 t.ns[i].aO)),(26,.val (.int .i64 x.1))],cl:=[(1,t.cells)],cI:=I',de:=[dG b (eC.set i x.2)] }) (λx=>x.1<=t.ns[i].aO/\0<=x.2/\x.2<=i/\nk eC t.ns[i].aw 0=nk eC (t.ns[i].aw.drop x.1) x.2) (λx=>t.ns[i].aO-x.1) ?_ ?_
    ·refine⟨(0,0),⟨by omega,by omega,by simp,rfl⟩,?_,kh,.cons rfl .nil⟩;have e:eC.set i 0=eC:=by
      have aa:=kE i (b2 _);rw[bt]at aa;apply zN;intro j;rw[iu];split
      ·rename_i e;subst e;have:i<eC.length:=by omega
       simp[this]at aa |-;exact aa.symm
      ·rfl
     simp only;rw[e];exact .refl
    ·rintro⟨j,m⟩⟨K4,tM,El,PT⟩;simp only at K4 tM El PT;refine a3.mk (λh=>?_) (λh=>?_)
     ·have ez:j<t.ns[i].aO:=by simpa using h
      have iK:j<t.ns[i].aw.length:=by omega
      obtain⟨gr,fB,eY⟩:=hV.a2.one ez iK;have jo:t.ns[i].aw.drop j=t.ns[i].aw[j]::t.ns[i].aw.drop (j+1):=e1 iK;have ae:=sP i cq t.ns[i].aw[j] (bi iK);have lb:t.ns[i].aw[j]=((t.ns[i].aw[j].toNat:Nat):Int):=by omega
      have cv:t.ns[i].aw[j].toNat<t.n:=by omega
      refine bf.mk gr j fB rfl ez ?_;refine aR.mk [.int .i64 t.ns[i].aw[j]] (eY _) ?_;refine c4.draw a7 rfl rfl rfl ?_;have dL:i<(eC.set i m).length:=by simp;omega
      have mD:t.ns[i].aw[j].toNat<(eC.set i m).length:=by simp;omega
      have PU:(eC.set i m)[i]=m:=by simp
      have eX:(eC.set i m)[t.ns[i].aw[j].toNat]=eC.getD t.ns[i].aw[j].toNat 0:=by
       have bs:i≠t.ns[i].aw[j].toNat:=by omega
       have dZ:t.ns[i].aw[j].toNat<eC.length:=by omega
       rw[Hn,bS bs];simp[bt,dZ]
      refine bf.mk ⟨b,0,none⟩ i rfl rfl a1 ?_;refine aR.mk [.int .i64 m] (Hq dL PU (by simp)) ?_;refine bf.mk ⟨b,0,none⟩ t.ns[i].aw[j].toNat rfl lb cv ?_;refine aR.mk [.int .i64 (eC.getD t.ns[i].aw[j].toNat 0)] (Hq mD eX (by simp)) ?_;refine bf.mk ⟨b,0,none⟩ i rfl rfl a1 ?_;refine b8.add [] [] _ 3 rfl ?_ rfl ?_;·simp only[oZ,bE];show 0+i*1+1<=_;simp;omega
      have gq:IntKind.i64.wrap ((j:Int)+1)=((j+1:Nat):Int):=by rw[wrap_i64 ⟨by omega,by have:=hV.a2.cap;omega⟩];omega
      refine bg.mk _ gq ?_;have awn:=iB t.ns[i].aw[j].toNat;refine⟨(j+1,max m (eC.getD t.ns[i].aw[j].toNat 0)),⟨⟨by omega,by simp only;omega,by simp only;omega,?_⟩,by show _<_;simp only;omega⟩,?_,kh,.cons rfl .nil⟩;·simp only;rw[PT,jo];rfl
      ·have e:=o8 (eC.set i m) i dL (max m (eC.getD t.ns[i].aw[j].toNat 0));simp only[dG];rw[Lc]at e;rw[<-e];simp only[cX,fa];exact .refl
     ·have ez:¬ j<t.ns[i].aO:=by simpa using h
      have B4:t.ns[i].aw.drop j=[]:=ki (by omega);have hm:nk eC t.ns[i].aw 0=m:=by rw[PT,B4];rfl
      have dL:i<(eC.set i m).length:=by simp;omega
      have PU:(eC.set i m)[i]=m:=by simp
      have PV:IntKind.i64.wrap (m+1)=m+1:=wrap_i64 ⟨by omega,by omega⟩;have gq:IntKind.i64.wrap ((i:Int)+1)=((i+1:Nat):Int):=by rw[wrap_i64 ⟨by omega,by omega⟩];omega
      refine bf.mk ⟨b,0,none⟩ i rfl rfl a1 ?_;refine aR.mk [.int .i64 m] (Hq dL PU (by simp)) ?_;refine bg.mk _ PV ?_;refine bf.mk ⟨b,0,none⟩ i rfl rfl a1 ?_;refine b8.add [] [] _ 3 rfl ?_ rfl ?_;·simp only[oZ,bE];show 0+i*1+1<=_;omega
      refine bg.mk _ gq ?_;refine⟨(i+1,eC.set i (m+1)),⟨⟨by omega,by simp[iW],?_,?_,?_⟩,by show _<_;simp only;omega⟩,?_,hv,.cons rfl .nil⟩
      ·intro q;have aie:=iB q;simp only[bt,iu]at aie |-;split
       ·rename_i e;subst e;have:i<eC.length:=by omega
        simp[this];omega
       ·omega
      ·intro q aN;have W6:=kE q (by omega);simp only at aN;simp only[bt,iu]at W6 |-;rw[bS (by omega)];exact W6
      ·simp only;rw[BK,jn];simp only[oo,hm]
      ·have e:=o8 (eC.set i m) i dL (m+1);simp only[dG];rw[Lc]at e;rw[<-e];simp only[cX,fa];exact .refl
   ·have cJ:¬ i<t.n:=by simpa using h
    have hs:t.ns.drop i=[]:=ki (by omega);have gU:oo 0 t.ns (List.replicate t.ns.length 0)=eC:=by rw[BK,hs];rfl
    have pV:t.bA=((t.bA.toNat:Nat):Int):=by omega
    have fC:t.bA.toNat<eC.length:=by omega
    refine bf.mk ⟨b,0,none⟩ t.bA.toNat rfl pV (by omega) ?_;refine aR.mk [.int .i64 eC[t.bA.toNat]] (Hq fC rfl (by simp)) ?_;refine⟨_,_,.sub (fk _) .refl,?_,rfl,rfl⟩;have:depth t=eC[t.bA.toNat]:=by unfold depth;rw[af,gU];simp[bt,fC]
    rw[this];rfl
def nl(t:bP):Bool:=decide (t.n<=1024)&&(right t&&decide (depth t<=32))
def aif(an:nh I)(ax:t.ok I):Spec Tryz.prog 119 [t.val] I [] (λv I' M'=>v=.bool (nl t)/\I'=I/\M'=[]):=by
 refine cg [] a7 Tryz.func119 rfl rfl rfl ?_;intro B az;refine cj.mk (λaa=>?_) (λaa=>?_)
 ·refine bd.mk [] [] _ (.refl _) (qM an ax) ?_;rintro v I' M' -⟨rfl,rfl,rfl⟩;refine cj.mk (λab=>?_) (λab=>?_)
  ·refine bd.mk [] [] _ (.refl _) (PS an ax) ?_;rintro v I' M' -⟨rfl,rfl,rfl⟩;refine⟨_,_,.refl,?_,rfl,rfl⟩;have tO:t.n<=1024:=by simp at aa;omega
   simp[nl,tO,ab]
  ·refine⟨_,_,.refl,?_,rfl,rfl⟩;have ma:right t=false:=ab;simp[nl,ma]
 ·refine⟨_,_,.refl,?_,rfl,rfl⟩;have tO:¬ t.n<=1024:=by simp at aa;omega
  simp[nl,tO]
def gK{α:Type}(z:α)(f:ap->(Int->α)->α):List ap->List α->List α
 |[],aZ=>aZ| d::ds,aZ=>gK z f ds (aZ++[f d λk=>aZ.getD k.toNat z])
section
variable{α:Type}{z:α}{f:ap->(Int->α)->α}
def PW:∀ (ds:List ap) (aZ:List α),(gK z f ds aZ).length=aZ.length+ds.length
 |[],aZ=>by simp[gK]
 |d::ds,aZ=>by rw[gK,PW ds];simp;omega
def PX:∀ (ds:List ap) (aZ:List α) (j:Nat),j<aZ.length->(gK z f ds aZ)[j]?=aZ[j]?
 |[],aZ,j,_=>rfl| d::ds,aZ,j,h=>by rw[gK,PX ds _ j (by simp;omega),rE h]
def PY:∀ (ds:List ap) (aZ:List α) (j:Nat) (h:j<ds.length),(gK z f ds aZ)[aZ.length+j]?=some (f ds[j] λk=>((gK z f ds aZ).take (aZ.length+j)).getD k.toNat z)
 |d::ds,aZ,0,_=>by
  rw[gK,qt,PX ds _ aZ.length (by simp)];simp only[List.getElem?_concat_length,uW,j9];congr 1;funext k;have:(gK z f ds (aZ++[f d λk=>aZ.getD k.toNat z])).take aZ.length=aZ:=by
   apply zN;intro i;rw[lu];split;·rename_i hi;rw[PX ds _ i (by simp;omega),rE hi]
   ·rw[qA (by omega)]
  rw[this]
 |d::ds,aZ,j+1,h=>by have:=PY ds (aZ++[f d λk=>aZ.getD k.toNat z]) j (by simpa using h);rw[gK];simp only[b3,c2,fs,cX,GX]at this |-;rw[show aZ.length+(j+1)=aZ.length+1+j from by omega];exact this
def lH(z:α)(f:ap->(Int->α)->α)(ns:List ap)(k:Int):α:=(gK z f ns []).getD k.toNat z
def B8(aA:∀ d g dM,(∀ k∈d.aw,g k=dM k)->f d g=f d dM)(af:right t=true)(ai:j<t.ns.length):lH z f t.ns j=f t.ns[j] (lH z f t.ns):=by have h:=PY (z:=z) (f:=f) t.ns [] j ai;simp only[fs,cX]at h;unfold lH;rw[bt,show((j:Int).toNat)=j from by omega,h,j'];refine aA _ _ _ λk ae=>?_;have:=mG af j ai k ae;rw[bt,bt,lu,bN (by omega)]
end
def free(g:Nat->Nat)(s:List Bool):Nat->Nat
 |0=>0| i+1=>free g s i+(bif s.getD i false then 0 else g i)
def W7{g:Nat->Nat}{s:List Bool}{k:Nat}:∀ {i:Nat},i<=k->free g (s.set k true) i=free g s i
 |0,_=>rfl| i+1,h=>by unfold free;rw[W7 (by omega)];simp only[bt,iu];rw[bS (by omega)]
def W8{g:Nat->Nat}{s:List Bool}{k:Nat}(au:s.getD k false=false)(ay:k<s.length):∀ {i:Nat},k<i->free g (s.set k true) i+g k=free g s i
 |i+1,h=>by
  unfold free;by_cases e:i=k;·subst e;rw[W7 (b2 _),au];simp[bt,ay]
  ·have:=W8 (g:=g) au ay (i:=i) (by omega);simp only[bt,iu]at this |-;rw[bS (by omega)];omega
def g3(g:Int->Nat)(ks:List Int):Nat:=(ks.map g).sum
def W9{g:Nat->Nat}{i:Nat}:∀ {ks:List Int} {s cf:List Bool},la i ks s=some cf->i<=s.length->cf.length=s.length/\free g cf i+g3 (λk=>g k.toNat) ks=free g s i
 |[],s,cf,h,_=>by simp only[la,j9]at h;subst h;exact⟨rfl,rfl⟩
 |x::ks,s,cf,h,ay=>by
  unfold la at h;cases ag:(decide (x<0)||(decide ((i:Int)<=x)||s.getD x.toNat false))with
  |true=>rw[ag]at h;cases h| false=>rw[ag]at h;simp only[qN,qz]at ag;obtain⟨aa,ab,aj⟩:=ag;obtain⟨aJ,a4⟩:=W9 (g:=g) h (by simpa using ay);have cn:=W8 (g:=g) aj (by omega) (i:=i) (by omega);refine⟨by simpa using aJ,?_⟩;simp only[g3,bX,hI]at a4 |-;omega
def PZ{g:Nat->Nat}{c:ap->Nat}:∀ {ds:List ap} {i:Nat} {s cf:List Bool},jI i ds s=some cf->i+ds.length<=s.length->(∀ j (h:j<ds.length),g (i+j)<=c ds[j]+g3 (λk=>g k.toNat) ds[j].aw) -> cf.length=s.length/\free g cf (i+ds.length)<=free g s i+(ds.map c).sum
 |[],i,s,cf,h,_,_=>by simp only[jI,j9]at h;subst h;simp
 |d::ds,i,s,cf,h,ay,av=>by
  unfold jI at h;cases aA:fits d d.aw.length with
  |false=>rw[aA]at h;cases h
  |true=>
   rw[aA]at h;simp only[cb]at h;cases aK:la i d.aw s with
   |none=>rw[aK]at h;cases h
   |some s1=>
    rw[aK]at h;simp only[c2]at ay;obtain⟨aJ,a4⟩:=W9 (g:=g) aK (by omega);obtain⟨cn,dc⟩:=PZ (g:=g) (c:=c) h (by omega) (λj ai=>by
     have:=av (j+1) (by simp;omega);simp only[GX]at this;rw[show i+1+j=i+(j+1)from by omega];exact this)
    have az:=av 0 (by simp);simp only[qt,uW]at az;refine⟨by omega,?_⟩;have jX:free g s1 (i+1)<=free g s1 i+g i:=by
     show free g s1 i+_<=_;cases s1.getD i false<;>simp
    simp only[c2,bX,hI];rw[show i+(ds.length+1)=i+1+ds.length from by omega];omega
def W'{bA:Int}:∀ {s:List Bool} {i:Nat},rV bA i s=true->∀ j,j<s.length->(i+j:Nat)=bA->s.getD j false=false
 |b::s,i,h,j,ai,e=>by
  unfold rV at h;cases ag:(b == decide ((i:Int)=bA))with
  |true=>rw[ag]at h;cases h
  |false=>
   rw[ag]at h;cases j with
   |zero=>
    have:decide ((i:Int)=bA)=true:=by simpa using e
    rw[this]at ag;simpa using ag
   |succ j=>have:=W' (i:=i+1) h j (by simpa using ai) (by omega);simpa using this
def Xa{g:Nat->Nat}{s:List Bool}{k:Nat}(ae:s.getD k false=false):∀ {n:Nat},k<n->g k<=free g s n
 |n+1,h=>by
  unfold free;by_cases e:n=k;·subst e;rw[ae];simp
  ·have:=Xa (g:=g) ae (n:=n) (by omega);omega
def P0(af:right t=true){g:Int->Nat}{c:ap->Nat}(h:∀ j (ai:j<t.ns.length),g j<=c t.ns[j]+g3 g t.ns[j].aw):g t.bA<=(t.ns.map c).sum:=by
 have tP:=qP af;have ae:=mG af;unfold right at af;simp only[cz]at af;obtain⟨_,_,af⟩:=af;split at af
 ·rename_i s au;obtain⟨aJ,a4⟩:=PZ (g:=λk=>g k) (c:=c) au (by simp) (λj ai=>by refine jf (by rw[cX];exact h j ai) (Nat.le_of_eq ?_);congr 1;unfold g3;congr 1;refine fO λk eX=>?_;have:=ae j ai k eX;rw[zL this.1]);simp only[sO,cX]at aJ a4;have bb:=W' af t.bA.toNat (by omega) (by omega);have:=Xa (g:=λk=>g k) bb (n:=t.ns.length) (by omega);rw[zL tP.1]at this;simp only[free]at a4;omega
 ·cases af
def Es(af:right t=true)(ai:j<t.ns.length):fits t.ns[j] t.ns[j].aw.length=true:=by
 have aux:∀ {ds:List ap} {i:Nat} {s cf:List Bool},jI i ds s=some cf->∀ j (h:j<ds.length),fits ds[j] ds[j].aw.length=true:=by
  intro ds
  induction ds with
  |nil=>intro i s cf _ j ai;cases ai
  |cons d ds aF=>
   intro i s cf h j ai;unfold jI at h;cases aA:fits d d.aw.length with
   |false=>rw[aA]at h;cases h
   |true=>
    rw[aA]at h;simp only[cb]at h;cases aK:la i d.aw s with
    |none=>rw[aK]at h;cases h
    |some s1=>
     rw[aK]at h;cases j with
     |zero=>exact aA| succ j=>exact aF h j (by simpa using ai)
 unfold right at af;simp only[cz]at af;obtain⟨_,_,af⟩:=af;split at af
 ·rename_i s au;exact aux au j ai
 ·cases af
def aih{w:World}(t u ty e:Nat)(i:TypeInfo)(ax:P.underlying t=some (.slice e)){mC:TypeDesc}(hu:P.underlying u=some mC)(oi:∀ k,mC≠.int k)(hi:P.info? e=some i)
 {n:Nat} (nf:n<=c) (az:(∃ b c,pU=.slice b 0 c)\/pU=.string .empty):(Builtin.append_ #[t,u] ty #[.slice sa n c,pU]).run P w=.ok (.slice sa n c) w:=by
 have Hj:(match mC with | .int _=>true | _=>false)=false:=by cases mC<;>first | rfl | exact(oi _ rfl).elim
 rcases az with⟨b,c',rfl⟩ | rfl
 ·cases b<;>cases sa<;>simp[Builtin.append_,run_underlying ax,run_underlying hu,sizeOf,typeInfo,hi,Hj,Builtin.lenOf,nf,Builtin.firstCells,Builtin.zeroCells,loadCells,loadCellsFrom,storeCells]
 ·cases sa<;>simp[Builtin.append_,run_underlying ax,run_underlying hu,sizeOf,typeInfo,hi,Hj,Builtin.lenOf,nf,Builtin.firstCells,loadCells,storeCells]
section
variable{X:cV}{β:Nat->Nat}{a:Act}{w:World}{F:Fr}{C:dF}{I:aM}{M:List aE}{o:Oper}{K:gm}
def bB.bin{op:BinOp}{t:Nat}(aK:o.op=.binOp op t x y bo)(ak:∀ d,o.dst=some d->d<X.n){q:Value}(ad:bF F x=.val p)(aH:bF F y=.val q)
  (av:∀ w,(eqGuard op t x y p q).run X.P w=.ok () w) (af:∀ w,eF I M w->(binOp op t p q).run X.P w=.ok v w) (h:K (put o.dst (.val v) F) C I M):bB X o F C I M K:=by
 refine⟨λac w Q ⟨β,aV⟩=>?_⟩;have ex:=df aV.ao ad;have o7:=df aV.ao aH;refine wi aV ak (by rw[aK];simp) ?_ h;unfold execOp;simp only[aK,ct,ex,o7,av,bY,af w aV.holds,c3]
def bB.conv{s t:Nat}(aK:o.op=.convert s t x)(ak:∀ d,o.dst=some d->d<X.n)(ad:bF F x=.val p)
  (af:∀ w,eF I M w->(convert s t p).run X.P w=.ok v w) (h:K (put o.dst (.val v) F) C I M):bB X o F C I M K:=by
 refine⟨λac w Q ⟨β,aV⟩=>?_⟩;have ex:=df aV.ao ad;refine wi aV ak (by rw[aK];simp) ?_ h;unfold execOp;simp only[aK,ct,ex,bY,af w aV.holds,c3]
def bB.un{op:UnOp}{t:Nat}(aK:o.op=.unOp op t x)(ak:∀ d,o.dst=some d->d<X.n)(ad:bF F x=.val p)
  (af:∀ w,eF I M w->(Op.unary op p).run X.P w=.ok v w) (h:K (put o.dst (.val v) F) C I M):bB X o F C I M K:=by
 refine⟨λac w Q ⟨β,aV⟩=>?_⟩;have ex:=df aV.ao ad;refine wi aV ak (by rw[aK];simp) ?_ h;unfold execOp;simp only[aK,ct,ex,bY,af w aV.holds,c3]
def iv(x:Int):Int:=IntKind.u64.wrap (BitVec.ofInt 64 IntKind.u64.max ^^^ BitVec.ofInt 64 x).toNat
def bB.Hr{t:Nat}(aK:o.op=.unOp .xor t x)(ak:∀ d,o.dst=some d->d<X.n){n:Int}(ad:bF F x=.val (.int .u64 n))(h:K (put o.dst (.val (.int .u64 (iv n))) F) C I M):bB X o F C I M K:=
 .un aK ak ad (λw _=>rfl) h
def bB.P1(aQ:cU X.P X.E){s:Operand}{t u:Nat}(aK:o.op=.call { callee:=.builtin .append,args:=#[s,x],argTypes:=#[t,u] })(ak:∀ d,o.dst=some d->d<X.n)
 {l9 aI:dH} (ax:X.E t=some c7) (dT:c7.bM=.slice e) (hu:X.E u=some l9) (fL:∀ k,l9.bM≠.int k) (he:X.E e=some aI)
 {n:Nat} (au:bF F s=.val (.slice sa n c)) (nf:n<=c)
 (ad:bF F x=.val pU) (az:(∃ b c,pU=.slice b 0 c)\/pU=.string .empty)
  (h:K (put o.dst (.val (.slice sa n c)) F) C I M):bB X o F C I M K:=by
 refine⟨λa w Q ⟨β,aV⟩=>?_⟩;obtain⟨inf,z,hi,ft,iW,iB,kE⟩:=(aQ _ _ he).inf;obtain⟨d,fM,fu⟩:=(aQ _ _ hu).fx;obtain⟨gp,jV,kj⟩:=(aQ _ _ ax).fx;have qI:gp=.slice e:=by rw[dT]at kj;cases gp<;>simp_all[fw]
 subst qI;have fj:=aih (w:=w) t u o.type e inf jV fM (λk cQ=>fL k (by rw[<-fu,cQ];rfl)) hi (sa:=sa) nf az;have es:=df aV.ao au;have ex:=df aV.ao ad;refine wi aV ak (by rw[aK];simp) ?_ h;unfold execOp;simp only[aK,resolve,invoke,builtin,ct,c3,bY,sG,bX,hx,es,ex,fj]
def Xb(op:BinOp)(t:Nat)(x y:Operand)(p q:Option Addr)(P:Program)(w:World):(eqGuard op t x y (.pointer p) (.pointer q)).run P w=.ok () w:=by
 unfold eqGuard;cases op<;>rfl
def bB.Ld(aQ:cU X.P X.E){t:Nat}(aK:o.op=.binOp .eql t x y bo)(ak:∀ d,o.dst=some d->d<X.n)(ax:X.E t=some c7)(dT:c7.bM=.pointer e)
  {p:Option Addr} (ad:bF F x=.val (.pointer p)) (aH:bF F y=.val (.pointer none)) (h:K (put o.dst (.val (.bool p.isNone)) F) C I M):bB X o F C I M K:=by
 obtain⟨d,fM,fu⟩:=(aQ _ _ ax).fx;have aa:d=.pointer e:=by rw[dT]at fu;cases d<;>simp_all[fw]
 subst aa;exact .bin aK ak ad aH (λw=>Xb ..) (λw _=>run_eql_pointer_nil w t p (by simp[Program.pointee,fM])) h
def bB.Xc(aQ:cU X.P X.E){t:Nat}(aK:o.op=.binOp .neq t x y bo)(ak:∀ d,o.dst=some d->d<X.n){aii:dH}(ax:X.E t=some c7)(dT:c7.bM=.pointer e)(he:X.E e=some aii)
  {p:Addr} (ad:bF F x=.val (.pointer (some p))) (aH:bF F y=.val (.pointer (some p))) (h:K (put o.dst (.val (.bool false)) F) C I M):bB X o F C I M K:=by
 obtain⟨d,fM,fu⟩:=(aQ _ _ ax).fx;have aa:d=.pointer e:=by rw[dT]at fu;cases d<;>simp_all[fw]
 subst aa;obtain⟨inf,z,hi,_⟩:=(aQ _ _ he).inf;exact .bin aK ak ad aH (λw=>Xb ..) (λw _=>Lib.run_neq_ptr_same w p fM hi) h
end
def Xd{f:Nat}{fn:Func}{e:Array Value->Sem Value}{args:List Value}{M:List aE}(aA:P.funcs[f]?=some fn)(Le:(fn.name == "runtime.NumGoroutine")=false)
  (ag:fn.body.isNone=true) (aC:Extern.findNext fn=none) (he:Extern.find fn=some e) (af:∀ w,(e args.toArray).run P w=.ok v w):Spec P f args I M λr I' M'=>r=v/\I'=I/\M'=M:=by
 refine .inr λw hw=>⟨v,w,I,M,?_,⟨rfl,rfl,rfl⟩,hw,λ_ _ h=>h,λ_ _ h=>.inl h,λx ad=>.inl ⟨x,ad,rfl⟩,λ_ _ _=>rfl,.refl _,b2 _⟩;rw[run_callFunc_extern aA Le ag aC he,af];rfl
def zP(l:List UInt8):List Value:=l.map λb=>.int .u8 b.toNat
structure gu where
 tQ:Bool
 os:aY
 bJ:List UInt8
def gu.ar(b:Nat)(x:gu):aE:=⟨b,.cells #[.pointer (bif x.tQ then some ⟨b,0,none⟩else none),x.os.val] 207 (0,0)⟩
def gu.M(b:Nat)(x:gu):List aE:=x.ar b::x.os.ar 5
structure gu.ok(x:gu):Prop where
 os:x.os.ok 1 (zP x.bJ)
 ne:∀ g,x.os.a=some g->x.bJ≠[]
def gu.new:gu:=⟨false,⟨none,0,0,[]⟩,[]⟩
def gu.Lf:gu.new.ok:=⟨⟨rfl,λ_=>⟨rfl,rfl⟩,λg h=>by cases h⟩,λg h=>by cases h⟩
def gu.ok.n{x:gu}(h:x.ok):x.os.n=x.bJ.length:=by have:=h.os.len;simp[zP]at this;omega
def ptr(b:Nat):Value:=.pointer (some ⟨b,0,none⟩)
def c5{M:List aE}(a':(⟨b,.cells cs.toArray T (0,0)⟩:aE)∈M){n:Nat}(h:k+n<=cs.length):cO I M ((⟨b,0,none⟩:Addr).add k) n ((cs.drop k).take n):=by
 rw[eU _ rfl];refine⟨rfl,_,T,(0,0),.inr ⟨_,a',rfl,rfl⟩,?_,?_⟩
 ·simp
 ·simp;omega
def P2{M:List aE}(v:Value):Spec Tryz.prog 234 [v] I M λr I' M'=>r=v/\I'=I/\M'=M:=
 Xd Tryz.func234 (by kernel_rfl) (by kernel_rfl) (by kernel_rfl) (e:=Extern.AbiNoEscape.same) (by kernel_rfl) (λw=>Lib.run_noEscape w _)
def Xe{M:List aE}(s:ByteArray)(c:UInt8):Spec Tryz.prog 325 [.string s,.int .u8 c.toNat] I M λr I' M'=>r=.int .i64 (Lib.indexByte s.data.toList c)/\I'=I/\M'=M:=
 Xd Tryz.func325 (by kernel_rfl) (by kernel_rfl) (by kernel_rfl) (e:=Extern.BytealgIndexByte.indexByte) (by kernel_rfl) (λw=>by
  have:=Lib.run_indexByteString (P:=Tryz.prog) s (c.toNat:Int) w;simpa using this)
def aij(s:ByteArray)(c:UInt8):Spec Tryz.prog 307 [.string s,.int .u8 c.toNat] I [] λr I' M'=>r=.int .i64 (Lib.indexByte s.data.toList c)/\I'=I/\M'=[]:=by refine cg [] a7 Tryz.func307 rfl rfl rfl ?_;intro B az;refine bd.mk [] [] _ (.refl _) (Xe s c) ?_;rintro v I' M' -⟨rfl,rfl,rfl⟩;exact⟨_,_,.refl,rfl,rfl,rfl⟩
def Xf(s:ByteArray)(c:UInt8):Spec Tryz.prog 291 [.string s,.int .u8 c.toNat] I [] λr I' M'=>r=.int .i64 (Lib.indexByte s.data.toList c)/\I'=I/\M'=[]:=by refine cg [] a7 Tryz.func291 rfl rfl rfl ?_;intro B az;refine bd.mk [] [] _ (.refl _) (aij s c) ?_;rintro v I' M' -⟨rfl,rfl,rfl⟩;exact⟨_,_,.refl,rfl,rfl,rfl⟩
def Lg{M:List aE}{w:World}(h:eF I M w){cs:Array Value}{ao:Nat×Nat}(a':(⟨b,.cells cs T ao⟩:aE)∈M):w.shape? b=some (T,cs.size):=by have:=h.m _ a';simp only at this;simp[World.shape?,this]
def Xg(b:Nat)(x:gu):Spec Tryz.prog 192 [ptr b] I [x.ar b] λr I' M'=>r=.tuple #[]/\I'=I/\M'=[{ x with tQ:=true:gu }.ar b]:=by
 obtain⟨tQ,os,bJ⟩:=x;obtain⟨inf,z,hi,ft,_⟩:=(a7 207 _ rfl).inf;refine cg [] a7 Tryz.func192 rfl rfl rfl ?_;intro B az;cases tQ with
 |false=>refine aR.mk [.pointer none] (c5 (cs:=[.pointer none,os.val]) (k:=0) (n:=1) (T:=207) (ec.2 rfl) (by simp)) ?_;refine .other (bB.Ld a7 rfl (by simp) rfl rfl rfl rfl ?_);refine a3.mk (λ_=>?_) (λh=>by cases h);refine bB.conv rfl (by simp) rfl (λw hw=>Lib.run_to_unsafe (t:=207) (e:=207) (cells:=2) w ⟨b,0,none⟩ (by kernel_rfl) (by kernel_rfl) (j:=inf) hi (by rw[ft];decide) (Lg (cs:=#[.pointer none,os.val]) hw (ec.2 rfl)) (by simp)) ?_;refine bd.mk [gu.ar b ⟨false,os,bJ⟩] [] _ (by simp) (P2 _) ?_;rintro v I' M' -⟨rfl,rfl,rfl⟩;refine bB.conv rfl (by simp) rfl (λw hw=>Lib.run_from_unsafe (u:=207) (e:=207) (cells:=2) w ⟨b,0,none⟩ (by kernel_rfl) (by kernel_rfl) (j:=inf) hi (Lg (cs:=#[.pointer none,os.val]) hw (ec.2 rfl)) (by kernel_rfl)) ?_;refine b8.add [] [] _ _ rfl (bI rfl) rfl ?_;exact⟨_,_,.refl,rfl,rfl,rfl⟩
 |true=>refine aR.mk [ptr b] (c5 (cs:=[ptr b,os.val]) (k:=0) (n:=1) (T:=207) (ec.2 rfl) (by simp)) ?_;refine .other (bB.Ld a7 rfl (by simp) rfl rfl rfl rfl ?_);refine a3.mk (λh=>by cases h) (λ_=>?_);refine aR.mk [ptr b] (c5 (cs:=[ptr b,os.val]) (k:=0) (n:=1) (T:=207) (ec.2 rfl) (by simp)) ?_;refine .other (bB.Xc a7 rfl (by simp) rfl rfl rfl rfl rfl ?_);refine a3.mk (λh=>by cases h) (λ_=>?_);exact⟨_,_,.refl,rfl,rfl,rfl⟩
def pW(b:Nat){x:gu}(ad:x.ok)(c:UInt8)(ay:x.bJ.length<70368744177664):Spec Tryz.prog 230 [ptr b,.int .u8 c.toNat] I (x.M b)
  λr I' M'=>r=.nilIface/\I'=I/\∃ y:gu,y.ok/\y.bJ=x.bJ++[c]/\M'=y.M b:=by
 refine cg [] a7 Tryz.func230 rfl rfl rfl ?_;intro B az;have aC:=ad.n;refine bd.mk [x.ar b] (x.os.ar 5) _ (.refl _) (Xg b x) ?_;rintro v I' M' -⟨rfl,rfl,rfl⟩;refine aR.mk [x.os.val] (c5 (cs:=[ptr b,x.os.val]) (k:=1) (n:=1) (T:=207) (.head _) (by simp)) ?_;refine b'.mk λg av B9=>?_;refine bB.append a7 rfl (by simp) (e:=5) rfl rfl rfl x.os (xs:=zP x.bJ) ad.os rfl (m:=1) rfl (ch:=[.int .u8 c.toNat]) (by decide) ?_ rfl (Mr:=[⟨g,.cells #[.int .u8 c.toNat] 5 (0,0)⟩,{ x with tQ:=true:gu }.ar b]) ?_ ?_ ?_ ?_
 ·exact c5 (cs:=[.int .u8 c.toNat]) (k:=0) (n:=1) (T:=5) (.head _) (by simp)
 ·exact eI (l₁:=[_,_]) (l₂:=x.os.ar 5)
 ·simp only[maxLen];omega
 ·show(x.os.n+1)*1<=_;omega
 ·intro dM c' aS aa ab aj aG;refine b8.add [⟨dM,.cells aS.toArray 5 (0,0)⟩,⟨g,.cells #[.int .u8 c.toNat] 5 (0,0)⟩] [] _ _ rfl (bI rfl) rfl ?_;refine⟨_,_,.perm (M1:=[⟨g,.cells #[.int .u8 c.toNat] 5 (0,0)⟩]++gu.M b ⟨true,⟨some dM,x.os.n+1,c',aS⟩,x.bJ++[c]⟩) ?_ (.sub (mw _ _) .refl),rfl,rfl,_,?_,rfl,rfl⟩
  ·exact eI (l₁:=[_]) (l₂:=[_,_])
  ·refine⟨⟨?_,λh=>by simp at h,?_⟩,by simp⟩
   ·simp[zP,aC]
   ·intro ba ld;refine⟨aa,ab,aj,?_⟩;rw[aG];simp[zP]
def u5(b:Nat){x:gu}(ad:x.ok)(s:ByteArray)(ay:x.bJ.length+s.size<=70368744177664):Spec Tryz.prog 148 [ptr b,.string s] I (x.M b)
  λr I' M'=>r=.tuple #[.int .i64 s.size,.nilIface]/\I'=I/\∃ y:gu,y.ok/\y.bJ=x.bJ++s.data.toList/\M'=y.M b:=by
 refine cg [] a7 Tryz.func148 rfl rfl rfl ?_;intro B az;have aC:=ad.n;refine bd.mk [x.ar b] (x.os.ar 5) _ (.refl _) (Xg b x) ?_;rintro v I' M' -⟨rfl,rfl,rfl⟩;refine aR.mk [x.os.val] (c5 (cs:=[ptr b,x.os.val]) (k:=1) (n:=1) (T:=207) (.head _) (by simp)) ?_;by_cases au:s.size=0
 ·have he:s=.empty:=wa (Pj au);subst he;have nf:x.os.n<=x.os.c:=by
   cases a6:x.os.a with
   |none=>obtain⟨aa,ab⟩:=ad.os.nil a6;omega
   |some g=>exact(ad.os.cap g a6).2.1
  refine bB.P1 a7 rfl (by simp) (e:=5) rfl rfl rfl (by simp) rfl rfl nf rfl (.inr rfl) ?_;refine b8.add [] (x.os.ar 5) _ _ rfl (bI rfl) rfl ?_;exact⟨_,_,.refl,rfl,rfl,⟨true,x.os,x.bJ⟩,⟨ad.os,ad.ne⟩,by simp,rfl⟩
 ·refine bB.ah3 a7 rfl (by simp) (e:=5) rfl rfl rfl rfl rfl rfl x.os (xs:=zP x.bJ) ad.os rfl rfl (by omega) (Mr:=[{ x with tQ:=true:gu }.ar b]) (eI (l₁:=[_])) ?_ ?_ ?_
  ·simp only[maxLen];omega
  ·show(x.os.n+s.size)*1<=_;omega
  ·intro dM c' aS aa ab aj aG;refine b8.add [⟨dM,.cells aS.toArray 5 (0,0)⟩] [] _ _ rfl (bI rfl) rfl ?_;refine⟨_,_,.perm (M1:=gu.M b ⟨true,⟨some dM,x.os.n+s.size,c',aS⟩,x.bJ++s.data.toList⟩) ?_ .refl,rfl,rfl,_,?_,rfl,rfl⟩
   ·exact eI (l₁:=[_]) (l₂:=[_])
   ·refine⟨⟨?_,λh=>by simp at h,?_⟩,λg _ h=>?_⟩
    ·simp[zP,aC]
    ·intro ba ld;refine⟨aa,ab,aj,?_⟩;rw[aG];simp[zP,lF]
    ·have bx:=congrArg List.length (List.append_eq_nil_iff.1 h).2;exact au (by simpa using bx)
def yc(b:Nat){x:gu}(ad:x.ok)(ay:x.bJ.length<=70368744177664):Spec Tryz.prog 149 [ptr b] I (x.M b)
  λr I' M'=>r=.string ⟨x.bJ.toArray⟩/\I'=I/\M'=[]:=by
 refine cg [] a7 Tryz.func149 rfl rfl rfl ?_;intro B az;have aC:=ad.n;obtain⟨tQ,⟨a,n,c,aS⟩,bJ⟩:=x;simp only at aC ay;subst aC;refine c4.draw a7 rfl rfl rfl ?_;cases a with
 |none=>obtain⟨aa,ab⟩:=ad.os.nil rfl;simp only at aa ab;have pX:bJ=[]:=iq aa;subst pX;subst ab;refine aR.mk [.slice none 0 0] (c5 (cs:=[.pointer (bif tQ then some ⟨b,0,none⟩else none),.slice none 0 0]) (k:=1) (n:=1) (T:=207) (.head _) (by simp)) ?_;refine aR.mk [.slice none 0 0] (c5 (cs:=[.pointer (bif tQ then some ⟨b,0,none⟩else none),.slice none 0 0]) (k:=1) (n:=1) (T:=207) (.head _) (by simp)) ?_;refine bB.WH rfl (by simp) rfl rfl ?_;exact⟨_,_,.sub (fk _) .refl,rfl,rfl,rfl⟩
 |some g=>
  obtain⟨aa,ab,aj,aG⟩:=ad.os.cap g rfl;have bs:=ad.ne g rfl;simp only at aa ab aj aG bs;have m6:bJ.length≠0:=λh=>bs (iq h);refine aR.mk [.slice (some ⟨g,0,none⟩) bJ.length c] (c5 (cs:=[.pointer (bif tQ then some ⟨b,0,none⟩else none),.slice (some ⟨g,0,none⟩) bJ.length c]) (k:=1) (n:=1) (T:=207) (.head _) (by simp)) ?_;refine DW.mk (by omega) ?_;refine aR.mk [.slice (some ⟨g,0,none⟩) bJ.length c] (c5 (cs:=[.pointer (bif tQ then some ⟨b,0,none⟩else none),.slice (some ⟨g,0,none⟩) bJ.length c]) (k:=1) (n:=1) (T:=207) (.head _) (by simp)) ?_;refine bB.PH a7 rfl (by simp) (e:=5) rfl rfl rfl rfl (l:=bJ) (g:=g) (cs:=aS.toArray) rfl rfl bs (by omega) (Mr:=[gu.ar b ⟨tQ,⟨some g,bJ.length,c,aS⟩,bJ⟩]) (eI (l₁:=[_]) (l₂:=[_])) ?_ ?_;·rw[fa]at aG;exact aG
  ·exact⟨_,_,.sub (fk _) .refl,rfl,rfl,rfl⟩
def B'(c:UInt8)(left:ByteArray):Bool:=decide ((32:Int)<=c.toNat)&&(decide ((c.toNat:Int)<=126)&&(!decide ((c.toNat:Int)=92)&&decide (Lib.indexByte left.data.toList c<0)))
def aik(c:UInt8)(left:ByteArray):Spec Tryz.prog 298 [.int .u8 c.toNat,.string left] I [] λr I' M'=>r=.bool (B' c left)/\I'=I/\M'=[]:=by
 refine cg [] a7 Tryz.func298 rfl rfl rfl ?_;intro B az;refine cj.mk (λaa=>?_) (λaa=>?_)
 ·refine cj.mk (λab=>?_) (λab=>?_)
  ·refine cj.mk (λaj=>?_) (λaj=>?_)
   ·refine bd.mk [] [] _ (.refl _) (Xf left c) ?_;rintro v I' M' -⟨rfl,rfl,rfl⟩;refine⟨_,_,.refl,?_,rfl,rfl⟩;simp only[B',aa,ab,aj,om]
   ·refine⟨_,_,.refl,?_,rfl,rfl⟩;simp only[B',aa,ab,aj,om,tE,yb]
  ·refine⟨_,_,.refl,?_,rfl,rfl⟩;simp only[B',aa,ab,om,tE,yb]
 ·refine⟨_,_,.refl,?_,rfl,rfl⟩;simp only[B',aa,om,tE,yb]
def Et:ByteArray:=⟨#[48,49,50,51,52,53,54,55,56,57,97,98,99,100,101,102]⟩
def zQ(n:Nat):UInt8:=Et.data.toList.getD n 0
def o9(c:UInt8)(left:ByteArray):List UInt8:=
 bif B' c left then [c]else
 bif decide ((c.toNat:Int)=10)then [92,110]else
 bif decide ((c.toNat:Int)=13)then [92,114]else
 bif decide ((c.toNat:Int)=9)then [92,116]else
 bif decide ((c.toNat:Int)=92)||decide ((0:Int)<=Lib.indexByte left.data.toList c)then [92,c]else [92,120,zQ (c.toNat/16),zQ (c.toNat%16)]
def Hs(c:UInt8)(left:ByteArray):(o9 c left).length<=4:=by
 unfold o9;cases B' c left<;>cases decide ((c.toNat:Int)=10)<;>cases decide ((c.toNat:Int)=13)<;>cases decide ((c.toNat:Int)=9)<;>cases(decide ((c.toNat:Int)=92)||decide ((0:Int)<=Lib.indexByte left.data.toList c))<;>simp
def ail:∀ n:Nat,n<256->IntKind.u8.wrap ((BitVec.ofInt 8 (n:Int)) &&& (BitVec.ofInt 8 15)).toNat=((n%16:Nat):Int):=by decide +kernel
def Xh(ai:j<Et.size):Et[j]=zQ j:=by have:j<Et.data.toList.length:=ai;simp only[zQ,bt,db this,j'];rfl
def Lh(b:Nat){x:gu}(ad:x.ok)(c:UInt8)(left:ByteArray)(ay:x.bJ.length<=70368744177600):Spec Tryz.prog 279 [ptr b,.int .u8 c.toNat,.string left] I (x.M b)
  λr I' M'=>I'=I/\∃ y:gu,y.ok/\y.bJ=x.bJ++o9 c left/\M'=y.M b:=by
 refine cg [] a7 Tryz.func279 rfl rfl rfl ?_;intro B az;refine bd.mk [] (x.M b) _ (.refl _) (aik c left) ?_;rintro v I' M' -⟨rfl,rfl,rfl⟩;refine a3.mk (λaa=>?_) (λaa=>?_)
 ·refine bd.mk (x.M b) [] _ (by simp) (pW b ad c (by omega)) ?_;rintro v I' M' -⟨rfl,rfl,y,aH,g4,rfl⟩;refine⟨_,_,.refl,rfl,y,aH,?_,by simp⟩;rw[g4,o9,aa];rfl
 ·refine a3.mk (λab=>?_) (λab=>?_)
  ·refine bd.mk (x.M b) [] _ (by simp) (u5 b ad _ (by show _+2<=_;omega)) ?_;rintro v I' M' -⟨rfl,rfl,y,aH,g4,rfl⟩;refine⟨_,_,.refl,rfl,y,aH,?_,by simp⟩;rw[g4,o9,aa,ab];rfl
  ·refine a3.mk (λaj=>?_) (λaj=>?_)
   ·refine bd.mk (x.M b) [] _ (by simp) (u5 b ad _ (by show _+2<=_;omega)) ?_;rintro v I' M' -⟨rfl,rfl,y,aH,g4,rfl⟩;refine⟨_,_,.refl,rfl,y,aH,?_,by simp⟩;rw[g4,o9,aa,ab,aj];rfl
   ·refine a3.mk (λaG=>?_) (λaG=>?_)
    ·refine bd.mk (x.M b) [] _ (by simp) (u5 b ad _ (by show _+2<=_;omega)) ?_;rintro v I' M' -⟨rfl,rfl,y,aH,g4,rfl⟩;refine⟨_,_,.refl,rfl,y,aH,?_,by simp⟩;rw[g4,o9,aa,ab,aj,aG];rfl
    ·have two:∀ (I1:aM),(decide ((c.toNat:Int)=92)||decide ((0:Int)<=Lib.indexByte left.data.toList c))=true->o9 c left=[92,c]:=λ_ h=>by rw[o9,aa,ab,aj,aG,h];rfl
     have other:(decide ((c.toNat:Int)=92)||decide ((0:Int)<=Lib.indexByte left.data.toList c))=false->o9 c left=[92,120,zQ (c.toNat/16),zQ (c.toNat%16)]:=λh=>by rw[o9,aa,ab,aj,aG,h];rfl
     have an:=c.toNat_lt;refine cj.mk (λbx=>?_) (λbx=>?_)
     ·refine bd.mk [] (x.M b) _ (.refl _) (Xf left c) ?_;rintro v I' M' -⟨rfl,rfl,rfl⟩;refine a3.mk (λbZ=>?_) (λbZ=>?_)
      ·refine bd.mk (x.M b) [] _ (by simp) (pW b ad 92 (by omega)) ?_;rintro v I' M' -⟨rfl,rfl,y,aH,g4,rfl⟩;refine bd.mk (y.M b) [] _ (by simp) (pW b aH c (by rw[g4];simp;omega)) ?_;rintro v I' M' -⟨rfl,rfl,z,bb,tR,rfl⟩;refine⟨_,_,.refl,rfl,z,bb,?_,by simp⟩;rw[tR,g4,two I' (by rw[bx];exact bZ)];simp
      ·refine bd.mk (x.M b) [] _ (by simp) (u5 b ad _ (by show _+2<=_;omega)) ?_;rintro v I' M' -⟨rfl,rfl,y,aH,g4,rfl⟩;have Li:y.bJ.length=x.bJ.length+2:=by rw[g4];simp
       refine xL.mk 4 rfl ?_;refine Bz.mk (s:=Et) (c.toNat/16) ?_ (by show _<16;omega) ?_
       ·show(c.toNat:Int).fdiv (2^(min 4 (IntKind.u8.bits)))=_;have aim:((2:Int)^(min 4 IntKind.u8.bits))=16:=by decide
        rw[aim,K6 _ (by omega)];omega
       rw[Xh];refine bd.mk (y.M b) [] _ (by simp) (pW b aH (zQ (c.toNat/16)) (by omega)) ?_;rintro v I' M' -⟨rfl,rfl,z,bb,tR,rfl⟩;have yd:z.bJ.length=x.bJ.length+3:=by rw[tR];simp;omega
       refine Bz.mk (s:=Et) (c.toNat%16) (ail c.toNat an) (by show _<16;omega) ?_;rw[Xh];refine bd.mk (z.M b) [] _ (by simp) (pW b bb (zQ (c.toNat%16)) (by omega)) ?_;rintro v I' M' -⟨rfl,rfl,u,hu,ye,rfl⟩;refine⟨_,_,.refl,rfl,u,hu,?_,by simp⟩;rw[ye,tR,g4,other (by rw[bx];exact bZ)];simp
     ·refine bd.mk (x.M b) [] _ (by simp) (pW b ad 92 (by omega)) ?_;rintro v I' M' -⟨rfl,rfl,y,aH,g4,rfl⟩;refine bd.mk (y.M b) [] _ (by simp) (pW b aH c (by rw[g4];simp;omega)) ?_;rintro v I' M' -⟨rfl,rfl,z,bb,tR,rfl⟩;refine⟨_,_,.refl,rfl,z,bb,?_,by simp⟩;rw[tR,g4,two I' (by rw[bx];rfl)];simp
def nZ(n:Nat):List UInt8:=bif Nat.blt n 10 then [UInt8.ofNat (48+n)]else [UInt8.ofNat (48+n/10),UInt8.ofNat (48+n%10)]
def zR(n:Nat):ByteArray:=⟨(nZ n).toArray⟩
def Xi:ByteArray:=⟨((List.range 10).map (λn=>UInt8.ofNat (48+n))++(List.range 26).map (λn=>UInt8.ofNat (97+n))).toArray⟩
def Xj:ByteArray:=⟨((List.range 100).flatMap λn=>[UInt8.ofNat (48+n/10),UInt8.ofNat (48+n%10)]).toArray⟩
def ain:∀ n:Fin 10,(Xi.extract n.val (n.val+1)).data.toList=nZ n.val:=by decide +kernel
def aio:∀ n:Fin 100,10<=n.val->(Xj.extract (n.val*2) (n.val*2+2)).data.toList=nZ n.val:=by decide +kernel
def Ca{a b:ByteArray}(h:a.data.toList=b.data.toList):a=b:=wa (gY h)
def Ht(n:Nat):(nZ n).length<=2:=by
 unfold nZ;cases Nat.blt n 10<;>simp
def aip(n:Nat)(aC:n<100):Spec Tryz.prog 336 [.int .i64 n] I [] λr I' M'=>r=.string (zR n)/\I'=I/\M'=[]:=by
 refine cg [] a7 Tryz.func336 rfl rfl rfl ?_;intro B az;refine a3.mk (λh=>?_) (λh=>?_)
 ·have a1:n<10:=by simp at h;omega
  refine bg.mk ((n+1:Nat):Int) (by rw[wrap_i64 ⟨by omega,by omega⟩];omega) ?_;refine ms.mk n (n+1) rfl rfl (by omega) (by show _<=36;omega) ?_;refine⟨_,_,.refl,?_,rfl,rfl⟩;have:Xi.extract n (n+1)=zR n:=Ca (ain ⟨n,a1⟩);rw[<-this];rfl
 ·have cJ:10<=n:=by simp at h;omega
  refine bg.mk ((n*2:Nat):Int) (by rw[wrap_i64 ⟨by omega,by omega⟩];omega) ?_;refine bg.mk ((n*2:Nat):Int) (by rw[wrap_i64 ⟨by omega,by omega⟩];omega) ?_;refine bg.mk ((n*2+2:Nat):Int) (by rw[wrap_i64 ⟨by omega,by omega⟩];omega) ?_;refine ms.mk (n*2) (n*2+2) rfl rfl (by omega) (by show _<=200;omega) ?_;refine⟨_,_,.refl,?_,rfl,rfl⟩;have:Xj.extract (n*2) (n*2+2)=zR n:=Ca (aio ⟨n,aC⟩ cJ);rw[<-this];rfl
def aiq(n:Nat)(aC:n<100):Spec Tryz.prog 329 [.int .i64 n,.int .i64 10] I [] λr I' M'=>r=.string (zR n)/\I'=I/\M'=[]:=by refine cg [] a7 Tryz.func329 rfl rfl rfl ?_;intro B az;refine a3.mk (λh=>?_) (λh=>by cases h);refine cj.mk (λh=>?_) (λh=>by simp at h;try omega);refine a3.mk (λh=>?_) (λh=>by simp at h;try omega);refine bd.mk [] [] _ (.refl _) (aip n aC) ?_;rintro v I' M' -⟨rfl,rfl,rfl⟩;exact⟨_,_,.refl,rfl,rfl,rfl⟩
def air(n:Nat)(aC:n<100):Spec Tryz.prog 316 [.int .i64 n] I [] λr I' M'=>r=.string (zR n)/\I'=I/\M'=[]:=by refine cg [] a7 Tryz.func316 rfl rfl rfl ?_;intro B az;refine bd.mk [] [] _ (.refl _) (aiq n aC) ?_;rintro v I' M' -⟨rfl,rfl,rfl⟩;exact⟨_,_,.refl,rfl,rfl,rfl⟩
def ais(n:Nat)(aC:n<100):Spec Tryz.prog 301 [.int .i64 n] I [] λr I' M'=>r=.string (zR n)/\I'=I/\M'=[]:=by refine cg [] a7 Tryz.func301 rfl rfl rfl ?_;intro B az;refine bd.mk [] [] _ (.refl _) (air n aC) ?_;rintro v I' M' -⟨rfl,rfl,rfl⟩;exact⟨_,_,.refl,rfl,rfl,rfl⟩
def Lj(n:Nat)(aC:n<100):Spec Tryz.prog 282 [.int .i64 n] I [] λr I' M'=>r=.string (zR n)/\I'=I/\M'=[]:=by refine cg [] a7 Tryz.func282 rfl rfl rfl ?_;intro B az;refine bd.mk [] [] _ (.refl _) (ais n aC) ?_;rintro v I' M' -⟨rfl,rfl,rfl⟩;exact⟨_,_,.refl,rfl,rfl,rfl⟩
def gv(node nn:Int):Bool:=
 bif decide (node=5)then decide (nn=5)else
 bif decide (node=4)||(decide (node=7)||decide (node=8))then decide (nn=4)||decide (nn=5)else
 bif decide (node=6)then decide (nn=4)||(decide (nn=5)||(decide (nn=6)||(decide (nn=7)||decide (nn=8))))else false
def P3(a b:Int):Spec Tryz.prog 232 [.int .u8 a,.int .u8 b] I [] λr I' M'=>r=.bool (gv a b)/\I'=I/\M'=[]:=by
 refine cg [] a7 Tryz.func232 rfl rfl rfl ?_;intro B az;refine a3.mk (λaa=>?_) (λaa=>?_)
 ·refine⟨_,_,.refl,?_,rfl,rfl⟩;simp only[gv,aa];rfl
 ·have two:∀ (I1:aM) (h:(decide (a=4)||(decide (a=7)||decide (a=8)))=true),gv a b=(decide (b=4)||decide (b=5)):=λ_ h=>by simp only[gv,aa,h];rfl
  have P4:(decide (a=4)||(decide (a=7)||decide (a=8)))=true->cj (decide (b=4)) false (wq [] I [] λI' M'=>Value.bool (decide (b=5))=.bool (gv a b)/\I'=I/\M'=[]) (wq [] I [] λI' M'=>Value.bool true=.bool (gv a b)/\I'=I/\M'=[]):=λh=>by
   refine cj.mk (λaG=>?_) (λaG=>?_);·refine⟨_,_,.refl,?_,rfl,rfl⟩;rw[two I h,aG];rfl
   ·refine⟨_,_,.refl,?_,rfl,rfl⟩;rw[two I h,aG];rfl
  refine a3.mk (λab=>?_) (λab=>?_);·refine a3.mk (λ_=>?_) (λh=>by rw[ab]at h;cases h);exact P4 (by rw[ab];rfl)
  ·refine a3.mk (λaj=>?_) (λaj=>?_)
   ·refine a3.mk (λ_=>?_) (λh=>by rw[aj]at h;cases h);exact P4 (by rw[aj];simp)
   ·refine a3.mk (λaG=>?_) (λaG=>?_)
    ·exact P4 (by rw[aG];simp)
    ·have hw:gv a b=(bif decide (a=6)then decide (b=4)||(decide (b=5)||(decide (b=6)||(decide (b=7)||decide (b=8))))else false):=by simp only[gv,aa,ab,aj,aG];rfl
     refine a3.mk (λbx=>?_) (λbx=>?_)
     ·rw[bx]at hw;simp only[cb]at hw;refine cj.mk (λen=>?_) (λen=>?_)
      ·refine cj.mk (λcE=>?_) (λcE=>?_)
       ·refine cj.mk (λgD=>?_) (λgD=>?_)
        ·refine cj.mk (λmH=>?_) (λmH=>?_)
         ·refine⟨_,_,.refl,?_,rfl,rfl⟩;rw[hw,en,cE,gD,mH];rfl
         ·refine⟨_,_,.refl,?_,rfl,rfl⟩;rw[hw,en,cE,gD,mH];rfl
        ·refine⟨_,_,.refl,?_,rfl,rfl⟩;rw[hw,en,cE,gD];rfl
       ·refine⟨_,_,.refl,?_,rfl,rfl⟩;rw[hw,en,cE];rfl
      ·refine⟨_,_,.refl,?_,rfl,rfl⟩;rw[hw,en];rfl
     ·refine⟨_,_,.refl,?_,rfl,rfl⟩;rw[hw,bx];rfl
def wrap_u64(x:Int):hc (IntKind.u64.wrap x):=by unfold IntKind.wrap hc;simp only[IntKind.bits,IntKind.signed];simp;omega
def wrap_u8(x:Int):0<=IntKind.u8.wrap x/\IntKind.u8.wrap x<256:=by unfold IntKind.wrap;simp only[IntKind.bits,IntKind.signed];simp;omega
def Xk{x:Int}(h:hc x):IntKind.u64.wrap x=x:=by obtain⟨aa,ab⟩:=h;unfold IntKind.wrap;simp only[IntKind.bits,IntKind.signed];simp;omega
def sQ(I:aM)(al:List Int):Prop:=al.length=64/\(∀ x∈al,0<=x/\x<256)/\∃ T ao,I 3=some (.cells (al.map (Value.int .u8)).toArray T ao)
def sQ.rd(h:sQ I al)(M:List aE)(ai:j<64):cO I M (Addr.add ⟨3,0,none⟩ (j*1)) 1 [.int .u8 (al.getD j 0)]:=by
 obtain⟨ay,_,T,ao,h⟩:=h;rw[eU _ rfl];refine⟨rfl,_,T,ao,.inl h,?_,rfl⟩;have aa:j<(al.map (Value.int .u8)).length:=by simp[ay,ai]
 have ab:j<al.length:=by omega
 simp only[cX,fa];rw[e1 aa,qB,rG];simp[bt,ab]
def sQ.at(h:sQ I al)(j:Nat):0<=al.getD j 0/\al.getD j 0<256:=by
 rw[bt];by_cases ai:j<al.length
 ·rw[db ai];exact h.2.1 _ (bi ai)
 ·simp[ai]
def Hu(x y:Int):Int:=IntKind.u64.wrap (BitVec.ofInt 64 x &&& BitVec.ofInt 64 y).toNat
def tS(x:Int):Int:=IntKind.u64.wrap (Hu x (IntKind.u64.wrap (0-x))*285870213051353865)
def u6(al:List Int)(x:Int):Int:=bif decide (x=0)then 64 else al.getD ((tS x).toNat/2^58) 0
def ait(h:sQ I al)(x:Int):0<=u6 al x/\u6 al x<256:=by
 unfold u6;cases decide (x=0)
 ·exact h.at _
 ·simp
def aiu(ag:sQ I al)(x:Int):Spec Tryz.prog 315 [.int .u64 x] I [] λr I' M'=>r=.int .i64 (u6 al x)/\I'=I/\M'=[]:=by
 refine cg [] a7 Tryz.func315 rfl rfl rfl ?_;intro B az;refine a3.mk (λh=>?_) (λh=>?_)
 ·refine⟨_,_,.refl,?_,rfl,rfl⟩;simp only[u6,h];rfl
 ·have a6:=wrap_u64 (Hu x (IntKind.u64.wrap (0-x))*285870213051353865);refine bg.mk _ rfl ?_;refine bg.mk (tS x) rfl ?_;refine xL.mk 58 rfl ?_;have aJ:((2:Int)^(min 58 IntKind.u64.bits))=2^58:=by decide
  rw[aJ];obtain⟨tT,yf⟩:=a6;have a4:(tS x).fdiv (2^58)=(((tS x).toNat/2^58:Nat):Int):=by rw[K6 _ (by decide)];have:tS x=((tS x).toNat:Int):=(zL tT).symm;omega
  rw[a4];have ai:(tS x).toNat/2^58<64:=by have:tS x<18446744073709551616:=yf;omega
  refine eH.mk ((tS x).toNat/2^58) rfl ai ?_;refine aR.mk [.int .u8 (al.getD ((tS x).toNat/2^58) 0)] (ag.rd _ ai) ?_;have ak:=ag.at ((tS x).toNat/2^58);refine bg.mk (al.getD ((tS x).toNat/2^58) 0) (wrap_i64 ⟨by omega,by omega⟩) ?_;refine⟨_,_,.refl,?_,rfl,rfl⟩;simp only[u6,h];rfl
def aiv(a b c d:Int):Nat->List Value
 |0=>[.int .u64 (a),.int .u64 (b),.int .u64 (c),.int .u64 (d)]| 1=>[.int .u64 (iv a),.int .u64 (b),.int .u64 (c),.int .u64 (d)]| 2=>[.int .u64 (iv a),.int .u64 (iv b),.int .u64 (c),.int .u64 (d)]| 3=>[.int .u64 (iv a),.int .u64 (iv b),.int .u64 (iv c),.int .u64 (d)]| _=>[.int .u64 (iv a),.int .u64 (iv b),.int .u64 (iv c),.int .u64 (iv d)]
def aiw(a b c d:Int):Spec Tryz.prog 299 [.agg #[.int .u64 a,.int .u64 b,.int .u64 c,.int .u64 d]] I [] λr I' M'=>r=.agg #[.int .u64 (iv a),.int .u64 (iv b),.int .u64 (iv c),.int .u64 (iv d)]/\I'=I/\M'=[]:=by
 refine cg [] a7 Tryz.func299 rfl rfl rfl ?_;intro B az;refine dg.inv (ι:=Nat) (λi=>{ bj:=[(1,.ref 1 0),(2,.ref 2 0),(5,.val (.agg #[.int .u64 a,.int .u64 b,.int .u64 c,.int .u64 d])),(6,.val (.int .i64 i))],cl:=[(1,aiv a b c d i),(2,[.int .u64 0,.int .u64 0,.int .u64 0,.int .u64 0])],cI:=I }) (λi=>i<=4) (λi=>4-i) ?_ ?_
 ·exact⟨0,by simp,.refl,ej,.cons rfl (.cons rfl .nil)⟩
 ·intro i hi
  match i,hi with
  |0,_=>refine a3.mk (λ_=>?_) (λh=>by simp at h);refine eH.mk 0 rfl (by decide) ?_;refine bB.Hr rfl (by simp) rfl ?_;refine eH.mk 0 rfl (by decide) ?_;refine bg.mk 1 (by decide) ?_;exact⟨1,⟨by simp,by simp⟩,.refl,ej,.cons rfl (.cons rfl .nil)⟩| 1,_=>refine a3.mk (λ_=>?_) (λh=>by simp at h);refine eH.mk 1 rfl (by decide) ?_;refine bB.Hr rfl (by simp) rfl ?_;refine eH.mk 1 rfl (by decide) ?_;refine bg.mk 2 (by decide) ?_;exact⟨2,⟨by simp,by simp⟩,.refl,ej,.cons rfl (.cons rfl .nil)⟩| 2,_=>refine a3.mk (λ_=>?_) (λh=>by simp at h);refine eH.mk 2 rfl (by decide) ?_;refine bB.Hr rfl (by simp) rfl ?_;refine eH.mk 2 rfl (by decide) ?_;refine bg.mk 3 (by decide) ?_;exact⟨3,⟨by simp,by simp⟩,.refl,ej,.cons rfl (.cons rfl .nil)⟩| 3,_=>refine a3.mk (λ_=>?_) (λh=>by simp at h);refine eH.mk 3 rfl (by decide) ?_;refine bB.Hr rfl (by simp) rfl ?_;refine eH.mk 3 rfl (by decide) ?_;refine bg.mk 4 (by decide) ?_;exact⟨4,⟨by simp,by simp⟩,.refl,ej,.cons rfl (.cons rfl .nil)⟩| 4,_=>refine a3.mk (λh=>by simp at h) (λ_=>?_);exact⟨_,_,.refl,rfl,rfl,rfl⟩
def aix:Spec Tryz.prog 280 [] I [] λr I' M'=>r=.agg #[.int .u64 (iv 0),.int .u64 (iv 0),.int .u64 (iv 0),.int .u64 (iv 0)]/\I'=I/\M'=[]:=by refine cg [] a7 Tryz.func280 rfl rfl rfl ?_;intro B az;refine bd.mk [] [] _ (.refl _) (aiw 0 0 0 0) ?_;rintro v I' M' -⟨rfl,rfl,rfl⟩;exact⟨_,_,.refl,rfl,rfl,rfl⟩
def mI(I:aM)(b:Nat)(o:Obj):ins I b o b=some o:=by simp[ins]
def hW{o:Obj}(ag:I b=none):∀ c p,I c=some p->ins I b o c=some p:=by
 intro c p h;unfold ins;cases e:Nat.beq c b with
 |false=>exact h| true=>have:=dR e;subst this;rw[ag]at h;cases h
def aiy{x y:Int}(ad:hc x)(aH:hc y):Hu x y=((x.toNat &&& y.toNat:Nat):Int):=by
 obtain⟨x,rfl⟩:=ea ad.1;obtain⟨y,rfl⟩:=ea aH.1;have aa:x<18446744073709551616:=by have:=ad.2;omega
 have ab:y<18446744073709551616:=by have:=aH.2;omega
 have e:∀ z:Nat,z<18446744073709551616->(BitVec.ofInt 64 (z:Int)).toNat=z:=λz bb=>by rw[BitVec.toNat_ofInt];omega
 unfold Hu;rw[La,e x aa,e y ab,Xk]
 ·simp
 ·have:=Nat.and_le_left (n:=x) (m:=y);exact⟨by omega,by omega⟩
def zS(x:Int):Int:=Hu x (IntKind.u64.wrap (x-1))
def Cb(n:Nat):Nat:=((List.range 64).filter n.testBit).length
def aiz(n:Nat):Cb n<=64:=by have:=BQ n.testBit (List.range 64);simpa[Cb]using this
def aiA{x:Int}(ad:hc x)(az:x≠0):hc (zS x)/\Cb (zS x).toNat<Cb x.toNat:=by
 obtain⟨n,rfl⟩:=ea ad.1;have aa:n<18446744073709551616:=by have:=ad.2;omega
 have m6:0<n:=by omega
 have au:hc ((n:Int)-1):=⟨by omega,by omega⟩;have e:zS (n:Int)=((n &&& (n-1):Nat):Int):=by unfold zS;rw[Xk au,aiy ad au];congr 2;omega
 have bq:n &&& (n-1)<=n-1:=Nat.and_le_right;refine⟨by rw[e];exact⟨by omega,by omega⟩,?_⟩;rw[e];simp only[gz];unfold Cb;have jY:List.Sublist ((List.range 64).filter (n &&& (n-1)).testBit) ((List.range 64).filter n.testBit):=by
  have:(List.range 64).filter (n &&& (n-1)).testBit=((List.range 64).filter n.testBit).filter (n-1).testBit:=by rw[List.filter_filter];congr 1;funext i;rw[Nat.testBit_and,Bool.and_comm]
  rw[this];exact zM
 rcases Nat.lt_or_eq_of_le jY.length_le with h | h
 ·exact h
 ·exfalso;have sR:=jY.eq_of_length h;have:n &&& (n-1)=n:=by
   apply Nat.eq_of_testBit_eq;intro i;by_cases hi:i<64
   ·have hm:i∈(List.range 64).filter (n &&& (n-1)).testBit ↔ i∈(List.range 64).filter n.testBit:=by rw[sR]
    simp only[iE,g8,hi,true_and]at hm;cases aa:(n &&& (n-1)).testBit i<;>cases ab:n.testBit i<;>simp_all
   ·have ab:2^64<=2^i:=Nat.pow_le_pow_right (by omega) (by omega);rw[Nat.testBit_lt_two_pow (by omega),Nat.testBit_lt_two_pow (by omega)]
  omega
def byteOf(al:List Int)(i:Nat)(w:Int):UInt8:=UInt8.ofNat (IntKind.u8.wrap ((i:Int)*64+u6 al w)).toNat
def aiB(al:List Int)(i:Nat)(w:Int):((byteOf al i w).toNat:Int)=IntKind.u8.wrap ((i:Int)*64+u6 al w):=by have:=wrap_u8 ((i:Int)*64+u6 al w);unfold byteOf;rw[UInt8.toNat_ofNat'];omega
def u7(al:List Int)(i:Nat):Nat->Int->List UInt8
 |0,_=>[]| f+1,w=>bif decide (w=0)then []else byteOf al i w::u7 al i f (zS w)
def jr(al:List Int):Nat->List Int->List UInt8
 |_,[]=>[]| i,w::ws=>u7 al i 64 w++jr al (i+1) ws
def Xl(al:List Int)(i:Nat):∀ f w,(u7 al i f w).length<=f
 |0,_=>by simp[u7]
 |f+1,w=>by
  unfold u7;have:=Xl al i f (zS w);cases decide (w=0)<;>simp
  exact this
def P5(al:List Int):∀ ws i,(jr al i ws).length<=64*ws.length
 |[],_=>by simp[jr]
 |w::ws,i=>by have aa:=Xl al i 64 w;have ab:=P5 al ws (i+1);simp only[jr,b3,c2];omega
def tU(l:List UInt8):List (List Value):=l.map λc=>[.int .u8 c.toNat]
def Eu(a b c d:Int):List Value:=[.int .u64 a,.int .u64 b,.int .u64 c,.int .u64 d]
def aiC(a b c d:Int):Spec Tryz.prog 300 [.agg #[.int .u64 a,.int .u64 b,.int .u64 c,.int .u64 d]] I [] λr I' M'=>∃ g,r=.func (.func 314) #[] #[ptr g]/\I' g=some (.cells (Eu a b c d).toArray 64 (0,0))/\(∀ b o,I b=some o->I' b=some o)/\M'=[]:=by refine cg [1] a7 Tryz.func300 rfl rfl rfl ?_;intro B az;refine b'.mk λg av B9=>?_;exact⟨_,_,.k3 rfl (by simp) .refl,g,rfl,mI ..,hW av,rfl⟩
def aiD(Cc:sQ I al){a b c d:Int}(sS:∀ x∈[a,b,c,d],hc x)(av:I g=some (.cells (Eu a b c d).toArray 64 (0,0))) :
  Iter Tryz.prog 314 [ptr g] I (tU (jr al 0 [a,b,c,d])):=by
 intro l R k8 qQ dt M0 lI iH;refine zr [] a7 Tryz.func314 rfl rfl rfl ?_;intro B az;have bm:∀ (I1:aM) (M:List aE),(∀ b o,I b=some o->I1 b=some o)->cO I1 M ⟨g,0,none⟩ 4 (Eu a b c d):=λI1 M h=>⟨rfl,_,_,_,.inl (h _ _ av),rfl,rfl⟩;refine aR.mk _ (bm _ _ lI) ?_;refine dg.inv (ι:=Nat×Nat×aM×List aE) (λx=>{ bj:=[(0,.val (.func (.yield l) #[] #[])),(5,.val (.agg (Eu a b c d).toArray)),(6,.val (.int .i64 x.1))],cI:=x.2.2.1,de:=x.2.2.2 }) (λx=>x.1<=4/\(∀ b o,I b=some o->x.2.2.1 b=some o)/\R x.2.1 x.2.2.1 x.2.2.2/\x.2.1<=(jr al 0 [a,b,c,d]).length/\(jr al 0 [a,b,c,d]).drop x.2.1=jr al x.1 ([a,b,c,d].drop x.1)) (λx=>4-x.1) ?_ ?_
 ·exact⟨(0,0,dt,M0),⟨by simp,lI,iH,by simp,rfl⟩,.refl,ht,.nil⟩
 ·rintro⟨i,k,I1,M1⟩⟨hi,cu,g5,cv,hd⟩;simp only at hi cu g5 cv hd;refine a3.mk (λh=>?_) (λh=>?_)
  ·have a1:i<4:=by simp at h;omega
   have cq:i < [a,b,c,d].length:=a1;refine eH.mk i rfl a1 ?_;have tV:pack false ((((Eu a b c d).toArray).toList.drop (i*1)).take 1)=.int .u64 [a,b,c,d][i]:=by
    match i,a1 with
    |0,_=>rfl| 1,_=>rfl| 2,_=>rfl| 3,_=>rfl
   have jn:[a,b,c,d].drop i=[a,b,c,d][i]::[a,b,c,d].drop (i+1):=e1 cq;refine dg.inv (ι:=Int×Nat×Nat×aM×List aE) (λx=>{ bj:=[(0,.val (.func (.yield l) #[] #[])),(3,.val (.int .i64 i)),(4,.val (.int .u64 x.1)),(5,.val (.agg (Eu a b c d).toArray)),(6,.val (.int .i64 i))],cI:=x.2.2.2.1,de:=x.2.2.2.2 }) (λx=>hc x.1/\Cb x.1.toNat<=x.2.1/\(∀ b o,I b=some o->x.2.2.2.1 b=some o)/\R x.2.2.1 x.2.2.2.1 x.2.2.2.2/\x.2.2.1<=(jr al 0 [a,b,c,d]).length/\(jr al 0 [a,b,c,d]).drop x.2.2.1=u7 al i x.2.1 x.1++jr al (i+1) ([a,b,c,d].drop (i+1))) (λx=>Cb x.1.toNat) ?_ ?_
   ·refine⟨([a,b,c,d][i],64,k,I1,M1),⟨sS _ (bi cq),aiz _,cu,g5,cv,?_⟩,.refl,.cons .refl (.cons .refl (.cons ?_ (uV))),.nil⟩
    ·simp only;rw[hd,jn];rfl
    ·simp only;rw[<-tV];exact .refl
   ·rintro⟨w,f,k,I1,M1⟩⟨hw,aA,cu,g5,cv,hd⟩;simp only at hw aA cu g5 cv hd;refine a3.mk (λh=>?_) (λh=>?_)
    ·have Lk:w≠0:=by simpa using h
     obtain⟨kK,iL⟩:=aiA hw Lk;obtain⟨f,rfl⟩:∃ u9,f=u9+1:=⟨f-1,by omega⟩;have ag:u7 al i (f+1) w=byteOf al i w::u7 al i f (zS w):=by simp[u7,Lk]
     rw[ag,mF]at hd;have ae:k<(jr al 0 [a,b,c,d]).length:=by apply Lb;intro bq;rw[ki bq]at hd;cases hd
     have hV:=e1 ae;rw[hd]at hV;obtain⟨tW,eS⟩:=List.cons.inj hV;have js:k<(tU (jr al 0 [a,b,c,d])).length:=by simpa[tU]using ae
     have ah:(tU (jr al 0 [a,b,c,d]))[k]=[.int .u8 (IntKind.u8.wrap ((i:Int)*64+u6 al w))]:=by simp only[tU,fr,<-tW,aiB]
     have oq:sQ I1 al:=by obtain⟨dJ,eO,T,ao,eJ⟩:=Cc;exact⟨dJ,eO,T,ao,cu _ _ eJ⟩
     have awo:=ait oq w;refine bg.mk ((i:Int)*64) (wrap_i64 ⟨by omega,by omega⟩) ?_;refine bd.mk [] M1 _ (.refl _) (aiu oq w) ?_;rintro v I' M' -⟨rfl,rfl,rfl⟩;refine bg.mk ((i:Int)*64+u6 al w) (wrap_i64 ⟨by omega,by omega⟩) ?_;refine bg.mk _ rfl ?_;refine bB.yield rfl (by simp) rfl rfl ?_;have aH:=qQ k js I' M1 cu g5;rw[ah]at aH;refine zD.mk M1 [] _ (by simp) aH ?_;rintro v dz dm et (⟨rfl,lG⟩ | ⟨rfl,ad⟩);·refine a3.mk (λh=>by simp at h) (λ_=>?_);refine bg.mk _ rfl ?_;exact⟨(zS w,f,k+1,dz,dm),⟨⟨kK,by simp only;omega,λb o h=>et b o (cu b o h),lG,ae,eS.symm⟩,by simp only;exact iL⟩,.perm (by simp) .refl,hv,.nil⟩
     ·refine a3.mk (λ_=>?_) (λh=>by simp at h);exact⟨_,_,.perm (by simp) .refl,.inr ad⟩
    ·have Lk:w=0:=by simpa using h
     have gq:IntKind.i64.wrap ((i:Int)+1)=((i+1:Nat):Int):=by rw[wrap_i64 ⟨by omega,by omega⟩];omega
     refine bg.mk _ gq ?_;have ag:u7 al i f w=[]:=by cases f<;>simp[u7,Lk]
     rw[ag,iF]at hd;exact⟨(i+1,k,I1,M1),⟨⟨by simp only;omega,cu,g5,cv,hd⟩,by simp only;omega⟩,.refl,ht,.nil⟩
  ·have kE:i=4:=by simp at h;omega
   subst kE;refine⟨_,_,.refl,.inl ?_⟩;have nV:(jr al 0 [a,b,c,d]).drop k=[]:=by rw[hd];rfl
   have yg:k=(tU (jr al 0 [a,b,c,d])).length:=by have:=Eo.1 nV;simp only[tU,bE];omega
   rw[<-yg];exact g5
def u'(l:List (UInt8×UInt8))(b:UInt8):List (UInt8×UInt8):=match l.getLast? with
 |some p=>bif decide ((p.2.toNat:Int)+1=b.toNat)then l.dropLast++[(p.1,b)]else l++[(b,b)]| none=>[(b,b)]
def pY(l:List UInt8):List (UInt8×UInt8):=l.foldl u' []
def kk(p:UInt8×UInt8):List Value:=[.int .u8 p.1.toNat,.int .u8 p.2.toNat]
def pZ(l:List (UInt8×UInt8)):List Value:=l.flatMap kk
def Ll(l:List (UInt8×UInt8)):(pZ l).length=l.length*2:=jm kk 2 (λ_=>rfl) l
def aiE(l:List (UInt8×UInt8))(b:UInt8):(u' l b).length<=l.length+1:=by
 unfold u';split
 ·rename_i p h;cases decide ((p.2.toNat:Int)+1=b.toNat)<;>simp
 ·simp
def Xm(l:List UInt8):(pY l).length<=l.length:=by
 have:∀ (l:List UInt8) (aZ:List (UInt8×UInt8)),(l.foldl u' aZ).length<=aZ.length+l.length:=by
  intro l
  induction l with
  |nil=>intro aZ;simp| cons b l aF=>intro aZ;have aa:=aF (u' aZ b);have ab:=aiE aZ b;simp only[jE,c2];omega
 simpa[pY]using this l []
def zT:((⟨b,0,none⟩:Addr).add i).add j=(⟨b,0,none⟩:Addr).add (i+j):=by rw[eU ⟨_,0,none⟩ rfl i,eU _ rfl j,eU _ rfl (i+j)];simp
def n1{M:List aE}(a':(⟨b,.cells cs.toArray T (0,0)⟩:aE)∈M)(h:cs[i+j]?=some v):cO I M (((⟨b,0,none⟩:Addr).add i).add j) 1 [v]:=by obtain⟨ay,rfl⟩:=ij.1 h;have:=c5 (I:=I) a' (k:=i+j) (n:=1) (by omega);rw[e1 ay,qB,rG]at this;rw[zT];exact this
def Xn(a9:List Value)(u v z:Value)(bk:List Value)(k:Nat)(ae:k=a9.length+1):ck (a9++([u,v]++bk)) k [z]=a9++([u,z]++bk):=by
 subst ae;unfold ck;have aJ:(a9++([u,v]++bk)).take (a9.length+1)=a9++[u]:=by rw[show a9++([u,v]++bk)=(a9++[u])++(v::bk)from by simp];exact qO (by simp)
 have a4:(a9++([u,v]++bk)).drop (a9.length+1+[z].length)=bk:=by rw[show a9++([u,v]++bk)=(a9++[u,v])++bk from by simp];exact B6 (by simp)
 rw[aJ,a4];simp
def P6{a2:List (UInt8×UInt8)}{x:UInt8}(bU:os.ok 2 (pZ a2)){aS:List Value}(aa:aS.length=c*2)(ab:os.n+1<=c)(aj:c<=maxLen)(aG:aS.take ((os.n+1)*2)=pZ a2++kk (x,x)) :
  aY.ok ⟨some g,os.n+1,c,aS⟩ 2 (pZ (a2++[(x,x)])):=by
 have yh:pZ (a2++[(x,x)])=pZ a2++kk (x,x):=by simp[pZ]
 have ay:=bU.len;refine⟨?_,(λh=>by cases h),λbR r0=>⟨aa,ab,aj,by rw[yh];exact aG⟩⟩;rw[yh,b3,ay];simp[kk];omega
def aiF(l:List UInt8)(x:UInt8):pY (l++[x])=u' (pY l) x:=by simp[pY]
def aiG(Cc:sQ I al){a b c d:Int}(sS:∀ x∈[a,b,c,d],hc x):Spec Tryz.prog 281 [.agg #[.int .u64 a,.int .u64 b,.int .u64 c,.int .u64 d]] I []
  λr I' M'=>(∀ b o,I b=some o->I' b=some o)/\∃ os:aY,r=os.val/\os.ok 2 (pZ (pY (jr al 0 [a,b,c,d])))/\M'=os.ar 344:=by
 refine cg [3] a7 Tryz.func281 rfl rfl rfl ?_;intro B az;refine b'.mk λg av B9=>?_;refine bd.mk [] [⟨g,.cells #[.slice none 0 0] 342 (0,0)⟩] _ (.refl _) (aiC a b c d) ?_;rintro v I1 M1 -⟨a8,rfl,p0,cu,rfl⟩;have aiH:sQ I1 al:=by obtain⟨dJ,eO,T,ao,eJ⟩:=Cc;exact⟨dJ,eO,T,ao,cu _ _ eJ⟩
 have cc:=P5 al [a,b,c,d] 0;refine c4.range a7 rfl rfl rfl .refl (aiD aiH sS p0) (λvs h=>?_) (λk I' M'=>(∀ b o,I1 b=some o->I' b=some o)/\∃ os:aY,os.ok 2 (pZ (pY ((jr al 0 [a,b,c,d]).take k)))/\M'=⟨g,.cells #[os.val] 342 (0,0)⟩::os.ar 344) (λ_ _ _=>False) ⟨λ_ _ h=>h,⟨none,0,0,[]⟩,⟨rfl,λ_=>⟨rfl,rfl⟩,λg h=>by cases h⟩,rfl⟩ ?_ ?_ (λ_ _ _ _ h=>h.elim)
 ·obtain⟨c,_,rfl⟩:=cA.1 h;rfl
 ·rintro k ae I' M' -⟨jt,os,bU,rfl⟩l B az iG;have P7:k<(jr al 0 [a,b,c,d]).length:=by simpa[tU]using ae
  generalize awp:jr al 0 [a,b,c,d]=L at *;generalize ad:L[k]=x;have ah:(tU L)[k]=[.int .u8 x.toNat]:=by simp[tU,ad]
  rw[ah];have ng:pY (L.take (k+1))=u' (pY (L.take k)) x:=by rw[gy P7,ad,aiF]
  rw[ng];have fC:(pY (L.take k)).length<=256:=by have aa:=Xm (L.take k);have ab:=B5 k L;simp only[c2,fs]at cc;omega
  generalize ei:pY (L.take k)=a2 at *;have hz:=x.toNat_lt;obtain⟨yi,n,e4,aS⟩:=os;have aC:a2.length=n:=by have:=bU.len;rw[Ll]at this;simp only at this;omega
  cases yi with
  |none=>
   obtain⟨aJ,a4⟩:=bU.nil rfl;simp only at aJ a4;subst aJ;subst a4;have pV:a2=[]:=iq aC;have iM:u' a2 x=a2++[(x,x)]:=by rw[pV];rfl
   refine aR.mk [.slice none 0 0] (c5 (cs:=[.slice none 0 0]) (k:=0) (n:=1) (T:=342) (.head _) (by simp)) ?_;refine bg.mk (-1) (by decide) ?_;refine cj.mk (λh=>by simp at h) (λ_=>?_);refine aR.mk [.slice none 0 0] (c5 (cs:=[.slice none 0 0]) (k:=0) (n:=1) (T:=342) (.head _) (by simp)) ?_;refine b'.mk λba ld Xo=>?_;refine bB.append a7 rfl (by simp) (e:=344) rfl rfl rfl (⟨none,0,0,aS⟩:aY) bU rfl (m:=1) rfl (ch:=kk (x,x)) (by decide) (c5 (cs:=kk (x,x)) (k:=0) (n:=2) (T:=344) (.head _) (by simp[kk])) rfl (Mr:=[⟨ba,.cells (kk (x,x)).toArray 344 (0,0)⟩,⟨g,.cells #[.slice none 0 0] 342 (0,0)⟩]) (eI (l₁:=[_,_])) (by simp only[maxLen];omega) (by show(_+1)*2<=_;simp only;omega) ?_;intro dM c' hJ dJ eO eJ iN;refine b8.mk [⟨dM,.cells hJ.toArray 344 (0,0)⟩,⟨ba,.cells (kk (x,x)).toArray 344 (0,0)⟩] [] _ _ rfl rfl (bI rfl) rfl ?_;refine⟨_,_,.perm (M1:=[⟨ba,.cells (kk (x,x)).toArray 344 (0,0)⟩]++(⟨g,.cells #[aY.val ⟨some dM,(⟨none,0,0,aS⟩:aY).n+1,c',hJ⟩] 342 (0,0)⟩::aY.ar ⟨some dM,(⟨none,0,0,aS⟩:aY).n+1,c',hJ⟩ 344)) (eI (l₁:=[_]) (l₂:=[_,_])) (.sub (mw _ _) .refl),jt,⟨some dM,(⟨none,0,0,aS⟩:aY).n+1,c',hJ⟩,?_,rfl⟩;rw[iM];exact P6 bU dJ eO eJ iN
  |some cK=>
   obtain⟨dK,nf,iY,eW⟩:=bU.cap cK rfl;simp only at dK nf iY eW;refine aR.mk [.slice (some ⟨cK,0,none⟩) n e4] (c5 (cs:=[.slice (some ⟨cK,0,none⟩) n e4]) (k:=0) (n:=1) (T:=342) (.head _) (by simp)) ?_;refine bg.mk ((n:Int)-1) (wrap_i64 ⟨by omega,by omega⟩) ?_;refine cj.mk (λaa=>?_) (λaa=>?_)
   ·have m6:1<=n:=by simp at aa;omega
    obtain⟨va,p,rfl⟩:∃ va p,a2=va++[p]:=by
     rcases wG a2 with h | ⟨r,p,h⟩;·subst h;simp at aC;omega
     ·exact⟨r,p,by simpa using h⟩
    have u2:va.length=n-1:=by simp at aC;omega
    have gV:(pZ va).length=(n-1)*2:=by rw[Ll,u2]
    obtain⟨bk,mJ⟩:∃ bk,aS=pZ va++([.int .u8 p.1.toNat,.int .u8 p.2.toNat]++bk):=by refine⟨aS.drop (n*2),?_⟩;have ab:=rY (n*2) aS;rw[eW]at ab;rw[<-ab,B6 (by rw[Ll,aC])];simp[pZ,kk]
    have e7:aS[(n-1)*2+1*1]?=some (.int .u8 p.2.toNat):=by rw[mJ,<-gV,nj (by omega)];simp
    have iO:=p.2.toNat_lt;refine aR.mk [.slice (some ⟨cK,0,none⟩) n e4] (c5 (cs:=[.slice (some ⟨cK,0,none⟩) n e4]) (k:=0) (n:=1) (T:=342) (.head _) (by simp)) ?_;refine bf.mk ⟨cK,0,none⟩ (n-1) rfl (by omega) (by omega) ?_;refine eH.mk 1 rfl (by decide) ?_;refine aR.mk [.int .u8 p.2.toNat] (n1 (b:=cK) (cs:=aS) (T:=344) (by simp[aY.ar]) e7) ?_;refine bg.mk (p.2.toNat:Int) (wrap_i64 ⟨by omega,by omega⟩) ?_;refine bg.mk ((p.2.toNat:Int)+1) (wrap_i64 ⟨by omega,by omega⟩) ?_;refine bg.mk (x.toNat:Int) (wrap_i64 ⟨by omega,by omega⟩) ?_;have iM:u' (va++[p]) x=bif decide ((p.2.toNat:Int)+1=x.toNat)then va++[(p.1,x)]else va++[p]++[(x,x)]:=by simp[u']
    refine a3.mk (λab=>?_) (λab=>?_)
    ·rw[ab]at iM;refine aR.mk [.slice (some ⟨cK,0,none⟩) n e4] (c5 (cs:=[.slice (some ⟨cK,0,none⟩) n e4]) (k:=0) (n:=1) (T:=342) (.head _) (by simp)) ?_;refine bf.mk ⟨cK,0,none⟩ (n-1) rfl (by omega) (by omega) ?_;refine eH.mk 1 rfl (by decide) ?_;rw[zT];refine b8.add [⟨g,.cells #[.slice (some ⟨cK,0,none⟩) n e4] 342 (0,0)⟩] [] aS.toArray _ rfl ?_ rfl ?_
     ·simp only[oZ];show 0+((n-1)*2+1)+1<=_;omega
     ·refine⟨_,_,.refl,jt,⟨some cK,n,e4,ck aS (0+((n-1)*2+1*1)) [.int .u8 x.toNat]⟩,?_,rfl⟩;have dO:ck aS (0+((n-1)*2+1*1)) [.int .u8 x.toNat]=pZ va++([.int .u8 p.1.toNat,.int .u8 x.toNat]++bk):=by rw[mJ];exact Xn _ _ _ _ _ _ (by omega)
      rw[iM,dO];have yh:pZ (va++[(p.1,x)])=pZ va++[.int .u8 p.1.toNat,.int .u8 x.toNat]:=by simp[pZ,kk]
      refine⟨?_,(λh=>by cases h),λbR r0=>⟨?_,nf,iY,?_⟩⟩;·simp only[cb];rw[yh,b3,gV];simp;omega
      ·simp only;rw[<-dK,mJ];simp
      ·simp only[cb];rw[yh,<-dY];refine qO ?_;rw[b3,gV];simp;omega
    ·rw[ab]at iM;simp only[b5]at iM;refine aR.mk [.slice (some ⟨cK,0,none⟩) n e4] (c5 (cs:=[.slice (some ⟨cK,0,none⟩) n e4]) (k:=0) (n:=1) (T:=342) (.head _) (by simp)) ?_;refine b'.mk λba ld Xo=>?_;refine bB.append a7 rfl (by simp) (e:=344) rfl rfl rfl (⟨some cK,n,e4,aS⟩:aY) bU rfl (m:=1) rfl (ch:=kk (x,x)) (by decide) (c5 (cs:=kk (x,x)) (k:=0) (n:=2) (T:=344) (.head _) (by simp[kk])) rfl (Mr:=[⟨ba,.cells (kk (x,x)).toArray 344 (0,0)⟩,⟨g,.cells #[.slice (some ⟨cK,0,none⟩) n e4] 342 (0,0)⟩]) (eI (l₁:=[_,_])) (by simp only[maxLen];omega) (by show(_+1)*2<=_;simp only;omega) ?_;intro dM c' hJ dJ eO eJ iN;refine b8.mk [⟨dM,.cells hJ.toArray 344 (0,0)⟩,⟨ba,.cells (kk (x,x)).toArray 344 (0,0)⟩] [] _ _ rfl rfl (bI rfl) rfl ?_;refine⟨_,_,.perm (M1:=[⟨ba,.cells (kk (x,x)).toArray 344 (0,0)⟩]++(⟨g,.cells #[aY.val ⟨some dM,(⟨some cK,n,e4,aS⟩:aY).n+1,c',hJ⟩] 342 (0,0)⟩::aY.ar ⟨some dM,(⟨some cK,n,e4,aS⟩:aY).n+1,c',hJ⟩ 344)) (eI (l₁:=[_]) (l₂:=[_,_])) (.sub (mw _ _) .refl),jt,⟨some dM,(⟨some cK,n,e4,aS⟩:aY).n+1,c',hJ⟩,?_,rfl⟩;rw[iM];exact P6 bU dJ eO eJ iN
   ·have u2:n=0:=by simp at aa;omega
    have pV:a2=[]:=iq (by omega);have iM:u' a2 x=a2++[(x,x)]:=by rw[pV];rfl
    refine aR.mk [.slice (some ⟨cK,0,none⟩) n e4] (c5 (cs:=[.slice (some ⟨cK,0,none⟩) n e4]) (k:=0) (n:=1) (T:=342) (.head _) (by simp)) ?_;refine b'.mk λba ld Xo=>?_;refine bB.append a7 rfl (by simp) (e:=344) rfl rfl rfl (⟨some cK,n,e4,aS⟩:aY) bU rfl (m:=1) rfl (ch:=kk (x,x)) (by decide) (c5 (cs:=kk (x,x)) (k:=0) (n:=2) (T:=344) (.head _) (by simp[kk])) rfl (Mr:=[⟨ba,.cells (kk (x,x)).toArray 344 (0,0)⟩,⟨g,.cells #[.slice (some ⟨cK,0,none⟩) n e4] 342 (0,0)⟩]) (eI (l₁:=[_,_])) (by simp only[maxLen];omega) (by show(_+1)*2<=_;simp only;omega) ?_;intro dM c' hJ dJ eO eJ iN;refine b8.mk [⟨dM,.cells hJ.toArray 344 (0,0)⟩,⟨ba,.cells (kk (x,x)).toArray 344 (0,0)⟩] [] _ _ rfl rfl (bI rfl) rfl ?_;refine⟨_,_,.perm (M1:=[⟨ba,.cells (kk (x,x)).toArray 344 (0,0)⟩]++(⟨g,.cells #[aY.val ⟨some dM,(⟨some cK,n,e4,aS⟩:aY).n+1,c',hJ⟩] 342 (0,0)⟩::aY.ar ⟨some dM,(⟨some cK,n,e4,aS⟩:aY).n+1,c',hJ⟩ 344)) (eI (l₁:=[_]) (l₂:=[_,_])) (.sub (mw _ _) .refl),jt,⟨some dM,(⟨some cK,n,e4,aS⟩:aY).n+1,c',hJ⟩,?_,rfl⟩;rw[iM];exact P6 bU dJ eO eJ iN
 ·rintro I' M' -⟨jt,os,bU,rfl⟩;refine aR.mk [os.val] (c5 (cs:=[os.val]) (k:=0) (n:=1) (T:=342) (.head _) (by simp)) ?_;refine⟨_,_,.sub (Em _ _) .refl,λb o h=>jt _ _ (cu _ _ h),os,rfl,?_,rfl⟩;have:(jr al 0 [a,b,c,d]).take (tU (jr al 0 [a,b,c,d])).length=jr al 0 [a,b,c,d]:=fN (by simp[tU]);rw[this]at bU;exact bU
def aY.ok.row{M:List aE}{f:α->List Value}{size:Nat}(aA:∀ x,(f x).length=size)(az:0<size){l:List α}(h:os.ok size (l.flatMap f))(a':∀ x∈os.ar e,x∈M)(ai:j<l.length) :
  ∃ aU,os.a.map (λg=>(⟨g,0,none⟩:Addr))=some aU/\cO I M (aU.add (j*size)) size (f l[j]):=by
 have aC:l.length=os.n:=by have aa:=h.len;rw[jm f size aA]at aa;exact Nat.eq_of_mul_eq_mul_right az aa
 cases a6:os.a with
 |none=>have:=(h.nil a6).1;omega
 |some g=>
  obtain⟨aa,ab,aj,aG⟩:=h.cap g a6;refine⟨⟨g,0,none⟩,rfl,?_⟩;have bq:j*size+size<=os.n*size:=by have:=v' size (show j+1<=os.n by omega);rw[l8,o2]at this;exact this
  have dK:os.n*size<=os.aS.length:=by rw[aa];exact v' _ ab
  have:=c5 (I:=I) (M:=M) (b:=g) (T:=e) (cs:=os.aS) (a' _ (by simp[aY.ar,a6])) (k:=j*size) (n:=size) (by omega);have aJ:(os.aS.drop (j*size)).take size=f l[j]:=by rw[<-Ej f size aA l j ai,<-aG,G0,BR];congr 1;omega
  rw[aJ]at this;exact this
def Cd:ByteArray:=⟨#[34]⟩
def zU:ByteArray:=⟨#[93,45,94]⟩
def yj(s:ByteArray):List UInt8:=[34]++s.data.toList.flatMap (o9 · Cd)++[34]
def strOf(l:List UInt8):ByteArray:=⟨l.toArray⟩
def Hv{α β:Type}(f:α->List β)(m:Nat)(aA:∀ x,(f x).length<=m):∀ l:List α,(l.flatMap f).length<=m*l.length
 |[]=>by simp
 |x::l=>by have aa:=Hv f m aA l;have ab:=aA x;simp only[jT,b3,c2,zO];omega
def Xp(s:ByteArray)(au:s.size<=1099511627776):Spec Tryz.prog 259 [.string s] I [] λr I' M'=>r=.string (strOf (yj s))/\I'=I/\M'=[]:=by
 refine cg [3] a7 Tryz.func259 rfl rfl rfl ?_;intro B az;refine b'.mk λb ag sN=>?_;refine bd.mk (gu.new.M b) [] _ (.refl _) (pW b gu.Lf 34 (by decide)) ?_;rintro v I' M' -⟨rfl,rfl,sK,fK,Hw,rfl⟩;refine dg.inv (ι:=Nat×gu) (λp=>{ bj:=[(0,.val (.string s)),(3,.val (ptr b)),(4,.val (.int .i64 p.1))],cI:=I',de:=p.2.M b }) (λp=>p.1<=s.size/\p.2.ok/\p.2.bJ=[34]++(s.data.toList.take p.1).flatMap (o9 · Cd)) (λp=>s.size-p.1) ?_ ?_
 ·exact⟨(0,sK),⟨by simp,fK,by simp[Hw,gu.new]⟩,.perm (by simp) .refl,ht,.nil⟩
 ·rintro⟨i,x⟩⟨hi,ad,kL⟩;simp only at hi ad kL;have c1:x.bJ.length<=1+4*i:=by rw[kL];have:=Hv (o9 · Cd) 4 (λc=>Hs c Cd) (s.data.toList.take i);have ab:=B5 i s.data.toList;simp only[b3,c2,fs];omega
  refine a3.mk (λh=>?_) (λh=>?_)
  ·have a1:i<s.size:=by simpa using h
   have cq:i<s.data.toList.length:=a1;refine Bz.mk i rfl a1 ?_;refine bd.mk (x.M b) [] _ (by simp) (Lh b ad s[i] Cd (by omega)) ?_;rintro v I' M' -⟨rfl,y,aH,g4,rfl⟩;have gq:IntKind.i64.wrap ((i:Int)+1)=((i+1:Nat):Int):=by rw[wrap_i64 ⟨by omega,by omega⟩];omega
   refine bg.mk _ gq ?_;refine⟨(i+1,y),⟨⟨by simp only;omega,aH,?_⟩,by simp only;omega⟩,.perm (by simp) .refl,ht,.nil⟩;simp only;rw[g4,kL,gy cq,hn,dY];congr 1;simp;rfl
  ·have cJ:s.size<=i:=by simpa using h
   have gU:s.data.toList.take i=s.data.toList:=fN cJ;refine bd.mk (x.M b) [] _ (by simp) (pW b ad 34 (by omega)) ?_;rintro v I' M' -⟨rfl,rfl,y,aH,g4,rfl⟩;refine bd.mk (y.M b) [] _ (by simp) (yc b aH (by rw[g4];simp;omega)) ?_;rintro v I' M' -⟨rfl,rfl,rfl⟩;refine⟨_,_,.refl,?_,rfl,by simp⟩;rw[g4,kL,gU];rfl
def vb(p:UInt8×UInt8):List UInt8:=
 o9 p.1 zU++((bif decide (1<IntKind.u8.wrap ((p.2.toNat:Int)-p.1.toNat))then [45]else [])++(bif !decide ((p.2.toNat:Int)=p.1.toNat)then o9 p.2 zU else []))
def yk(al:List Int)(a b c d:Int):List UInt8:=
 bif (a == iv 0&&(b == iv 0&&(c == iv 0&&d == iv 0)))then [46]else [91]++(pY (jr al 0 [a,b,c,d])).flatMap vb++[93]
def Xq(p:UInt8×UInt8):(vb p).length<=9:=by
 have aa:=Hs p.1 zU;have ab:=Hs p.2 zU;unfold vb;cases decide (1<IntKind.u8.wrap ((p.2.toNat:Int)-p.1.toNat))<;>cases decide ((p.2.toNat:Int)=p.1.toNat)<;>simp<;>omega
def Xr(al:List Int)(a b c d:Int):(pY (jr al 0 [a,b,c,d])).length<=256:=by have aa:=P5 al [a,b,c,d] 0;have ab:=Xm (jr al 0 [a,b,c,d]);simp only[c2,fs]at aa;omega
def aiI(al:List Int)(a b c d:Int):(yk al a b c d).length<=2306:=by
 have aa:=Xr al a b c d;have ab:=Hv vb 9 Xq (pY (jr al 0 [a,b,c,d]));unfold yk;cases(a == iv 0&&(b == iv 0&&(c == iv 0&&d == iv 0)))
 ·simp only[b5,b3,c2,fs];omega
 ·simp
def aiJ(Cc:sQ I al){a b c d:Int}(sS:∀ x∈[a,b,c,d],hc x):Spec Tryz.prog 260 [.agg #[.int .u64 a,.int .u64 b,.int .u64 c,.int .u64 d]] I []
  λr I' M'=>r=.string (strOf (yk al a b c d))/\(∀ b o,I b=some o->I' b=some o)/\M'=[]:=by
 refine cg [3] a7 Tryz.func260 rfl rfl rfl ?_;intro B az;refine c4.draw a7 rfl rfl rfl ?_;refine eR.mk _ aix ?_;rintro v I' M' -⟨rfl,rfl,rfl⟩;refine gB.PE a7 (e:=62) rfl rfl rfl rfl (by kernel_rfl) ?_;refine a3.mk (λh=>?_) (λh=>?_)
 ·refine⟨_,_,.refl,?_,λ_ _ h=>h,rfl⟩;simp only[yk,h];rfl
 ·refine b'.mk λg av B9=>?_;refine bd.mk (gu.new.M g) [] _ (.refl _) (pW g gu.Lf 91 (by decide)) ?_;rintro v I' M' -⟨rfl,rfl,sK,fK,Hw,rfl⟩;refine bd.mk [] (sK.M g) _ (by simp) (aiG Cc sS) ?_;rintro v I1 M1 -⟨cu,os,rfl,bU,rfl⟩;have fC:=Xr al a b c d;have dK:yk al a b c d=[91]++(pY (jr al 0 [a,b,c,d])).flatMap vb++[93]:=by simp only[yk,h];rfl
  generalize ei:pY (jr al 0 [a,b,c,d])=a2 at *;have aC:a2.length=os.n:=by have:=bU.len;rw[Ll]at this;omega
  refine dg.inv (ι:=Nat×gu) (λp=>{ bj:=[(3,.val (ptr g)),(11,.val os.val),(12,.val (.int .i64 os.n)),(13,.val (.int .i64 p.1))],cI:=I1,de:=p.2.M g++os.ar 344 }) (λp=>p.1<=os.n/\p.2.ok/\p.2.bJ=[91]++(a2.take p.1).flatMap vb) (λp=>os.n-p.1) ?_ ?_;·exact⟨(0,sK),⟨by simp,fK,by simp[Hw,gu.new]⟩,.perm (by simpa using eI) .refl,ej,.nil⟩
  ·rintro⟨i,x⟩⟨hi,ad,kL⟩;simp only at hi ad kL;have c1:x.bJ.length<=1+9*i:=by rw[kL];have:=Hv vb 9 Xq (a2.take i);have ab:=B5 i a2;simp only[b3,c2,fs];omega
   refine a3.mk (λh=>?_) (λh=>?_)
   ·have a1:i<os.n:=by simpa using h
    have cq:i<a2.length:=by omega
    obtain⟨aU,bK,bm⟩:=aY.ok.row (I:=I1) (M:=x.M g++os.ar 344) (f:=kk) (λ_=>rfl) (by decide) bU (e:=344) (λy aH=>by simp[aH]) cq;refine bf.mk aU i bK rfl a1 ?_;refine aR.mk _ bm ?_;generalize aB:a2[i]=p;refine eH.mk 0 rfl (by decide) ?_;refine bd.mk (x.M g) (os.ar 344) _ (.refl _) (Lh g ad p.1 zU (by omega)) ?_;rintro v I' M' -⟨rfl,y,aH,g4,rfl⟩;have Li:y.bJ.length<=5+9*i:=by rw[g4,b3];have:=Hs p.1 zU;omega
    refine eH.mk 1 rfl (by decide) ?_;refine eH.mk 0 rfl (by decide) ?_;refine bg.mk _ rfl ?_;refine a3.mk (λen=>?_) (λen=>?_)
    ·refine bd.mk (y.M g) (os.ar 344) _ (by simp) (pW g aH 45 (by omega)) ?_;rintro v I' M' -⟨rfl,rfl,u,hu,ye,rfl⟩;have zV:u.bJ.length<=6+9*i:=by rw[ye];simp;omega
     refine eH.mk 1 rfl (by decide) ?_;refine eH.mk 0 rfl (by decide) ?_;refine a3.mk (λcE=>?_) (λcE=>?_)
     ·refine eH.mk 1 rfl (by decide) ?_;refine bd.mk (u.M g) (os.ar 344) _ (by simp) (Lh g hu p.2 zU (by omega)) ?_;rintro v I' M' -⟨rfl,z,bb,tR,rfl⟩;have gq:IntKind.i64.wrap ((i:Int)+1)=((i+1:Nat):Int):=by rw[wrap_i64 ⟨by omega,by omega⟩];omega
      refine bg.mk _ gq ?_;refine⟨(i+1,z),⟨⟨by simp only;omega,bb,?_⟩,by simp only;omega⟩,.perm (by simp) .refl,ej,.nil⟩;simp only;rw[tR,ye,g4,kL,gy cq,hn,aB];simp[vb,en,cE]
     ·have gq:IntKind.i64.wrap ((i:Int)+1)=((i+1:Nat):Int):=by rw[wrap_i64 ⟨by omega,by omega⟩];omega
      refine bg.mk _ gq ?_;refine⟨(i+1,u),⟨⟨by simp only;omega,hu,?_⟩,by simp only;omega⟩,.perm (by simp) .refl,ej,.nil⟩;simp only;rw[ye,g4,kL,gy cq,hn,aB];simp[vb,en,cE]
    ·refine eH.mk 1 rfl (by decide) ?_;refine eH.mk 0 rfl (by decide) ?_;refine a3.mk (λcE=>?_) (λcE=>?_)
     ·refine eH.mk 1 rfl (by decide) ?_;refine bd.mk (y.M g) (os.ar 344) _ (by simp) (Lh g aH p.2 zU (by omega)) ?_;rintro v I' M' -⟨rfl,z,bb,tR,rfl⟩;have gq:IntKind.i64.wrap ((i:Int)+1)=((i+1:Nat):Int):=by rw[wrap_i64 ⟨by omega,by omega⟩];omega
      refine bg.mk _ gq ?_;refine⟨(i+1,z),⟨⟨by simp only;omega,bb,?_⟩,by simp only;omega⟩,.perm (by simp) .refl,ej,.nil⟩;simp only;rw[tR,g4,kL,gy cq,hn,aB];simp[vb,en,cE]
     ·have gq:IntKind.i64.wrap ((i:Int)+1)=((i+1:Nat):Int):=by rw[wrap_i64 ⟨by omega,by omega⟩];omega
      refine bg.mk _ gq ?_;refine⟨(i+1,y),⟨⟨by simp only;omega,aH,?_⟩,by simp only;omega⟩,.perm (by simp) .refl,ej,.nil⟩;simp only;rw[g4,kL,gy cq,hn,aB];simp[vb,en,cE]
   ·have cJ:os.n<=i:=by simpa using h
    have gU:a2.take i=a2:=fN (by omega);refine bd.mk (x.M g) (os.ar 344) _ (.refl _) (pW g ad 93 (by omega)) ?_;rintro v I' M' -⟨rfl,rfl,y,aH,g4,rfl⟩;refine bd.mk (y.M g) (os.ar 344) _ (.refl _) (yc g aH (by rw[g4];simp;omega)) ?_;rintro v I' M' -⟨rfl,rfl,rfl⟩;refine⟨_,_,.sub (fk _) .refl,?_,cu,rfl⟩;rw[g4,kL,gU,dK];rfl
structure Lm(d:ap):Prop where
 k:d.k<10
 t:d.t.size<=255
 Hx:d.k=6->0<=d.lo/\d.lo<=99/\(d.hi=-1\/(d.lo<=d.hi/\d.hi<=99))
def P8{d:ap}{n:Int}(h:fits d n=true):Lm d:=by
 unfold fits at h;cases aa:decide (10<=d.k)with
 |true=>rw[aa]at h;cases h
 |false=>
  rw[aa]at h;simp only[b5]at h;have ae:d.k<10:=by simpa using aa
  cases ab:(decide (n<oj d.k.toNat)||(decide (0<=rT d.k.toNat)&&decide (rT d.k.toNat<n)))with
  |true=>rw[ab]at h;cases h
  |false=>
   rw[ab]at h;simp only[b5]at h;have dd:d.t=⟨#[]⟩->d.t.size<=255:=λe=>by rw[e];decide
   cases aj:decide (d.k=1)with
   |true=>rw[aj]at h;simp only[cb,cz,hq]at h;exact⟨ae,dd h.1,λe=>by simp at aj;omega⟩
   |false=>
    rw[aj]at h;simp only[b5]at h;cases aG:decide (d.k=2)with
    |true=>rw[aG]at h;simp only[cb,cz,tC,qN,qz]at h;exact⟨ae,by omega,λe=>by simp at aG;omega⟩
    |false=>
     rw[aG]at h;simp only[b5]at h;cases bx:(decide (d.k=3)||decide (d.k=9))with
     |true=>rw[bx]at h;simp only[cb,cz]at h;refine⟨ae,?_,λe=>by simp at bx;omega⟩;have:=h.1;unfold jW at this;simp only[cz,hq]at this;omega
     |false=>
      rw[bx]at h;simp only[b5]at h;cases bZ:decide (d.k=6)with
      |true=>
       rw[bZ]at h;simp only[cb,cz,hq,tC,qN,qz,Bool.and_eq_false_iff]at h;refine⟨ae,dd h.2.2,λ_=>?_⟩;obtain⟨⟨a8,ba,bR⟩,_⟩:=h;refine⟨by omega,by omega,?_⟩;rcases bR with bR | bR
       ·left
        simpa using bR
       ·right
        omega
      |false=>rw[bZ]at h;simp only[b5,cz,hq]at h;exact⟨ae,dd h.2.1,λe=>by simp at bZ;omega⟩
def Hy:List Value:=[.int .i64 0,.int .i64 1,.string ⟨#[63]⟩,.int .i64 0,.int .i64 (-1),.string ⟨#[42]⟩,.int .i64 1,.int .i64 (-1),.string ⟨#[43]⟩]
def P9(I:aM):Prop:=∃ T ao,I 2=some (.cells Hy.toArray T ao)
def Ce(lo:Nat)(hi:Int):List UInt8:=
 bif decide (hi=lo)then [123]++nZ lo++[125]else
 bif decide (hi=-1)then [123]++nZ lo++[44,125]else [123]++nZ lo++[44]++nZ hi.toNat++[125]
def tX(lo:Nat)(hi:Int):List UInt8:=
 bif decide ((0:Int)=lo)&&decide (1=hi)then [63]else
 bif decide ((0:Int)=lo)&&decide (-1=hi)then [42]else
 bif decide ((1:Int)=lo)&&decide (-1=hi)then [43]else Ce lo hi
def aiK(lo:Nat)(hi:Int):(Ce lo hi).length<=7:=by
 have aa:=Ht lo;have ab:=Ht hi.toNat;unfold Ce;cases decide (hi=lo)<;>cases decide (hi=-1)<;>simp<;>omega
def aiL(lo:Nat)(hi:Int):(tX lo hi).length<=7:=by
 have aa:=aiK lo hi;unfold tX;cases(decide ((0:Int)=lo)&&decide (1=hi))<;>cases(decide ((0:Int)=lo)&&decide (-1=hi))<;>cases(decide ((1:Int)=lo)&&decide (-1=hi))<;>simp<;>omega
def Xs(n:Nat):(zR n).size<=2:=Ht n
def qR(lo hi:Int):ap:=⟨6,0,0,0,0,⟨#[]⟩,lo,hi,none,0,0,[]⟩
def aiM{lo:Nat}{hi:Int}(e2:lo<=99)(gF:hi=-1\/((lo:Int)<=hi/\hi<=99)):fits (qR lo hi) 1=true:=by
 have aJ:oj 6=1:=by decide
 have a4:rT 6=1:=by decide
 rcases gF with rfl | ⟨aa,ab⟩
 ·simp[fits,qR,aJ,a4,ap.qL];exact⟨dU (by omega),dU (by omega)⟩
 ·simp[fits,qR,aJ,a4,ap.qL];exact⟨dU (by omega),dU (by omega),.inr ⟨dU (by omega),dU (by omega)⟩⟩
def aiN(a b:List UInt8):strOf a++strOf b=strOf (a++b):=by apply Ca;simp[strOf]
def gB.zW{t:Nat}{a b:List UInt8}(au:a.length+b.length<=9223372036854775807){V:Value->Prop}{other:Prop}(h:V (.string (strOf (a++b)))):gB P .add t x y (.val (.string (strOf a))) (.val (.string (strOf b))) V other:=
 gB.concat (a:=strOf a) (b:=strOf b) au (by rw[aiN];exact h)
def aiO(an:nh I)(aB:P9 I)(lo:Nat)(hi:Int)(e2:lo<=99)(gF:hi=-1\/((lo:Int)<=hi/\hi<=99)):Spec Tryz.prog 261 [.int .i64 lo,.int .i64 hi] I []
  λr I' M'=>r=.string (strOf (tX lo hi))/\I'=I/\M'=[]:=by
 refine cg [] a7 Tryz.func261 rfl rfl rfl ?_;intro B az;have bw:(qR lo hi).ok I:=⟨by simp[qR],by simp[qR,hc],by simp[qR,hc],by simp[qR,hc],by simp[qR,hc],by show(0:Nat)<=_;omega,⟨by simp only[qR];omega,by simp only[qR];omega⟩,⟨by simp only[qR];omega,by simp only[qR];omega⟩,⟨rfl,⟨b2 _,by simp[qR]⟩,.inl rfl⟩,by simp[qR]⟩;refine bd.mk [] [] _ (.refl _) (W1 an bw 1) ?_;rintro v I' M' -⟨rfl,rfl,rfl⟩;rw[aiM e2 gF];refine a3.mk (λh=>by cases h) (λ_=>?_);have bm:cO I' ([]++[]) ⟨2,0,none⟩ 9 Hy:=by obtain⟨T,ao,aB⟩:=aB;exact⟨rfl,_,T,ao,.inl aB,rfl,rfl⟩
 refine aR.mk _ bm ?_;refine dg.inv (ι:=Nat) (λi=>{ bj:=[(0,.val (.int .i64 lo)),(1,.val (.int .i64 hi)),(12,.val (.agg Hy.toArray)),(13,.val (.int .i64 i))],cI:=I' }) (λi=>i<=3/\(1<=i->(decide ((0:Int)=lo)&&decide (1=hi))=false)/\(2<=i->(decide ((0:Int)=lo)&&decide (-1=hi))=false)/\(3<=i->(decide ((1:Int)=lo)&&decide (-1=hi))=false)) (λi=>3-i) ?_ ?_
 ·exact⟨0,⟨by simp,by simp,by simp,by simp⟩,.refl,ej,.nil⟩
 ·rintro i⟨iB,cY,m2,Hz⟩
  match i,iB with
  |0,_=>
   refine a3.mk (λ_=>?_) (λh=>by simp at h);refine eH.mk 0 rfl (by decide) ?_;have next:(decide ((0:Int)=lo)&&decide (1=hi))=false->(((0+1:Nat)<=3/\(1<=(0+1:Nat)->(decide ((0:Int)=lo)&&decide (1=hi))=false)/\(2<=(0+1:Nat)->(decide ((0:Int)=lo)&&decide (-1=hi))=false)/\(3<=(0+1:Nat)->(decide ((1:Int)=lo)&&decide (-1=hi))=false))/\3-(0+1)<3-0):=λh=>by
    refine⟨⟨by simp,λ_=>?_,λcW=>?_,λcW=>?_⟩,by simp⟩;·exact h
    ·simp at cW
    ·simp at cW
   refine cj.mk (λa8=>?_) (λa8=>?_)
   ·refine a3.mk (λba=>?_) (λba=>?_)
    ·refine⟨_,_,.refl,?_,rfl,rfl⟩;have:tX lo hi=[63]:=by unfold tX;rw[a8,ba];rfl
     rw[this];rfl
    ·refine bg.mk 1 (by decide) ?_;exact⟨1,next (by rw[a8,ba];rfl),.refl,ej,.nil⟩
   ·refine bg.mk 1 (by decide) ?_;exact⟨1,next (by rw[a8];rfl),.refl,ej,.nil⟩
  |1,_=>
   refine a3.mk (λ_=>?_) (λh=>by simp at h);refine eH.mk 1 rfl (by decide) ?_;have next:(decide ((0:Int)=lo)&&decide (-1=hi))=false->(((1+1:Nat)<=3/\(1<=(1+1:Nat)->(decide ((0:Int)=lo)&&decide (1=hi))=false)/\(2<=(1+1:Nat)->(decide ((0:Int)=lo)&&decide (-1=hi))=false)/\(3<=(1+1:Nat)->(decide ((1:Int)=lo)&&decide (-1=hi))=false))/\3-(1+1)<3-1):=λh=>by
    refine⟨⟨by simp,λ_=>?_,λcW=>?_,λcW=>?_⟩,by simp⟩;·exact cY (by decide)
    ·exact h
    ·simp at cW
   refine cj.mk (λa8=>?_) (λa8=>?_)
   ·refine a3.mk (λba=>?_) (λba=>?_)
    ·refine⟨_,_,.refl,?_,rfl,rfl⟩;have:tX lo hi=[42]:=by unfold tX;rw[cY (by decide),a8,ba];rfl
     rw[this];rfl
    ·refine bg.mk 2 (by decide) ?_;exact⟨2,next (by rw[a8,ba];rfl),.refl,ej,.nil⟩
   ·refine bg.mk 2 (by decide) ?_;exact⟨2,next (by rw[a8];rfl),.refl,ej,.nil⟩
  |2,_=>
   refine a3.mk (λ_=>?_) (λh=>by simp at h);refine eH.mk 2 rfl (by decide) ?_;have next:(decide ((1:Int)=lo)&&decide (-1=hi))=false->(((2+1:Nat)<=3/\(1<=(2+1:Nat)->(decide ((0:Int)=lo)&&decide (1=hi))=false)/\(2<=(2+1:Nat)->(decide ((0:Int)=lo)&&decide (-1=hi))=false)/\(3<=(2+1:Nat)->(decide ((1:Int)=lo)&&decide (-1=hi))=false))/\3-(2+1)<3-2):=λh=>by
    refine⟨⟨by simp,λ_=>?_,λcW=>?_,λcW=>?_⟩,by simp⟩;·exact cY (by decide)
    ·exact m2 (by decide)
    ·exact h
   refine cj.mk (λa8=>?_) (λa8=>?_)
   ·refine a3.mk (λba=>?_) (λba=>?_)
    ·refine⟨_,_,.refl,?_,rfl,rfl⟩;have:tX lo hi=[43]:=by unfold tX;rw[cY (by decide),m2 (by decide),a8,ba];rfl
     rw[this];rfl
    ·refine bg.mk 3 (by decide) ?_;exact⟨3,next (by rw[a8,ba];rfl),.refl,ej,.nil⟩
   ·refine bg.mk 3 (by decide) ?_;exact⟨3,next (by rw[a8];rfl),.refl,ej,.nil⟩
  |3,_=>
   refine a3.mk (λh=>by simp at h) (λ_=>?_);have aJ:=cY (by decide);have a4:=m2 (by decide);have cn:=Hz (by decide);have jS:tX lo hi=Ce lo hi:=by unfold tX;rw[aJ,a4,cn];rfl
   rw[jS];have wH:=Xs lo;have BG:=Xs hi.toNat;have wH:=Ht lo;refine a3.mk (λh=>?_) (λh=>?_);·refine bd.mk [] [] _ (.refl _) (Lj lo (by omega)) ?_;rintro v I' M' -⟨rfl,rfl,rfl⟩;refine gB.zW (a:=[123]) (b:=nZ lo) (by simp;omega) ?_;refine gB.zW (a:=[123]++nZ lo) (b:=[125]) (by simp;omega) ?_;refine⟨_,_,.refl,?_,rfl,rfl⟩;rw[Ce,h];rfl
   ·refine a3.mk (λk=>?_) (λk=>?_)
    ·refine bd.mk [] [] _ (.refl _) (Lj lo (by omega)) ?_;rintro v I' M' -⟨rfl,rfl,rfl⟩;refine gB.zW (a:=[123]) (b:=nZ lo) (by simp;omega) ?_;refine gB.zW (a:=[123]++nZ lo) (b:=[44,125]) (by simp;omega) ?_;refine⟨_,_,.refl,?_,rfl,rfl⟩;rw[Ce,h,k];rfl
    ·refine bd.mk [] [] _ (.refl _) (Lj lo (by omega)) ?_;rintro v I' M' -⟨rfl,rfl,rfl⟩;have ae:hi≠-1:=by simpa using k
     obtain⟨aC,rfl⟩:=ea (show 0<=hi by omega);have BG:=Ht aC;refine gB.zW (a:=[123]) (b:=nZ lo) (by simp;omega) ?_;refine gB.zW (a:=[123]++nZ lo) (b:=[44]) (by simp;omega) ?_;refine bd.mk [] [] _ (.refl _) (Lj aC (by omega)) ?_;rintro v I' M' -⟨rfl,rfl,rfl⟩;refine gB.zW (a:=[123]++nZ lo++[44]) (b:=nZ aC) (by simp;omega) ?_;refine gB.zW (a:=[123]++nZ lo++[44]++nZ aC) (b:=[125]) (by simp;omega) ?_;refine⟨_,_,.refl,?_,rfl,rfl⟩;rw[Ce,h,k];rfl
def vc:List (List UInt8):=[[],[],[],[],[],[],[],[],[],[],[],[],[],[32],[],[],[32,47,32],[],[],[],[],[38],[],[],[33],[],[],[60],[],[62]]
def r1(j:Nat):List UInt8:=vc.getD j []
def HA(I:aM):Prop:=∃ T ao,I 1=some (.cells (vc.map λl=>Value.string (strOf l)).toArray T ao)
def HA.rd(h:HA I)(M:List aE)(ai:i+j<30):cO I M ((Addr.add ⟨1,0,none⟩ i).add j) 1 [.string (strOf (r1 (i+j)))]:=by
 obtain⟨T,ao,h⟩:=h;rw[zT,eU _ rfl];refine⟨rfl,_,T,ao,.inl h,?_,rfl⟩;have aa:i+j<(vc.map λl=>Value.string (strOf l)).length:=by simp[vc];omega
 have ab:i+j<vc.length:=by simp[vc];omega
 simp only[cX];rw[e1 aa,qB,rG];simp[r1,bt,ab]
def HB(j:Nat):(r1 j).length<=3:=by
 by_cases h:j<30
 ·have:∀ j:Fin 30,(r1 j.val).length<=3:=by decide
  exact this ⟨j,h⟩
 ·have:vc.length<=j:=by simp[vc];omega
  simp[r1,bt,this]
def kl(al:List Int)(d:ap):List UInt8:=
 bif decide (d.k=0)||decide (d.k=2)then yj d.t else
 bif decide (d.k=1)then yk al d.cC d.s1 d.s2 d.c0 else
 bif decide (d.k=3)then d.t.data.toList else
 bif decide (d.k=9)then r1 27++d.t.data.toList++[58,32]else r1 (d.k.toNat*3)
def mK(d:ap):List UInt8:=bif decide (d.k=6)then tX d.lo.toNat d.hi else r1 (d.k.toNat*3+2)
def aiP(s:ByteArray):strOf s.data.toList=s:=Ca (by simp[strOf])
def P'(an:nh I)(aB:P9 I)(zX:HA I){d:ap}(ak:d.ok I)(aA:Lm d):Spec Tryz.prog 233 [d.val] I [] λr I' M'=>r=.string (strOf (mK d))/\I'=I/\M'=[]:=by
 refine cg [] a7 Tryz.func233 rfl rfl rfl ?_;intro B az;refine a3.mk (λh=>?_) (λh=>?_)
 ·obtain⟨a8,ba,bR⟩:=aA.Hx (by simpa using h);have aJ:d.lo=((d.lo.toNat:Nat):Int):=by omega
  have nR:=aiO an aB d.lo.toNat d.hi (by omega) (by omega);rw[<-aJ]at nR;refine bd.mk [] [] _ (.refl _) nR ?_;rintro v I' M' -⟨rfl,rfl,rfl⟩;refine⟨_,_,.refl,?_,rfl,rfl⟩;simp only[mK,h];rfl
 ·have ae:=ak.k;have tW:=aA.k;refine eH.mk d.k.toNat (by omega) (by omega) ?_;refine aR.mk _ (zX.rd _ (by show d.k.toNat*3+2<30;omega)) ?_;refine⟨_,_,.refl,?_,rfl,rfl⟩;simp only[mK,h];rfl
def Xt(Cc:sQ I al)(zX:HA I){d:ap}(ak:d.ok I)(aA:Lm d):Spec Tryz.prog 231 [d.val] I []
  λr I' M'=>r=.string (strOf (kl al d))/\(∀ b o,I b=some o->I' b=some o)/\M'=[]:=by
 refine cg [] a7 Tryz.func231 rfl rfl rfl ?_;intro B az;have ae:=ak.k;have tW:=aA.k;have ax:=aA.t;have lit:(decide (d.k=0)||decide (d.k=2))=true->kl al d=yj d.t:=λh=>by simp only[kl,h];rfl
 refine a3.mk (λaa=>?_) (λaa=>?_)
 ·refine a3.mk (λ_=>?_) (λh=>by rw[aa]at h;cases h);refine bd.mk [] [] _ (.refl _) (Xp d.t (by omega)) ?_;rintro v I' M' -⟨rfl,rfl,rfl⟩;refine⟨_,_,.refl,?_,λ_ _ h=>h,rfl⟩;rw[lit (by rw[aa];rfl)]
 ·refine a3.mk (λab=>?_) (λab=>?_)
  ·refine bd.mk [] [] _ (.refl _) (Xp d.t (by omega)) ?_;rintro v I' M' -⟨rfl,rfl,rfl⟩;refine⟨_,_,.refl,?_,λ_ _ h=>h,rfl⟩;rw[lit (by rw[ab];simp)]
  ·refine a3.mk (λaj=>?_) (λaj=>?_)
   ·refine bd.mk [] [] _ (.refl _) (aiJ Cc (a:=d.cC) (b:=d.s1) (c:=d.s2) (d:=d.c0) (λx ad=>by
     simp only[eg,List.not_mem_nil,or_false]at ad;rcases ad with rfl | rfl | rfl | rfl;·exact ak.cC
     ·exact ak.s1
     ·exact ak.s2
     ·exact ak.c0)) ?_
    rintro v I' M' -⟨rfl,bz,rfl⟩;refine⟨_,_,.refl,?_,bz,rfl⟩;simp only[kl,aa,ab,aj];rfl
   ·refine a3.mk (λaG=>?_) (λaG=>?_)
    ·refine⟨_,_,.refl,?_,λ_ _ h=>h,rfl⟩;simp only[kl,aa,ab,aj,aG];rw[<-aiP d.t];rfl
    ·refine a3.mk (λbx=>?_) (λbx=>?_)
     ·have aiQ:d.k=9:=by simpa using bx
      refine c4.draw a7 rfl rfl rfl ?_;refine eH.mk 9 aiQ (by decide) ?_;refine aR.mk _ (zX.rd _ (by decide)) ?_;have fz:(strOf (r1 27)).size=1:=by decide
      refine gB.concat (a:=strOf (r1 27)) (b:=d.t) (by omega) ?_;refine gB.concat (a:=strOf (r1 27)++d.t) (b:=strOf [58,32]) (by rw[K8];show _+2<=_;omega) ?_;refine⟨_,_,.refl,?_,λ_ _ h=>h,rfl⟩;simp only[kl,aa,ab,aj,aG,bx];refine congrArg Value.string (Ca ?_);simp[strOf]
     ·refine eH.mk d.k.toNat (by omega) (by omega) ?_;refine aR.mk _ (zX.rd _ (by show d.k.toNat*3+0<30;omega)) ?_;refine⟨_,_,.refl,?_,λ_ _ h=>h,rfl⟩;simp only[kl,aa,ab,aj,aG,bx];rfl
def hA(ns:List ap)(k:Int):Int:=(ns.map (·.k)).getD k.toNat 0
def paren(w:Bool)(s:List UInt8):List UInt8:=(bif w then [40]else [])++(s++(bif w then [41]else []))
def sT(sep:List UInt8)(f:Int->List UInt8):Bool->List Int->List UInt8
 |_,[]=>[]| b,k::ks=>(bif b then sep else [])++(f k++sT sep f true ks)
def np(d:ap):List UInt8:=r1 (d.k.toNat*3+1)
def Cf(al:List Int)(ns:List ap)(d:ap)(g:Int->List UInt8):List UInt8:=
 kl al d++(sT (np d) (λk=>paren (gv d.k (hA ns k)) (g k)) false d.aw++mK d)
def kM(al:List Int)(ns:List ap):Int->List UInt8:=lH [] (Cf al ns) ns
def i'(al:List Int)(t:bP):List UInt8:=bif right t then kM al t.ns t.bA else []
def Xu{sep:List UInt8}{f g:Int->List UInt8}:∀ {ks:List Int} {b:Bool},(∀ k∈ks,f k=g k)->sT sep f b ks=sT sep g b ks
 |[],b,_=>rfl| k::ks,b,h=>by unfold sT;rw[h k (by simp),Xu λx ad=>h x (by simp[ad])]
def Qa(af:right t=true)(ai:j<t.ns.length):kM al t.ns j=Cf al t.ns t.ns[j] (kM al t.ns):=by refine B8 (λd g dM h=>?_) af ai;unfold Cf;rw[Xu λk ae=>by rw[h k ae]]
def aiR(w:Bool)(s:List UInt8):(paren w s).length<=s.length+2:=by cases w<;>simp[paren]
def Xv{sep:List UInt8}{f:Int->List UInt8}(au:sep.length<=3){g:Int->Nat}(aA:∀ k,(f k).length+3<=g k):∀ {ks:List Int} {b:Bool},(sT sep f b ks).length<=g3 g ks
 |[],b=>by simp[sT,g3]
 |k::ks,b=>by
  have aa:=Xv au aA (ks:=ks) (b:=true);have ab:=aA k;unfold sT;simp only[b3,g3,bX,hI]at aa |-;cases b<;>simp<;>omega
def Qb(al:List Int){d:ap}(aA:Lm d):(kl al d).length<=2400:=by
 have aa:(yj d.t).length<=2+4*d.t.size:=by have:=Hv (o9 · Cd) 4 (λc=>Hs c Cd) d.t.data.toList;have ab:d.t.data.toList.length=d.t.size:=rfl;simp only[yj,b3,c2,fs];omega
 have ab:=aiI al d.cC d.s1 d.s2 d.c0;have aj:=aA.t;have aG:=HB 27;have bx:=HB (d.k.toNat*3);have bZ:d.t.data.toList.length=d.t.size:=rfl;unfold kl;cases(decide (d.k=0)||decide (d.k=2))<;>cases decide (d.k=1)<;>cases decide (d.k=3)<;>cases decide (d.k=9)<;>simp only[cb,b5,b3,c2,fs]<;>omega
def Ln(d:ap):(mK d).length<=7:=by
 have aa:=aiL d.lo.toNat d.hi;have ab:=HB (d.k.toNat*3+2);unfold mK;cases decide (d.k=6)<;>simp only[cb,b5]<;>omega
def Lo{α:Type}(c:Nat):∀ l:List α,(l.map λ_=>c).sum=c*l.length
 |[]=>by simp
 |x::l=>by rw[bX,hI,Lo c l,c2,zO];omega
def Xw(af:right t=true):(kM al t.ns t.bA).length+5<=2412*t.ns.length:=by
 have h:=P0 af (g:=λk=>(kM al t.ns k).length+5) (c:=λ_=>2412) λj ai=>by rw[Qa af ai];have aa:=Qb al (P8 (Es af ai));have ab:=Ln t.ns[j];have aj:=Xv (sep:=np t.ns[j]) (HB _) (f:=λk=>paren (gv t.ns[j].k (hA t.ns k)) (kM al t.ns k)) (g:=λk=>(kM al t.ns k).length+5) (λk=>by have:=aiR (gv t.ns[j].k (hA t.ns k)) (kM al t.ns k);omega) (ks:=t.ns[j].aw) (b:=false);unfold Cf;simp only[b3];omega
 rw[Lo]at h;exact h
def Xx(al:List Int)(t:bP):(i' al t).length<=2412*t.ns.length:=by
 unfold i';cases af:right t with
 |false=>simp| true=>have:=Xw (al:=al) af;simp only[cb];omega
abbrev Open:=Nat×Nat×Bool
def n2(e:Open):List Value:=[.int .i64 e.1,.int .i64 e.2.1,.bool e.2.2]
def nodeAt(ns:List ap)(j:Nat):ap:=ns.getD j ⟨0,0,0,0,0,.empty,0,0,none,0,0,[]⟩
def Qc(al:List Int)(ns:List ap)(d:ap)(k:Int):List UInt8:=paren (gv d.k (hA ns k)) (kM al ns k)
def pb(al:List Int)(ns:List ap)(e:Open):List UInt8:=bif decide ((e.2.1:Int)=0)then(bif e.2.2 then [40]else [])++kl al (nodeAt ns e.1)else []
def vd(al:List Int)(ns:List ap)(e:Open):List UInt8:=
 pb al ns e++(sT (np (nodeAt ns e.1)) (Qc al ns (nodeAt ns e.1)) (decide (0<(e.2.1:Int))) ((nodeAt ns e.1).aw.drop e.2.1)++(mK (nodeAt ns e.1)++(bif e.2.2 then [41]else [])))
def zY(ns:List ap):Int->Nat:=lH 0 (λd g=>2+g3 g d.aw) ns
def ot(ns:List ap)(e:Open):Nat:=1+g3 (zY ns) ((nodeAt ns e.1).aw.drop e.2.1)
def wI(ns:List ap)(aX:List Open):Nat:=(aX.map (ot ns)).sum
def ve(al:List Int)(ns:List ap)(aX:List Open):List UInt8:=aX.reverse.flatMap (vd al ns)
def Cg(al:List Int)(ns:List ap)(aX:List Open)(e:Open):ve al ns (aX++[e])=vd al ns e++ve al ns aX:=by simp[ve]
def sU(ns:List ap)(aX:List Open)(e:Open):wI ns (aX++[e])=wI ns aX+ot ns e:=by simp[wI]
def Xy(ns:List ap):∀ aX:List Open,aX.length<=wI ns aX
 |[]=>by simp
 |e::aX=>by have:=Xy ns aX;simp only[wI,bX,hI,c2,ot]at this |-;omega
def gg{ns:List ap}(h:j<ns.length):nodeAt ns j=ns[j]:=by simp[nodeAt,bt,h]
def Xz{g dM:Int->Nat}{ks:List Int}(h:∀ k∈ks,g k=dM k):g3 g ks=g3 dM ks:=by unfold g3;rw[fO h]
def XA(af:right t=true)(ai:j<t.ns.length):zY t.ns j=2+g3 (zY t.ns) t.ns[j].aw:=
 B8 (λd g dM h=>by rw[Xz h]) af ai
def aiS(af:right t=true):zY t.ns t.bA<=2*t.ns.length:=by
 have:=P0 af (g:=zY t.ns) (c:=λ_=>2) λj ai=>by rw[XA af ai];exact b2 _
 rwa [Lo]at this
def XB(af:right t=true)(ai:j<t.ns.length)(w:Bool):vd al t.ns (j,0,w)=paren w (kM al t.ns j):=by rw[Qa af ai];simp only[vd,pb,gg ai];cases w<;>simp[paren,Cf,Qc]<;>rfl
def XC(af:right t=true)(ai:j<t.ns.length)(w:Bool):ot t.ns (j,0,w)+1=zY t.ns j:=by rw[XA af ai];simp[ot,gg ai];omega
def Qd(af:right t=true)(ai:j<t.ns.length)(hi:i<t.ns[j].aw.length) :
  vd al t.ns (j,i,w)=pb al t.ns (j,i,w)++((bif decide (0<(i:Int))then np t.ns[j]else [])++(vd al t.ns (t.ns[j].aw[i].toNat,0,gv t.ns[j].k (hA t.ns t.ns[j].aw[i]))++vd al t.ns (j,i+1,w))):=by
 have ae:=mG af j ai _ (bi hi);rw[XB af (by omega)];have aJ:(((t.ns[j].aw[i].toNat:Nat):Int))=t.ns[j].aw[i]:=zL ae.1;rw[aJ];have ak:=e1 hi;simp only[vd,gg ai];rw[ak];have a4:pb al t.ns (j,i+1,w)=[]:=by have:decide (((i+1:Nat):Int)=0)=false:=dU (by omega);simp only[pb,this,b5]
 have cn:decide (0<((i+1:Nat):Int))=true:=eV (by omega);rw[a4,cn];simp only[sT,Qc,dY,iF]
def Qe(af:right t=true)(ai:j<t.ns.length){w':Bool}(hi:i<t.ns[j].aw.length):ot t.ns (j,i+1,w)+ot t.ns (t.ns[j].aw[i].toNat,0,w')+1=ot t.ns (j,i,w):=by
 have ae:=mG af j ai _ (bi hi);have aa:=XC af (j:=t.ns[j].aw[i].toNat) (by omega) w';have aJ:(((t.ns[j].aw[i].toNat:Nat):Int))=t.ns[j].aw[i]:=zL ae.1;rw[aJ]at aa;have ak:=e1 hi;have cn:ot t.ns (j,i,w)=1+g3 (zY t.ns) (t.ns[j].aw.drop i):=by simp[ot,gg ai]
 have dc:ot t.ns (j,i+1,w)=1+g3 (zY t.ns) (t.ns[j].aw.drop (i+1)):=by simp[ot,gg ai]
 rw[cn,dc,ak];simp only[g3,bX,hI];omega
def Qf(ai:j<t.ns.length)(hi:t.ns[j].aw.length<=i):vd al t.ns (j,i,w)=pb al t.ns (j,i,w)++(mK t.ns[j]++(bif w then [41]else [])):=by simp only[vd,gg ai,ki hi];rfl
def Ev{d:Nat}{x:dD}(h:F d=x):ga F d x=F:=by
 funext t;unfold ga;cases e:Nat.beq t d with
 |false=>rfl| true=>have:=dR e;subst this;exact h.symm
def aiT{d:Nat}{x:Option (List Value)}(h:C d=x):jF C d x=C:=by
 funext t;unfold jF;cases e:Nat.beq t d with
 |false=>rfl| true=>have:=dR e;subst this;exact h.symm
def Ew:Code->Code
 | .scope c=>c
 | .seq a b=>match Ew a with
  | .skip=>Ew b| c=>c
 |_=>.skip
def Lp(c:Code)(l:Nat):Code:=(findLabel c l).getD .skip
def b8.zT{M:List aE}{vs:List Value}{K:List aE->Prop}(a9 post:List aE)(cs:Array Value)(T:Nat)(a':M=a9++⟨b,.cells cs T (0,0)⟩::post)(ag:i+j+vs.length<=cs.size)(aa:gA vs=true)
  (h:K (a9++⟨b,.cells (ck cs.toList (i+j) vs).toArray T (0,0)⟩::post)):b8 M (((⟨b,0,none⟩:Addr).add i).add j) vs K:=by
 rw[Go.V.zT];refine b8.add a9 post cs T a' (by omega) aa ?_;rw[cX];exact h
structure fW(I:aM)(al:List Int):Prop where
 c:nh I
 p:P9 I
 s:HA I
 d:sQ I al
def Qg(a b c:α)(L:List α):(a::b::(L++[c])).Perm ([b,c]++(a::L)):=
 (List.Perm.swap b a _).trans (((((K7 c L).cons a)).trans (List.Perm.swap c a L)).cons b)
def Qh(a9:List Value)(a b c z:Value)(bk:List Value):ck (a9++([a,b,c]++bk)) (a9.length+1) [z]=a9++([a,z,c]++bk):=by have:=Xn a9 a b z (c::bk) _ rfl;exact this
def fW.mono{I':aM}(h:fW I al)(bz:∀ b o,I b=some o->I' b=some o):fW I' al:=by obtain⟨⟨aiU,f1,aa⟩,⟨Ch,f2,ab⟩,⟨aiV,f3,aj⟩,⟨aG,bx,Qi,f4,bZ⟩⟩:=h;exact⟨⟨aiU,f1,bz _ _ aa⟩,⟨Ch,f2,bz _ _ ab⟩,⟨aiV,f3,bz _ _ aj⟩,⟨aG,bx,Qi,f4,bz _ _ bZ⟩⟩
def p1(aX:List Open):List Value:=aX.flatMap n2
def HC(aX:List Open):(p1 aX).length=aX.length*3:=jm n2 3 (λ_=>rfl) aX
def Ci(aX:List Open)(e:Open):p1 (aX++[e])=p1 aX++[.int .i64 e.1,.int .i64 e.2.1,.bool e.2.2]:=by simp[p1,n2]
abbrev HD:=gu×aY×List Open×aM
def XD(t:bP)(g:Nat)(x:HD):wm:={ bj:=[(1,.ref 1 0),(3,.val (ptr g)),(4,.val x.2.1.val)],cl:=[(1,t.cells)],cI:=x.2.2.2,de:=x.2.1.ar 285++x.1.M g }
structure Lq(dt:aM)(al:List Int)(t:bP)(x:HD):Prop where
 le:∀ b o,dt b=some o->x.2.2.2 b=some o
 ok:x.1.ok
 os:x.2.1.ok 3 (p1 x.2.2.1)
 ne:x.2.2.1≠[]
 awq:∀ e∈x.2.2.1,e.1<t.ns.length
 awr:x.1.bJ++ve al t.ns x.2.2.1=kM al t.ns t.bA
 HE:wI t.ns x.2.2.1<=2*t.ns.length
def XE{dt:aM}(bp:fW dt al)(ax:t.ok dt)(af:right t=true)(aC:t.n<=1024){p:Nat->Nat×HD->Prop}(x:HD)(ad:Lq dt al t x)(aB:∀ y,Lq dt al t y->wI t.ns y.2.2.1<wI t.ns x.2.2.1->p 0 (g,y))(B:Nat)(az:World)(G:Fr)(pc:dF) :
  V ⟨Tryz.prog,qK,[3],Tryz.f191.ntmps,B,az,dt,[],none⟩ (Lp (Ew (Tryz.f191.body.getD .skip)) 0) (ga (ga (ga G 4 (.val x.2.1.val)) 3 (.val (ptr g))) 1 (.ref 1 0)) (jF pc 1 (some t.cells)) x.2.2.2 (x.2.1.ar 285++x.1.M g)
   (KY (λl=>pP [] (λy=>XD t y.1 y.2) (p l)) (uU ⟨Tryz.prog,qK,[3],Tryz.f191.ntmps,B,az,dt,[],none⟩ Tryz.f191.results.toList
    (λr I' M'=>r=.string (strOf (kM al t.ns t.bA))/\(∀ b o,dt b=some o->I' b=some o)/\M'=[]))):=by
 obtain⟨x,⟨yi,n,e4,aS⟩,aX,I1⟩:=x;obtain⟨bq,HF,bU,bs,e8,ou,r2⟩:=ad;simp only at bq HF bU bs e8 ou r2 aB |-;have jK:=bp.mono bq;have Cj:=ax.mono bq;have rQ:=ax.n;obtain⟨ia,⟨j,i,w⟩,rfl⟩:∃ ia e,aX=ia++[e]:=by
  rcases wG aX with h | ⟨r,e,h⟩;·exact(bs h).elim
  ·exact⟨r,e,by simpa using h⟩
 have fc:ia.length+1=n:=by have aa:=bU.len;rw[HC]at aa;simp at aa;omega
 have ai:j<t.ns.length:=e8 (j,i,w) (by simp);have iC:j<t.n:=by omega
 cases yi with
 |none=>have:=(bU.nil rfl).1;simp only at this;omega| some cK=>
 obtain⟨dK,nf,iY,eW⟩:=bU.cap cK rfl;simp only at dK nf iY eW;have gV:(p1 ia).length=(n-1)*3:=by rw[HC];omega
 obtain⟨bk,mJ⟩:∃ bk,aS=p1 ia++([.int .i64 j,.int .i64 i,.bool w]++bk):=by refine⟨aS.drop (n*3),?_⟩;have ab:=rY (n*3) aS;rw[eW,Ci,dY]at ab;exact ab.symm
 have aiW:aS[(n-1)*3+0]?=some (.int .i64 j):=by rw[mJ,<-gV,nj (by omega)];simp
 have sV:aS[(n-1)*3+1]?=some (.int .i64 i):=by rw[mJ,<-gV,nj (by omega)];simp
 have Lr:aS[(n-1)*3+2]?=some (.bool w):=by rw[mJ,<-gV,nj (by omega)];simp
 have vf:=Xw (al:=al) af;have hz:x.bJ.length<=2412*t.ns.length:=by have:=congrArg List.length ou;rw[b3]at this;omega
 have XF:=Xy t.ns (ia++[(j,i,w)]);simp only[b3,c2,fs]at XF;have hV:=Cj.ns t.ns[j] (bi ai);have ff:=hV.aO;have ru:=P8 (Es af ai);obtain⟨aU,bK,bm⟩:=Cj.a2.row ap.cT iC ai;rw[Cg]at ou;rw[sU]at r2 aB XF;have qS:IntKind.i64.wrap ((n:Int)-1)=((n-1:Nat):Int):=by rw[wrap_i64 ⟨by omega,by omega⟩];omega
 refine bg.mk (((n-1:Nat)):Int) qS ?_;refine bf.mk ⟨cK,0,none⟩ (n-1) rfl rfl (by show n-1<n;omega) ?_;refine c4.draw a7 rfl rfl rfl ?_;refine aR.mk [.int .i64 j] (n1 (b:=cK) (cs:=aS) (T:=285) (by simp[aY.ar]) aiW) ?_;refine bf.mk aU j bK rfl iC ?_;refine aR.mk _ (bm _) ?_;refine b'.mk λb6 Ck Qj=>?_;refine b8.mk [] (⟨cK,.cells aS.toArray 285 (0,0)⟩::x.M g) _ _ rfl rfl (bI rfl) rfl ?_;refine aR.mk [.int .i64 i] (n1 (b:=cK) (cs:=aS) (T:=285) (by simp[aY.ar]) sV) ?_;refine a3.mk (λaa=>?_) (λaa=>?_)
 ·refine aR.mk [.bool w] (n1 (b:=cK) (cs:=aS) (T:=285) (by simp[aY.ar]) Lr) ?_;refine a3.mk (λab=>?_) (λab=>?_)
  ·refine bd.mk (x.M g) [⟨b6,.cells t.ns[j].cells.toArray 66 (0,0)⟩,⟨cK,.cells aS.toArray 285 (0,0)⟩] _ (eI (l₁:=[_,_])) (pW g HF 40 (by omega)) ?_;rintro v dz dm -⟨rfl,rfl,y,aH,g4,rfl⟩;have Li:y.bJ.length<=2412*t.ns.length+1:=by rw[g4];simp;omega
   refine aR.mk _ (c5 (T:=66) (b:=b6) (cs:=t.ns[j].cells) (k:=0) (n:=9) (by simp) (bI rfl)) ?_;refine bd.mk [] (y.M g++[⟨b6,.cells t.ns[j].cells.toArray 66 (0,0)⟩,⟨cK,.cells aS.toArray 285 (0,0)⟩]) _ (by simp) (Xt jK.d jK.s hV ru) ?_;rintro v dz dm -⟨rfl,et,rfl⟩;have iP:∀ b o,dt b=some o->dz b=some o:=λb o h=>et _ _ (bq _ _ h);have Ex:=Qb al ru;refine bd.mk (y.M g) [⟨b6,.cells t.ns[j].cells.toArray 66 (0,0)⟩,⟨cK,.cells aS.toArray 285 (0,0)⟩] _ (by simp) (u5 g aH _ (by show _+(kl al t.ns[j]).length<=_;omega)) ?_;rintro v h9 sL -⟨rfl,rfl,u,hu,ye,rfl⟩;have sW:u.bJ=x.bJ++pb al t.ns (j,i,w):=by rw[ye,g4];simp only[pb,aa,ab,gg ai,cb,b5];simp[strOf]
   have zV:u.bJ.length<=2412*t.ns.length+2401:=by rw[sW,b3];simp only[pb,aa,ab,gg ai,cb,b5,b3,c2,fs];omega
   have iw:=bp.mono iP;have sX:=ax.mono iP;have r3:=sX.ns t.ns[j] (bi ai);have HG:∀ {k m:Nat},k+m<=9->cO h9 (u.M g++[⟨b6,.cells t.ns[j].cells.toArray 66 (0,0)⟩,⟨cK,.cells aS.toArray 285 (0,0)⟩]) ((⟨b6,0,none⟩:Addr).add k) m ((t.ns[j].cells.drop k).take m):=λh=>c5 (T:=66) (by simp) h;refine c4.draw a7 rfl rfl rfl ?_;refine aR.mk [.int .i64 i] (n1 (b:=cK) (cs:=aS) (T:=285) (by simp[aY.ar]) sV) ?_;refine aR.mk _ (HG (by decide)) ?_;refine a3.mk (λae=>?_) (λae=>?_)
   ·have dL:i<t.ns[j].aO:=by simpa using ae
    have mb:i<t.ns[j].aw.length:=by omega
    obtain⟨gr,fB,eY⟩:=r3.a2.one dL mb;have eX:=mG af j ai _ (bi mb);obtain⟨q,wJ⟩:=ea eX.1;have eb:q<t.ns.length:=by omega
    have pd:q<t.n:=by omega
    obtain⟨ov,tY,yl⟩:=sX.a2.row ap.cT pd eb;have ju:∀ M,cO h9 M ((ov.add (q*9)).add 0) 1 [.int .u8 t.ns[q].k]:=λM=>(yl M).part (k:=0) (m:=1) (by decide);have vg:hA t.ns ((q:Nat):Int)=t.ns[q].k:=by simp[hA,bt,eb]
    have hX:=Qd (al:=al) af ai (w:=w) mb;have zZ:=Qe af ai (w:=w) (w':=gv t.ns[j].k t.ns[q].k) mb;rw[wJ]at hX zZ;simp only[x',gz]at hX zZ;rw[vg]at hX;have gq:IntKind.i64.wrap ((i:Int)+1)=((i+1:Nat):Int):=by have:=r3.a2.cap;rw[wrap_i64 ⟨by omega,by omega⟩];omega
    have dO:ck aS ((n-1)*3+1) [.int .i64 ((i+1:Nat):Int)]=p1 ia++([.int .i64 j,.int .i64 ((i+1:Nat):Int),.bool w]++bk):=by rw[mJ,<-gV];exact Qh _ _ _ _ _ _
    have Cl:aY.ok ⟨some cK,n,e4,ck aS ((n-1)*3+1) [.int .i64 ((i+1:Nat):Int)]⟩ 3 (p1 (ia++[(j,i+1,w)])):=by
     rw[dO,Ci];refine⟨by simp only[b3,c2,fs];omega,(λh=>by cases h),λbR _=>⟨?_,nf,iY,?_⟩⟩;·simp only;rw[<-dK,mJ];simp
     ·simp only;rw[<-dY];refine qO ?_;simp only[b3,c2,fs];omega
    refine aR.mk [.int .i64 i] (n1 (b:=cK) (cs:=aS) (T:=285) (by simp[aY.ar]) sV) ?_;refine a3.mk (λbb=>by simp at aa bb;omega) (λbb=>?_);refine c4.draw a7 rfl rfl rfl ?_;refine aR.mk _ (c5 (T:=66) (b:=b6) (cs:=t.ns[j].cells) (k:=8) (n:=1) (by simp) (bI rfl)) ?_;refine aR.mk [.int .i64 i] (n1 (b:=cK) (cs:=aS) (T:=285) (by simp[aY.ar]) sV) ?_;refine bf.mk gr i fB rfl dL ?_;refine aR.mk [.int .i64 (q:Nat)] (by have dZ:=eY;rw[wJ]at dZ;exact dZ _) ?_;refine aR.mk [.int .i64 i] (n1 (b:=cK) (cs:=aS) (T:=285) (by simp[aY.ar]) sV) ?_;refine bg.mk ((i+1:Nat):Int) gq ?_;refine b8.zT (u.M g++[⟨b6,.cells t.ns[j].cells.toArray 66 (0,0)⟩]) [] aS.toArray 285 (by simp[aY.ar]) ?_ rfl ?_;·simp only[oZ];show(n-1)*3+1+1<=_;omega
    refine c4.draw a7 rfl rfl rfl ?_;refine aR.mk [.int .u8 t.ns[j].k] (c5 (T:=66) (b:=b6) (cs:=t.ns[j].cells) (k:=0) (n:=1) (by simp) (bI rfl)) ?_;refine bf.mk ov q tY rfl pd ?_;refine aR.mk [.int .u8 t.ns[q].k] (ju _) ?_;refine eR.mk _ (P3 t.ns[j].k t.ns[q].k) ?_;rintro v z0 pT -⟨rfl,rfl,rfl⟩;refine b'.mk λb9 lf vh=>?_;refine bB.append a7 rfl (by simp) (e:=285) rfl rfl rfl ⟨some cK,n,e4,ck aS ((n-1)*3+1) [.int .i64 ((i+1:Nat):Int)]⟩ (xs:=p1 (ia++[(j,i+1,w)])) Cl rfl (m:=1) rfl (ch:=n2 (q,0,gv t.ns[j].k t.ns[q].k)) (by decide) (c5 (b:=b9) (cs:=n2 (q,0,gv t.ns[j].k t.ns[q].k)) (k:=0) (n:=3) (T:=285) (.head _) (bI rfl)) rfl (Mr:=⟨b9,.cells (n2 (q,0,gv t.ns[j].k t.ns[q].k)).toArray 285 (0,0)⟩::(u.M g++[⟨b6,.cells t.ns[j].cells.toArray 66 (0,0)⟩])) (by exact eI (l₁:=(⟨b9,.cells (n2 (q,0,gv t.ns[j].k t.ns[q].k)).toArray 285 (0,0)⟩:aE)::(u.M g++[⟨b6,.cells t.ns[j].cells.toArray 66 (0,0)⟩])) (l₂:=[⟨cK,.cells (ck aS ((n-1)*3+1) [.int .i64 ((i+1:Nat):Int)]).toArray 285 (0,0)⟩])) (by show n+1<=_;simp only[maxLen];omega) (by show(n+1)*24<=_;omega) ?_;intro dM c' hJ dJ eO eJ iN;refine⟨(g,u,⟨some dM,n+1,c',hJ⟩,ia++[(j,i+1,w)]++[(q,0,gv t.ns[j].k t.ns[q].k)],_),aB _ ⟨iP,hu,⟨?_,(λh=>by cases h),λbR _=>⟨dJ,eO,eJ,?_⟩⟩,by simp,?_,?_,?_⟩ ?_,.perm (M1:=[⟨b9,.cells (n2 (q,0,gv t.ns[j].k t.ns[q].k)).toArray 285 (0,0)⟩,⟨b6,.cells t.ns[j].cells.toArray 66 (0,0)⟩]++(⟨dM,.cells hJ.toArray 285 (0,0)⟩::u.M g)) (Qg _ _ _ _) (.sub (mw _ _) .refl),ht,.cons rfl .nil⟩;·show _=(n+1)*3;rw[HC];simp;omega
    ·show hJ.take ((n+1)*3)=_;rw[Ci (ia++[(j,i+1,w)])];exact iN
    ·intro e he;simp only[cF,ec]at he;rcases he with(he | rfl) | rfl
     ·exact e8 e (by simp[he])
     ·exact ai
     ·exact eb
    ·simp only;rw[Cg,Cg,sW,<-ou,hX];rw[show decide (0<(i:Int))=false from bb];simp
    ·simp only;rw[sU,sU];omega
    ·simp only;rw[sU,sU];omega
   ·have dL:t.ns[j].aw.length<=i:=by simp at ae;omega
    have hX:=Qf (al:=al) ai (w:=w) dL;have nc:=Ln t.ns[j];refine aR.mk _ (c5 (T:=66) (b:=b6) (cs:=t.ns[j].cells) (k:=0) (n:=9) (by simp) (bI rfl)) ?_;refine bd.mk [] (u.M g++[⟨b6,.cells t.ns[j].cells.toArray 66 (0,0)⟩,⟨cK,.cells aS.toArray 285 (0,0)⟩]) _ (.refl _) (P' iw.c iw.p iw.s r3 ru) ?_;rintro v z0 pT -⟨rfl,rfl,rfl⟩;refine bd.mk (u.M g) [⟨b6,.cells t.ns[j].cells.toArray 66 (0,0)⟩,⟨cK,.cells aS.toArray 285 (0,0)⟩] _ (by simp) (u5 g hu _ (by show _+(mK t.ns[j]).length<=_;omega)) ?_;rintro v tZ XG -⟨rfl,rfl,a,a6,kN,rfl⟩;have XH:a.bJ.length<=2412*t.ns.length+2410:=by rw[kN,b3];show _+(mK t.ns[j]).length<=_;omega
    refine aR.mk [.bool w] (n1 (b:=cK) (cs:=aS) (T:=285) (by simp[aY.ar]) Lr) ?_;refine a3.mk (λhw=>?_) (λhw=>?_)
    ·subst hw;refine bd.mk (a.M g) [⟨b6,.cells t.ns[j].cells.toArray 66 (0,0)⟩,⟨cK,.cells aS.toArray 285 (0,0)⟩] _ (by simp) (pW g a6 41 (by omega)) ?_;rintro v XI XJ -⟨rfl,rfl,c,an,jS,rfl⟩;refine bg.mk (((n-1:Nat)):Int) qS ?_;refine ms.mk 0 (n-1) rfl rfl (dw _) (by show n-1<=e4;omega) ?_;refine a3.mk (λbb=>?_) (λbb=>?_)
     ·have ha:0<n-1:=by simp at bb;omega
      refine⟨(g,c,⟨some cK,n-1,e4,aS⟩,ia,_),aB _ ⟨iP,an,⟨?_,(λh=>by cases h),λbR _=>⟨dK,by show n-1<=e4;omega,iY,?_⟩⟩,?_,λe he=>e8 e (by simp[he]),?_,?_⟩ ?_,.perm (M1:=[⟨b6,.cells t.ns[j].cells.toArray 66 (0,0)⟩]++(⟨cK,.cells aS.toArray 285 (0,0)⟩::c.M g)) (eI (l₂:=[_,_])) (.sub (mw _ _) .refl),ht,.cons rfl .nil⟩;·exact gV
      ·show aS.take ((n-1)*3)=_;rw[mJ,<-gV];exact qO rfl
      ·intro h;simp only at h;rw[h]at fc;simp at fc;omega
      ·simp only;rw[jS,kN,sW,<-ou,hX];simp[strOf]
      ·simp only;omega
      ·simp only[ot];omega
     ·have ha:n-1=0:=by simp at bb;omega
      have vi:ia=[]:=iq (by omega);have n3:c.bJ=kM al t.ns t.bA:=by rw[jS,kN,sW,<-ou,hX,vi];simp[ve,strOf]
      refine bd.mk (c.M g) [⟨b6,.cells t.ns[j].cells.toArray 66 (0,0)⟩,⟨cK,.cells aS.toArray 285 (0,0)⟩] _ (by simp) (yc g an (by rw[n3];omega)) ?_;rintro v HH HI -⟨rfl,rfl,rfl⟩;refine⟨_,_,.sub (fk _) .refl,?_,iP,rfl⟩;rw[n3];rfl
    ·subst hw;refine bg.mk (((n-1:Nat)):Int) qS ?_;refine ms.mk 0 (n-1) rfl rfl (dw _) (by show n-1<=e4;omega) ?_;refine a3.mk (λbb=>?_) (λbb=>?_)
     ·have ha:0<n-1:=by simp at bb;omega
      refine⟨(g,a,⟨some cK,n-1,e4,aS⟩,ia,_),aB _ ⟨iP,a6,⟨?_,(λh=>by cases h),λbR _=>⟨dK,by show n-1<=e4;omega,iY,?_⟩⟩,?_,λe he=>e8 e (by simp[he]),?_,?_⟩ ?_,.perm (M1:=[⟨b6,.cells t.ns[j].cells.toArray 66 (0,0)⟩]++(⟨cK,.cells aS.toArray 285 (0,0)⟩::a.M g)) (eI (l₂:=[_,_])) (.sub (mw _ _) .refl),ht,.cons rfl .nil⟩;·exact gV
      ·show aS.take ((n-1)*3)=_;rw[mJ,<-gV];exact qO rfl
      ·intro h;simp only at h;rw[h]at fc;simp at fc;omega
      ·simp only;rw[kN,sW,<-ou,hX];simp[strOf]
      ·simp only;omega
      ·simp only[ot];omega
     ·have ha:n-1=0:=by simp at bb;omega
      have vi:ia=[]:=iq (by omega);have n3:a.bJ=kM al t.ns t.bA:=by rw[kN,sW,<-ou,hX,vi];simp[ve,strOf]
      refine bd.mk (a.M g) [⟨b6,.cells t.ns[j].cells.toArray 66 (0,0)⟩,⟨cK,.cells aS.toArray 285 (0,0)⟩] _ (by simp) (yc g a6 (by rw[n3];omega)) ?_;rintro v HH HI -⟨rfl,rfl,rfl⟩;refine⟨_,_,.sub (fk _) .refl,?_,iP,rfl⟩;rw[n3];rfl
  ·refine aR.mk _ (c5 (T:=66) (b:=b6) (cs:=t.ns[j].cells) (k:=0) (n:=9) (.head _) (bI rfl)) ?_;refine bd.mk [] (⟨b6,.cells t.ns[j].cells.toArray 66 (0,0)⟩::⟨cK,.cells aS.toArray 285 (0,0)⟩::x.M g) _ (.refl _) (Xt jK.d jK.s hV ru) ?_;rintro v dz dm -⟨rfl,et,rfl⟩;have iP:∀ b o,dt b=some o->dz b=some o:=λb o h=>et _ _ (bq _ _ h);have Ex:=Qb al ru;refine bd.mk (x.M g) [⟨b6,.cells t.ns[j].cells.toArray 66 (0,0)⟩,⟨cK,.cells aS.toArray 285 (0,0)⟩] _ (eI (l₁:=[_,_])) (u5 g HF _ (by show _+(kl al t.ns[j]).length<=_;omega)) ?_;rintro v h9 sL -⟨rfl,rfl,u,hu,ye,rfl⟩;have sW:u.bJ=x.bJ++pb al t.ns (j,i,w):=by rw[ye];simp only[pb,aa,ab,gg ai,cb,b5];simp[strOf]
   have zV:u.bJ.length<=2412*t.ns.length+2401:=by rw[sW,b3];simp only[pb,aa,ab,gg ai,cb,b5,b3,c2,fs];omega
   have iw:=bp.mono iP;have sX:=ax.mono iP;have r3:=sX.ns t.ns[j] (bi ai);have HG:∀ {k m:Nat},k+m<=9->cO h9 (u.M g++[⟨b6,.cells t.ns[j].cells.toArray 66 (0,0)⟩,⟨cK,.cells aS.toArray 285 (0,0)⟩]) ((⟨b6,0,none⟩:Addr).add k) m ((t.ns[j].cells.drop k).take m):=λh=>c5 (T:=66) (by simp) h;refine c4.draw a7 rfl rfl rfl ?_;refine aR.mk [.int .i64 i] (n1 (b:=cK) (cs:=aS) (T:=285) (by simp[aY.ar]) sV) ?_;refine aR.mk _ (HG (by decide)) ?_;refine a3.mk (λae=>?_) (λae=>?_)
   ·have dL:i<t.ns[j].aO:=by simpa using ae
    have mb:i<t.ns[j].aw.length:=by omega
    obtain⟨gr,fB,eY⟩:=r3.a2.one dL mb;have eX:=mG af j ai _ (bi mb);obtain⟨q,wJ⟩:=ea eX.1;have eb:q<t.ns.length:=by omega
    have pd:q<t.n:=by omega
    obtain⟨ov,tY,yl⟩:=sX.a2.row ap.cT pd eb;have ju:∀ M,cO h9 M ((ov.add (q*9)).add 0) 1 [.int .u8 t.ns[q].k]:=λM=>(yl M).part (k:=0) (m:=1) (by decide);have vg:hA t.ns ((q:Nat):Int)=t.ns[q].k:=by simp[hA,bt,eb]
    have hX:=Qd (al:=al) af ai (w:=w) mb;have zZ:=Qe af ai (w:=w) (w':=gv t.ns[j].k t.ns[q].k) mb;rw[wJ]at hX zZ;simp only[x',gz]at hX zZ;rw[vg]at hX;have gq:IntKind.i64.wrap ((i:Int)+1)=((i+1:Nat):Int):=by have:=r3.a2.cap;rw[wrap_i64 ⟨by omega,by omega⟩];omega
    have dO:ck aS ((n-1)*3+1) [.int .i64 ((i+1:Nat):Int)]=p1 ia++([.int .i64 j,.int .i64 ((i+1:Nat):Int),.bool w]++bk):=by rw[mJ,<-gV];exact Qh _ _ _ _ _ _
    have Cl:aY.ok ⟨some cK,n,e4,ck aS ((n-1)*3+1) [.int .i64 ((i+1:Nat):Int)]⟩ 3 (p1 (ia++[(j,i+1,w)])):=by
     rw[dO,Ci];refine⟨by simp only[b3,c2,fs];omega,(λh=>by cases h),λbR _=>⟨?_,nf,iY,?_⟩⟩;·simp only;rw[<-dK,mJ];simp
     ·simp only;rw[<-dY];refine qO ?_;simp only[b3,c2,fs];omega
    refine aR.mk [.int .i64 i] (n1 (b:=cK) (cs:=aS) (T:=285) (by simp[aY.ar]) sV) ?_;refine a3.mk (λbb=>by simp at aa bb;omega) (λbb=>?_);refine c4.draw a7 rfl rfl rfl ?_;refine aR.mk _ (c5 (T:=66) (b:=b6) (cs:=t.ns[j].cells) (k:=8) (n:=1) (by simp) (bI rfl)) ?_;refine aR.mk [.int .i64 i] (n1 (b:=cK) (cs:=aS) (T:=285) (by simp[aY.ar]) sV) ?_;refine bf.mk gr i fB rfl dL ?_;refine aR.mk [.int .i64 (q:Nat)] (by have dZ:=eY;rw[wJ]at dZ;exact dZ _) ?_;refine aR.mk [.int .i64 i] (n1 (b:=cK) (cs:=aS) (T:=285) (by simp[aY.ar]) sV) ?_;refine bg.mk ((i+1:Nat):Int) gq ?_;refine b8.zT (u.M g++[⟨b6,.cells t.ns[j].cells.toArray 66 (0,0)⟩]) [] aS.toArray 285 (by simp[aY.ar]) ?_ rfl ?_;·simp only[oZ];show(n-1)*3+1+1<=_;omega
    refine c4.draw a7 rfl rfl rfl ?_;refine aR.mk [.int .u8 t.ns[j].k] (c5 (T:=66) (b:=b6) (cs:=t.ns[j].cells) (k:=0) (n:=1) (by simp) (bI rfl)) ?_;refine bf.mk ov q tY rfl pd ?_;refine aR.mk [.int .u8 t.ns[q].k] (ju _) ?_;refine eR.mk _ (P3 t.ns[j].k t.ns[q].k) ?_;rintro v z0 pT -⟨rfl,rfl,rfl⟩;refine b'.mk λb9 lf vh=>?_;refine bB.append a7 rfl (by simp) (e:=285) rfl rfl rfl ⟨some cK,n,e4,ck aS ((n-1)*3+1) [.int .i64 ((i+1:Nat):Int)]⟩ (xs:=p1 (ia++[(j,i+1,w)])) Cl rfl (m:=1) rfl (ch:=n2 (q,0,gv t.ns[j].k t.ns[q].k)) (by decide) (c5 (b:=b9) (cs:=n2 (q,0,gv t.ns[j].k t.ns[q].k)) (k:=0) (n:=3) (T:=285) (.head _) (bI rfl)) rfl (Mr:=⟨b9,.cells (n2 (q,0,gv t.ns[j].k t.ns[q].k)).toArray 285 (0,0)⟩::(u.M g++[⟨b6,.cells t.ns[j].cells.toArray 66 (0,0)⟩])) (by exact eI (l₁:=(⟨b9,.cells (n2 (q,0,gv t.ns[j].k t.ns[q].k)).toArray 285 (0,0)⟩:aE)::(u.M g++[⟨b6,.cells t.ns[j].cells.toArray 66 (0,0)⟩])) (l₂:=[⟨cK,.cells (ck aS ((n-1)*3+1) [.int .i64 ((i+1:Nat):Int)]).toArray 285 (0,0)⟩])) (by show n+1<=_;simp only[maxLen];omega) (by show(n+1)*24<=_;omega) ?_;intro dM c' hJ dJ eO eJ iN;refine⟨(g,u,⟨some dM,n+1,c',hJ⟩,ia++[(j,i+1,w)]++[(q,0,gv t.ns[j].k t.ns[q].k)],_),aB _ ⟨iP,hu,⟨?_,(λh=>by cases h),λbR _=>⟨dJ,eO,eJ,?_⟩⟩,by simp,?_,?_,?_⟩ ?_,.perm (M1:=[⟨b9,.cells (n2 (q,0,gv t.ns[j].k t.ns[q].k)).toArray 285 (0,0)⟩,⟨b6,.cells t.ns[j].cells.toArray 66 (0,0)⟩]++(⟨dM,.cells hJ.toArray 285 (0,0)⟩::u.M g)) (Qg _ _ _ _) (.sub (mw _ _) .refl),ht,.cons rfl .nil⟩;·show _=(n+1)*3;rw[HC];simp;omega
    ·show hJ.take ((n+1)*3)=_;rw[Ci (ia++[(j,i+1,w)])];exact iN
    ·intro e he;simp only[cF,ec]at he;rcases he with(he | rfl) | rfl
     ·exact e8 e (by simp[he])
     ·exact ai
     ·exact eb
    ·simp only;rw[Cg,Cg,sW,<-ou,hX];rw[show decide (0<(i:Int))=false from bb];simp
    ·simp only;rw[sU,sU];omega
    ·simp only;rw[sU,sU];omega
   ·have dL:t.ns[j].aw.length<=i:=by simp at ae;omega
    have hX:=Qf (al:=al) ai (w:=w) dL;have nc:=Ln t.ns[j];refine aR.mk _ (c5 (T:=66) (b:=b6) (cs:=t.ns[j].cells) (k:=0) (n:=9) (by simp) (bI rfl)) ?_;refine bd.mk [] (u.M g++[⟨b6,.cells t.ns[j].cells.toArray 66 (0,0)⟩,⟨cK,.cells aS.toArray 285 (0,0)⟩]) _ (.refl _) (P' iw.c iw.p iw.s r3 ru) ?_;rintro v z0 pT -⟨rfl,rfl,rfl⟩;refine bd.mk (u.M g) [⟨b6,.cells t.ns[j].cells.toArray 66 (0,0)⟩,⟨cK,.cells aS.toArray 285 (0,0)⟩] _ (by simp) (u5 g hu _ (by show _+(mK t.ns[j]).length<=_;omega)) ?_;rintro v tZ XG -⟨rfl,rfl,a,a6,kN,rfl⟩;have XH:a.bJ.length<=2412*t.ns.length+2410:=by rw[kN,b3];show _+(mK t.ns[j]).length<=_;omega
    refine aR.mk [.bool w] (n1 (b:=cK) (cs:=aS) (T:=285) (by simp[aY.ar]) Lr) ?_;refine a3.mk (λhw=>?_) (λhw=>?_)
    ·subst hw;refine bd.mk (a.M g) [⟨b6,.cells t.ns[j].cells.toArray 66 (0,0)⟩,⟨cK,.cells aS.toArray 285 (0,0)⟩] _ (by simp) (pW g a6 41 (by omega)) ?_;rintro v XI XJ -⟨rfl,rfl,c,an,jS,rfl⟩;refine bg.mk (((n-1:Nat)):Int) qS ?_;refine ms.mk 0 (n-1) rfl rfl (dw _) (by show n-1<=e4;omega) ?_;refine a3.mk (λbb=>?_) (λbb=>?_)
     ·have ha:0<n-1:=by simp at bb;omega
      refine⟨(g,c,⟨some cK,n-1,e4,aS⟩,ia,_),aB _ ⟨iP,an,⟨?_,(λh=>by cases h),λbR _=>⟨dK,by show n-1<=e4;omega,iY,?_⟩⟩,?_,λe he=>e8 e (by simp[he]),?_,?_⟩ ?_,.perm (M1:=[⟨b6,.cells t.ns[j].cells.toArray 66 (0,0)⟩]++(⟨cK,.cells aS.toArray 285 (0,0)⟩::c.M g)) (eI (l₂:=[_,_])) (.sub (mw _ _) .refl),ht,.cons rfl .nil⟩;·exact gV
      ·show aS.take ((n-1)*3)=_;rw[mJ,<-gV];exact qO rfl
      ·intro h;simp only at h;rw[h]at fc;simp at fc;omega
      ·simp only;rw[jS,kN,sW,<-ou,hX];simp[strOf]
      ·simp only;omega
      ·simp only[ot];omega
     ·have ha:n-1=0:=by simp at bb;omega
      have vi:ia=[]:=iq (by omega);have n3:c.bJ=kM al t.ns t.bA:=by rw[jS,kN,sW,<-ou,hX,vi];simp[ve,strOf]
      refine bd.mk (c.M g) [⟨b6,.cells t.ns[j].cells.toArray 66 (0,0)⟩,⟨cK,.cells aS.toArray 285 (0,0)⟩] _ (by simp) (yc g an (by rw[n3];omega)) ?_;rintro v HH HI -⟨rfl,rfl,rfl⟩;refine⟨_,_,.sub (fk _) .refl,?_,iP,rfl⟩;rw[n3];rfl
    ·subst hw;refine bg.mk (((n-1:Nat)):Int) qS ?_;refine ms.mk 0 (n-1) rfl rfl (dw _) (by show n-1<=e4;omega) ?_;refine a3.mk (λbb=>?_) (λbb=>?_)
     ·have ha:0<n-1:=by simp at bb;omega
      refine⟨(g,a,⟨some cK,n-1,e4,aS⟩,ia,_),aB _ ⟨iP,a6,⟨?_,(λh=>by cases h),λbR _=>⟨dK,by show n-1<=e4;omega,iY,?_⟩⟩,?_,λe he=>e8 e (by simp[he]),?_,?_⟩ ?_,.perm (M1:=[⟨b6,.cells t.ns[j].cells.toArray 66 (0,0)⟩]++(⟨cK,.cells aS.toArray 285 (0,0)⟩::a.M g)) (eI (l₂:=[_,_])) (.sub (mw _ _) .refl),ht,.cons rfl .nil⟩;·exact gV
      ·show aS.take ((n-1)*3)=_;rw[mJ,<-gV];exact qO rfl
      ·intro h;simp only at h;rw[h]at fc;simp at fc;omega
      ·simp only;rw[kN,sW,<-ou,hX];simp[strOf]
      ·simp only;omega
      ·simp only[ot];omega
     ·have ha:n-1=0:=by simp at bb;omega
      have vi:ia=[]:=iq (by omega);have n3:a.bJ=kM al t.ns t.bA:=by rw[kN,sW,<-ou,hX,vi];simp[ve,strOf]
      refine bd.mk (a.M g) [⟨b6,.cells t.ns[j].cells.toArray 66 (0,0)⟩,⟨cK,.cells aS.toArray 285 (0,0)⟩] _ (by simp) (yc g a6 (by rw[n3];omega)) ?_;rintro v HH HI -⟨rfl,rfl,rfl⟩;refine⟨_,_,.sub (fk _) .refl,?_,iP,rfl⟩;rw[n3];rfl
 ·have aws:x.bJ=x.bJ++pb al t.ns (j,i,w):=by simp only[pb,aa,b5,ed]
  have iw:=bp.mono bq;have sX:=ax.mono bq;have r3:=sX.ns t.ns[j] (bi ai);have HG:∀ {k m:Nat},k+m<=9->cO I1 (⟨b6,.cells t.ns[j].cells.toArray 66 (0,0)⟩::⟨cK,.cells aS.toArray 285 (0,0)⟩::x.M g) ((⟨b6,0,none⟩:Addr).add k) m ((t.ns[j].cells.drop k).take m):=λh=>c5 (T:=66) (by simp) h;refine c4.draw a7 rfl rfl rfl ?_;refine aR.mk [.int .i64 i] (n1 (b:=cK) (cs:=aS) (T:=285) (by simp[aY.ar]) sV) ?_;refine aR.mk _ (HG (by decide)) ?_;refine a3.mk (λae=>?_) (λae=>?_)
  ·have dL:i<t.ns[j].aO:=by simpa using ae
   have mb:i<t.ns[j].aw.length:=by omega
   obtain⟨gr,fB,eY⟩:=r3.a2.one dL mb;have eX:=mG af j ai _ (bi mb);obtain⟨q,wJ⟩:=ea eX.1;have eb:q<t.ns.length:=by omega
   have pd:q<t.n:=by omega
   obtain⟨ov,tY,yl⟩:=sX.a2.row ap.cT pd eb;have ju:∀ M,cO I1 M ((ov.add (q*9)).add 0) 1 [.int .u8 t.ns[q].k]:=λM=>(yl M).part (k:=0) (m:=1) (by decide);have vg:hA t.ns ((q:Nat):Int)=t.ns[q].k:=by simp[hA,bt,eb]
   have hX:=Qd (al:=al) af ai (w:=w) mb;have zZ:=Qe af ai (w:=w) (w':=gv t.ns[j].k t.ns[q].k) mb;rw[wJ]at hX zZ;simp only[x',gz]at hX zZ;rw[vg]at hX;have gq:IntKind.i64.wrap ((i:Int)+1)=((i+1:Nat):Int):=by have:=r3.a2.cap;rw[wrap_i64 ⟨by omega,by omega⟩];omega
   have dO:ck aS ((n-1)*3+1) [.int .i64 ((i+1:Nat):Int)]=p1 ia++([.int .i64 j,.int .i64 ((i+1:Nat):Int),.bool w]++bk):=by rw[mJ,<-gV];exact Qh _ _ _ _ _ _
   have Cl:aY.ok ⟨some cK,n,e4,ck aS ((n-1)*3+1) [.int .i64 ((i+1:Nat):Int)]⟩ 3 (p1 (ia++[(j,i+1,w)])):=by
    rw[dO,Ci];refine⟨by simp only[b3,c2,fs];omega,(λh=>by cases h),λbR _=>⟨?_,nf,iY,?_⟩⟩;·simp only;rw[<-dK,mJ];simp
    ·simp only;rw[<-dY];refine qO ?_;simp only[b3,c2,fs];omega
   refine aR.mk [.int .i64 i] (n1 (b:=cK) (cs:=aS) (T:=285) (by simp[aY.ar]) sV) ?_;refine a3.mk (λbb=>?_) (λbb=>by simp at aa bb;omega);refine aR.mk [.int .u8 t.ns[j].k] (c5 (T:=66) (b:=b6) (cs:=t.ns[j].cells) (k:=0) (n:=1) (.head _) (bI rfl)) ?_;refine eH.mk t.ns[j].k.toNat (by have:=r3.k;omega) (by have:=ru.k;have:=r3.k;omega) ?_;refine aR.mk _ (iw.s.rd _ (by have:=ru.k;have:=r3.k;show t.ns[j].k.toNat*3+1<30;omega)) ?_;refine bd.mk (x.M g) [⟨b6,.cells t.ns[j].cells.toArray 66 (0,0)⟩,⟨cK,.cells aS.toArray 285 (0,0)⟩] _ (eI (l₁:=[_,_])) (u5 g HF _ (by have:=HB (t.ns[j].k.toNat*3+1);show _+(r1 (t.ns[j].k.toNat*3+1)).length<=_;omega)) ?_;rintro v rS rR -⟨rfl,rfl,z,vj,aiX,rfl⟩;have tR:z.bJ=x.bJ++np t.ns[j]:=aiX;refine c4.draw a7 rfl rfl rfl ?_;refine aR.mk _ (c5 (T:=66) (b:=b6) (cs:=t.ns[j].cells) (k:=8) (n:=1) (by simp) (bI rfl)) ?_;refine aR.mk [.int .i64 i] (n1 (b:=cK) (cs:=aS) (T:=285) (by simp[aY.ar]) sV) ?_;refine bf.mk gr i fB rfl dL ?_;refine aR.mk [.int .i64 (q:Nat)] (by have dZ:=eY;rw[wJ]at dZ;exact dZ _) ?_;refine aR.mk [.int .i64 i] (n1 (b:=cK) (cs:=aS) (T:=285) (by simp[aY.ar]) sV) ?_;refine bg.mk ((i+1:Nat):Int) gq ?_;refine b8.zT (z.M g++[⟨b6,.cells t.ns[j].cells.toArray 66 (0,0)⟩]) [] aS.toArray 285 (by simp[aY.ar]) ?_ rfl ?_;·simp only[oZ];show(n-1)*3+1+1<=_;omega
   refine c4.draw a7 rfl rfl rfl ?_;refine aR.mk [.int .u8 t.ns[j].k] (c5 (T:=66) (b:=b6) (cs:=t.ns[j].cells) (k:=0) (n:=1) (by simp) (bI rfl)) ?_;refine bf.mk ov q tY rfl pd ?_;refine aR.mk [.int .u8 t.ns[q].k] (ju _) ?_;refine eR.mk _ (P3 t.ns[j].k t.ns[q].k) ?_;rintro v z0 pT -⟨rfl,rfl,rfl⟩;refine b'.mk λb9 lf vh=>?_;refine bB.append a7 rfl (by simp) (e:=285) rfl rfl rfl ⟨some cK,n,e4,ck aS ((n-1)*3+1) [.int .i64 ((i+1:Nat):Int)]⟩ (xs:=p1 (ia++[(j,i+1,w)])) Cl rfl (m:=1) rfl (ch:=n2 (q,0,gv t.ns[j].k t.ns[q].k)) (by decide) (c5 (b:=b9) (cs:=n2 (q,0,gv t.ns[j].k t.ns[q].k)) (k:=0) (n:=3) (T:=285) (.head _) (bI rfl)) rfl (Mr:=⟨b9,.cells (n2 (q,0,gv t.ns[j].k t.ns[q].k)).toArray 285 (0,0)⟩::(z.M g++[⟨b6,.cells t.ns[j].cells.toArray 66 (0,0)⟩])) (by exact eI (l₁:=(⟨b9,.cells (n2 (q,0,gv t.ns[j].k t.ns[q].k)).toArray 285 (0,0)⟩:aE)::(z.M g++[⟨b6,.cells t.ns[j].cells.toArray 66 (0,0)⟩])) (l₂:=[⟨cK,.cells (ck aS ((n-1)*3+1) [.int .i64 ((i+1:Nat):Int)]).toArray 285 (0,0)⟩])) (by show n+1<=_;simp only[maxLen];omega) (by show(n+1)*24<=_;omega) ?_;intro dM c' hJ dJ eO eJ iN;refine⟨(g,z,⟨some dM,n+1,c',hJ⟩,ia++[(j,i+1,w)]++[(q,0,gv t.ns[j].k t.ns[q].k)],_),aB _ ⟨bq,vj,⟨?_,(λh=>by cases h),λbR _=>⟨dJ,eO,eJ,?_⟩⟩,by simp,?_,?_,?_⟩ ?_,.perm (M1:=[⟨b9,.cells (n2 (q,0,gv t.ns[j].k t.ns[q].k)).toArray 285 (0,0)⟩,⟨b6,.cells t.ns[j].cells.toArray 66 (0,0)⟩]++(⟨dM,.cells hJ.toArray 285 (0,0)⟩::z.M g)) (Qg _ _ _ _) (.sub (mw _ _) .refl),ht,.cons rfl .nil⟩;·show _=(n+1)*3;rw[HC];simp;omega
   ·show hJ.take ((n+1)*3)=_;rw[Ci (ia++[(j,i+1,w)])];exact iN
   ·intro e he;simp only[cF,ec]at he;rcases he with(he | rfl) | rfl
    ·exact e8 e (by simp[he])
    ·exact ai
    ·exact eb
   ·simp only;rw[Cg,Cg,tR,<-ou,hX];rw[show decide (0<(i:Int))=true from bb,show pb al t.ns (j,i,w)=[]from by simp only[pb,aa,b5]];simp
   ·simp only;rw[sU,sU];omega
   ·simp only;rw[sU,sU];omega
  ·have dL:t.ns[j].aw.length<=i:=by simp at ae;omega
   have aiY:=Qf (al:=al) ai (w:=w) dL;have hX:vd al t.ns (j,i,w)=mK t.ns[j]++(bif w then [41]else []):=by rw[aiY];simp only[pb,aa,b5,iF]
   have nc:=Ln t.ns[j];refine aR.mk _ (c5 (T:=66) (b:=b6) (cs:=t.ns[j].cells) (k:=0) (n:=9) (.head _) (bI rfl)) ?_;refine bd.mk [] (⟨b6,.cells t.ns[j].cells.toArray 66 (0,0)⟩::⟨cK,.cells aS.toArray 285 (0,0)⟩::x.M g) _ (.refl _) (P' iw.c iw.p iw.s r3 ru) ?_;rintro v z0 pT -⟨rfl,rfl,rfl⟩;refine bd.mk (x.M g) [⟨b6,.cells t.ns[j].cells.toArray 66 (0,0)⟩,⟨cK,.cells aS.toArray 285 (0,0)⟩] _ (eI (l₁:=[_,_])) (u5 g HF _ (by show _+(mK t.ns[j]).length<=_;omega)) ?_;rintro v tZ XG -⟨rfl,rfl,a,a6,kN,rfl⟩;have XH:a.bJ.length<=2412*t.ns.length+2410:=by rw[kN,b3];show _+(mK t.ns[j]).length<=_;omega
   refine aR.mk [.bool w] (n1 (b:=cK) (cs:=aS) (T:=285) (by simp[aY.ar]) Lr) ?_;refine a3.mk (λhw=>?_) (λhw=>?_)
   ·subst hw;refine bd.mk (a.M g) [⟨b6,.cells t.ns[j].cells.toArray 66 (0,0)⟩,⟨cK,.cells aS.toArray 285 (0,0)⟩] _ (by simp) (pW g a6 41 (by omega)) ?_;rintro v XI XJ -⟨rfl,rfl,c,an,jS,rfl⟩;refine bg.mk (((n-1:Nat)):Int) qS ?_;refine ms.mk 0 (n-1) rfl rfl (dw _) (by show n-1<=e4;omega) ?_;refine a3.mk (λbb=>?_) (λbb=>?_)
    ·have ha:0<n-1:=by simp at bb;omega
     refine⟨(g,c,⟨some cK,n-1,e4,aS⟩,ia,_),aB _ ⟨bq,an,⟨?_,(λh=>by cases h),λbR _=>⟨dK,by show n-1<=e4;omega,iY,?_⟩⟩,?_,λe he=>e8 e (by simp[he]),?_,?_⟩ ?_,.perm (M1:=[⟨b6,.cells t.ns[j].cells.toArray 66 (0,0)⟩]++(⟨cK,.cells aS.toArray 285 (0,0)⟩::c.M g)) (eI (l₂:=[_,_])) (.sub (mw _ _) .refl),ht,.cons rfl .nil⟩;·exact gV
     ·show aS.take ((n-1)*3)=_;rw[mJ,<-gV];exact qO rfl
     ·intro h;simp only at h;rw[h]at fc;simp at fc;omega
     ·simp only;rw[jS,kN,<-ou,hX];simp[strOf]
     ·simp only;omega
     ·simp only[ot];omega
    ·have ha:n-1=0:=by simp at bb;omega
     have vi:ia=[]:=iq (by omega);have n3:c.bJ=kM al t.ns t.bA:=by rw[jS,kN,<-ou,hX,vi];simp[ve,strOf]
     refine bd.mk (c.M g) [⟨b6,.cells t.ns[j].cells.toArray 66 (0,0)⟩,⟨cK,.cells aS.toArray 285 (0,0)⟩] _ (by simp) (yc g an (by rw[n3];omega)) ?_;rintro v HH HI -⟨rfl,rfl,rfl⟩;refine⟨_,_,.sub (fk _) .refl,?_,bq,rfl⟩;rw[n3];rfl
   ·subst hw;refine bg.mk (((n-1:Nat)):Int) qS ?_;refine ms.mk 0 (n-1) rfl rfl (dw _) (by show n-1<=e4;omega) ?_;refine a3.mk (λbb=>?_) (λbb=>?_)
    ·have ha:0<n-1:=by simp at bb;omega
     refine⟨(g,a,⟨some cK,n-1,e4,aS⟩,ia,_),aB _ ⟨bq,a6,⟨?_,(λh=>by cases h),λbR _=>⟨dK,by show n-1<=e4;omega,iY,?_⟩⟩,?_,λe he=>e8 e (by simp[he]),?_,?_⟩ ?_,.perm (M1:=[⟨b6,.cells t.ns[j].cells.toArray 66 (0,0)⟩]++(⟨cK,.cells aS.toArray 285 (0,0)⟩::a.M g)) (eI (l₂:=[_,_])) (.sub (mw _ _) .refl),ht,.cons rfl .nil⟩;·exact gV
     ·show aS.take ((n-1)*3)=_;rw[mJ,<-gV];exact qO rfl
     ·intro h;simp only at h;rw[h]at fc;simp at fc;omega
     ·simp only;rw[kN,<-ou,hX];simp[strOf]
     ·simp only;omega
     ·simp only[ot];omega
    ·have ha:n-1=0:=by simp at bb;omega
     have vi:ia=[]:=iq (by omega);have n3:a.bJ=kM al t.ns t.bA:=by rw[kN,<-ou,hX,vi];simp[ve,strOf]
     refine bd.mk (a.M g) [⟨b6,.cells t.ns[j].cells.toArray 66 (0,0)⟩,⟨cK,.cells aS.toArray 285 (0,0)⟩] _ (by simp) (yc g a6 (by rw[n3];omega)) ?_;rintro v HH HI -⟨rfl,rfl,rfl⟩;refine⟨_,_,.sub (fk _) .refl,?_,bq,rfl⟩;rw[n3];rfl
def XK{X:cV}{c:Code}{M:List aE}{K:ke}{t1 t2 t3:Nat}{a b d:dD}{e:Option (List Value)}(h:∀ G pc,V X c (ga (ga (ga G t3 d) t2 b) t1 a) (jF pc t1 e) I M K)
  (aa:F t1=a) (ab:F t2=b) (aj:F t3=d) (aG:C t1=e):V X c F C I M K:=by
 have:=h F C;rwa [Ev aj,Ev ab,Ev aa,aiT aG]at this
def aiZ(bp:fW I al)(ax:t.ok I)(aC:t.n<=1024):Spec Tryz.prog 191 [t.val] I [] λr I' M'=>r=.string (strOf (i' al t))/\(∀ b o,I b=some o->I' b=some o)/\M'=[]:=by
 refine cg [3] a7 Tryz.func191 rfl rfl rfl ?_;intro B az;have rQ:=ax.n;cases af:right t with
 |true=>
  have Cm:i' al t=kM al t.ns t.bA:=by simp[i',af]
  rw[Cm];have tP:=qP af;obtain⟨r,pV⟩:=ea tP.1;have fC:r<t.ns.length:=by omega
  obtain⟨ns,pe,jZ,p2,bA⟩:=t;simp only at pV;subst pV;have pV:(⟨ns,pe,jZ,p2,Int.ofNat r⟩:bP).bA=Int.ofNat r:=rfl;refine c4.scope a7 rfl (λy:Nat×HD=>XD ⟨ns,pe,jZ,p2,Int.ofNat r⟩ y.1 y.2) (λ_=>0) (λy=>Lq I al ⟨ns,pe,jZ,p2,Int.ofNat r⟩ y.2) (λy=>wI ns y.2.2.2.1) (λ_=>Lp (Ew (Tryz.f191.body.getD .skip)) 0) (λ_ _=>⟨by kernel_rfl,by kernel_rfl⟩) ?_ ?_
  ·refine bd.mk [] [] _ (.refl _) (qM bp.c ax) ?_;rintro v I' M' -⟨rfl,rfl,rfl⟩;rw[af];refine a3.mk (λh=>by cases h) (λ_=>?_);refine b'.mk λg av B9=>?_;refine b'.mk λfq Ey awt=>?_;refine XK (t1:=1) (t2:=3) (t3:=4) (λG pc=>XE bp ax af aC (p:=λl y=>Lq _ al ⟨ns,pe,jZ,p2,Int.ofNat r⟩ y.2/\0=l) (g:=g) (gu.new,⟨some fq,1,1,n2 (r,0,false)⟩,[(r,0,false)],I') ?_ (λy aH _=>⟨aH,rfl⟩) B az G pc) rfl rfl rfl rfl;refine⟨λ_ _ h=>h,gu.Lf,⟨rfl,(λh=>by cases h),λbR _=>⟨rfl,b2 _,by simp only[maxLen];omega,rfl⟩⟩,by simp,?_,?_,?_⟩
   ·intro e he;simp only[ec]at he;subst he;exact fC
   ·simp only[ve,zK,jT,List.flatMap_nil,ed];have dZ:=XB (al:=al) af fC false;simp only at dZ |-;rw[dZ];simp[gu.new,paren]
   ·have aa:=XC af fC false;have ab:=aiS af;simp only[x']at aa ab;simp only[wI,bX,hx,hI,B7];omega
  ·rintro⟨g,x⟩ad;refine XK (t1:=1) (t2:=3) (t3:=4) (λG pc=>XE bp ax af aC (g:=g) x ad (λy aH a1=>⟨⟨aH,rfl⟩,a1⟩) B az G pc) rfl rfl rfl rfl
 |false=>
  have Cm:i' al t=[]:=by simp[i',af]
  rw[Cm];refine c4.scope a7 rfl (ι:=Empty) (λe=>nomatch e) (λe=>nomatch e) (λe=>nomatch e) (λe=>nomatch e) (λ_=>.skip) (λe=>nomatch e) ?_ (λe=>nomatch e);refine bd.mk [] [] _ (.refl _) (qM bp.c ax) ?_;rintro v I' M' -⟨rfl,rfl,rfl⟩;rw[af];refine a3.mk (λ_=>?_) (λh=>by cases h);exact⟨_,_,.refl,rfl,λ_ _ h=>h,rfl⟩
def aP.val(d:aP):Value:=.agg #[.string d.name,.slice d.t.a d.t.n d.t.c,.int .i64 d.t.bA]
def lJ(al:List Int)(d:aP):List UInt8:=
 bif decide (strOf (i' al d.t)=⟨#[]⟩) || !jW d.name then []else d.name.data.toList++[32,60,45,32]++i' al d.t++[10]
def XL(h:jW s=true):s.size<=32:=by unfold jW at h;simp only[cz,hq]at h;omega
def ai0(al:List Int)(d:aP):(lJ al d).length<=37+2412*d.t.ns.length:=by
 have aa:=Xx al d.t;unfold lJ;cases an:(decide (strOf (i' al d.t)=⟨#[]⟩) || !jW d.name)with
 |true=>simp| false=>simp only[qN,PR]at an;have ab:=XL an.2;have aj:d.name.data.toList.length=d.name.size:=rfl;simp only[b5,b3,c2,fs];omega
def ai1(bp:fW I al){d:aP}(ak:d.ok I)(aC:d.t.n<=1024):Spec Tryz.prog 147 [d.val] I [] λr I' M'=>r=.string (strOf (lJ al d))/\(∀ b o,I b=some o->I' b=some o)/\M'=[]:=by
 refine cg [] a7 Tryz.func147 rfl rfl rfl ?_;intro B az;refine bd.mk [] [] _ (.refl _) (aiZ bp ak.t aC) ?_;rintro v I1 M1 -⟨rfl,cu,rfl⟩;refine cj.mk (λaa=>?_) (λaa=>?_)
 ·refine bd.mk [] [] _ (.refl _) (PP _ d.name) ?_;rintro v I' M' -⟨rfl,rfl,rfl⟩;refine a3.mk (λab=>?_) (λab=>?_)
  ·refine⟨_,_,.refl,?_,cu,rfl⟩;have:lJ al d=[]:=by unfold lJ;rw[aa,ab];rfl
   rw[this];rfl
  ·have hm:jW d.name=true:=by simpa using ab
   have ab:=XL hm;have aj:d.name.data.toList.length=d.name.size:=rfl;have aG:=Xx al d.t;have bx:=ak.t.n;refine gB.concat (a:=d.name) (b:=strOf [32,60,45,32]) (by show _+4<=_;omega) ?_;refine gB.concat (a:=d.name++strOf [32,60,45,32]) (b:=strOf (i' al d.t)) (by rw[K8];show _+4+(i' al d.t).length<=_;omega) ?_;refine gB.concat (a:=d.name++strOf [32,60,45,32]++strOf (i' al d.t)) (b:=strOf [10]) (by rw[K8,K8];show _+4+(i' al d.t).length+1<=_;omega) ?_;refine⟨_,_,.refl,?_,cu,rfl⟩;refine congrArg Value.string (Ca ?_);rw[lJ,aa,hm];simp[strOf]
 ·refine⟨_,_,.refl,?_,cu,rfl⟩;have:lJ al d=[]:=by unfold lJ;rw[aa];rfl
  rw[this];rfl
def kO(al:List Int):List aP->List UInt8->List UInt8
 |[],aZ=>aZ| d::ds,aZ=>bif decide (strOf (lJ al d)=⟨#[]⟩)then []else kO al ds (aZ++lJ al d)
def ai2(bp:fW I al){g:cD}(av:g.ok I)(aC:g.n<=64)(ax:∀ d∈g.ds,d.t.n<=1024):Spec Tryz.prog 95 [g.val] I [] λr I' M'=>r=.string (strOf (kO al g.ds []))/\(∀ b o,I b=some o->I' b=some o)/\M'=[]:=by
 refine cg [3] a7 Tryz.func95 rfl rfl rfl ?_;intro B az;have fl:=av.n;have vf:∀ d∈g.ds,d.t.ns.length<=1024:=λd ak=>by rw[(av.ds d ak).t.n];exact ax d ak
 refine b'.mk λb ag sN=>?_;refine dg.inv (ι:=Nat×gu×aM) (λp=>{ bj:=[(3,.val (ptr b)),(8,.val (.slice g.a g.n g.c)),(9,.val (.int .i64 g.n)),(10,.val (.int .i64 p.1))],cI:=p.2.2,de:=p.2.1.M b }) (λp=>p.1<=g.n/\p.2.1.ok/\(∀ b o,I b=some o->p.2.2 b=some o)/\p.2.1.bJ.length<=2500000*p.1/\kO al g.ds []=kO al (g.ds.drop p.1) p.2.1.bJ) (λp=>g.n-p.1) ?_ ?_
 ·exact⟨(0,gu.new,I),⟨by simp,gu.Lf,λ_ _ h=>h,by simp[gu.new],rfl⟩,.refl,ej,.nil⟩
 ·rintro⟨i,x,I1⟩⟨hi,ad,cu,hz,kL⟩;simp only at hi ad cu hz kL;refine a3.mk (λh=>?_) (λh=>?_)
  ·have a1:i<g.n:=by simpa using h
   have cq:i<g.ds.length:=by omega
   have p0:=av.mono cu;obtain⟨aU,bK,bm⟩:=p0.a2.row aP.cT a1 cq;have gb:g.ds[i]∈g.ds:=bi cq;have z1:=ai0 al g.ds[i];have dZ:=vf _ gb;have jn:g.ds.drop i=g.ds[i]::g.ds.drop (i+1):=e1 cq;refine bf.mk aU i bK rfl a1 ?_;refine aR.mk _ (bm _) ?_;refine bd.mk [] (x.M b) _ (.refl _) (ai1 (bp.mono cu) (p0.ds _ gb) (ax _ gb)) ?_;rintro v dz dm -⟨rfl,et,rfl⟩;refine a3.mk (λaa=>?_) (λaa=>?_);·refine⟨_,_,.sub (fk _) .refl,?_,λb o h=>et _ _ (cu _ _ h),rfl⟩;rw[kL,jn,kO,aa];rfl
   ·refine bd.mk (x.M b) [] _ (by simp) (u5 b ad _ (by show _+(lJ al g.ds[i]).length<=_;omega)) ?_;rintro v I' M' -⟨rfl,rfl,y,aH,g4,rfl⟩;have XM:y.bJ=x.bJ++lJ al g.ds[i]:=g4;have gq:IntKind.i64.wrap ((i:Int)+1)=((i+1:Nat):Int):=by rw[wrap_i64 ⟨by omega,by omega⟩];omega
    refine bg.mk _ gq ?_;refine⟨(i+1,y,_),⟨⟨by simp only;omega,aH,λb o h=>et _ _ (cu _ _ h),?_,?_⟩,by simp only;omega⟩,.perm (by simp) .refl,ej,.nil⟩;·simp only;rw[XM,b3];omega
    ·simp only;rw[kL,jn,kO,aa,XM];rfl
  ·have cJ:g.n<=i:=by simpa using h
   have hs:g.ds.drop i=[]:=ki (by omega);refine bd.mk (x.M b) [] _ (by simp) (yc b ad (by omega)) ?_;rintro v I' M' -⟨rfl,rfl,rfl⟩;refine⟨_,_,.refl,?_,cu,by simp⟩;rw[kL,hs];rfl
def Qk(bp:fW I al){g:cD}(av:g.ok I)(aC:g.n<=64)(ax:∀ d∈g.ds,d.t.n<=1024):Spec Tryz.prog 47 [g.val] I [] λr I' M'=>r=.int .i64 ((kO al g.ds []).length:Int)/\(∀ b o,I b=some o->I' b=some o)/\M'=[]:=by refine cg [] a7 Tryz.func47 rfl rfl rfl ?_;intro B az;refine bd.mk [] [] _ (.refl _) (ai2 bp av aC ax) ?_;rintro v I' M' -⟨rfl,bz,rfl⟩;exact⟨_,_,.refl,rfl,bz,rfl⟩
def kP(ns:List ap)(kind:Int):List Int->Bool
 |[]=>true| k::ks=>bif decide (hA ns k=kind)||(decide (hA ns k=0)&&decide (kind=4))then false else kP ns kind ks
def lg(ns:List ap):List ap->Bool
 |[]=>true| d::ds=>bif !decide (d.k=4) && !decide (d.k=5)then lg ns ds else bif kP ns d.k d.aw then lg ns ds else false
def normal(t:bP):Bool:=right t&&lg t.ns t.ns
def cL(h:i<=140737488355328):IntKind.i64.wrap ((i:Int)+1)=((i+1:Nat):Int):=by rw[wrap_i64 ⟨by omega,by omega⟩];omega
def ai3(an:nh I)(ax:t.ok I):Spec Tryz.prog 66 [t.val] I [] (λv I' M'=>v=.bool (normal t)/\I'=I/\M'=[]):=by
 refine cg [] a7 Tryz.func66 rfl rfl rfl ?_;intro B az;have aC:=ax.n;have jJ:=ax.a2.cap;refine bd.mk [] [] _ (.refl _) (qM an ax) ?_;rintro v I' M' -⟨rfl,rfl,rfl⟩;refine a3.mk (λh=>?_) (λh=>?_)
 ·refine⟨_,_,.refl,?_,rfl,rfl⟩;simp[normal,show right t=false by simpa using h]
 ·have af:right t=true:=by simpa using h
  have dN:normal t=lg t.ns t.ns:=by simp[normal,af]
  rw[dN];refine dg.inv (ι:=Nat) (λi=>{ bj:=[(1,.ref 1 0),(12,.val (.slice t.a t.n t.c)),(13,.val (.int .i64 t.n)),(14,.val (.int .i64 i))],cl:=[(1,t.cells)],cI:=I' }) (λi=>i<=t.n/\lg t.ns t.ns=lg t.ns (t.ns.drop i)) (λi=>t.n-i) ?_ ?_;·exact⟨0,⟨by simp,rfl⟩,.refl,ej,.cons rfl .nil⟩
  ·rintro i⟨hi,e8⟩;refine a3.mk (λh=>?_) (λh=>?_)
   ·have a1:i<t.n:=by simpa using h
    have cq:i<t.ns.length:=by omega
    obtain⟨aU,bK,bm⟩:=ax.a2.row ap.cT a1 cq;have hV:=ax.ns t.ns[i] (bi cq);have ff:=hV.aO;have jn:t.ns.drop i=t.ns[i]::t.ns.drop (i+1):=e1 cq;refine bf.mk aU i bK rfl a1 ?_;refine aR.mk _ (bm _) ?_;refine cj.mk (λen=>?_) (λen=>?_)
    ·refine a3.mk (λcE=>?_) (λcE=>?_)
     ·refine bg.mk _ (cL (i:=i) (by omega)) ?_;refine⟨i+1,⟨⟨by omega,?_⟩,by omega⟩,.refl,ej,.cons rfl .nil⟩;rw[e8,jn,lg,en,cE];rfl
     ·have iM:lg t.ns t.ns=bif kP t.ns t.ns[i].k t.ns[i].aw then lg t.ns (t.ns.drop (i+1))else false:=by rw[e8,jn,lg,en,cE];rfl
      refine dg.inv (ι:=Nat) (λj=>{ bj:=[(1,.ref 1 0),(4,.ref 4 0),(12,.val (.slice t.a t.n t.c)),(13,.val (.int .i64 t.n)),(14,.val (.int .i64 i)),(27,.val (.slice t.ns[i].dE t.ns[i].aO t.ns[i].du)),(28,.val (.int .i64 t.ns[i].aO)),(29,.val (.int .i64 j))],cl:=[(1,t.cells),(4,t.ns[i].cells)],cI:=I' }) (λj=>j<=t.ns[i].aO/\kP t.ns t.ns[i].k t.ns[i].aw=kP t.ns t.ns[i].k (t.ns[i].aw.drop j)) (λj=>t.ns[i].aO-j) ?_ ?_;·exact⟨0,⟨by simp,rfl⟩,.refl,k5,.cons rfl (.cons rfl .nil)⟩
      ·rintro j⟨ai,nq⟩;refine a3.mk (λh=>?_) (λh=>?_)
       ·have ez:j<t.ns[i].aO:=by simpa using h
        have iK:j<t.ns[i].aw.length:=by omega
        obtain⟨gr,fB,eY⟩:=hV.a2.one ez iK;have jo:t.ns[i].aw.drop j=t.ns[i].aw[j]::t.ns[i].aw.drop (j+1):=e1 iK;have eX:=mG af i cq _ (bi iK);generalize js:t.ns[i].aw[j]=ai4 at *;obtain⟨q,rfl⟩:=ea eX.1;have eb:q<t.ns.length:=by omega
        have pd:q<t.n:=by omega
        obtain⟨ov,tY,yl⟩:=ax.a2.row ap.cT pd eb;have ju:∀ M,cO I' M ((ov.add (q*9)).add 0) 1 [.int .u8 t.ns[q].k]:=λM=>(yl M).part (k:=0) (m:=1) (by decide);have vg:hA t.ns ((q:Nat):Int)=t.ns[q].k:=by simp[hA,bt,eb]
        have bad:(decide (t.ns[q].k=t.ns[i].k)||(decide (t.ns[q].k=0)&&decide (t.ns[i].k=4)))=true->lg t.ns t.ns=false:=λag=>by rw[iM,nq,jo,kP,vg,ag];rfl
        have HJ:(decide (t.ns[q].k=t.ns[i].k)||(decide (t.ns[q].k=0)&&decide (t.ns[i].k=4)))=false->kP t.ns t.ns[i].k t.ns[i].aw=kP t.ns t.ns[i].k (t.ns[i].aw.drop (j+1)):=λag=>by rw[nq,jo,kP,vg,ag];rfl
        have gq:=cL (i:=j) (by have:=hV.a2.cap;omega);refine bf.mk gr j fB rfl ez ?_;refine aR.mk _ (eY _) ?_;refine bf.mk ov q tY rfl pd ?_;refine aR.mk _ (ju _) ?_;refine cj.mk (λgf=>?_) (λgf=>?_)
        ·refine cj.mk (λgn=>?_) (λgn=>?_)
         ·refine a3.mk (λow=>?_) (λow=>?_)
          ·refine⟨_,_,.refl,?_,rfl,rfl⟩;rw[bad (by rw[gf,gn,ow];rfl)]
          ·refine bg.mk _ gq ?_;exact⟨j+1,⟨⟨by omega,HJ (by rw[gf,gn,ow];rfl)⟩,by omega⟩,.refl,k5,.cons rfl (.cons rfl .nil)⟩
         ·refine bg.mk _ gq ?_;exact⟨j+1,⟨⟨by omega,HJ (by rw[gf,gn];rfl)⟩,by omega⟩,.refl,k5,.cons rfl (.cons rfl .nil)⟩
        ·refine⟨_,_,.refl,?_,rfl,rfl⟩;rw[bad (by rw[gf];rfl)]
       ·have B4:t.ns[i].aw.drop j=[]:=ki (by simp at h;omega);refine bg.mk _ (cL (i:=i) (by omega)) ?_;refine⟨i+1,⟨⟨by omega,?_⟩,by omega⟩,.refl,ej,.cons rfl .nil⟩;rw[iM,nq,B4];rfl
    ·have iM:lg t.ns t.ns=bif kP t.ns t.ns[i].k t.ns[i].aw then lg t.ns (t.ns.drop (i+1))else false:=by rw[e8,jn,lg,en];rfl
     refine dg.inv (ι:=Nat) (λj=>{ bj:=[(1,.ref 1 0),(4,.ref 4 0),(12,.val (.slice t.a t.n t.c)),(13,.val (.int .i64 t.n)),(14,.val (.int .i64 i)),(27,.val (.slice t.ns[i].dE t.ns[i].aO t.ns[i].du)),(28,.val (.int .i64 t.ns[i].aO)),(29,.val (.int .i64 j))],cl:=[(1,t.cells),(4,t.ns[i].cells)],cI:=I' }) (λj=>j<=t.ns[i].aO/\kP t.ns t.ns[i].k t.ns[i].aw=kP t.ns t.ns[i].k (t.ns[i].aw.drop j)) (λj=>t.ns[i].aO-j) ?_ ?_;·exact⟨0,⟨by simp,rfl⟩,.refl,k5,.cons rfl (.cons rfl .nil)⟩
     ·rintro j⟨ai,nq⟩;refine a3.mk (λh=>?_) (λh=>?_)
      ·have ez:j<t.ns[i].aO:=by simpa using h
       have iK:j<t.ns[i].aw.length:=by omega
       obtain⟨gr,fB,eY⟩:=hV.a2.one ez iK;have jo:t.ns[i].aw.drop j=t.ns[i].aw[j]::t.ns[i].aw.drop (j+1):=e1 iK;have eX:=mG af i cq _ (bi iK);generalize js:t.ns[i].aw[j]=ai4 at *;obtain⟨q,rfl⟩:=ea eX.1;have eb:q<t.ns.length:=by omega
       have pd:q<t.n:=by omega
       obtain⟨ov,tY,yl⟩:=ax.a2.row ap.cT pd eb;have ju:∀ M,cO I' M ((ov.add (q*9)).add 0) 1 [.int .u8 t.ns[q].k]:=λM=>(yl M).part (k:=0) (m:=1) (by decide);have vg:hA t.ns ((q:Nat):Int)=t.ns[q].k:=by simp[hA,bt,eb]
       have bad:(decide (t.ns[q].k=t.ns[i].k)||(decide (t.ns[q].k=0)&&decide (t.ns[i].k=4)))=true->lg t.ns t.ns=false:=λag=>by rw[iM,nq,jo,kP,vg,ag];rfl
       have HJ:(decide (t.ns[q].k=t.ns[i].k)||(decide (t.ns[q].k=0)&&decide (t.ns[i].k=4)))=false->kP t.ns t.ns[i].k t.ns[i].aw=kP t.ns t.ns[i].k (t.ns[i].aw.drop (j+1)):=λag=>by rw[nq,jo,kP,vg,ag];rfl
       have gq:=cL (i:=j) (by have:=hV.a2.cap;omega);refine bf.mk gr j fB rfl ez ?_;refine aR.mk _ (eY _) ?_;refine bf.mk ov q tY rfl pd ?_;refine aR.mk _ (ju _) ?_;refine cj.mk (λgf=>?_) (λgf=>?_)
       ·refine cj.mk (λgn=>?_) (λgn=>?_)
        ·refine a3.mk (λow=>?_) (λow=>?_)
         ·refine⟨_,_,.refl,?_,rfl,rfl⟩;rw[bad (by rw[gf,gn,ow];rfl)]
         ·refine bg.mk _ gq ?_;exact⟨j+1,⟨⟨by omega,HJ (by rw[gf,gn,ow];rfl)⟩,by omega⟩,.refl,k5,.cons rfl (.cons rfl .nil)⟩
        ·refine bg.mk _ gq ?_;exact⟨j+1,⟨⟨by omega,HJ (by rw[gf,gn];rfl)⟩,by omega⟩,.refl,k5,.cons rfl (.cons rfl .nil)⟩
       ·refine⟨_,_,.refl,?_,rfl,rfl⟩;rw[bad (by rw[gf];rfl)]
      ·have B4:t.ns[i].aw.drop j=[]:=ki (by simp at h;omega);refine bg.mk _ (cL (i:=i) (by omega)) ?_;refine⟨i+1,⟨⟨by omega,?_⟩,by omega⟩,.refl,ej,.cons rfl .nil⟩;rw[iM,nq,B4];rfl
   ·have cJ:t.n<=i:=by simpa using h
    have hs:t.ns.drop i=[]:=ki (by omega);refine⟨_,_,.refl,?_,rfl,rfl⟩;rw[e8,hs];rfl
def qT(t:bP):Nat:=bif right t then t.n else 0
def lh(g:cD):Nat:=(g.ds.map λd=>qT d.t).sum
def XN{α:Type}(f:α->Nat)(m:Nat):∀ (l:List α),(∀ x∈l,f x<=m)->(l.map f).sum<=m*l.length
 |[],_=>by simp
 |x::l,h=>by have aa:=h x (by simp);have ab:=XN f m l λy aH=>h y (by simp[aH]);simp only[bX,hI,c2,zO];omega
def Ls(an:nh I){g:cD}(av:g.ok I)(aC:g.n<=64)(ax:∀ d∈g.ds,d.t.n<=1024):Spec Tryz.prog 35 [g.val] I [] (λv I' M'=>v=.int .i64 (lh g:Nat)/\I'=I/\M'=[]):=by
 refine cg [] a7 Tryz.func35 rfl rfl rfl ?_;intro B az;have fl:=av.n;refine dg.inv (ι:=Nat) (λi=>{ bj:=[(3,.val (.int .i64 (((g.ds.take i).map λd=>qT d.t).sum:Nat))),(7,.val (.slice g.a g.n g.c)),(8,.val (.int .i64 g.n)),(9,.val (.int .i64 i))],cI:=I }) (λi=>i<=g.n) (λi=>g.n-i) ?_ ?_
 ·exact⟨0,by simp,.refl,ej,.nil⟩
 ·intro i hi;refine a3.mk (λh=>?_) (λh=>?_)
  ·have a1:i<g.n:=by simpa using h
   have cq:i<g.ds.length:=by omega
   obtain⟨aU,bK,bm⟩:=av.a2.row aP.cT a1 cq;have gb:g.ds[i]∈g.ds:=bi cq;have au:((g.ds.take i).map λd=>qT d.t).sum<=1024*(g.ds.take i).length:=XN _ 1024 _ λd ak=>by
    have:=ax d (K9 ak);unfold qT;cases right d.t<;>simp
    omega
   have ay:=B5 i g.ds;have fz:qT g.ds[i].t<=1024:=by
    have:=ax _ gb;unfold qT;cases right g.ds[i].t<;>simp
    omega
   refine bf.mk aU i bK rfl a1 ?_;refine aR.mk _ (bm _) ?_;refine bd.mk [] [] _ (.refl _) (W3 an (av.ds _ gb).t) ?_;rintro v I' M' -⟨rfl,rfl,rfl⟩;have aJ:(bif right g.ds[i].t then(g.ds[i].t.n:Int)else 0)=(qT g.ds[i].t:Nat):=by
    unfold qT;cases right g.ds[i].t<;>rfl
   rw[aJ];refine bg.mk ((((g.ds.take (i+1)).map λd=>qT d.t).sum:Nat):Int) ?_ ?_;·rw[wrap_i64 ⟨by omega,by omega⟩,gy cq,cP,rZ];simp
   refine bg.mk _ (cL (i:=i) (by omega)) ?_;exact⟨i+1,⟨by omega,by omega⟩,.refl,ej,.nil⟩
  ·have cJ:g.n<=i:=by simpa using h
   refine⟨_,_,.refl,?_,rfl,rfl⟩;rw[fN (by omega)];rfl
def mL(al:List Int)(g:cD):Bool:=
 decide (64<g.n)||((!g.ds.all λd=>nl d.t)||(decide (1024<lh g)||decide (8192<(kO al g.ds []).length)))
def ai5(bp:fW I al){g:cD}(av:g.ok I):Spec Tryz.prog 67 [g.val] I [] (λv I' M'=>v=.bool (mL al g)/\(∀ b o,I b=some o->I' b=some o)/\M'=[]):=by
 refine cg [] a7 Tryz.func67 rfl rfl rfl ?_;intro B az;have fl:=av.n;refine a3.mk (λaa=>?_) (λaa=>?_)
 ·refine⟨_,_,.refl,?_,λ_ _ h=>h,rfl⟩;have:64<g.n:=by simp at aa;omega
  simp[mL,this]
 ·have aC:g.n<=64:=by simp at aa;omega
  have dd:mL al g=((!g.ds.all λd=>nl d.t)||(decide (1024<lh g)||decide (8192<(kO al g.ds []).length))):=by
   have:¬ 64<g.n:=by omega
   simp[mL,this]
  rw[dd];refine dg.inv (ι:=Nat) (λi=>{ bj:=[(1,.ref 1 0),(10,.val (.slice g.a g.n g.c)),(11,.val (.int .i64 g.n)),(12,.val (.int .i64 i))],cl:=[(1,[.slice g.a g.n g.c])],cI:=I }) (λi=>i<=g.n/\(g.ds.take i).all (λd=>nl d.t)=true) (λi=>g.n-i) ?_ ?_;·exact⟨0,⟨by simp,rfl⟩,.refl,ej,.cons rfl .nil⟩
  ·rintro i⟨hi,gU⟩;refine a3.mk (λh=>?_) (λh=>?_)
   ·have a1:i<g.n:=by simpa using h
    have cq:i<g.ds.length:=by omega
    obtain⟨aU,bK,bm⟩:=av.a2.row aP.cT a1 cq;have gb:g.ds[i]∈g.ds:=bi cq;refine bf.mk aU i bK rfl a1 ?_;refine aR.mk _ (bm _) ?_;refine bd.mk [] [] _ (.refl _) (aif bp.c (av.ds _ gb).t) ?_;rintro v I' M' -⟨rfl,rfl,rfl⟩;refine a3.mk (λab=>?_) (λab=>?_)
    ·refine⟨_,_,.refl,?_,λ_ _ h=>h,rfl⟩;have aA:nl g.ds[i].t=false:=by simpa using ab
     have:(g.ds.all λd=>nl d.t)=false:=by rw[K'];exact⟨_,gb,by simp[aA]⟩
     rw[this];rfl
    ·have aA:nl g.ds[i].t=true:=by simpa using ab
     refine bg.mk _ (cL (i:=i) (by omega)) ?_;refine⟨i+1,⟨⟨by omega,?_⟩,by omega⟩,.refl,ej,.cons rfl .nil⟩;rw[gy cq,Ho,gU];simp[aA]
   ·have cJ:g.n<=i:=by simpa using h
    rw[fN (by omega)]at gU;rw[gU];have z2:∀ d∈g.ds,d.t.n<=1024:=λd ak=>by have:=fi.1 gU d ak;unfold nl at this;simp only[cz,hq]at this;exact this.1
    refine bd.mk [] [] _ (.refl _) (Ls bp.c av aC z2) ?_;rintro v I' M' -⟨rfl,rfl,rfl⟩;refine cj.mk (λab=>?_) (λab=>?_)
    ·refine bd.mk [] [] _ (.refl _) (Qk bp av aC z2) ?_;rintro v dz M' -⟨rfl,et,rfl⟩;refine⟨_,_,.refl,?_,et,rfl⟩;have ma:¬ 1024<lh g:=by simp at ab;omega
     simp[ma];omega
    ·refine⟨_,_,.refl,?_,λ_ _ h=>h,rfl⟩;have ma:1024<lh g:=by simp at ab;omega
     simp[ma]
def cr(name:ByteArray):List aP->Nat->Int
 |[],_=>-1| d::ds,i=>bif decide (d.name=name)then(i:Int)else cr name ds (i+1)
def HK{g:cD}(av:g.ok I)(name:ByteArray):Spec Tryz.prog 31 [g.val,.string name] I [] (λv I' M'=>v=.int .i64 (cr name g.ds 0)/\I'=I/\M'=[]):=by
 refine cg [] a7 Tryz.func31 rfl rfl rfl ?_;intro B az;have fl:=av.n;have jJ:=av.a2.cap;refine dg.inv (ι:=Nat) (λi=>{ bj:=[(1,.val (.string name)),(8,.val (.slice g.a g.n g.c)),(9,.val (.int .i64 g.n)),(10,.val (.int .i64 i))],cI:=I }) (λi=>i<=g.n/\cr name g.ds 0=cr name (g.ds.drop i) i) (λi=>g.n-i) ?_ ?_
 ·exact⟨0,⟨by simp,rfl⟩,.refl,ej,.nil⟩
 ·rintro i⟨hi,aA⟩;refine a3.mk (λh=>?_) (λh=>?_)
  ·have a1:i<g.n:=by simpa using h
   have cq:i<g.ds.length:=by omega
   obtain⟨aU,bK,bm⟩:=av.a2.row aP.cT a1 cq;have jn:g.ds.drop i=g.ds[i]::g.ds.drop (i+1):=e1 cq;refine bf.mk aU i bK rfl a1 ?_;refine aR.mk _ (bm _) ?_;refine a3.mk (λab=>?_) (λab=>?_);·refine⟨_,_,.refl,?_,rfl,rfl⟩;rw[aA,jn,cr,ab];rfl
   ·refine bg.mk _ (cL (i:=i) (by omega)) ?_;refine⟨i+1,⟨⟨by omega,?_⟩,by omega⟩,.refl,ej,.nil⟩;rw[aA,jn,cr,ab];rfl
  ·have cJ:g.n<=i:=by simpa using h
   refine⟨_,_,.refl,?_,rfl,rfl⟩;rw[aA,ki (by omega)];rfl
def drop_cons{L:List α}{x:α}{bk:List α}(h:L.drop k=x::bk):∃ ae:k<L.length,L[k]=x/\L.drop (k+1)=bk:=by
 have ae:k<L.length:=by apply Lb;intro bq;rw[ki bq]at h;cases h
 have ak:=e1 ae;rw[h]at ak;obtain⟨aa,ab⟩:=List.cons.inj ak;exact⟨ae,aa.symm,ab.symm⟩
def t':Nat->List aP->List (List Value)
 |_,[]=>[]| i,d::ds=>d.t.ns.map (λn=>[.int .i64 i,n.val])++t' (i+1) ds
def ai6(g:cD):Spec Tryz.prog 68 [g.val] I [] λr I' M'=>∃ b,r=.func (.func 120) #[] #[ptr b]/\I' b=some (.cells #[.slice g.a g.n g.c] 24 (0,0))/\(∀ b o,I b=some o->I' b=some o)/\M'=[]:=by refine cg [1] a7 Tryz.func68 rfl rfl rfl ?_;intro B az;refine b'.mk λg av B9=>?_;exact⟨_,_,.k3 rfl (by simp) .refl,g,rfl,mI ..,hW av,rfl⟩
def ai7{g:cD}(av:g.ok I)(ag:I b=some (.cells #[.slice g.a g.n g.c] 24 (0,0))) :
  Iter Tryz.prog 120 [ptr b] I (t' 0 g.ds):=by
 intro l R k8 qQ dt M0 lI iH;refine zr [] a7 Tryz.func120 rfl rfl rfl ?_;intro B az;have fl:=av.n;have jJ:=av.a2.cap;have bm:∀ (M:List aE),cO dt M ((⟨b,0,none⟩:Addr).add 0) 1 [.slice g.a g.n g.c]:=λM=>⟨rfl,_,_,_,.inl (lI _ _ ag),rfl,rfl⟩;refine aR.mk _ (bm _) ?_;refine dg.inv (ι:=Nat×Nat×aM×List aE) (λx=>{ bj:=[(0,.val (.func (.yield l) #[] #[])),(8,.val (.slice g.a g.n g.c)),(9,.val (.int .i64 g.n)),(10,.val (.int .i64 x.1))],cI:=x.2.2.1,de:=x.2.2.2 }) (λx=>x.1<=g.n/\(∀ b o,I b=some o->x.2.2.1 b=some o)/\R x.2.1 x.2.2.1 x.2.2.2/\x.2.1<=(t' 0 g.ds).length/\(t' 0 g.ds).drop x.2.1=t' x.1 (g.ds.drop x.1)) (λx=>g.n-x.1) ?_ ?_
 ·exact⟨(0,0,dt,M0),⟨by simp,lI,iH,by simp,rfl⟩,.refl,ej,.nil⟩
 ·rintro⟨i,k,I1,M1⟩⟨hi,cu,g5,cv,hd⟩;simp only at hi cu g5 cv hd;refine a3.mk (λh=>?_) (λh=>?_)
  ·have a1:i<g.n:=by simpa using h
   have cq:i<g.ds.length:=by omega
   have p0:=av.mono cu;obtain⟨aU,bK,Ql⟩:=p0.a2.row aP.cT a1 cq;have gb:g.ds[i]∈g.ds:=bi cq;have hK:=(av.ds _ gb).t.n;have awu:=(av.ds _ gb).t.a2.cap;have jn:g.ds.drop i=g.ds[i]::g.ds.drop (i+1):=e1 cq;refine bf.mk aU i bK rfl a1 ?_;refine aR.mk _ (Ql _) ?_;refine dg.inv (ι:=Nat×Nat×aM×List aE) (λx=>{ bj:=[(0,.val (.func (.yield l) #[] #[])),(3,.val (.int .i64 i)),(8,.val (.slice g.a g.n g.c)),(9,.val (.int .i64 g.n)),(10,.val (.int .i64 i)),(17,.val (.slice g.ds[i].t.a g.ds[i].t.n g.ds[i].t.c)),(18,.val (.int .i64 g.ds[i].t.n)),(19,.val (.int .i64 x.1))],cI:=x.2.2.1,de:=x.2.2.2 }) (λx=>x.1<=g.ds[i].t.n/\(∀ b o,I b=some o->x.2.2.1 b=some o)/\R x.2.1 x.2.2.1 x.2.2.2/\x.2.1<=(t' 0 g.ds).length/\(t' 0 g.ds).drop x.2.1=(g.ds[i].t.ns.drop x.1).map (λn=>[.int .i64 i,n.val])++t' (i+1) (g.ds.drop (i+1))) (λx=>g.ds[i].t.n-x.1) ?_ ?_;·refine⟨(0,k,I1,M1),⟨by simp,cu,g5,cv,?_⟩,.refl,k5,.nil⟩;simp only;rw[hd,jn];rfl
   ·rintro⟨j,k,I1,M1⟩⟨ai,cu,g5,cv,hd⟩;simp only at ai cu g5 cv hd;refine a3.mk (λh=>?_) (λh=>?_)
    ·have ez:j<g.ds[i].t.n:=by simpa using h
     have iK:j<g.ds[i].t.ns.length:=by omega
     have p0:=av.mono cu;obtain⟨lK,lL,hy⟩:=(p0.ds _ gb).t.a2.row ap.cT ez iK;have bH:g.ds[i].t.ns.drop j=g.ds[i].t.ns[j]::g.ds[i].t.ns.drop (j+1):=e1 iK;rw[bH,bX,mF]at hd;obtain⟨ae,ah,qU⟩:=drop_cons hd;refine bf.mk lK j lL rfl ez ?_;refine aR.mk _ (hy _) ?_;refine bB.yield rfl (by simp) rfl rfl ?_;have aH:=qQ k ae I1 M1 cu g5;rw[ah]at aH;refine zD.mk M1 [] _ (by simp) aH ?_;rintro v dz dm et (⟨rfl,lG⟩ | ⟨rfl,ad⟩);·refine a3.mk (λh=>by simp at h) (λ_=>?_);refine bg.mk _ (cL (i:=j) (by omega)) ?_;exact⟨(j+1,k+1,dz,dm),⟨⟨by simp only;omega,λb o h=>et b o (cu b o h),lG,ae,qU⟩,by simp only;omega⟩,.perm (by simp) .refl,k5,.nil⟩
     ·refine a3.mk (λ_=>?_) (λh=>by simp at h);exact⟨_,_,.perm (by simp) .refl,.inr ad⟩
    ·have cJ:g.ds[i].t.n<=j:=by simpa using h
     rw[ki (show g.ds[i].t.ns.length<=j by omega),hx,iF]at hd;refine bg.mk _ (cL (i:=i) (by omega)) ?_;exact⟨(i+1,k,I1,M1),⟨⟨by simp only;omega,cu,g5,cv,hd⟩,by simp only;omega⟩,.refl,ej,.nil⟩
  ·have cJ:g.n<=i:=by simpa using h
   refine⟨_,_,.refl,.inl ?_⟩;rw[ki (show g.ds.length<=i by omega)]at hd;have yg:k=(t' 0 g.ds).length:=by have:=Eo.1 hd;omega
   rw[<-yg];exact g5
def hY(ns:List ap):List ByteArray:=(ns.filter λd=>decide (d.k=3)).map (·.t)
def ai8(t:bP):Spec Tryz.prog 190 [t.val] I [] λr I' M'=>∃ b,r=.func (.func 229) #[] #[ptr b]/\I' b=some (.cells #[.slice t.a t.n t.c,.int .i64 t.bA] 31 (0,0))/\(∀ b o,I b=some o->I' b=some o)/\M'=[]:=by refine cg [1] a7 Tryz.func190 rfl rfl rfl ?_;intro B az;refine b'.mk λg av B9=>?_;exact⟨_,_,.k3 rfl (by simp) .refl,g,rfl,mI ..,hW av,rfl⟩
def ai9(ax:t.ok I)(ag:I b=some (.cells #[.slice t.a t.n t.c,.int .i64 t.bA] 31 (0,0))) :
  Iter Tryz.prog 229 [ptr b] I ((hY t.ns).map λs=>[.string s]):=by
 intro l R k8 qQ dt M0 lI iH;refine zr [] a7 Tryz.func229 rfl rfl rfl ?_;intro B az;have hK:=ax.n;have jJ:=ax.a2.cap;have bm:∀ (M:List aE),cO dt M ((⟨b,0,none⟩:Addr).add 0) 1 [.slice t.a t.n t.c]:=λM=>⟨rfl,_,_,_,.inl (lI _ _ ag),rfl,rfl⟩;refine aR.mk _ (bm _) ?_;refine dg.inv (ι:=Nat×Nat×aM×List aE) (λx=>{ bj:=[(0,.val (.func (.yield l) #[] #[])),(6,.val (.slice t.a t.n t.c)),(7,.val (.int .i64 t.n)),(8,.val (.int .i64 x.1))],cI:=x.2.2.1,de:=x.2.2.2 }) (λx=>x.1<=t.n/\(∀ b o,I b=some o->x.2.2.1 b=some o)/\R x.2.1 x.2.2.1 x.2.2.2/\x.2.1<=((hY t.ns).map λs=>[Value.string s]).length/\((hY t.ns).map λs=>[Value.string s]).drop x.2.1=(hY (t.ns.drop x.1)).map λs=>[.string s]) (λx=>t.n-x.1) ?_ ?_
 ·exact⟨(0,0,dt,M0),⟨by simp,lI,iH,by simp,rfl⟩,.refl,ej,.nil⟩
 ·rintro⟨j,k,I1,M1⟩⟨ai,cu,g5,cv,hd⟩;simp only at ai cu g5 cv hd;refine a3.mk (λh=>?_) (λh=>?_)
  ·have ez:j<t.n:=by simpa using h
   have iK:j<t.ns.length:=by omega
   have Cj:=ax.mono cu;obtain⟨lK,lL,hy⟩:=Cj.a2.row ap.cT ez iK;have bH:t.ns.drop j=t.ns[j]::t.ns.drop (j+1):=e1 iK;refine bf.mk lK j lL rfl ez ?_;refine aR.mk _ (hy _) ?_;refine cj.mk (λaa=>?_) (λaa=>?_)
   ·have qS:hY (t.ns.drop j)=t.ns[j].t::hY (t.ns.drop (j+1)):=by rw[bH];simp only[hY,o0,aa,pO,bX]
    rw[qS,bX]at hd;obtain⟨ae,ah,qU⟩:=drop_cons hd;refine bB.yield rfl (by simp) rfl rfl ?_;have aH:=qQ k ae I1 M1 cu g5;rw[ah]at aH;refine zD.mk M1 [] _ (by simp) aH ?_;rintro v dz dm et (⟨rfl,lG⟩ | ⟨rfl,ad⟩);·refine a3.mk (λh=>by simp at h) (λ_=>?_);refine bg.mk _ (cL (i:=j) (by omega)) ?_;exact⟨(j+1,k+1,dz,dm),⟨⟨by simp only;omega,λb o h=>et b o (cu b o h),lG,ae,qU⟩,by simp only;omega⟩,.perm (by simp) .refl,ej,.nil⟩
    ·refine a3.mk (λ_=>?_) (λh=>by simp at h);exact⟨_,_,.perm (by simp) .refl,.inr ad⟩
   ·have qS:hY (t.ns.drop j)=hY (t.ns.drop (j+1)):=by rw[bH];have tO:decide (t.ns[j].k=3)=false:=aa;simp only[hY,o0,tO];rfl
    rw[qS]at hd;refine bg.mk _ (cL (i:=j) (by omega)) ?_;exact⟨(j+1,k,I1,M1),⟨⟨by simp only;omega,cu,g5,cv,hd⟩,by simp only;omega⟩,.refl,ej,.nil⟩
  ·have cJ:t.n<=j:=by simpa using h
   refine⟨_,_,.refl,.inl ?_⟩;rw[ki (show t.ns.length<=j by omega)]at hd;have yg:k=((hY t.ns).map λs=>[Value.string s]).length:=by have:=Eo.1 hd;omega
   rw[<-yg];exact g5
section
variable{X:cV}{β:Nat->Nat}{a:Act}{w:World}{F:Fr}{C:dF}{I:aM}{M:List aE}{o:Oper}{K:gm}
def cN.swap{n:Nat}{nY Lt:Obj}{w':World}(h:cN X β a w F C I (⟨n,nY⟩::M))(au:w'.heap.size=w.heap.size)(aC:w'.heap[n]?=some Lt)(ag:∀ b,b≠n->w'.heap[b]?=w.heap[b]?)(aK:oQ w w'):cN X β a w' F C I (⟨n,Lt⟩::M):=by
 have aa:=h.WG au ag aK;have fK:(⟨n,nY⟩:aE)∈(⟨n,nY⟩:aE)::M:=by simp
 have bH:=h.holds.ca;simp only[bX,l5]at bH;have mem:∀ x,x∈(⟨n,Lt⟩:aE)::M->x=⟨n,Lt⟩\/x∈M:=λx ad=>eg.1 ad;exact {
  size:=aa.size
  defers:=by
   obtain⟨a2,aJ,a4,cn⟩:=aa.defers;obtain⟨aja,f1,f2,f3⟩:=h.defers;refine⟨a2,aJ,a4,λr af=>{ cn r af with e5:=λx ad=>?_ }⟩;rcases mem x ad with rfl | ad
   ·have dc:a2=aja:=by
     have:=aJ.symm.trans f1;have Lu:∀ l eB:List Nat,l.map xN=eB.map xN->l=eB:=by
      intro l
      induction l with
      |nil=>intro eB h;cases eB with
       |nil=>rfl| cons=>simp at h
      |cons y l aF=>intro eB h;cases eB with
       |nil=>simp at h
       |cons z eB=>
        simp only[bX,ya,xN,Deferred.mk.injEq]at h;have aH:y=z:=by simpa using h.1
        rw[aH,aF eB h.2]
     exact Lu _ _ this
    subst dc;exact(f3 r af).e5 ⟨n,nY⟩ fK
   ·exact(cn r af).e5 x ad
  holds:={
   i:=aa.holds.i
   m:=λx ad=>by
    rcases mem x ad with rfl | ad;·exact aC
    ·exact aa.holds.m x ad
   d:=λx ad=>by
    rcases mem x ad with rfl | ad;·exact h.holds.d ⟨n,nY⟩ fK
    ·exact aa.holds.d x ad
   ca:=by simpa using bH }
  ao:=h.ao
  cm:=λs cs nR=>by
   have rD:=h.cm s cs nR;refine { aa.cm s cs nR with e5:=λx ad=>?_ };rcases mem x ad with rfl | ad;·exact rD.e5 ⟨n,nY⟩ fK
   ·exact(aa.cm s cs nR).e5 x ad
  inj:=h.inj
  im:=h.im
  hR:=h.hR
  own:=λx ad=>by
   rcases mem x ad with rfl | ad;·exact h.own ⟨n,nY⟩ fK
   ·exact aa.own x ad
  dI:=aa.dI
  out:=aa.out
  sz:=aa.sz
  fy:=aa.fy }
def pf(l:List (ByteArray×Int)):Nat->List MapEntry
 |i=>match l with
  |[]=>[]| p::l=>{ key:=.string p.1,val:=.int .i64 p.2,born:=i }::pf l (i+1)
def jL(l:List (ByteArray×Int)):Obj:=.map (pf l 0).toArray l.length
def eD(s:ByteArray):List (ByteArray×Int)->Option Int
 |[]=>none| p::l=>bif decide (s=p.1)then some p.2 else eD s l
def ajb(l:List (ByteArray×Int))(p:ByteArray×Int):∀ i,pf (l++[p]) i=pf l i++[{ key:=.string p.1,val:=.int .i64 p.2,born:=i+l.length }]:=by
 induction l with
 |nil=>intro i;simp[pf]| cons q l aF=>intro i;simp only[mF,pf,aF,c2,ya,true_and,List.append_cancel_left_eq,MapEntry.mk.injEq,and_true];omega
def bytes_beq(a b:ByteArray):(a == b)=decide (a=b):=by
 rw[sC];simp only[hq];constructor
 ·intro h
  first | exact eq_of_beq h | exact wa (eq_of_beq (a:=a.data) (b:=b.data) h)
 ·rintro rfl
  first | exact GZ _ | exact GZ a.data
def Lv(s:ByteArray):∀ (l:List (ByteArray×Int)) (i j:Nat),∃ r,Instr.findNow .string (.string s) (pf l i) j=some r/\r.map (·.2)=(eD s l).map (Value.int .i64)
 |[],i,j=>⟨none,rfl,rfl⟩
 |p::l,i,j=>by
  obtain⟨r,aa,ab⟩:=Lv s l (i+1) (j+1);unfold pf Instr.findNow;simp only[Instr.sameNow,bytes_beq];cases ag:decide (s=p.1)with
  |true=>exact⟨_,rfl,by simp[eD,ag]⟩| false=>exact⟨r,aa,by simp only[eD,ag,b5];exact ab⟩
def bB.makeMap(aQ:cU X.P X.E){t:Nat}{r:Operand}(aK:o.op=.makeMap t (some r))(ak:∀ d,o.dst=some d->d<X.n)(ax:X.E t=some c7)(dT:c7.bM=.map k e)
  {q:IntKind} {n:Int} (af:bF F r=.val (.int q n)) (h:∀ b,K (put o.dst (.val (.map (some b))) F) C I (⟨b,jL []⟩::M)):bB X o F C I M K:=by
 refine⟨λa w Q ⟨β,aV⟩=>?_⟩;obtain⟨d,fM,fu⟩:=(aQ _ _ ax).fx;have aa:d=.map k e:=by rw[dT]at fu;cases d<;>simp_all[fw]
 subst aa;have Qm:=df aV.ao af;refine jg (by rw[aK];simp) (v:=.map (some w.heap.size)) (w':=w.alloc (.map #[] 0)) ?_ ⟨_,_,_,_,⟨β,cN.put (x:=.val (.map (some w.heap.size))) (aV.oe (jL [])) ak rfl⟩,h _⟩;unfold execOp;simp only[aK,lx,Qm];simp[Instr.makeMap,run_underlying fM,asInt,oU]
def bB.lookup(aQ:cU X.P X.E){t:Nat}(aK:o.op=.lookup t x y true)(ak:∀ d,o.dst=some d->d<X.n)(ax:X.E t=some c7)(dT:c7.bM=.map k e)(ae:X.E k=some tN)(eZ:tN.bM=.string)(bb:∀ w,(zeroValue e).run X.P w=.ok (.int .i64 0) w)(ad:bF F x=.val (.map (some g)))(aH:bF F y=.val (.string s))(a':(⟨g,jL l⟩:aE)∈M)
  (h:K (put o.dst (.val (.tuple #[.int .i64 ((eD s l).getD 0),.bool (eD s l).isSome])) F) C I M):bB X o F C I M K:=by
 refine⟨λa w Q ⟨β,aV⟩=>?_⟩;obtain⟨d,fM,fu⟩:=(aQ _ _ ax).fx;have aa:d=.map k e:=by rw[dT]at fu;cases d<;>simp_all[fw]
 subst aa;obtain⟨di,sY,hV⟩:=(aQ _ _ ae).fx;have ab:di=.string:=by rw[eZ]at hV;cases di<;>simp_all[fw]
 subst ab;have av:w.heap[g]?=some (.map (pf l 0).toArray l.length):=aV.holds.m _ a';have ex:=df aV.ao ad;have o7:=df aV.ao aH;obtain⟨r,wj,mM⟩:=Lv s l 0 0;have an:(Instr.checkKey (pf l 0).toArray.isEmpty 10000 k (.string s)).run X.P w=.ok () w:=Ep (k:=.string s) sY (by simp[MapKept.IsKey]) _ 9999;have vk:(Instr.findKey k (.string s) (pf l 0)).run X.P w=.ok r w:=Er sY wj;have fj:(Instr.lookup t (.map (some g)) (.string s) true).run X.P w=.ok (.tuple #[.int .i64 ((eD s l).getD 0),.bool (eD s l).isSome]) w:=by
  unfold Instr.lookup;simp only[ct,run_underlying fM,bY,En av,c3,an,vk];cases r with
  |none=>
   cases ay:eD s l with
   |none=>simp[bb]| some v=>rw[ay]at mM;simp at mM
  |some p=>
   cases ay:eD s l with
   |none=>rw[ay]at mM;simp at mM| some v=>rw[ay]at mM;simp only[lx,j9]at mM;simp[mM]
 refine wi aV ak (by rw[aK];simp) ?_ h;unfold execOp;simp only[aK,ex,o7,ct,fj,bY,c3]
def bB.XO(aQ:cU X.P X.E){t:Nat}{z:Operand}(aK:o.op=.mapUpdate t x y z)(ak:o.dst=none)(ax:X.E t=some c7)(dT:c7.bM=.map k e)(ae:X.E k=some tN)(eZ:tN.bM=.string)
 {v:Int} (ad:bF F x=.val (.map (some g))) (aH:bF F y=.val (.string s)) (BJ:bF F z=.val (.int .i64 v)) (ay:eD s l=none)
  {Mr:List aE} (a':M.Perm (⟨g,jL l⟩::Mr)) (h:K F C I (⟨g,jL (l++[(s,v)])⟩::Mr)):bB X o F C I M K:=by
 refine⟨λa w Q ⟨β,iH⟩=>?_⟩;have aV:cN X β a w F C I (⟨g,jL l⟩::Mr):=iH.h5 (.perm a' .refl);obtain⟨d,fM,fu⟩:=(aQ _ _ ax).fx;have aa:d=.map k e:=by rw[dT]at fu;cases d<;>simp_all[fw]
 subst aa;obtain⟨di,sY,hV⟩:=(aQ _ _ ae).fx;have ab:di=.string:=by rw[eZ]at hV;cases di<;>simp_all[fw]
 subst ab;have av:w.heap[g]?=some (.map (pf l 0).toArray l.length):=aV.holds.m ⟨g,jL l⟩ (by simp);have ex:=df aV.ao ad;have o7:=df aV.ao aH;have Qn:=df aV.ao BJ;obtain⟨r,wj,mM⟩:=Lv s l 0 0;have af:r=none:=by
  rw[ay]at mM;cases r with
  |none=>rfl| some _=>simp at mM
 subst af;have an:(Instr.checkKey false 10000 k (.string s)).run X.P w=.ok () w:=Ep (k:=.string s) sY (by simp[MapKept.IsKey]) _ 9999;have vk:(Instr.findKey k (.string s) (pf l 0)).run X.P w=.ok none w:=Er sY wj;have fg:jL (l++[(s,v)])=.map ((pf l 0).toArray.push { key:=.string s,val:=.int .i64 v,born:=l.length }) (l.length+1):=by unfold jL;rw[ajb];simp
 have fj:(Instr.mapUpdate t (.map (some g)) (.string s) (.int .i64 v)).run X.P w=.ok () { w with heap:=w.heap.setIfInBounds g (jL (l++[(s,v)])) }:=by unfold Instr.mapUpdate;simp only[ct,run_underlying fM,bY,En av,an,vk,PQ _ av,fg]
 have g2:=MapKept.heap_set (o':=jL (l++[(s,v)])) av;refine DZ (by rw[aK];simp) (w':={ w with heap:=w.heap.setIfInBounds g (jL (l++[(s,v)])) }) ?_ ⟨F,C,I,_,⟨β,?_⟩,h⟩
 ·unfold execOp;simp only[aK,ex,o7,Qn,ct,fj,bY,c3]
 ·rw[ak];exact aV.swap (by simp) g2.1 g2.2 ⟨rfl,rfl⟩
end
end Go.V
