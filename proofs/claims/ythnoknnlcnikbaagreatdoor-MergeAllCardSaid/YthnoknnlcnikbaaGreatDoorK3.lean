/- Part 3 of what the proofs of this seat share: the executor, data in memory, walks.
-/
import Derived.Test.YthnoknnlcnikbaaGreatDoorK2
import Derived.Lib.Builder
import Derived.Lib.Bytealg
import Derived.Laws.Pointers
import Derived.Laws.StructEq
import Derived.WideMake
set_option linter.all false
set_option maxHeartbeats 8000000
set_option maxRecDepth 100000
namespace Go.V
open Go Go.Proofs
def eG:=@Int.eq_ofNat_of_zero_le
def eU:=@List.perm_append_comm
def dW:=@List.append_assoc
def fC:=@List.take_of_length_le
def fI:=@List.flatMap_append
def fV:=@List.map_congr_left
def eY:=@decide_eq_false
def dp:=@Nat.zero_le
def fW:=@List.getElem_map
def l3:=@List.getElem?_append_right
def hB:=@List.length_nil
def iW:=@List.getElem?_set
def hj:=@List.sum_cons
def iX:=@decide_eq_true
def pM:=@List.take_append_drop
def tA:=@List.sublist_cons_self
def sA:=@List.mem_of_mem_take
def pN:=@List.cons_append
def tB:=@Bool.or_eq_false_iff
def oT:=@List.sum_append
def sB:=@List.take_left'
def zP:=@List.reverse_singleton
def qC:=@Bool.true_and
def zQ:=@List.length_replicate
def zR:=@List.eq_nil_or_concat
def zS:=@Int.toNat_of_nonneg
def zT:=@List.filter_sublist
def Cc:=@Int.ofNat_eq_natCast
def Eg:=@MapKept.run_getObj_map
def zU:=@List.ext_getElem?
def Eh:=@List.drop_eq_nil_iff
def Ei:=@MapKept.run_checkKey
def Ej:=@List.length_take_le
def zV:=@List.cons.injEq
def Ek:=@MapKept.run_findKey
def K':=@Int.fdiv_eq_ediv_of_nonneg
def La:=@ByteArray.size_append
def zW:=@List.sum_nil
def PD:=@List.perm_append_singleton
def Hn:=@List.drop_left'
def Ho:=@List.all_append
def PE:=@MapKept.run_setObj_map
def Lb:=@List.all_eq_false
def Lc:=@BitVec.toNat_and
def Ld:=@List.flatMap_nil
def Hp:=@List.cons.inj
def Hq:=@List.set_set
def PF:=@List.getElem_set
def PG:=@Bool.false_and
variable{I:aH}{b j g c bn e T k i:Nat}{s:ByteArray}{v pL p:Value}{t:bk}{P:Program}{w:Bool}{sa:Option Addr}{x y:Operand}{db tC:ea}{cs:List Value}{az:List Int}{os:aR}{α:Type}{F:Fr}{C:dN}{l:List (ByteArray×Int)}
def dJ(b:Nat)(s:List Int):aE:=⟨b,.cells (s.map (Value.int .i64)).toArray 3 (0,0)⟩
def Hr{M:List aE}{s:List Int}(ba:dJ b s∈M)(ai:j<s.length):cR I M ((⟨b,0,none⟩:Addr).add (j*1)) 1 [.int .i64 s[j]]:=by
 rw[eS _ rfl];refine⟨rfl,_,3,(0,0),.inr ⟨_,ba,rfl,rfl⟩,?_,rfl⟩;have aa:j<(s.map (Value.int .i64)).length:=by simpa using ai
 simp only[du,gM];rw[fg aa,rl,qo];simp
def Hs{M:List aE}{s:List Int}{v:Int}(ai:j<s.length)(aj:s[j]=v)(ba:dJ b s∈M):cR I M ((⟨b,0,none⟩:Addr).add (j*1)) 1 [.int .i64 v]:=aj ▸ Hr ba ai
def oU(s:List Int)(j:Nat)(ai:j<s.length)(b:Int):cj (s.map (Value.int .i64)) j [.int .i64 b]=(s.set j b).map (Value.int .i64):=by unfold cj;rw[rn,GX];simp[ai]
def ah2(ao:m4 I)(aq:t.ok I):Spec Tryz.prog 104 [t.val] I [] (λv I' M'=>v=.int .i64 (bif right t then(t.n:Int)else 0)/\I'=I/\M'=[]):=by
 refine bV [] aY Tryz.func104 rfl rfl rfl ?_;intro B ay;refine a8.mk [] [] _ (.refl _) (n7 ao aq) ?_;rintro v I' M' -⟨rfl,rfl,rfl⟩;refine aX.mk (λh=>?_) (λh=>?_)
 ·refine⟨_,_,.refl,?_,rfl,rfl⟩;rw[show right t=false by simpa using h];rfl
 ·refine⟨_,_,.refl,?_,rfl,rfl⟩;rw[show right t=true by simpa using h];rfl
def W7{i:Nat}:∀ {ks:List Int} {s cg:List Bool},kU i ks s=some cg->∀ k∈ks,0<=k/\k<i
 |[],s,cg,_,k,ae=>by cases ae
 |x::ks,s,cg,h,k,ae=>by
  unfold kU at h;cases ag:(decide (x<0)||(decide ((i:Int)<=x)||s.getD x.toNat false))with
  |true=>rw[ag]at h;cases h
  |false=>
   rw[ag]at h;simp only[tB,st]at ag;rcases eI.1 ae with rfl | ae;·omega
   ·exact W7 h k ae
def W8:∀ {i:Nat} {ds:List al} {s cg:List Bool},jH i ds s=some cg->∀ j (h:j<ds.length),∀ k∈ds[j].au,0<=k/\k<(i+j:Nat)
 |i,[],s,cg,_,j,ai,_,_=>by cases ai
 |i,d::ds,s,cg,h,j,ai,k,ae=>by
  unfold jH at h;cases aB:fits d d.au.length with
  |false=>rw[aB]at h;cases h
  |true=>
   rw[aB]at h;simp only[cF]at h;cases aA:kU i d.au s with
   |none=>rw[aA]at h;cases h
   |some s1=>
    rw[aA]at h;cases j with
    |zero=>exact W7 aA k (by simpa using ae)| succ j=>have:=W8 h j (by simpa using ai) k (by simpa using ae);omega
def ly(h:right t=true):∀ j (ai:j<t.ns.length),∀ k∈t.ns[j].au,0<=k/\k<j:=by
 unfold right at h;simp only[cB]at h;obtain⟨_,_,h⟩:=h;split at h
 ·rename_i s av;intro j ai k ae;have:=W8 av j ai k ae;omega
 ·cases h
def l4(h:right t=true):0<=t.bC/\t.bC<t.ns.length:=by unfold right at h;simp only[cB,h6]at h;exact⟨h.1,h.2.1⟩
def Ht(g4:List Int):List Int->Int->Int
 |[],m=>m| k::ks,m=>Ht g4 ks (max m (g4.getD k.toNat 0))
def wA:Nat->List al->List Int->List Int
 |_,[],g4=>g4| i,d::ds,g4=>wA (i+1) ds (g4.set i (Ht g4 d.au 0+1))
def depth(t:bk):Int:=bif right t then(wA 0 t.ns (List.replicate t.ns.length 0)).getD t.bC.toNat 0 else 0
def ah3(ao:m4 I)(aq:t.ok I):Spec Tryz.prog 194 [t.val] I [] (λv I' M'=>v=.int .i64 (depth t)/\I'=I/\M'=[]):=by
 refine bV [] aY Tryz.func194 rfl rfl rfl ?_;intro B ay;have aD:=aq.n;have hA:=aq.a'.cap;refine a8.mk [] [] _ (.refl _) (n7 ao aq) ?_;rintro v I' M' -⟨rfl,rfl,rfl⟩;refine aX.mk (λh=>?_) (λh=>?_)
 ·refine⟨_,_,.refl,?_,rfl,rfl⟩;simp[depth,show right t=false by simpa using h]
 ·have af:right t=true:=by simpa using h
  have rF:=ly af;obtain⟨bc,bi⟩:=l4 af;refine pB.mk t.n t.n rfl rfl (b' _) (by show 8*t.n<=_;omega) (by omega) ?_;refine bW.mk λb ag wz=>?_;refine dt.inv (ι:=Nat×List Int) (λx=>{ bo:=[(1,.ref 1 0),(3,.val (.slice (some ⟨b,0,none⟩) t.n t.n)),(16,.val (.slice t.a t.n t.c)),(17,.val (.int .i64 t.n)),(18,.val (.int .i64 x.1))],cl:=[(1,t.cells)],cH:=I',dd:=[dJ b x.2] }) (λx=>x.1<=t.n/\x.2.length=t.n/\(∀ j,0<=x.2.getD j 0/\x.2.getD j 0<=x.1)/\(∀ j,x.1<=j->x.2.getD j 0=0)/\wA 0 t.ns (List.replicate t.ns.length 0)=wA x.1 (t.ns.drop x.1) x.2) (λx=>t.n-x.1) ?_ ?_
  ·have z:∀ j,(List.replicate t.n (0:Int)).getD j 0=0:=λj=>by
    by_cases ai:j<t.n<;>simp[bS,ai]
   refine⟨(0,List.replicate t.n 0),⟨by omega,by simp,λj=>by rw[z];simp,λj _=>z j,by simp[aD]⟩,?_,hx,.cons rfl .nil⟩;show hc _ _ [⟨b,.cells (rowOf [Value.int .i64 0] (t.n*1)).toArray 3 (0,0)⟩] _ [dJ b (List.replicate t.n 0)];rw[Ca,gM];simp only[dJ,BX];exact .refl
  ·rintro⟨i,g4⟩⟨ft,hW,im,kb,BS⟩;simp only at ft hW im kb BS;refine aX.mk (λh=>?_) (λh=>?_)
   ·have aZ:i<t.n:=by simpa using h
    have cy:i<t.ns.length:=by omega
    obtain⟨aM,bB,bp⟩:=aq.a'.row al.cL aZ cy;have gm:=aq.ns t.ns[i] (bJ cy);have fj:=gm.aG;have l2:t.ns.drop i=t.ns[i]::t.ns.drop (i+1):=fg cy;refine bm.mk aM i bB rfl aZ ?_;refine aO.mk t.ns[i].cells (bp _) ?_;refine dt.inv (ι:=Nat×Int) (λx=>{ bo:=[(1,.ref 1 0),(3,.val (.slice (some ⟨b,0,none⟩) t.n t.n)),(4,.val (.int .i64 i)),(16,.val (.slice t.a t.n t.c)),(17,.val (.int .i64 t.n)),(18,.val (.int .i64 i)),(24,.val (.slice t.ns[i].b0 t.ns[i].aG t.ns[i].ch)),(25,.val (.int .i64 t.ns[i].aG)),(26,.val (.int .i64 x.1))],cl:=[(1,t.cells)],cH:=I',dd:=[dJ b (g4.set i x.2)] }) (λx=>x.1<=t.ns[i].aG/\0<=x.2/\x.2<=i/\Ht g4 t.ns[i].au 0=Ht g4 (t.ns[i].au.drop x.1) x.2) (λx=>t.ns[i].aG-x.1) ?_ ?_
    ·refine⟨(0,0),⟨by omega,by omega,by simp,rfl⟩,?_,lV,.cons rfl .nil⟩;have e:g4.set i 0=g4:=by
      have aa:=kb i (b' _);rw[bS]at aa;apply zU;intro j;rw[iW];split
      ·rename_i e;subst e;have:i<g4.length:=by omega
       simp[this]at aa |-;exact aa.symm
      ·rfl
     simp only;rw[e];exact .refl
    ·rintro⟨j,m⟩⟨K9,tz,Ee,PH⟩;simp only at K9 tz Ee PH;refine aX.mk (λh=>?_) (λh=>?_)
     ·have fB:j<t.ns[i].aG:=by simpa using h
      have oS:j<t.ns[i].au.length:=by omega
      obtain⟨gn,fo,fh⟩:=gm.a'.one fB oS;have jW:t.ns[i].au.drop j=t.ns[i].au[j]::t.ns[i].au.drop (j+1):=fg oS;have ae:=rF i cy t.ns[i].au[j] (bJ oS);have lx:t.ns[i].au[j]=((t.ns[i].au[j].toNat:Nat):Int):=by omega
      have c7:t.ns[i].au[j].toNat<t.n:=by omega
      refine bm.mk gn j fo rfl fB ?_;refine aO.mk [.int .i64 t.ns[i].au[j]] (fh _) ?_;refine cT.draw aY rfl rfl rfl ?_;have eo:i<(g4.set i m).length:=by simp;omega
      have x6:t.ns[i].au[j].toNat<(g4.set i m).length:=by simp;omega
      have PI:(g4.set i m)[i]=m:=by simp
      have e0:(g4.set i m)[t.ns[i].au[j].toNat]=g4.getD t.ns[i].au[j].toNat 0:=by
       have bt:i≠t.ns[i].au[j].toNat:=by omega
       have dR:t.ns[i].au[j].toNat<g4.length:=by omega
       rw[PF,bN bt];simp[bS,dR]
      refine bm.mk ⟨b,0,none⟩ i rfl rfl aZ ?_;refine aO.mk [.int .i64 m] (Hs eo PI (by simp)) ?_;refine bm.mk ⟨b,0,none⟩ t.ns[i].au[j].toNat rfl lx c7 ?_;refine aO.mk [.int .i64 (g4.getD t.ns[i].au[j].toNat 0)] (Hs x6 e0 (by simp)) ?_;refine bm.mk ⟨b,0,none⟩ i rfl rfl aZ ?_;refine ck.add [] [] _ 3 rfl ?_ rfl ?_;·simp only[tr,bx];show 0+i*1+1<=_;simp;omega
      have gP:IntKind.i64.wrap ((j:Int)+1)=((j+1:Nat):Int):=by rw[wrap_i64 ⟨by omega,by have:=gm.a'.cap;omega⟩];omega
      refine bd.mk _ gP ?_;have avj:=im t.ns[i].au[j].toNat;refine⟨(j+1,max m (g4.getD t.ns[i].au[j].toNat 0)),⟨⟨by omega,by simp only;omega,by simp only;omega,?_⟩,by show _<_;simp only;omega⟩,?_,lV,.cons rfl .nil⟩;·simp only;rw[PH,jW];rfl
      ·have e:=oU (g4.set i m) i eo (max m (g4.getD t.ns[i].au[j].toNat 0));simp only[dJ];rw[Hq]at e;rw[<-e];simp only[du,gM];exact .refl
     ·have fB:¬ j<t.ns[i].aG:=by simpa using h
      have Cb:t.ns[i].au.drop j=[]:=lW (by omega);have hm:Ht g4 t.ns[i].au 0=m:=by rw[PH,Cb];rfl
      have eo:i<(g4.set i m).length:=by simp;omega
      have PI:(g4.set i m)[i]=m:=by simp
      have ah4:IntKind.i64.wrap (m+1)=m+1:=wrap_i64 ⟨by omega,by omega⟩;have gP:IntKind.i64.wrap ((i:Int)+1)=((i+1:Nat):Int):=by rw[wrap_i64 ⟨by omega,by omega⟩];omega
      refine bm.mk ⟨b,0,none⟩ i rfl rfl aZ ?_;refine aO.mk [.int .i64 m] (Hs eo PI (by simp)) ?_;refine bd.mk _ ah4 ?_;refine bm.mk ⟨b,0,none⟩ i rfl rfl aZ ?_;refine ck.add [] [] _ 3 rfl ?_ rfl ?_;·simp only[tr,bx];show 0+i*1+1<=_;omega
      refine bd.mk _ gP ?_;refine⟨(i+1,g4.set i (m+1)),⟨⟨by omega,by simp[hW],?_,?_,?_⟩,by show _<_;simp only;omega⟩,?_,hx,.cons rfl .nil⟩
      ·intro q;have ah5:=im q;simp only[bS,iW]at ah5 |-;split
       ·rename_i e;subst e;have:i<g4.length:=by omega
        simp[this];omega
       ·omega
      ·intro q aL;have W9:=kb q (by omega);simp only at aL;simp only[bS,iW]at W9 |-;rw[bN (by omega)];exact W9
      ·simp only;rw[BS,l2];simp only[wA,hm]
      ·have e:=oU (g4.set i m) i eo (m+1);simp only[dJ];rw[Hq]at e;rw[<-e];simp only[du,gM];exact .refl
   ·have c0:¬ i<t.n:=by simpa using h
    have h8:t.ns.drop i=[]:=lW (by omega);have eO:wA 0 t.ns (List.replicate t.ns.length 0)=g4:=by rw[BS,h8];rfl
    have mz:t.bC=((t.bC.toNat:Nat):Int):=by omega
    have eH:t.bC.toNat<g4.length:=by omega
    refine bm.mk ⟨b,0,none⟩ t.bC.toNat rfl mz (by omega) ?_;refine aO.mk [.int .i64 g4[t.bC.toNat]] (Hs eH rfl (by simp)) ?_;refine⟨_,_,.sub (gd _) .refl,?_,rfl,rfl⟩;have:depth t=g4[t.bC.toNat]:=by unfold depth;rw[af,eO];simp[bS,eH]
    rw[this];rfl
def pO(t:bk):Bool:=decide (t.n<=1024)&&(right t&&decide (depth t<=32))
def ah6(ao:m4 I)(aq:t.ok I):Spec Tryz.prog 131 [t.val] I [] (λv I' M'=>v=.bool (pO t)/\I'=I/\M'=[]):=by
 refine bV [] aY Tryz.func131 rfl rfl rfl ?_;intro B ay;refine bX.mk (λaa=>?_) (λaa=>?_)
 ·refine a8.mk [] [] _ (.refl _) (n7 ao aq) ?_;rintro v I' M' -⟨rfl,rfl,rfl⟩;refine bX.mk (λad=>?_) (λad=>?_)
  ·refine a8.mk [] [] _ (.refl _) (ah3 ao aq) ?_;rintro v I' M' -⟨rfl,rfl,rfl⟩;refine⟨_,_,.refl,?_,rfl,rfl⟩;have wB:t.n<=1024:=by simp at aa;omega
   simp[pO,wB,ad]
  ·refine⟨_,_,.refl,?_,rfl,rfl⟩;have oQ:right t=false:=ad;simp[pO,oQ]
 ·refine⟨_,_,.refl,?_,rfl,rfl⟩;have wB:¬ t.n<=1024:=by simp at aa;omega
  simp[pO,wB]
def gF{α:Type}(z:α)(f:al->(Int->α)->α):List al->List α->List α
 |[],a2=>a2| d::ds,a2=>gF z f ds (a2++[f d λk=>a2.getD k.toNat z])
section
variable{α:Type}{z:α}{f:al->(Int->α)->α}
def PJ:∀ (ds:List al) (a2:List α),(gF z f ds a2).length=a2.length+ds.length
 |[],a2=>by simp[gF]
 |d::ds,a2=>by rw[gF,PJ ds];simp;omega
def PK:∀ (ds:List al) (a2:List α) (j:Nat),j<a2.length->(gF z f ds a2)[j]?=a2[j]?
 |[],a2,j,_=>rfl| d::ds,a2,j,h=>by rw[gF,PK ds _ j (by simp;omega),ri h]
def PL:∀ (ds:List al) (a2:List α) (j:Nat) (h:j<ds.length),(gF z f ds a2)[a2.length+j]?=some (f ds[j] λk=>((gF z f ds a2).take (a2.length+j)).getD k.toNat z)
 |d::ds,a2,0,_=>by
  rw[gF,oz,PK ds _ a2.length (by simp)];simp only[List.getElem?_concat_length,tp,kK];congr 1;funext k;have:(gF z f ds (a2++[f d λk=>a2.getD k.toNat z])).take a2.length=a2:=by
   apply zU;intro i;rw[lb];split;·rename_i hi;rw[PK ds _ i (by simp;omega),ri hi]
   ·rw[qn (by omega)]
  rw[this]
 |d::ds,a2,j+1,h=>by have:=PL ds (a2++[f d λk=>a2.getD k.toNat z]) j (by simpa using h);rw[gF];simp only[cr,et,hB,du,GZ]at this |-;rw[show a2.length+(j+1)=a2.length+1+j from by omega];exact this
def mA(z:α)(f:al->(Int->α)->α)(ns:List al)(k:Int):α:=(gF z f ns []).getD k.toNat z
def El(aB:∀ d g eg,(∀ k∈d.au,g k=eg k)->f d g=f d eg)(af:right t=true)(ai:j<t.ns.length):mA z f t.ns j=f t.ns[j] (mA z f t.ns):=by have h:=PL (z:=z) (f:=f) t.ns [] j ai;simp only[hB,du]at h;unfold mA;rw[bS,show((j:Int).toNat)=j from by omega,h,kL];refine aB _ _ _ λk ae=>?_;have:=ly af j ai k ae;rw[bS,bS,lb,bT (by omega)]
end
def free(g:Nat->Nat)(s:List Bool):Nat->Nat
 |0=>0| i+1=>free g s i+(bif s.getD i false then 0 else g i)
def W'{g:Nat->Nat}{s:List Bool}{k:Nat}:∀ {i:Nat},i<=k->free g (s.set k true) i=free g s i
 |0,_=>rfl| i+1,h=>by unfold free;rw[W' (by omega)];simp only[bS,iW];rw[bN (by omega)]
def Xa{g:Nat->Nat}{s:List Bool}{k:Nat}(av:s.getD k false=false)(ax:k<s.length):∀ {i:Nat},k<i->free g (s.set k true) i+g k=free g s i
 |i+1,h=>by
  unfold free;by_cases e:i=k;·subst e;rw[W' (b' _),av];simp[bS,ax]
  ·have:=Xa (g:=g) av ax (i:=i) (by omega);simp only[bS,iW]at this |-;rw[bN (by omega)];omega
def gQ(g:Int->Nat)(ks:List Int):Nat:=(ks.map g).sum
def Xb{g:Nat->Nat}{i:Nat}:∀ {ks:List Int} {s cg:List Bool},kU i ks s=some cg->i<=s.length->cg.length=s.length/\free g cg i+gQ (λk=>g k.toNat) ks=free g s i
 |[],s,cg,h,_=>by simp only[kU,kK]at h;subst h;exact⟨rfl,rfl⟩
 |x::ks,s,cg,h,ax=>by
  unfold kU at h;cases ag:(decide (x<0)||(decide ((i:Int)<=x)||s.getD x.toNat false))with
  |true=>rw[ag]at h;cases h| false=>rw[ag]at h;simp only[tB,st]at ag;obtain⟨aa,ad,ak⟩:=ag;obtain⟨aI,a6⟩:=Xb (g:=g) h (by simpa using ax);have cq:=Xa (g:=g) ak (by omega) (i:=i) (by omega);refine⟨by simpa using aI,?_⟩;simp only[gQ,b5,hj]at a6 |-;omega
def PM{g:Nat->Nat}{c:al->Nat}:∀ {ds:List al} {i:Nat} {s cg:List Bool},jH i ds s=some cg->i+ds.length<=s.length->(∀ j (h:j<ds.length),g (i+j)<=c ds[j]+gQ (λk=>g k.toNat) ds[j].au) -> cg.length=s.length/\free g cg (i+ds.length)<=free g s i+(ds.map c).sum
 |[],i,s,cg,h,_,_=>by simp only[jH,kK]at h;subst h;simp
 |d::ds,i,s,cg,h,ax,aw=>by
  unfold jH at h;cases aB:fits d d.au.length with
  |false=>rw[aB]at h;cases h
  |true=>
   rw[aB]at h;simp only[cF]at h;cases aA:kU i d.au s with
   |none=>rw[aA]at h;cases h
   |some s1=>
    rw[aA]at h;simp only[et]at ax;obtain⟨aI,a6⟩:=Xb (g:=g) aA (by omega);obtain⟨cq,dS⟩:=PM (g:=g) (c:=c) h (by omega) (λj ai=>by
     have:=aw (j+1) (by simp;omega);simp only[GZ]at this;rw[show i+1+j=i+(j+1)from by omega];exact this)
    have ay:=aw 0 (by simp);simp only[oz,tp]at ay;refine⟨by omega,?_⟩;have l5:free g s1 (i+1)<=free g s1 i+g i:=by
     show free g s1 i+_<=_;cases s1.getD i false<;>simp
    simp only[et,b5,hj];rw[show i+(ds.length+1)=i+1+ds.length from by omega];omega
def Xc{bC:Int}:∀ {s:List Bool} {i:Nat},rC bC i s=true->∀ j,j<s.length->(i+j:Nat)=bC->s.getD j false=false
 |b::s,i,h,j,ai,e=>by
  unfold rC at h;cases ag:(b == decide ((i:Int)=bC))with
  |true=>rw[ag]at h;cases h
  |false=>
   rw[ag]at h;cases j with
   |zero=>
    have:decide ((i:Int)=bC)=true:=by simpa using e
    rw[this]at ag;simpa using ag
   |succ j=>have:=Xc (i:=i+1) h j (by simpa using ai) (by omega);simpa using this
def Xd{g:Nat->Nat}{s:List Bool}{k:Nat}(ae:s.getD k false=false):∀ {n:Nat},k<n->g k<=free g s n
 |n+1,h=>by
  unfold free;by_cases e:n=k;·subst e;rw[ae];simp
  ·have:=Xd (g:=g) ae (n:=n) (by omega);omega
def PN(af:right t=true){g:Int->Nat}{c:al->Nat}(h:∀ j (ai:j<t.ns.length),g j<=c t.ns[j]+gQ g t.ns[j].au):g t.bC<=(t.ns.map c).sum:=by
 have m5:=l4 af;have ae:=ly af;unfold right at af;simp only[cB]at af;obtain⟨_,_,af⟩:=af;split at af
 ·rename_i s av;obtain⟨aI,a6⟩:=PM (g:=λk=>g k) (c:=c) av (by simp) (λj ai=>by refine jg (by rw[du];exact h j ai) (Nat.le_of_eq ?_);congr 1;unfold gQ;congr 1;refine fV λk e0=>?_;have:=ae j ai k e0;rw[zS this.1]);simp only[zQ,du]at aI a6;have bb:=Xc af t.bC.toNat (by omega) (by omega);have:=Xd (g:=λk=>g k) bb (n:=t.ns.length) (by omega);rw[zS m5.1]at this;simp only[free]at a6;omega
 ·cases af
def Em(af:right t=true)(ai:j<t.ns.length):fits t.ns[j] t.ns[j].au.length=true:=by
 have aux:∀ {ds:List al} {i:Nat} {s cg:List Bool},jH i ds s=some cg->∀ j (h:j<ds.length),fits ds[j] ds[j].au.length=true:=by
  intro ds
  induction ds with
  |nil=>intro i s cg _ j ai;cases ai
  |cons d ds aQ=>
   intro i s cg h j ai;unfold jH at h;cases aB:fits d d.au.length with
   |false=>rw[aB]at h;cases h
   |true=>
    rw[aB]at h;simp only[cF]at h;cases aA:kU i d.au s with
    |none=>rw[aA]at h;cases h
    |some s1=>
     rw[aA]at h;cases j with
     |zero=>exact aB| succ j=>exact aQ h j (by simpa using ai)
 unfold right at af;simp only[cB]at af;obtain⟨_,_,af⟩:=af;split at af
 ·rename_i s av;exact aux av j ai
 ·cases af
def Xe{w:World}(t u ty e:Nat)(i:TypeInfo)(aq:P.underlying t=some (.slice e)){my:TypeDesc}(hu:P.underlying u=some my)(n5:∀ k,my≠.int k)(hi:P.info? e=some i)
 {n:Nat} (m0:n<=c) (ay:(∃ b c,pL=.slice b 0 c)\/pL=.string .empty):(Builtin.append_ #[t,u] ty #[.slice sa n c,pL]).run P w=.ok (.slice sa n c) w:=by
 have Hm:(match my with | .int _=>true | _=>false)=false:=by cases my<;>first | rfl | exact(n5 _ rfl).elim
 rcases ay with⟨b,c',rfl⟩ | rfl
 ·cases b<;>cases sa<;>simp[Builtin.append_,run_underlying aq,run_underlying hu,sizeOf,typeInfo,hi,Hm,Builtin.lenOf,m0,Builtin.firstCells,Builtin.zeroCells,loadCells,loadCellsFrom,storeCells]
 ·cases sa<;>simp[Builtin.append_,run_underlying aq,run_underlying hu,sizeOf,typeInfo,hi,Hm,Builtin.lenOf,m0,Builtin.firstCells,loadCells,storeCells]
section
variable{X:c3}{β:Nat->Nat}{a:Act}{w:World}{F:Fr}{C:dN}{I:aH}{M:List aE}{o:Oper}{K:gl}
def bD.bin{op:BinOp}{t:Nat}(aA:o.op=.binOp op t x y bn)(ah:∀ d,o.dst=some d->d<X.n){q:Value}(ab:bH F x=.val p)(aC:bH F y=.val q)
  (aw:∀ w,(eqGuard op t x y p q).run X.P w=.ok () w) (af:∀ w,eM I M w->(binOp op t p q).run X.P w=.ok v w) (h:K (put o.dst (.val v) F) C I M):bD X o F C I M K:=by
 refine⟨λac w Q ⟨β,aV⟩=>?_⟩;have ex:=dj aV.an ab;have oP:=dj aV.an aC;refine v9 aV ah (by rw[aA];simp) ?_ h;unfold execOp;simp only[aA,cp,ex,oP,aw,bZ,af w aV.holds,da]
def bD.conv{s t:Nat}(aA:o.op=.convert s t x)(ah:∀ d,o.dst=some d->d<X.n)(ab:bH F x=.val p)
  (af:∀ w,eM I M w->(convert s t p).run X.P w=.ok v w) (h:K (put o.dst (.val v) F) C I M):bD X o F C I M K:=by
 refine⟨λac w Q ⟨β,aV⟩=>?_⟩;have ex:=dj aV.an ab;refine v9 aV ah (by rw[aA];simp) ?_ h;unfold execOp;simp only[aA,cp,ex,bZ,af w aV.holds,da]
def bD.un{op:UnOp}{t:Nat}(aA:o.op=.unOp op t x)(ah:∀ d,o.dst=some d->d<X.n)(ab:bH F x=.val p)
  (af:∀ w,eM I M w->(Op.unary op p).run X.P w=.ok v w) (h:K (put o.dst (.val v) F) C I M):bD X o F C I M K:=by
 refine⟨λac w Q ⟨β,aV⟩=>?_⟩;have ex:=dj aV.an ab;refine v9 aV ah (by rw[aA];simp) ?_ h;unfold execOp;simp only[aA,cp,ex,bZ,af w aV.holds,da]
def jI(x:Int):Int:=IntKind.u64.wrap (BitVec.ofInt 64 IntKind.u64.max ^^^ BitVec.ofInt 64 x).toNat
def bD.Hu{t:Nat}(aA:o.op=.unOp .xor t x)(ah:∀ d,o.dst=some d->d<X.n){n:Int}(ab:bH F x=.val (.int .u64 n))(h:K (put o.dst (.val (.int .u64 (jI n))) F) C I M):bD X o F C I M K:=
 .un aA ah ab (λw _=>rfl) h
def bD.PO(aN:cW X.P X.E){s:Operand}{t u:Nat}(aA:o.op=.call { callee:=.builtin .append,args:=#[s,x],argTypes:=#[t,u] })(ah:∀ d,o.dst=some d->d<X.n)
 {lY aF:ea} (aq:X.E t=some db) (dk:db.bP=.slice e) (hu:X.E u=some lY) (fN:∀ k,lY.bP≠.int k) (he:X.E e=some aF)
 {n:Nat} (av:bH F s=.val (.slice sa n c)) (m0:n<=c)
 (ab:bH F x=.val pL) (ay:(∃ b c,pL=.slice b 0 c)\/pL=.string .empty)
  (h:K (put o.dst (.val (.slice sa n c)) F) C I M):bD X o F C I M K:=by
 refine⟨λa w Q ⟨β,aV⟩=>?_⟩;obtain⟨inf,z,hi,ft,hW,im,kb⟩:=(aN _ _ he).inf;obtain⟨d,fP,fl⟩:=(aN _ _ hu).fs;obtain⟨g3,iU,kS⟩:=(aN _ _ aq).fs;have oO:g3=.slice e:=by rw[dk]at kS;cases g3<;>simp_all[fr]
 subst oO;have fb:=Xe (w:=w) t u o.type e inf iU fP (λk cZ=>fN k (by rw[<-fl,cZ];rfl)) hi (sa:=sa) m0 ay;have es:=dj aV.an av;have ex:=dj aV.an ab;refine v9 aV ah (by rw[aA];simp) ?_ h;unfold execOp;simp only[aA,resolve,invoke,builtin,cp,da,bZ,rm,b5,hy,es,ex,fb]
def Xf(op:BinOp)(t:Nat)(x y:Operand)(p q:Option Addr)(P:Program)(w:World):(eqGuard op t x y (.pointer p) (.pointer q)).run P w=.ok () w:=by
 unfold eqGuard;cases op<;>rfl
def bD.Le(aN:cW X.P X.E){t:Nat}(aA:o.op=.binOp .eql t x y bn)(ah:∀ d,o.dst=some d->d<X.n)(aq:X.E t=some db)(dk:db.bP=.pointer e)
  {p:Option Addr} (ab:bH F x=.val (.pointer p)) (aC:bH F y=.val (.pointer none)) (h:K (put o.dst (.val (.bool p.isNone)) F) C I M):bD X o F C I M K:=by
 obtain⟨d,fP,fl⟩:=(aN _ _ aq).fs;have aa:d=.pointer e:=by rw[dk]at fl;cases d<;>simp_all[fr]
 subst aa;exact .bin aA ah ab aC (λw=>Xf ..) (λw _=>run_eql_pointer_nil w t p (by simp[Program.pointee,fP])) h
def bD.Xg(aN:cW X.P X.E){t:Nat}(aA:o.op=.binOp .neq t x y bn)(ah:∀ d,o.dst=some d->d<X.n){ah7:ea}(aq:X.E t=some db)(dk:db.bP=.pointer e)(he:X.E e=some ah7)
  {p:Addr} (ab:bH F x=.val (.pointer (some p))) (aC:bH F y=.val (.pointer (some p))) (h:K (put o.dst (.val (.bool false)) F) C I M):bD X o F C I M K:=by
 obtain⟨d,fP,fl⟩:=(aN _ _ aq).fs;have aa:d=.pointer e:=by rw[dk]at fl;cases d<;>simp_all[fr]
 subst aa;obtain⟨inf,z,hi,_⟩:=(aN _ _ he).inf;exact .bin aA ah ab aC (λw=>Xf ..) (λw _=>Lib.run_neq_ptr_same w p fP hi) h
end
def Xh{f:Nat}{fn:Func}{e:Array Value->Sem Value}{args:List Value}{M:List aE}(aB:P.funcs[f]?=some fn)(ah8:(fn.name == "runtime.NumGoroutine")=false)
  (ag:fn.body.isNone=true) (aD:Extern.findNext fn=none) (he:Extern.find fn=some e) (af:∀ w,(e args.toArray).run P w=.ok v w):Spec P f args I M λr I' M'=>r=v/\I'=I/\M'=M:=by
 refine .inr λw hw=>⟨v,w,I,M,?_,⟨rfl,rfl,rfl⟩,hw,λ_ _ h=>h,λ_ _ h=>.inl h,λx ab=>.inl ⟨x,ab,rfl⟩,λ_ _ _=>rfl,.refl _,b' _⟩;rw[run_callFunc_extern aB ah8 ag aD he,af];rfl
def zX(l:List UInt8):List Value:=l.map λb=>.int .u8 b.toNat
structure gp where
 tD:Bool
 os:aR
 cz:List UInt8
def gp.ar(b:Nat)(x:gp):aE:=⟨b,.cells #[.pointer (bif x.tD then some ⟨b,0,none⟩else none),x.os.val] 320 (0,0)⟩
def gp.M(b:Nat)(x:gp):List aE:=x.ar b::x.os.ar 5
structure gp.ok(x:gp):Prop where
 os:x.os.ok 1 (zX x.cz)
 ne:∀ g,x.os.a=some g->x.cz≠[]
def gp.new:gp:=⟨false,⟨none,0,0,[]⟩,[]⟩
def gp.Lf:gp.new.ok:=⟨⟨rfl,λ_=>⟨rfl,rfl⟩,λg h=>by cases h⟩,λg h=>by cases h⟩
def gp.ok.n{x:gp}(h:x.ok):x.os.n=x.cz.length:=by have:=h.os.len;simp[zX]at this;omega
def ptr(b:Nat):Value:=.pointer (some ⟨b,0,none⟩)
def dr{M:List aE}(ba:(⟨b,.cells cs.toArray T (0,0)⟩:aE)∈M){n:Nat}(h:k+n<=cs.length):cR I M ((⟨b,0,none⟩:Addr).add k) n ((cs.drop k).take n):=by
 rw[eS _ rfl];refine⟨rfl,_,T,(0,0),.inr ⟨_,ba,rfl,rfl⟩,?_,?_⟩
 ·simp
 ·simp;omega
def PP{M:List aE}(v:Value):Spec Tryz.prog 322 [v] I M λr I' M'=>r=v/\I'=I/\M'=M:=
 Xh Tryz.func322 (by kernel_rfl) (by kernel_rfl) (by kernel_rfl) (e:=Extern.AbiNoEscape.same) (by kernel_rfl) (λw=>Lib.run_noEscape w _)
def Xi{M:List aE}(s:ByteArray)(c:UInt8):Spec Tryz.prog 364 [.string s,.int .u8 c.toNat] I M λr I' M'=>r=.int .i64 (Lib.indexByte s.data.toList c)/\I'=I/\M'=M:=
 Xh Tryz.func364 (by kernel_rfl) (by kernel_rfl) (by kernel_rfl) (e:=Extern.BytealgIndexByte.indexByte) (by kernel_rfl) (λw=>by
  have:=Lib.run_indexByteString (P:=Tryz.prog) s (c.toNat:Int) w;simpa using this)
def ah9(s:ByteArray)(c:UInt8):Spec Tryz.prog 346 [.string s,.int .u8 c.toNat] I [] λr I' M'=>r=.int .i64 (Lib.indexByte s.data.toList c)/\I'=I/\M'=[]:=by refine bV [] aY Tryz.func346 rfl rfl rfl ?_;intro B ay;refine a8.mk [] [] _ (.refl _) (Xi s c) ?_;rintro v I' M' -⟨rfl,rfl,rfl⟩;exact⟨_,_,.refl,rfl,rfl,rfl⟩
def Xj(s:ByteArray)(c:UInt8):Spec Tryz.prog 330 [.string s,.int .u8 c.toNat] I [] λr I' M'=>r=.int .i64 (Lib.indexByte s.data.toList c)/\I'=I/\M'=[]:=by refine bV [] aY Tryz.func330 rfl rfl rfl ?_;intro B ay;refine a8.mk [] [] _ (.refl _) (ah9 s c) ?_;rintro v I' M' -⟨rfl,rfl,rfl⟩;exact⟨_,_,.refl,rfl,rfl,rfl⟩
def Lg{M:List aE}{w:World}(h:eM I M w){cs:Array Value}{an:Nat×Nat}(ba:(⟨b,.cells cs T an⟩:aE)∈M):w.shape? b=some (T,cs.size):=by have:=h.m _ ba;simp only at this;simp[World.shape?,this]
def Xk(b:Nat)(x:gp):Spec Tryz.prog 300 [ptr b] I [x.ar b] λr I' M'=>r=.tuple #[]/\I'=I/\M'=[{ x with tD:=true:gp }.ar b]:=by
 obtain⟨tD,os,cz⟩:=x;obtain⟨inf,z,hi,ft,_⟩:=(aY 320 _ rfl).inf;refine bV [] aY Tryz.func300 rfl rfl rfl ?_;intro B ay;cases tD with
 |false=>refine aO.mk [.pointer none] (dr (cs:=[.pointer none,os.val]) (k:=0) (n:=1) (T:=320) (eN.2 rfl) (by simp)) ?_;refine .other (bD.Le aY rfl (by simp) rfl rfl rfl rfl ?_);refine aX.mk (λ_=>?_) (λh=>by cases h);refine bD.conv rfl (by simp) rfl (λw hw=>Lib.run_to_unsafe (t:=320) (e:=320) (cells:=2) w ⟨b,0,none⟩ (by kernel_rfl) (by kernel_rfl) (j:=inf) hi (by rw[ft];decide) (Lg (cs:=#[.pointer none,os.val]) hw (eN.2 rfl)) (by simp)) ?_;refine a8.mk [gp.ar b ⟨false,os,cz⟩] [] _ (by simp) (PP _) ?_;rintro v I' M' -⟨rfl,rfl,rfl⟩;refine bD.conv rfl (by simp) rfl (λw hw=>Lib.run_from_unsafe (u:=320) (e:=320) (cells:=2) w ⟨b,0,none⟩ (by kernel_rfl) (by kernel_rfl) (j:=inf) hi (Lg (cs:=#[.pointer none,os.val]) hw (eN.2 rfl)) (by kernel_rfl)) ?_;refine ck.add [] [] _ _ rfl (bK rfl) rfl ?_;exact⟨_,_,.refl,rfl,rfl,rfl⟩
 |true=>refine aO.mk [ptr b] (dr (cs:=[ptr b,os.val]) (k:=0) (n:=1) (T:=320) (eN.2 rfl) (by simp)) ?_;refine .other (bD.Le aY rfl (by simp) rfl rfl rfl rfl ?_);refine aX.mk (λh=>by cases h) (λ_=>?_);refine aO.mk [ptr b] (dr (cs:=[ptr b,os.val]) (k:=0) (n:=1) (T:=320) (eN.2 rfl) (by simp)) ?_;refine .other (bD.Xg aY rfl (by simp) rfl rfl rfl rfl rfl ?_);refine aX.mk (λh=>by cases h) (λ_=>?_);exact⟨_,_,.refl,rfl,rfl,rfl⟩
def pP(b:Nat){x:gp}(ab:x.ok)(c:UInt8)(ax:x.cz.length<70368744177664):Spec Tryz.prog 318 [ptr b,.int .u8 c.toNat] I (x.M b)
  λr I' M'=>r=.nilIface/\I'=I/\∃ y:gp,y.ok/\y.cz=x.cz++[c]/\M'=y.M b:=by
 refine bV [] aY Tryz.func318 rfl rfl rfl ?_;intro B ay;have aD:=ab.n;refine a8.mk [x.ar b] (x.os.ar 5) _ (.refl _) (Xk b x) ?_;rintro v I' M' -⟨rfl,rfl,rfl⟩;refine aO.mk [x.os.val] (dr (cs:=[ptr b,x.os.val]) (k:=1) (n:=1) (T:=320) (.head _) (by simp)) ?_;refine bW.mk λg aw En=>?_;refine bD.append aY rfl (by simp) (e:=5) rfl rfl rfl x.os (xs:=zX x.cz) ab.os rfl (m:=1) rfl (cb:=[.int .u8 c.toNat]) (by decide) ?_ rfl (Mr:=[⟨g,.cells #[.int .u8 c.toNat] 5 (0,0)⟩,{ x with tD:=true:gp }.ar b]) ?_ ?_ ?_ ?_
 ·exact dr (cs:=[.int .u8 c.toNat]) (k:=0) (n:=1) (T:=5) (.head _) (by simp)
 ·exact eU (l₁:=[_,_]) (l₂:=x.os.ar 5)
 ·simp only[maxLen];omega
 ·show(x.os.n+1)*1<=_;omega
 ·intro eg c' aS aa ad ak aK;refine ck.add [⟨eg,.cells aS.toArray 5 (0,0)⟩,⟨g,.cells #[.int .u8 c.toNat] 5 (0,0)⟩] [] _ _ rfl (bK rfl) rfl ?_;refine⟨_,_,.perm (M1:=[⟨g,.cells #[.int .u8 c.toNat] 5 (0,0)⟩]++gp.M b ⟨true,⟨some eg,x.os.n+1,c',aS⟩,x.cz++[c]⟩) ?_ (.sub (mT _ _) .refl),rfl,rfl,_,?_,rfl,rfl⟩
  ·exact eU (l₁:=[_]) (l₂:=[_,_])
  ·refine⟨⟨?_,λh=>by simp at h,?_⟩,by simp⟩
   ·simp[zX,aD]
   ·intro bi m6;refine⟨aa,ad,ak,?_⟩;rw[aK];simp[zX]
def uW(b:Nat){x:gp}(ab:x.ok)(s:ByteArray)(ax:x.cz.length+s.size<=70368744177664):Spec Tryz.prog 279 [ptr b,.string s] I (x.M b)
  λr I' M'=>r=.tuple #[.int .i64 s.size,.nilIface]/\I'=I/\∃ y:gp,y.ok/\y.cz=x.cz++s.data.toList/\M'=y.M b:=by
 refine bV [] aY Tryz.func279 rfl rfl rfl ?_;intro B ay;have aD:=ab.n;refine a8.mk [x.ar b] (x.os.ar 5) _ (.refl _) (Xk b x) ?_;rintro v I' M' -⟨rfl,rfl,rfl⟩;refine aO.mk [x.os.val] (dr (cs:=[ptr b,x.os.val]) (k:=1) (n:=1) (T:=320) (.head _) (by simp)) ?_;by_cases av:s.size=0
 ·have he:s=.empty:=v3 (O3 av);subst he;have m0:x.os.n<=x.os.c:=by
   cases a7:x.os.a with
   |none=>obtain⟨aa,ad⟩:=ab.os.nil a7;omega
   |some g=>exact(ab.os.cap g a7).2.1
  refine bD.PO aY rfl (by simp) (e:=5) rfl rfl rfl (by simp) rfl rfl m0 rfl (.inr rfl) ?_;refine ck.add [] (x.os.ar 5) _ _ rfl (bK rfl) rfl ?_;exact⟨_,_,.refl,rfl,rfl,⟨true,x.os,x.cz⟩,⟨ab.os,ab.ne⟩,by simp,rfl⟩
 ·refine bD.ahR aY rfl (by simp) (e:=5) rfl rfl rfl rfl rfl rfl x.os (xs:=zX x.cz) ab.os rfl rfl (by omega) (Mr:=[{ x with tD:=true:gp }.ar b]) (eU (l₁:=[_])) ?_ ?_ ?_
  ·simp only[maxLen];omega
  ·show(x.os.n+s.size)*1<=_;omega
  ·intro eg c' aS aa ad ak aK;refine ck.add [⟨eg,.cells aS.toArray 5 (0,0)⟩] [] _ _ rfl (bK rfl) rfl ?_;refine⟨_,_,.perm (M1:=gp.M b ⟨true,⟨some eg,x.os.n+s.size,c',aS⟩,x.cz++s.data.toList⟩) ?_ .refl,rfl,rfl,_,?_,rfl,rfl⟩
   ·exact eU (l₁:=[_]) (l₂:=[_])
   ·refine⟨⟨?_,λh=>by simp at h,?_⟩,λg _ h=>?_⟩
    ·simp[zX,aD]
    ·intro bi m6;refine⟨aa,ad,ak,?_⟩;rw[aK];simp[zX,lv]
    ·have bz:=congrArg List.length (List.append_eq_nil_iff.1 h).2;exact av (by simpa using bz)
def x7(b:Nat){x:gp}(ab:x.ok)(ax:x.cz.length<=70368744177664):Spec Tryz.prog 280 [ptr b] I (x.M b)
  λr I' M'=>r=.string ⟨x.cz.toArray⟩/\I'=I/\M'=[]:=by
 refine bV [] aY Tryz.func280 rfl rfl rfl ?_;intro B ay;have aD:=ab.n;obtain⟨tD,⟨a,n,c,aS⟩,cz⟩:=x;simp only at aD ax;subst aD;refine cT.draw aY rfl rfl rfl ?_;cases a with
 |none=>obtain⟨aa,ad⟩:=ab.os.nil rfl;simp only at aa ad;have Eo:cz=[]:=jl aa;subst Eo;subst ad;refine aO.mk [.slice none 0 0] (dr (cs:=[.pointer (bif tD then some ⟨b,0,none⟩else none),.slice none 0 0]) (k:=1) (n:=1) (T:=320) (.head _) (by simp)) ?_;refine aO.mk [.slice none 0 0] (dr (cs:=[.pointer (bif tD then some ⟨b,0,none⟩else none),.slice none 0 0]) (k:=1) (n:=1) (T:=320) (.head _) (by simp)) ?_;refine bD.WL rfl (by simp) rfl rfl ?_;exact⟨_,_,.sub (gd _) .refl,rfl,rfl,rfl⟩
 |some g=>
  obtain⟨aa,ad,ak,aK⟩:=ab.os.cap g rfl;have bt:=ab.ne g rfl;simp only at aa ad ak aK bt;have ms:cz.length≠0:=λh=>bt (jl h);refine aO.mk [.slice (some ⟨g,0,none⟩) cz.length c] (dr (cs:=[.pointer (bif tD then some ⟨b,0,none⟩else none),.slice (some ⟨g,0,none⟩) cz.length c]) (k:=1) (n:=1) (T:=320) (.head _) (by simp)) ?_;refine uD.mk (by omega) ?_;refine aO.mk [.slice (some ⟨g,0,none⟩) cz.length c] (dr (cs:=[.pointer (bif tD then some ⟨b,0,none⟩else none),.slice (some ⟨g,0,none⟩) cz.length c]) (k:=1) (n:=1) (T:=320) (.head _) (by simp)) ?_;refine bD.Pt aY rfl (by simp) (e:=5) rfl rfl rfl rfl (l:=cz) (g:=g) (cs:=aS.toArray) rfl rfl bt (by omega) (Mr:=[gp.ar b ⟨tD,⟨some g,cz.length,c,aS⟩,cz⟩]) (eU (l₁:=[_]) (l₂:=[_])) ?_ ?_;·rw[gM]at aK;exact aK
  ·exact⟨_,_,.sub (gd _) .refl,rfl,rfl,rfl⟩
def Cd(c:UInt8)(left:ByteArray):Bool:=decide ((32:Int)<=c.toNat)&&(decide ((c.toNat:Int)<=126)&&(!decide ((c.toNat:Int)=92)&&decide (Lib.indexByte left.data.toList c<0)))
def aia(c:UInt8)(left:ByteArray):Spec Tryz.prog 367 [.int .u8 c.toNat,.string left] I [] λr I' M'=>r=.bool (Cd c left)/\I'=I/\M'=[]:=by
 refine bV [] aY Tryz.func367 rfl rfl rfl ?_;intro B ay;refine bX.mk (λaa=>?_) (λaa=>?_)
 ·refine bX.mk (λad=>?_) (λad=>?_)
  ·refine bX.mk (λak=>?_) (λak=>?_)
   ·refine a8.mk [] [] _ (.refl _) (Xj left c) ?_;rintro v I' M' -⟨rfl,rfl,rfl⟩;refine⟨_,_,.refl,?_,rfl,rfl⟩;simp only[Cd,aa,ad,ak,qC]
   ·refine⟨_,_,.refl,?_,rfl,rfl⟩;simp only[Cd,aa,ad,ak,qC,wg,PG]
  ·refine⟨_,_,.refl,?_,rfl,rfl⟩;simp only[Cd,aa,ad,qC,wg,PG]
 ·refine⟨_,_,.refl,?_,rfl,rfl⟩;simp only[Cd,aa,qC,wg,PG]
def Ep:ByteArray:=⟨#[48,49,50,51,52,53,54,55,56,57,97,98,99,100,101,102]⟩
def zY(n:Nat):UInt8:=Ep.data.toList.getD n 0
def oV(c:UInt8)(left:ByteArray):List UInt8:=
 bif Cd c left then [c]else
 bif decide ((c.toNat:Int)=10)then [92,110]else
 bif decide ((c.toNat:Int)=13)then [92,114]else
 bif decide ((c.toNat:Int)=9)then [92,116]else
 bif decide ((c.toNat:Int)=92)||decide ((0:Int)<=Lib.indexByte left.data.toList c)then [92,c]else [92,120,zY (c.toNat/16),zY (c.toNat%16)]
def Hv(c:UInt8)(left:ByteArray):(oV c left).length<=4:=by
 unfold oV;cases Cd c left<;>cases decide ((c.toNat:Int)=10)<;>cases decide ((c.toNat:Int)=13)<;>cases decide ((c.toNat:Int)=9)<;>cases(decide ((c.toNat:Int)=92)||decide ((0:Int)<=Lib.indexByte left.data.toList c))<;>simp
def aib:∀ n:Nat,n<256->IntKind.u8.wrap ((BitVec.ofInt 8 (n:Int)) &&& (BitVec.ofInt 8 15)).toNat=((n%16:Nat):Int):=by decide +kernel
def Xl(ai:j<Ep.size):Ep[j]=zY j:=by have:j<Ep.data.toList.length:=ai;simp only[zY,bS,dg this,kL];rfl
def Lh(b:Nat){x:gp}(ab:x.ok)(c:UInt8)(left:ByteArray)(ax:x.cz.length<=70368744177600):Spec Tryz.prog 353 [ptr b,.int .u8 c.toNat,.string left] I (x.M b)
  λr I' M'=>I'=I/\∃ y:gp,y.ok/\y.cz=x.cz++oV c left/\M'=y.M b:=by
 refine bV [] aY Tryz.func353 rfl rfl rfl ?_;intro B ay;refine a8.mk [] (x.M b) _ (.refl _) (aia c left) ?_;rintro v I' M' -⟨rfl,rfl,rfl⟩;refine aX.mk (λaa=>?_) (λaa=>?_)
 ·refine a8.mk (x.M b) [] _ (by simp) (pP b ab c (by omega)) ?_;rintro v I' M' -⟨rfl,rfl,y,aC,g5,rfl⟩;refine⟨_,_,.refl,rfl,y,aC,?_,by simp⟩;rw[g5,oV,aa];rfl
 ·refine aX.mk (λad=>?_) (λad=>?_)
  ·refine a8.mk (x.M b) [] _ (by simp) (uW b ab _ (by show _+2<=_;omega)) ?_;rintro v I' M' -⟨rfl,rfl,y,aC,g5,rfl⟩;refine⟨_,_,.refl,rfl,y,aC,?_,by simp⟩;rw[g5,oV,aa,ad];rfl
  ·refine aX.mk (λak=>?_) (λak=>?_)
   ·refine a8.mk (x.M b) [] _ (by simp) (uW b ab _ (by show _+2<=_;omega)) ?_;rintro v I' M' -⟨rfl,rfl,y,aC,g5,rfl⟩;refine⟨_,_,.refl,rfl,y,aC,?_,by simp⟩;rw[g5,oV,aa,ad,ak];rfl
   ·refine aX.mk (λaK=>?_) (λaK=>?_)
    ·refine a8.mk (x.M b) [] _ (by simp) (uW b ab _ (by show _+2<=_;omega)) ?_;rintro v I' M' -⟨rfl,rfl,y,aC,g5,rfl⟩;refine⟨_,_,.refl,rfl,y,aC,?_,by simp⟩;rw[g5,oV,aa,ad,ak,aK];rfl
    ·have two:∀ (I1:aH),(decide ((c.toNat:Int)=92)||decide ((0:Int)<=Lib.indexByte left.data.toList c))=true->oV c left=[92,c]:=λ_ h=>by rw[oV,aa,ad,ak,aK,h];rfl
     have other:(decide ((c.toNat:Int)=92)||decide ((0:Int)<=Lib.indexByte left.data.toList c))=false->oV c left=[92,120,zY (c.toNat/16),zY (c.toNat%16)]:=λh=>by rw[oV,aa,ad,ak,aK,h];rfl
     have ao:=c.toNat_lt;refine bX.mk (λbz=>?_) (λbz=>?_)
     ·refine a8.mk [] (x.M b) _ (.refl _) (Xj left c) ?_;rintro v I' M' -⟨rfl,rfl,rfl⟩;refine aX.mk (λcu=>?_) (λcu=>?_)
      ·refine a8.mk (x.M b) [] _ (by simp) (pP b ab 92 (by omega)) ?_;rintro v I' M' -⟨rfl,rfl,y,aC,g5,rfl⟩;refine a8.mk (y.M b) [] _ (by simp) (pP b aC c (by rw[g5];simp;omega)) ?_;rintro v I' M' -⟨rfl,rfl,z,bb,tE,rfl⟩;refine⟨_,_,.refl,rfl,z,bb,?_,by simp⟩;rw[tE,g5,two I' (by rw[bz];exact cu)];simp
      ·refine a8.mk (x.M b) [] _ (by simp) (uW b ab _ (by show _+2<=_;omega)) ?_;rintro v I' M' -⟨rfl,rfl,y,aC,g5,rfl⟩;have Hw:y.cz.length=x.cz.length+2:=by rw[g5];simp
       refine sm.mk 4 rfl ?_;refine tf.mk (s:=Ep) (c.toNat/16) ?_ (by show _<16;omega) ?_
       ·show(c.toNat:Int).fdiv (2^(min 4 (IntKind.u8.bits)))=_;have aic:((2:Int)^(min 4 IntKind.u8.bits))=16:=by decide
        rw[aic,K' _ (by omega)];omega
       rw[Xl];refine a8.mk (y.M b) [] _ (by simp) (pP b aC (zY (c.toNat/16)) (by omega)) ?_;rintro v I' M' -⟨rfl,rfl,z,bb,tE,rfl⟩;have x8:z.cz.length=x.cz.length+3:=by rw[tE];simp;omega
       refine tf.mk (s:=Ep) (c.toNat%16) (aib c.toNat ao) (by show _<16;omega) ?_;rw[Xl];refine a8.mk (z.M b) [] _ (by simp) (pP b bb (zY (c.toNat%16)) (by omega)) ?_;rintro v I' M' -⟨rfl,rfl,u,hu,x9,rfl⟩;refine⟨_,_,.refl,rfl,u,hu,?_,by simp⟩;rw[x9,tE,g5,other (by rw[bz];exact cu)];simp
     ·refine a8.mk (x.M b) [] _ (by simp) (pP b ab 92 (by omega)) ?_;rintro v I' M' -⟨rfl,rfl,y,aC,g5,rfl⟩;refine a8.mk (y.M b) [] _ (by simp) (pP b aC c (by rw[g5];simp;omega)) ?_;rintro v I' M' -⟨rfl,rfl,z,bb,tE,rfl⟩;refine⟨_,_,.refl,rfl,z,bb,?_,by simp⟩;rw[tE,g5,two I' (by rw[bz];rfl)];simp
def nI(n:Nat):List UInt8:=bif Nat.blt n 10 then [UInt8.ofNat (48+n)]else [UInt8.ofNat (48+n/10),UInt8.ofNat (48+n%10)]
def zZ(n:Nat):ByteArray:=⟨(nI n).toArray⟩
def Xm:ByteArray:=⟨((List.range 10).map (λn=>UInt8.ofNat (48+n))++(List.range 26).map (λn=>UInt8.ofNat (97+n))).toArray⟩
def Xn:ByteArray:=⟨((List.range 100).flatMap λn=>[UInt8.ofNat (48+n/10),UInt8.ofNat (48+n%10)]).toArray⟩
def aid:∀ n:Fin 10,(Xm.extract n.val (n.val+1)).data.toList=nI n.val:=by decide +kernel
def aie:∀ n:Fin 100,10<=n.val->(Xn.extract (n.val*2) (n.val*2+2)).data.toList=nI n.val:=by decide +kernel
def Er{a b:ByteArray}(h:a.data.toList=b.data.toList):a=b:=v3 (gX h)
def Hx(n:Nat):(nI n).length<=2:=by
 unfold nI;cases Nat.blt n 10<;>simp
def aif(n:Nat)(aD:n<100):Spec Tryz.prog 384 [.int .i64 n] I [] λr I' M'=>r=.string (zZ n)/\I'=I/\M'=[]:=by
 refine bV [] aY Tryz.func384 rfl rfl rfl ?_;intro B ay;refine aX.mk (λh=>?_) (λh=>?_)
 ·have aZ:n<10:=by simp at h;omega
  refine bd.mk ((n+1:Nat):Int) (by rw[wrap_i64 ⟨by omega,by omega⟩];omega) ?_;refine jR.mk n (n+1) rfl rfl (by omega) (by show _<=36;omega) ?_;refine⟨_,_,.refl,?_,rfl,rfl⟩;have:Xm.extract n (n+1)=zZ n:=Er (aid ⟨n,aZ⟩);rw[<-this];rfl
 ·have c0:10<=n:=by simp at h;omega
  refine bd.mk ((n*2:Nat):Int) (by rw[wrap_i64 ⟨by omega,by omega⟩];omega) ?_;refine bd.mk ((n*2:Nat):Int) (by rw[wrap_i64 ⟨by omega,by omega⟩];omega) ?_;refine bd.mk ((n*2+2:Nat):Int) (by rw[wrap_i64 ⟨by omega,by omega⟩];omega) ?_;refine jR.mk (n*2) (n*2+2) rfl rfl (by omega) (by show _<=200;omega) ?_;refine⟨_,_,.refl,?_,rfl,rfl⟩;have:Xn.extract (n*2) (n*2+2)=zZ n:=Er (aie ⟨n,aD⟩ c0);rw[<-this];rfl
def aih(n:Nat)(aD:n<100):Spec Tryz.prog 382 [.int .i64 n,.int .i64 10] I [] λr I' M'=>r=.string (zZ n)/\I'=I/\M'=[]:=by refine bV [] aY Tryz.func382 rfl rfl rfl ?_;intro B ay;refine aX.mk (λh=>?_) (λh=>by cases h);refine bX.mk (λh=>?_) (λh=>by simp at h;try omega);refine aX.mk (λh=>?_) (λh=>by simp at h;try omega);refine a8.mk [] [] _ (.refl _) (aif n aD) ?_;rintro v I' M' -⟨rfl,rfl,rfl⟩;exact⟨_,_,.refl,rfl,rfl,rfl⟩
def aii(n:Nat)(aD:n<100):Spec Tryz.prog 377 [.int .i64 n] I [] λr I' M'=>r=.string (zZ n)/\I'=I/\M'=[]:=by refine bV [] aY Tryz.func377 rfl rfl rfl ?_;intro B ay;refine a8.mk [] [] _ (.refl _) (aih n aD) ?_;rintro v I' M' -⟨rfl,rfl,rfl⟩;exact⟨_,_,.refl,rfl,rfl,rfl⟩
def aij(n:Nat)(aD:n<100):Spec Tryz.prog 369 [.int .i64 n] I [] λr I' M'=>r=.string (zZ n)/\I'=I/\M'=[]:=by refine bV [] aY Tryz.func369 rfl rfl rfl ?_;intro B ay;refine a8.mk [] [] _ (.refl _) (aii n aD) ?_;rintro v I' M' -⟨rfl,rfl,rfl⟩;exact⟨_,_,.refl,rfl,rfl,rfl⟩
def Li(n:Nat)(aD:n<100):Spec Tryz.prog 355 [.int .i64 n] I [] λr I' M'=>r=.string (zZ n)/\I'=I/\M'=[]:=by refine bV [] aY Tryz.func355 rfl rfl rfl ?_;intro B ay;refine a8.mk [] [] _ (.refl _) (aij n aD) ?_;rintro v I' M' -⟨rfl,rfl,rfl⟩;exact⟨_,_,.refl,rfl,rfl,rfl⟩
def hN(node m7:Int):Bool:=
 bif decide (node=5)then decide (m7=5)else
 bif decide (node=4)||(decide (node=7)||decide (node=8))then decide (m7=4)||decide (m7=5)else
 bif decide (node=6)then decide (m7=4)||(decide (m7=5)||(decide (m7=6)||(decide (m7=7)||decide (m7=8))))else false
def PQ(a b:Int):Spec Tryz.prog 320 [.int .u8 a,.int .u8 b] I [] λr I' M'=>r=.bool (hN a b)/\I'=I/\M'=[]:=by
 refine bV [] aY Tryz.func320 rfl rfl rfl ?_;intro B ay;refine aX.mk (λaa=>?_) (λaa=>?_)
 ·refine⟨_,_,.refl,?_,rfl,rfl⟩;simp only[hN,aa];rfl
 ·have two:∀ (I1:aH) (h:(decide (a=4)||(decide (a=7)||decide (a=8)))=true),hN a b=(decide (b=4)||decide (b=5)):=λ_ h=>by simp only[hN,aa,h];rfl
  have PR:(decide (a=4)||(decide (a=7)||decide (a=8)))=true->bX (decide (b=4)) false (wb [] I [] λI' M'=>Value.bool (decide (b=5))=.bool (hN a b)/\I'=I/\M'=[]) (wb [] I [] λI' M'=>Value.bool true=.bool (hN a b)/\I'=I/\M'=[]):=λh=>by
   refine bX.mk (λaK=>?_) (λaK=>?_);·refine⟨_,_,.refl,?_,rfl,rfl⟩;rw[two I h,aK];rfl
   ·refine⟨_,_,.refl,?_,rfl,rfl⟩;rw[two I h,aK];rfl
  refine aX.mk (λad=>?_) (λad=>?_);·refine aX.mk (λ_=>?_) (λh=>by rw[ad]at h;cases h);exact PR (by rw[ad];rfl)
  ·refine aX.mk (λak=>?_) (λak=>?_)
   ·refine aX.mk (λ_=>?_) (λh=>by rw[ak]at h;cases h);exact PR (by rw[ak];simp)
   ·refine aX.mk (λaK=>?_) (λaK=>?_)
    ·exact PR (by rw[aK];simp)
    ·have hw:hN a b=(bif decide (a=6)then decide (b=4)||(decide (b=5)||(decide (b=6)||(decide (b=7)||decide (b=8))))else false):=by simp only[hN,aa,ad,ak,aK];rfl
     refine aX.mk (λbz=>?_) (λbz=>?_)
     ·rw[bz]at hw;simp only[cF]at hw;refine bX.mk (λeT=>?_) (λeT=>?_)
      ·refine bX.mk (λc4=>?_) (λc4=>?_)
       ·refine bX.mk (λhM=>?_) (λhM=>?_)
        ·refine bX.mk (λnJ=>?_) (λnJ=>?_)
         ·refine⟨_,_,.refl,?_,rfl,rfl⟩;rw[hw,eT,c4,hM,nJ];rfl
         ·refine⟨_,_,.refl,?_,rfl,rfl⟩;rw[hw,eT,c4,hM,nJ];rfl
        ·refine⟨_,_,.refl,?_,rfl,rfl⟩;rw[hw,eT,c4,hM];rfl
       ·refine⟨_,_,.refl,?_,rfl,rfl⟩;rw[hw,eT,c4];rfl
      ·refine⟨_,_,.refl,?_,rfl,rfl⟩;rw[hw,eT];rfl
     ·refine⟨_,_,.refl,?_,rfl,rfl⟩;rw[hw,bz];rfl
def wrap_u64(x:Int):fm (IntKind.u64.wrap x):=by unfold IntKind.wrap fm;simp only[IntKind.bits,IntKind.signed];simp;omega
def wrap_u8(x:Int):0<=IntKind.u8.wrap x/\IntKind.u8.wrap x<256:=by unfold IntKind.wrap;simp only[IntKind.bits,IntKind.signed];simp;omega
def Xo{x:Int}(h:fm x):IntKind.u64.wrap x=x:=by obtain⟨aa,ad⟩:=h;unfold IntKind.wrap;simp only[IntKind.bits,IntKind.signed];simp;omega
def sC(I:aH)(az:List Int):Prop:=az.length=64/\(∀ x∈az,0<=x/\x<256)/\∃ T an,I 4=some (.cells (az.map (Value.int .u8)).toArray T an)
def sC.rd(h:sC I az)(M:List aE)(ai:j<64):cR I M (Addr.add ⟨4,0,none⟩ (j*1)) 1 [.int .u8 (az.getD j 0)]:=by
 obtain⟨ax,_,T,an,h⟩:=h;rw[eS _ rfl];refine⟨rfl,_,T,an,.inl h,?_,rfl⟩;have aa:j<(az.map (Value.int .u8)).length:=by simp[ax,ai]
 have ad:j<az.length:=by omega
 simp only[du,gM];rw[fg aa,rl,qo];simp[bS,ad]
def sC.at(h:sC I az)(j:Nat):0<=az.getD j 0/\az.getD j 0<256:=by
 rw[bS];by_cases ai:j<az.length
 ·rw[dg ai];exact h.2.1 _ (bJ ai)
 ·simp[ai]
def Hy(x y:Int):Int:=IntKind.u64.wrap (BitVec.ofInt 64 x &&& BitVec.ofInt 64 y).toNat
def tF(x:Int):Int:=IntKind.u64.wrap (Hy x (IntKind.u64.wrap (0-x))*285870213051353865)
def uX(az:List Int)(x:Int):Int:=bif decide (x=0)then 64 else az.getD ((tF x).toNat/2^58) 0
def aik(h:sC I az)(x:Int):0<=uX az x/\uX az x<256:=by
 unfold uX;cases decide (x=0)
 ·exact h.at _
 ·simp
def ail(ag:sC I az)(x:Int):Spec Tryz.prog 376 [.int .u64 x] I [] λr I' M'=>r=.int .i64 (uX az x)/\I'=I/\M'=[]:=by
 refine bV [] aY Tryz.func376 rfl rfl rfl ?_;intro B ay;refine aX.mk (λh=>?_) (λh=>?_)
 ·refine⟨_,_,.refl,?_,rfl,rfl⟩;simp only[uX,h];rfl
 ·have a7:=wrap_u64 (Hy x (IntKind.u64.wrap (0-x))*285870213051353865);refine bd.mk _ rfl ?_;refine bd.mk (tF x) rfl ?_;refine sm.mk 58 rfl ?_;have aI:((2:Int)^(min 58 IntKind.u64.bits))=2^58:=by decide
  rw[aI];obtain⟨Es,Et⟩:=a7;have a6:(tF x).fdiv (2^58)=(((tF x).toNat/2^58:Nat):Int):=by rw[K' _ (by decide)];have:tF x=((tF x).toNat:Int):=(zS Es).symm;omega
  rw[a6];have ai:(tF x).toNat/2^58<64:=by have:tF x<18446744073709551616:=Et;omega
  refine cw.mk ((tF x).toNat/2^58) rfl ai ?_;refine aO.mk [.int .u8 (az.getD ((tF x).toNat/2^58) 0)] (ag.rd _ ai) ?_;have ah:=ag.at ((tF x).toNat/2^58);refine bd.mk (az.getD ((tF x).toNat/2^58) 0) (wrap_i64 ⟨by omega,by omega⟩) ?_;refine⟨_,_,.refl,?_,rfl,rfl⟩;simp only[uX,h];rfl
def aim(a b c d:Int):Nat->List Value
 |0=>[.int .u64 (a),.int .u64 (b),.int .u64 (c),.int .u64 (d)]| 1=>[.int .u64 (jI a),.int .u64 (b),.int .u64 (c),.int .u64 (d)]| 2=>[.int .u64 (jI a),.int .u64 (jI b),.int .u64 (c),.int .u64 (d)]| 3=>[.int .u64 (jI a),.int .u64 (jI b),.int .u64 (jI c),.int .u64 (d)]| _=>[.int .u64 (jI a),.int .u64 (jI b),.int .u64 (jI c),.int .u64 (jI d)]
def ain(a b c d:Int):Spec Tryz.prog 363 [.agg #[.int .u64 a,.int .u64 b,.int .u64 c,.int .u64 d]] I [] λr I' M'=>r=.agg #[.int .u64 (jI a),.int .u64 (jI b),.int .u64 (jI c),.int .u64 (jI d)]/\I'=I/\M'=[]:=by
 refine bV [] aY Tryz.func363 rfl rfl rfl ?_;intro B ay;refine dt.inv (ι:=Nat) (λi=>{ bo:=[(1,.ref 1 0),(2,.ref 2 0),(5,.val (.agg #[.int .u64 a,.int .u64 b,.int .u64 c,.int .u64 d])),(6,.val (.int .i64 i))],cl:=[(1,aim a b c d i),(2,[.int .u64 0,.int .u64 0,.int .u64 0,.int .u64 0])],cH:=I }) (λi=>i<=4) (λi=>4-i) ?_ ?_
 ·exact⟨0,by simp,.refl,ee,.cons rfl (.cons rfl .nil)⟩
 ·intro i hi
  match i,hi with
  |0,_=>refine aX.mk (λ_=>?_) (λh=>by simp at h);refine cw.mk 0 rfl (by decide) ?_;refine bD.Hu rfl (by simp) rfl ?_;refine cw.mk 0 rfl (by decide) ?_;refine bd.mk 1 (by decide) ?_;exact⟨1,⟨by simp,by simp⟩,.refl,ee,.cons rfl (.cons rfl .nil)⟩| 1,_=>refine aX.mk (λ_=>?_) (λh=>by simp at h);refine cw.mk 1 rfl (by decide) ?_;refine bD.Hu rfl (by simp) rfl ?_;refine cw.mk 1 rfl (by decide) ?_;refine bd.mk 2 (by decide) ?_;exact⟨2,⟨by simp,by simp⟩,.refl,ee,.cons rfl (.cons rfl .nil)⟩| 2,_=>refine aX.mk (λ_=>?_) (λh=>by simp at h);refine cw.mk 2 rfl (by decide) ?_;refine bD.Hu rfl (by simp) rfl ?_;refine cw.mk 2 rfl (by decide) ?_;refine bd.mk 3 (by decide) ?_;exact⟨3,⟨by simp,by simp⟩,.refl,ee,.cons rfl (.cons rfl .nil)⟩| 3,_=>refine aX.mk (λ_=>?_) (λh=>by simp at h);refine cw.mk 3 rfl (by decide) ?_;refine bD.Hu rfl (by simp) rfl ?_;refine cw.mk 3 rfl (by decide) ?_;refine bd.mk 4 (by decide) ?_;exact⟨4,⟨by simp,by simp⟩,.refl,ee,.cons rfl (.cons rfl .nil)⟩| 4,_=>refine aX.mk (λh=>by simp at h) (λ_=>?_);exact⟨_,_,.refl,rfl,rfl,rfl⟩
def aio:Spec Tryz.prog 344 [] I [] λr I' M'=>r=.agg #[.int .u64 (jI 0),.int .u64 (jI 0),.int .u64 (jI 0),.int .u64 (jI 0)]/\I'=I/\M'=[]:=by refine bV [] aY Tryz.func344 rfl rfl rfl ?_;intro B ay;refine a8.mk [] [] _ (.refl _) (ain 0 0 0 0) ?_;rintro v I' M' -⟨rfl,rfl,rfl⟩;exact⟨_,_,.refl,rfl,rfl,rfl⟩
def n8(I:aH)(b:Nat)(o:Obj):ins I b o b=some o:=by simp[ins]
def lz{o:Obj}(ag:I b=none):∀ c p,I c=some p->ins I b o c=some p:=by
 intro c p h;unfold ins;cases e:Nat.beq c b with
 |false=>exact h| true=>have:=ed e;subst this;rw[ag]at h;cases h
def aip{x y:Int}(ab:fm x)(aC:fm y):Hy x y=((x.toNat &&& y.toNat:Nat):Int):=by
 obtain⟨x,rfl⟩:=eG ab.1;obtain⟨y,rfl⟩:=eG aC.1;have aa:x<18446744073709551616:=by have:=ab.2;omega
 have ad:y<18446744073709551616:=by have:=aC.2;omega
 have e:∀ z:Nat,z<18446744073709551616->(BitVec.ofInt 64 (z:Int)).toNat=z:=λz bb=>by rw[BitVec.toNat_ofInt];omega
 unfold Hy;rw[Lc,e x aa,e y ad,Xo]
 ·simp
 ·have:=Nat.and_le_left (n:=x) (m:=y);exact⟨by omega,by omega⟩
def z0(x:Int):Int:=Hy x (IntKind.u64.wrap (x-1))
def Ce(n:Nat):Nat:=((List.range 64).filter n.testBit).length
def aiq(n:Nat):Ce n<=64:=by have:=G0 n.testBit (List.range 64);simpa[Ce]using this
def air{x:Int}(ab:fm x)(ay:x≠0):fm (z0 x)/\Ce (z0 x).toNat<Ce x.toNat:=by
 obtain⟨n,rfl⟩:=eG ab.1;have aa:n<18446744073709551616:=by have:=ab.2;omega
 have ms:0<n:=by omega
 have av:fm ((n:Int)-1):=⟨by omega,by omega⟩;have e:z0 (n:Int)=((n &&& (n-1):Nat):Int):=by unfold z0;rw[Xo av,aip ab av];congr 2;omega
 have bf:n &&& (n-1)<=n-1:=Nat.and_le_right;refine⟨by rw[e];exact⟨by omega,by omega⟩,?_⟩;rw[e];simp only[hH];unfold Ce;have jX:List.Sublist ((List.range 64).filter (n &&& (n-1)).testBit) ((List.range 64).filter n.testBit):=by
  have:(List.range 64).filter (n &&& (n-1)).testBit=((List.range 64).filter n.testBit).filter (n-1).testBit:=by rw[List.filter_filter];congr 1;funext i;rw[Nat.testBit_and,Bool.and_comm]
  rw[this];exact zT
 rcases Nat.lt_or_eq_of_le jX.length_le with h | h
 ·exact h
 ·exfalso;have uY:=jX.eq_of_length h;have:n &&& (n-1)=n:=by
   apply Nat.eq_of_testBit_eq;intro i;by_cases hi:i<64
   ·have hm:i∈(List.range 64).filter (n &&& (n-1)).testBit ↔ i∈(List.range 64).filter n.testBit:=by rw[uY]
    simp only[n4,j9,hi,true_and]at hm;cases aa:(n &&& (n-1)).testBit i<;>cases ad:n.testBit i<;>simp_all
   ·have ad:2^64<=2^i:=Nat.pow_le_pow_right (by omega) (by omega);rw[Nat.testBit_lt_two_pow (by omega),Nat.testBit_lt_two_pow (by omega)]
  omega
def byteOf(az:List Int)(i:Nat)(w:Int):UInt8:=UInt8.ofNat (IntKind.u8.wrap ((i:Int)*64+uX az w)).toNat
def ais(az:List Int)(i:Nat)(w:Int):((byteOf az i w).toNat:Int)=IntKind.u8.wrap ((i:Int)*64+uX az w):=by have:=wrap_u8 ((i:Int)*64+uX az w);unfold byteOf;rw[UInt8.toNat_ofNat'];omega
def uZ(az:List Int)(i:Nat):Nat->Int->List UInt8
 |0,_=>[]| f+1,w=>bif decide (w=0)then []else byteOf az i w::uZ az i f (z0 w)
def jq(az:List Int):Nat->List Int->List UInt8
 |_,[]=>[]| i,w::ws=>uZ az i 64 w++jq az (i+1) ws
def Xp(az:List Int)(i:Nat):∀ f w,(uZ az i f w).length<=f
 |0,_=>by simp[uZ]
 |f+1,w=>by
  unfold uZ;have:=Xp az i f (z0 w);cases decide (w=0)<;>simp
  exact this
def PS(az:List Int):∀ ws i,(jq az i ws).length<=64*ws.length
 |[],_=>by simp[jq]
 |w::ws,i=>by have aa:=Xp az i 64 w;have ad:=PS az ws (i+1);simp only[jq,cr,et];omega
def tG(l:List UInt8):List (List Value):=l.map λc=>[.int .u8 c.toNat]
def Eu(a b c d:Int):List Value:=[.int .u64 a,.int .u64 b,.int .u64 c,.int .u64 d]
def ait(a b c d:Int):Spec Tryz.prog 368 [.agg #[.int .u64 a,.int .u64 b,.int .u64 c,.int .u64 d]] I [] λr I' M'=>∃ g,r=.func (.func 375) #[] #[ptr g]/\I' g=some (.cells (Eu a b c d).toArray 62 (0,0))/\(∀ b o,I b=some o->I' b=some o)/\M'=[]:=by refine bV [1] aY Tryz.func368 rfl rfl rfl ?_;intro B ay;refine bW.mk λg aw En=>?_;exact⟨_,_,.mP rfl (by simp) .refl,g,rfl,n8 ..,lz aw,rfl⟩
def aiu(Cf:sC I az){a b c d:Int}(rG:∀ x∈[a,b,c,d],fm x)(aw:I g=some (.cells (Eu a b c d).toArray 62 (0,0))) :
  Iter Tryz.prog 375 [ptr g] I (tG (jq az 0 [a,b,c,d])):=by
 intro l R ls kv dQ M0 oW iT;refine BU [] aY Tryz.func375 rfl rfl rfl ?_;intro B ay;have bp:∀ (I1:aH) (M:List aE),(∀ b o,I b=some o->I1 b=some o)->cR I1 M ⟨g,0,none⟩ 4 (Eu a b c d):=λI1 M h=>⟨rfl,_,_,_,.inl (h _ _ aw),rfl,rfl⟩;refine aO.mk _ (bp _ _ oW) ?_;refine dt.inv (ι:=Nat×Nat×aH×List aE) (λx=>{ bo:=[(0,.val (.func (.yield l) #[] #[])),(5,.val (.agg (Eu a b c d).toArray)),(6,.val (.int .i64 x.1))],cH:=x.2.2.1,dd:=x.2.2.2 }) (λx=>x.1<=4/\(∀ b o,I b=some o->x.2.2.1 b=some o)/\R x.2.1 x.2.2.1 x.2.2.2/\x.2.1<=(jq az 0 [a,b,c,d]).length/\(jq az 0 [a,b,c,d]).drop x.2.1=jq az x.1 ([a,b,c,d].drop x.1)) (λx=>4-x.1) ?_ ?_
 ·exact⟨(0,0,dQ,M0),⟨by simp,oW,iT,by simp,rfl⟩,.refl,fG,.nil⟩
 ·rintro⟨i,k,I1,M1⟩⟨hi,de,h',c7,iY⟩;simp only at hi de h' c7 iY;refine aX.mk (λh=>?_) (λh=>?_)
  ·have aZ:i<4:=by simp at h;omega
   have cy:i < [a,b,c,d].length:=aZ;refine cw.mk i rfl aZ ?_;have Cg:pack false ((((Eu a b c d).toArray).toList.drop (i*1)).take 1)=.int .u64 [a,b,c,d][i]:=by
    match i,aZ with
    |0,_=>rfl| 1,_=>rfl| 2,_=>rfl| 3,_=>rfl
   have l2:[a,b,c,d].drop i=[a,b,c,d][i]::[a,b,c,d].drop (i+1):=fg cy;refine dt.inv (ι:=Int×Nat×Nat×aH×List aE) (λx=>{ bo:=[(0,.val (.func (.yield l) #[] #[])),(3,.val (.int .i64 i)),(4,.val (.int .u64 x.1)),(5,.val (.agg (Eu a b c d).toArray)),(6,.val (.int .i64 i))],cH:=x.2.2.2.1,dd:=x.2.2.2.2 }) (λx=>fm x.1/\Ce x.1.toNat<=x.2.1/\(∀ b o,I b=some o->x.2.2.2.1 b=some o)/\R x.2.2.1 x.2.2.2.1 x.2.2.2.2/\x.2.2.1<=(jq az 0 [a,b,c,d]).length/\(jq az 0 [a,b,c,d]).drop x.2.2.1=uZ az i x.2.1 x.1++jq az (i+1) ([a,b,c,d].drop (i+1))) (λx=>Ce x.1.toNat) ?_ ?_
   ·refine⟨([a,b,c,d][i],64,k,I1,M1),⟨rG _ (bJ cy),aiq _,de,h',c7,?_⟩,.refl,.cons .refl (.cons .refl (.cons ?_ (xR))),.nil⟩
    ·simp only;rw[iY,l2];rfl
    ·simp only;rw[<-Cg];exact .refl
   ·rintro⟨w,f,k,I1,M1⟩⟨hw,aB,de,h',c7,iY⟩;simp only at hw aB de h' c7 iY;refine aX.mk (λh=>?_) (λh=>?_)
    ·have z1:w≠0:=by simpa using h
     obtain⟨sD,jY⟩:=air hw z1;obtain⟨f,rfl⟩:∃ x',f=x'+1:=⟨f-1,by omega⟩;have ag:uZ az i (f+1) w=byteOf az i w::uZ az i f (z0 w):=by simp[uZ,z1]
     rw[ag,pN]at iY;have ae:k<(jq az 0 [a,b,c,d]).length:=by apply Nat.lt_of_not_le;intro bf;rw[lW bf]at iY;cases iY
     have gm:=fg ae;rw[iY]at gm;obtain⟨tH,e1⟩:=Hp gm;have hZ:k<(tG (jq az 0 [a,b,c,d])).length:=by simpa[tG]using ae
     have aj:(tG (jq az 0 [a,b,c,d]))[k]=[.int .u8 (IntKind.u8.wrap ((i:Int)*64+uX az w))]:=by simp only[tG,fW,<-tH,ais]
     have Xq:sC I1 az:=by obtain⟨ew,e',T,an,fe⟩:=Cf;exact⟨ew,e',T,an,de _ _ fe⟩
     have avk:=aik Xq w;refine bd.mk ((i:Int)*64) (wrap_i64 ⟨by omega,by omega⟩) ?_;refine a8.mk [] M1 _ (.refl _) (ail Xq w) ?_;rintro v I' M' -⟨rfl,rfl,rfl⟩;refine bd.mk ((i:Int)*64+uX az w) (wrap_i64 ⟨by omega,by omega⟩) ?_;refine bd.mk _ rfl ?_;refine bD.yield rfl (by simp) rfl rfl ?_;have aC:=kv k hZ I' M1 de h';rw[aj]at aC;refine B4.mk M1 [] _ (by simp) aC ?_;rintro v eA dD gq (⟨rfl,m3⟩ | ⟨rfl,ab⟩);·refine aX.mk (λh=>by simp at h) (λ_=>?_);refine bd.mk _ rfl ?_;exact⟨(z0 w,f,k+1,eA,dD),⟨⟨sD,by simp only;omega,λb o h=>gq b o (de b o h),m3,ae,e1.symm⟩,by simp only;exact jY⟩,.perm (by simp) .refl,hx,.nil⟩
     ·refine aX.mk (λ_=>?_) (λh=>by simp at h);exact⟨_,_,.perm (by simp) .refl,.inr ab⟩
    ·have z1:w=0:=by simpa using h
     have gP:IntKind.i64.wrap ((i:Int)+1)=((i+1:Nat):Int):=by rw[wrap_i64 ⟨by omega,by omega⟩];omega
     refine bd.mk _ gP ?_;have ag:uZ az i f w=[]:=by cases f<;>simp[uZ,z1]
     rw[ag,hX]at iY;exact⟨(i+1,k,I1,M1),⟨⟨by simp only;omega,de,h',c7,iY⟩,by simp only;omega⟩,.refl,fG,.nil⟩
  ·have kb:i=4:=by simp at h;omega
   subst kb;refine⟨_,_,.refl,.inl ?_⟩;have mw:(jq az 0 [a,b,c,d]).drop k=[]:=by rw[iY];rfl
   have pQ:k=(tG (jq az 0 [a,b,c,d])).length:=by have:=Eh.1 mw;simp only[tG,bx];omega
   rw[<-pQ];exact h'
def u0(l:List (UInt8×UInt8))(b:UInt8):List (UInt8×UInt8):=match l.getLast? with
 |some p=>bif decide ((p.2.toNat:Int)+1=b.toNat)then l.dropLast++[(p.1,b)]else l++[(b,b)]| none=>[(b,b)]
def pR(l:List UInt8):List (UInt8×UInt8):=l.foldl u0 []
def kf(p:UInt8×UInt8):List Value:=[.int .u8 p.1.toNat,.int .u8 p.2.toNat]
def pS(l:List (UInt8×UInt8)):List Value:=l.flatMap kf
def Lj(l:List (UInt8×UInt8)):(pS l).length=l.length*2:=gO kf 2 (λ_=>rfl) l
def aiv(l:List (UInt8×UInt8))(b:UInt8):(u0 l b).length<=l.length+1:=by
 unfold u0;split
 ·rename_i p h;cases decide ((p.2.toNat:Int)+1=b.toNat)<;>simp
 ·simp
def Xr(l:List UInt8):(pR l).length<=l.length:=by
 have:∀ (l:List UInt8) (a2:List (UInt8×UInt8)),(l.foldl u0 a2).length<=a2.length+l.length:=by
  intro l
  induction l with
  |nil=>intro a2;simp| cons b l aQ=>intro a2;have aa:=aQ (u0 a2 b);have ad:=aiv a2 b;simp only[km,et];omega
 simpa[pR]using this l []
def z2:((⟨b,0,none⟩:Addr).add i).add j=(⟨b,0,none⟩:Addr).add (i+j):=by rw[eS ⟨_,0,none⟩ rfl i,eS _ rfl j,eS _ rfl (i+j)];simp
def nK{M:List aE}(ba:(⟨b,.cells cs.toArray T (0,0)⟩:aE)∈M)(h:cs[i+j]?=some v):cR I M (((⟨b,0,none⟩:Addr).add i).add j) 1 [v]:=by obtain⟨ax,rfl⟩:=hG.1 h;have:=dr (I:=I) ba (k:=i+j) (n:=1) (by omega);rw[fg ax,rl,qo]at this;rw[z2];exact this
def Xs(a9:List Value)(u v z:Value)(bl:List Value)(k:Nat)(ae:k=a9.length+1):cj (a9++([u,v]++bl)) k [z]=a9++([u,z]++bl):=by
 subst ae;unfold cj;have aI:(a9++([u,v]++bl)).take (a9.length+1)=a9++[u]:=by rw[show a9++([u,v]++bl)=(a9++[u])++(v::bl)from by simp];exact sB (by simp)
 have a6:(a9++([u,v]++bl)).drop (a9.length+1+[z].length)=bl:=by rw[show a9++([u,v]++bl)=(a9++[u,v])++bl from by simp];exact Hn (by simp)
 rw[aI,a6];simp
def PT{a':List (UInt8×UInt8)}{x:UInt8}(b4:os.ok 2 (pS a')){aS:List Value}(aa:aS.length=c*2)(ad:os.n+1<=c)(ak:c<=maxLen)(aK:aS.take ((os.n+1)*2)=pS a'++kf (x,x)) :
  aR.ok ⟨some g,os.n+1,c,aS⟩ 2 (pS (a'++[(x,x)])):=by
 have ya:pS (a'++[(x,x)])=pS a'++kf (x,x):=by simp[pS]
 have ax:=b4.len;refine⟨?_,(λh=>by cases h),λca sE=>⟨aa,ad,ak,by rw[ya];exact aK⟩⟩;rw[ya,cr,ax];simp[kf];omega
def aiw(l:List UInt8)(x:UInt8):pR (l++[x])=u0 (pR l) x:=by simp[pR]
def aix(Cf:sC I az){a b c d:Int}(rG:∀ x∈[a,b,c,d],fm x):Spec Tryz.prog 354 [.agg #[.int .u64 a,.int .u64 b,.int .u64 c,.int .u64 d]] I []
  λr I' M'=>(∀ b o,I b=some o->I' b=some o)/\∃ os:aR,r=os.val/\os.ok 2 (pS (pR (jq az 0 [a,b,c,d])))/\M'=os.ar 386:=by
 refine bV [3] aY Tryz.func354 rfl rfl rfl ?_;intro B ay;refine bW.mk λg aw En=>?_;refine a8.mk [] [⟨g,.cells #[.slice none 0 0] 384 (0,0)⟩] _ (.refl _) (ait a b c d) ?_;rintro v I1 M1 -⟨bc,rfl,rH,de,rfl⟩;have aiy:sC I1 az:=by obtain⟨ew,e',T,an,fe⟩:=Cf;exact⟨ew,e',T,an,de _ _ fe⟩
 have bY:=PS az [a,b,c,d] 0;refine cT.range aY rfl rfl rfl .refl (aiu aiy rG rH) (λvs h=>?_) (λk I' M'=>(∀ b o,I1 b=some o->I' b=some o)/\∃ os:aR,os.ok 2 (pS (pR ((jq az 0 [a,b,c,d]).take k)))/\M'=⟨g,.cells #[os.val] 384 (0,0)⟩::os.ar 386) (λ_ _ _=>False) ⟨λ_ _ h=>h,⟨none,0,0,[]⟩,⟨rfl,λ_=>⟨rfl,rfl⟩,λg h=>by cases h⟩,rfl⟩ ?_ ?_ (λ_ _ _ _ h=>h.elim)
 ·obtain⟨c,_,rfl⟩:=cP.1 h;rfl
 ·rintro k ae I' M' -⟨kV,os,b4,rfl⟩l B ay hg;have aiz:k<(jq az 0 [a,b,c,d]).length:=by simpa[tG]using ae
  generalize avl:jq az 0 [a,b,c,d]=L at *;generalize ab:L[k]=x;have aj:(tG L)[k]=[.int .u8 x.toNat]:=by simp[tG,ab]
  rw[aj];have m1:pR (L.take (k+1))=u0 (pR (L.take k)) x:=by rw[gj aiz,ab,aiw]
  rw[m1];have eH:(pR (L.take k)).length<=256:=by have aa:=Xr (L.take k);have ad:=Ej k L;simp only[et,hB]at bY;omega
  generalize dB:pR (L.take k)=a' at *;have kg:=x.toNat_lt;obtain⟨Ch,n,fp,aS⟩:=os;have aD:a'.length=n:=by have:=b4.len;rw[Lj]at this;simp only at this;omega
  cases Ch with
  |none=>
   obtain⟨aI,a6⟩:=b4.nil rfl;simp only at aI a6;subst aI;subst a6;have mz:a'=[]:=jl aD;have iZ:u0 a' x=a'++[(x,x)]:=by rw[mz];rfl
   refine aO.mk [.slice none 0 0] (dr (cs:=[.slice none 0 0]) (k:=0) (n:=1) (T:=384) (.head _) (by simp)) ?_;refine bd.mk (-1) (by decide) ?_;refine bX.mk (λh=>by simp at h) (λ_=>?_);refine aO.mk [.slice none 0 0] (dr (cs:=[.slice none 0 0]) (k:=0) (n:=1) (T:=384) (.head _) (by simp)) ?_;refine bW.mk λbi m6 Xt=>?_;refine bD.append aY rfl (by simp) (e:=386) rfl rfl rfl (⟨none,0,0,aS⟩:aR) b4 rfl (m:=1) rfl (cb:=kf (x,x)) (by decide) (dr (cs:=kf (x,x)) (k:=0) (n:=2) (T:=386) (.head _) (by simp[kf])) rfl (Mr:=[⟨bi,.cells (kf (x,x)).toArray 386 (0,0)⟩,⟨g,.cells #[.slice none 0 0] 384 (0,0)⟩]) (eU (l₁:=[_,_])) (by simp only[maxLen];omega) (by show(_+1)*2<=_;simp only;omega) ?_;intro eg c' kh ew e' fe jZ;refine ck.mk [⟨eg,.cells kh.toArray 386 (0,0)⟩,⟨bi,.cells (kf (x,x)).toArray 386 (0,0)⟩] [] _ _ rfl rfl (bK rfl) rfl ?_;refine⟨_,_,.perm (M1:=[⟨bi,.cells (kf (x,x)).toArray 386 (0,0)⟩]++(⟨g,.cells #[aR.val ⟨some eg,(⟨none,0,0,aS⟩:aR).n+1,c',kh⟩] 384 (0,0)⟩::aR.ar ⟨some eg,(⟨none,0,0,aS⟩:aR).n+1,c',kh⟩ 386)) (eU (l₁:=[_]) (l₂:=[_,_])) (.sub (mT _ _) .refl),kV,⟨some eg,(⟨none,0,0,aS⟩:aR).n+1,c',kh⟩,?_,rfl⟩;rw[iZ];exact PT b4 ew e' fe jZ
  |some c5=>
   obtain⟨dz,m0,l1,eh⟩:=b4.cap c5 rfl;simp only at dz m0 l1 eh;refine aO.mk [.slice (some ⟨c5,0,none⟩) n fp] (dr (cs:=[.slice (some ⟨c5,0,none⟩) n fp]) (k:=0) (n:=1) (T:=384) (.head _) (by simp)) ?_;refine bd.mk ((n:Int)-1) (wrap_i64 ⟨by omega,by omega⟩) ?_;refine bX.mk (λaa=>?_) (λaa=>?_)
   ·have ms:1<=n:=by simp at aa;omega
    obtain⟨u1,p,rfl⟩:∃ u1 p,a'=u1++[p]:=by
     rcases zR a' with h | ⟨r,p,h⟩;·subst h;simp at aD;omega
     ·exact⟨r,p,by simpa using h⟩
    have qy:u1.length=n-1:=by simp at aD;omega
    have gy:(pS u1).length=(n-1)*2:=by rw[Lj,qy]
    obtain⟨bl,nL⟩:∃ bl,aS=pS u1++([.int .u8 p.1.toNat,.int .u8 p.2.toNat]++bl):=by refine⟨aS.drop (n*2),?_⟩;have ad:=pM (n*2) aS;rw[eh]at ad;rw[<-ad,Hn (by rw[Lj,aD])];simp[pS,kf]
    have e5:aS[(n-1)*2+1*1]?=some (.int .u8 p.2.toNat):=by rw[nL,<-gy,l3 (by omega)];simp
    have rI:=p.2.toNat_lt;refine aO.mk [.slice (some ⟨c5,0,none⟩) n fp] (dr (cs:=[.slice (some ⟨c5,0,none⟩) n fp]) (k:=0) (n:=1) (T:=384) (.head _) (by simp)) ?_;refine bm.mk ⟨c5,0,none⟩ (n-1) rfl (by omega) (by omega) ?_;refine cw.mk 1 rfl (by decide) ?_;refine aO.mk [.int .u8 p.2.toNat] (nK (b:=c5) (cs:=aS) (T:=386) (by simp[aR.ar]) e5) ?_;refine bd.mk (p.2.toNat:Int) (wrap_i64 ⟨by omega,by omega⟩) ?_;refine bd.mk ((p.2.toNat:Int)+1) (wrap_i64 ⟨by omega,by omega⟩) ?_;refine bd.mk (x.toNat:Int) (wrap_i64 ⟨by omega,by omega⟩) ?_;have iZ:u0 (u1++[p]) x=bif decide ((p.2.toNat:Int)+1=x.toNat)then u1++[(p.1,x)]else u1++[p]++[(x,x)]:=by simp[u0]
    refine aX.mk (λad=>?_) (λad=>?_)
    ·rw[ad]at iZ;refine aO.mk [.slice (some ⟨c5,0,none⟩) n fp] (dr (cs:=[.slice (some ⟨c5,0,none⟩) n fp]) (k:=0) (n:=1) (T:=384) (.head _) (by simp)) ?_;refine bm.mk ⟨c5,0,none⟩ (n-1) rfl (by omega) (by omega) ?_;refine cw.mk 1 rfl (by decide) ?_;rw[z2];refine ck.add [⟨g,.cells #[.slice (some ⟨c5,0,none⟩) n fp] 384 (0,0)⟩] [] aS.toArray _ rfl ?_ rfl ?_
     ·simp only[tr];show 0+((n-1)*2+1)+1<=_;omega
     ·refine⟨_,_,.refl,kV,⟨some c5,n,fp,cj aS (0+((n-1)*2+1*1)) [.int .u8 x.toNat]⟩,?_,rfl⟩;have c9:cj aS (0+((n-1)*2+1*1)) [.int .u8 x.toNat]=pS u1++([.int .u8 p.1.toNat,.int .u8 x.toNat]++bl):=by rw[nL];exact Xs _ _ _ _ _ _ (by omega)
      rw[iZ,c9];have ya:pS (u1++[(p.1,x)])=pS u1++[.int .u8 p.1.toNat,.int .u8 x.toNat]:=by simp[pS,kf]
      refine⟨?_,(λh=>by cases h),λca sE=>⟨?_,m0,l1,?_⟩⟩;·simp only[cF];rw[ya,cr,gy];simp;omega
      ·simp only;rw[<-dz,nL];simp
      ·simp only[cF];rw[ya,<-dW];refine sB ?_;rw[cr,gy];simp;omega
    ·rw[ad]at iZ;simp only[cE]at iZ;refine aO.mk [.slice (some ⟨c5,0,none⟩) n fp] (dr (cs:=[.slice (some ⟨c5,0,none⟩) n fp]) (k:=0) (n:=1) (T:=384) (.head _) (by simp)) ?_;refine bW.mk λbi m6 Xt=>?_;refine bD.append aY rfl (by simp) (e:=386) rfl rfl rfl (⟨some c5,n,fp,aS⟩:aR) b4 rfl (m:=1) rfl (cb:=kf (x,x)) (by decide) (dr (cs:=kf (x,x)) (k:=0) (n:=2) (T:=386) (.head _) (by simp[kf])) rfl (Mr:=[⟨bi,.cells (kf (x,x)).toArray 386 (0,0)⟩,⟨g,.cells #[.slice (some ⟨c5,0,none⟩) n fp] 384 (0,0)⟩]) (eU (l₁:=[_,_])) (by simp only[maxLen];omega) (by show(_+1)*2<=_;simp only;omega) ?_;intro eg c' kh ew e' fe jZ;refine ck.mk [⟨eg,.cells kh.toArray 386 (0,0)⟩,⟨bi,.cells (kf (x,x)).toArray 386 (0,0)⟩] [] _ _ rfl rfl (bK rfl) rfl ?_;refine⟨_,_,.perm (M1:=[⟨bi,.cells (kf (x,x)).toArray 386 (0,0)⟩]++(⟨g,.cells #[aR.val ⟨some eg,(⟨some c5,n,fp,aS⟩:aR).n+1,c',kh⟩] 384 (0,0)⟩::aR.ar ⟨some eg,(⟨some c5,n,fp,aS⟩:aR).n+1,c',kh⟩ 386)) (eU (l₁:=[_]) (l₂:=[_,_])) (.sub (mT _ _) .refl),kV,⟨some eg,(⟨some c5,n,fp,aS⟩:aR).n+1,c',kh⟩,?_,rfl⟩;rw[iZ];exact PT b4 ew e' fe jZ
   ·have qy:n=0:=by simp at aa;omega
    have mz:a'=[]:=jl (by omega);have iZ:u0 a' x=a'++[(x,x)]:=by rw[mz];rfl
    refine aO.mk [.slice (some ⟨c5,0,none⟩) n fp] (dr (cs:=[.slice (some ⟨c5,0,none⟩) n fp]) (k:=0) (n:=1) (T:=384) (.head _) (by simp)) ?_;refine bW.mk λbi m6 Xt=>?_;refine bD.append aY rfl (by simp) (e:=386) rfl rfl rfl (⟨some c5,n,fp,aS⟩:aR) b4 rfl (m:=1) rfl (cb:=kf (x,x)) (by decide) (dr (cs:=kf (x,x)) (k:=0) (n:=2) (T:=386) (.head _) (by simp[kf])) rfl (Mr:=[⟨bi,.cells (kf (x,x)).toArray 386 (0,0)⟩,⟨g,.cells #[.slice (some ⟨c5,0,none⟩) n fp] 384 (0,0)⟩]) (eU (l₁:=[_,_])) (by simp only[maxLen];omega) (by show(_+1)*2<=_;simp only;omega) ?_;intro eg c' kh ew e' fe jZ;refine ck.mk [⟨eg,.cells kh.toArray 386 (0,0)⟩,⟨bi,.cells (kf (x,x)).toArray 386 (0,0)⟩] [] _ _ rfl rfl (bK rfl) rfl ?_;refine⟨_,_,.perm (M1:=[⟨bi,.cells (kf (x,x)).toArray 386 (0,0)⟩]++(⟨g,.cells #[aR.val ⟨some eg,(⟨some c5,n,fp,aS⟩:aR).n+1,c',kh⟩] 384 (0,0)⟩::aR.ar ⟨some eg,(⟨some c5,n,fp,aS⟩:aR).n+1,c',kh⟩ 386)) (eU (l₁:=[_]) (l₂:=[_,_])) (.sub (mT _ _) .refl),kV,⟨some eg,(⟨some c5,n,fp,aS⟩:aR).n+1,c',kh⟩,?_,rfl⟩;rw[iZ];exact PT b4 ew e' fe jZ
 ·rintro I' M' -⟨kV,os,b4,rfl⟩;refine aO.mk [os.val] (dr (cs:=[os.val]) (k:=0) (n:=1) (T:=384) (.head _) (by simp)) ?_;refine⟨_,_,.sub (tA _ _) .refl,λb o h=>kV _ _ (de _ _ h),os,rfl,?_,rfl⟩;have:(jq az 0 [a,b,c,d]).take (tG (jq az 0 [a,b,c,d])).length=jq az 0 [a,b,c,d]:=fC (by simp[tG]);rw[this]at b4;exact b4
def aR.ok.row{M:List aE}{f:α->List Value}{size:Nat}(aB:∀ x,(f x).length=size)(ay:0<size){l:List α}(h:os.ok size (l.flatMap f))(ba:∀ x∈os.ar e,x∈M)(ai:j<l.length) :
  ∃ aM,os.a.map (λg=>(⟨g,0,none⟩:Addr))=some aM/\cR I M (aM.add (j*size)) size (f l[j]):=by
 have aD:l.length=os.n:=by have aa:=h.len;rw[gO f size aB]at aa;exact Nat.eq_of_mul_eq_mul_right ay aa
 cases a7:os.a with
 |none=>have:=(h.nil a7).1;omega
 |some g=>
  obtain⟨aa,ad,ak,aK⟩:=h.cap g a7;refine⟨⟨g,0,none⟩,rfl,?_⟩;have bf:j*size+size<=os.n*size:=by have:=qg size (show j+1<=os.n by omega);rw[lX,oI]at this;exact this
  have dz:os.n*size<=os.aS.length:=by rw[aa];exact qg _ ad
  have:=dr (I:=I) (M:=M) (b:=g) (T:=e) (cs:=os.aS) (ba _ (by simp[aR.ar,a7])) (k:=j*size) (n:=size) (by omega);have aI:(os.aS.drop (j*size)).take size=f l[j]:=by rw[<-Ed f size aB l j ai,<-aK,D5,zB];congr 1;omega
  rw[aI]at this;exact this
def Ci:ByteArray:=⟨#[34]⟩
def z3:ByteArray:=⟨#[93,45,94]⟩
def Hz(s:ByteArray):List UInt8:=[34]++s.data.toList.flatMap (oV · Ci)++[34]
def strOf(l:List UInt8):ByteArray:=⟨l.toArray⟩
def HA{α β:Type}(f:α->List β)(m:Nat)(aB:∀ x,(f x).length<=m):∀ l:List α,(l.flatMap f).length<=m*l.length
 |[]=>by simp
 |x::l=>by have aa:=HA f m aB l;have ad:=aB x;simp only[iS,cr,et,Nat.mul_add];omega
def Xu(s:ByteArray)(av:s.size<=1099511627776):Spec Tryz.prog 337 [.string s] I [] λr I' M'=>r=.string (strOf (Hz s))/\I'=I/\M'=[]:=by
 refine bV [3] aY Tryz.func337 rfl rfl rfl ?_;intro B ay;refine bW.mk λb ag wz=>?_;refine a8.mk (gp.new.M b) [] _ (.refl _) (pP b gp.Lf 34 (by decide)) ?_;rintro v I' M' -⟨rfl,rfl,uQ,fM,PU,rfl⟩;refine dt.inv (ι:=Nat×gp) (λp=>{ bo:=[(0,.val (.string s)),(3,.val (ptr b)),(4,.val (.int .i64 p.1))],cH:=I',dd:=p.2.M b }) (λp=>p.1<=s.size/\p.2.ok/\p.2.cz=[34]++(s.data.toList.take p.1).flatMap (oV · Ci)) (λp=>s.size-p.1) ?_ ?_
 ·exact⟨(0,uQ),⟨by simp,fM,by simp[PU,gp.new]⟩,.perm (by simp) .refl,fG,.nil⟩
 ·rintro⟨i,x⟩⟨hi,ab,iv⟩;simp only at hi ab iv;have cS:x.cz.length<=1+4*i:=by rw[iv];have:=HA (oV · Ci) 4 (λc=>Hv c Ci) (s.data.toList.take i);have ad:=Ej i s.data.toList;simp only[cr,et,hB];omega
  refine aX.mk (λh=>?_) (λh=>?_)
  ·have aZ:i<s.size:=by simpa using h
   have cy:i<s.data.toList.length:=aZ;refine tf.mk i rfl aZ ?_;refine a8.mk (x.M b) [] _ (by simp) (Lh b ab s[i] Ci (by omega)) ?_;rintro v I' M' -⟨rfl,y,aC,g5,rfl⟩;have gP:IntKind.i64.wrap ((i:Int)+1)=((i+1:Nat):Int):=by rw[wrap_i64 ⟨by omega,by omega⟩];omega
   refine bd.mk _ gP ?_;refine⟨(i+1,y),⟨⟨by simp only;omega,aC,?_⟩,by simp only;omega⟩,.perm (by simp) .refl,fG,.nil⟩;simp only;rw[g5,iv,gj cy,fI,dW];congr 1;simp;rfl
  ·have c0:s.size<=i:=by simpa using h
   have eO:s.data.toList.take i=s.data.toList:=fC c0;refine a8.mk (x.M b) [] _ (by simp) (pP b ab 34 (by omega)) ?_;rintro v I' M' -⟨rfl,rfl,y,aC,g5,rfl⟩;refine a8.mk (y.M b) [] _ (by simp) (x7 b aC (by rw[g5];simp;omega)) ?_;rintro v I' M' -⟨rfl,rfl,rfl⟩;refine⟨_,_,.refl,?_,rfl,by simp⟩;rw[g5,iv,eO];rfl
def u2(p:UInt8×UInt8):List UInt8:=
 oV p.1 z3++((bif decide (1<IntKind.u8.wrap ((p.2.toNat:Int)-p.1.toNat))then [45]else [])++(bif !decide ((p.2.toNat:Int)=p.1.toNat)then oV p.2 z3 else []))
def Cj(az:List Int)(a b c d:Int):List UInt8:=
 bif (a == jI 0&&(b == jI 0&&(c == jI 0&&d == jI 0)))then [46]else [91]++(pR (jq az 0 [a,b,c,d])).flatMap u2++[93]
def Xv(p:UInt8×UInt8):(u2 p).length<=9:=by
 have aa:=Hv p.1 z3;have ad:=Hv p.2 z3;unfold u2;cases decide (1<IntKind.u8.wrap ((p.2.toNat:Int)-p.1.toNat))<;>cases decide ((p.2.toNat:Int)=p.1.toNat)<;>simp<;>omega
def Xw(az:List Int)(a b c d:Int):(pR (jq az 0 [a,b,c,d])).length<=256:=by have aa:=PS az [a,b,c,d] 0;have ad:=Xr (jq az 0 [a,b,c,d]);simp only[et,hB]at aa;omega
def aiA(az:List Int)(a b c d:Int):(Cj az a b c d).length<=2306:=by
 have aa:=Xw az a b c d;have ad:=HA u2 9 Xv (pR (jq az 0 [a,b,c,d]));unfold Cj;cases(a == jI 0&&(b == jI 0&&(c == jI 0&&d == jI 0)))
 ·simp only[cE,cr,et,hB];omega
 ·simp
def aiB(Cf:sC I az){a b c d:Int}(rG:∀ x∈[a,b,c,d],fm x):Spec Tryz.prog 338 [.agg #[.int .u64 a,.int .u64 b,.int .u64 c,.int .u64 d]] I []
  λr I' M'=>r=.string (strOf (Cj az a b c d))/\(∀ b o,I b=some o->I' b=some o)/\M'=[]:=by
 refine bV [3] aY Tryz.func338 rfl rfl rfl ?_;intro B ay;refine cT.draw aY rfl rfl rfl ?_;refine eJ.mk _ aio ?_;rintro v I' M' -⟨rfl,rfl,rfl⟩;refine fT.Pq aY (e:=60) rfl rfl rfl rfl (by kernel_rfl) ?_;refine aX.mk (λh=>?_) (λh=>?_)
 ·refine⟨_,_,.refl,?_,λ_ _ h=>h,rfl⟩;simp only[Cj,h];rfl
 ·refine bW.mk λg aw En=>?_;refine a8.mk (gp.new.M g) [] _ (.refl _) (pP g gp.Lf 91 (by decide)) ?_;rintro v I' M' -⟨rfl,rfl,uQ,fM,PU,rfl⟩;refine a8.mk [] (uQ.M g) _ (by simp) (aix Cf rG) ?_;rintro v I1 M1 -⟨de,os,rfl,b4,rfl⟩;have eH:=Xw az a b c d;have dz:Cj az a b c d=[91]++(pR (jq az 0 [a,b,c,d])).flatMap u2++[93]:=by simp only[Cj,h];rfl
  generalize dB:pR (jq az 0 [a,b,c,d])=a' at *;have aD:a'.length=os.n:=by have:=b4.len;rw[Lj]at this;omega
  refine dt.inv (ι:=Nat×gp) (λp=>{ bo:=[(3,.val (ptr g)),(11,.val os.val),(12,.val (.int .i64 os.n)),(13,.val (.int .i64 p.1))],cH:=I1,dd:=p.2.M g++os.ar 386 }) (λp=>p.1<=os.n/\p.2.ok/\p.2.cz=[91]++(a'.take p.1).flatMap u2) (λp=>os.n-p.1) ?_ ?_;·exact⟨(0,uQ),⟨by simp,fM,by simp[PU,gp.new]⟩,.perm (by simpa using eU) .refl,ee,.nil⟩
  ·rintro⟨i,x⟩⟨hi,ab,iv⟩;simp only at hi ab iv;have cS:x.cz.length<=1+9*i:=by rw[iv];have:=HA u2 9 Xv (a'.take i);have ad:=Ej i a';simp only[cr,et,hB];omega
   refine aX.mk (λh=>?_) (λh=>?_)
   ·have aZ:i<os.n:=by simpa using h
    have cy:i<a'.length:=by omega
    obtain⟨aM,bB,bp⟩:=aR.ok.row (I:=I1) (M:=x.M g++os.ar 386) (f:=kf) (λ_=>rfl) (by decide) b4 (e:=386) (λy aC=>by simp[aC]) cy;refine bm.mk aM i bB rfl aZ ?_;refine aO.mk _ bp ?_;generalize aJ:a'[i]=p;refine cw.mk 0 rfl (by decide) ?_;refine a8.mk (x.M g) (os.ar 386) _ (.refl _) (Lh g ab p.1 z3 (by omega)) ?_;rintro v I' M' -⟨rfl,y,aC,g5,rfl⟩;have Hw:y.cz.length<=5+9*i:=by rw[g5,cr];have:=Hv p.1 z3;omega
    refine cw.mk 1 rfl (by decide) ?_;refine cw.mk 0 rfl (by decide) ?_;refine bd.mk _ rfl ?_;refine aX.mk (λeT=>?_) (λeT=>?_)
    ·refine a8.mk (y.M g) (os.ar 386) _ (by simp) (pP g aC 45 (by omega)) ?_;rintro v I' M' -⟨rfl,rfl,u,hu,x9,rfl⟩;have HB:u.cz.length<=6+9*i:=by rw[x9];simp;omega
     refine cw.mk 1 rfl (by decide) ?_;refine cw.mk 0 rfl (by decide) ?_;refine aX.mk (λc4=>?_) (λc4=>?_)
     ·refine cw.mk 1 rfl (by decide) ?_;refine a8.mk (u.M g) (os.ar 386) _ (by simp) (Lh g hu p.2 z3 (by omega)) ?_;rintro v I' M' -⟨rfl,z,bb,tE,rfl⟩;have gP:IntKind.i64.wrap ((i:Int)+1)=((i+1:Nat):Int):=by rw[wrap_i64 ⟨by omega,by omega⟩];omega
      refine bd.mk _ gP ?_;refine⟨(i+1,z),⟨⟨by simp only;omega,bb,?_⟩,by simp only;omega⟩,.perm (by simp) .refl,ee,.nil⟩;simp only;rw[tE,x9,g5,iv,gj cy,fI,aJ];simp[u2,eT,c4]
     ·have gP:IntKind.i64.wrap ((i:Int)+1)=((i+1:Nat):Int):=by rw[wrap_i64 ⟨by omega,by omega⟩];omega
      refine bd.mk _ gP ?_;refine⟨(i+1,u),⟨⟨by simp only;omega,hu,?_⟩,by simp only;omega⟩,.perm (by simp) .refl,ee,.nil⟩;simp only;rw[x9,g5,iv,gj cy,fI,aJ];simp[u2,eT,c4]
    ·refine cw.mk 1 rfl (by decide) ?_;refine cw.mk 0 rfl (by decide) ?_;refine aX.mk (λc4=>?_) (λc4=>?_)
     ·refine cw.mk 1 rfl (by decide) ?_;refine a8.mk (y.M g) (os.ar 386) _ (by simp) (Lh g aC p.2 z3 (by omega)) ?_;rintro v I' M' -⟨rfl,z,bb,tE,rfl⟩;have gP:IntKind.i64.wrap ((i:Int)+1)=((i+1:Nat):Int):=by rw[wrap_i64 ⟨by omega,by omega⟩];omega
      refine bd.mk _ gP ?_;refine⟨(i+1,z),⟨⟨by simp only;omega,bb,?_⟩,by simp only;omega⟩,.perm (by simp) .refl,ee,.nil⟩;simp only;rw[tE,g5,iv,gj cy,fI,aJ];simp[u2,eT,c4]
     ·have gP:IntKind.i64.wrap ((i:Int)+1)=((i+1:Nat):Int):=by rw[wrap_i64 ⟨by omega,by omega⟩];omega
      refine bd.mk _ gP ?_;refine⟨(i+1,y),⟨⟨by simp only;omega,aC,?_⟩,by simp only;omega⟩,.perm (by simp) .refl,ee,.nil⟩;simp only;rw[g5,iv,gj cy,fI,aJ];simp[u2,eT,c4]
   ·have c0:os.n<=i:=by simpa using h
    have eO:a'.take i=a':=fC (by omega);refine a8.mk (x.M g) (os.ar 386) _ (.refl _) (pP g ab 93 (by omega)) ?_;rintro v I' M' -⟨rfl,rfl,y,aC,g5,rfl⟩;refine a8.mk (y.M g) (os.ar 386) _ (.refl _) (x7 g aC (by rw[g5];simp;omega)) ?_;rintro v I' M' -⟨rfl,rfl,rfl⟩;refine⟨_,_,.sub (gd _) .refl,?_,de,rfl⟩;rw[g5,iv,eO,dz];rfl
structure Lk(d:al):Prop where
 k:d.k<10
 t:d.t.size<=255
 HC:d.k=6->0<=d.lo/\d.lo<=99/\(d.hi=-1\/(d.lo<=d.hi/\d.hi<=99))
def PV{d:al}{n:Int}(h:fits d n=true):Lk d:=by
 unfold fits at h;cases aa:decide (10<=d.k)with
 |true=>rw[aa]at h;cases h
 |false=>
  rw[aa]at h;simp only[cE]at h;have ae:d.k<10:=by simpa using aa
  cases ad:(decide (n<oR d.k.toNat)||(decide (0<=nH d.k.toNat)&&decide (nH d.k.toNat<n)))with
  |true=>rw[ad]at h;cases h
  |false=>
   rw[ad]at h;simp only[cE]at h;have dy:d.t=⟨#[]⟩->d.t.size<=255:=λe=>by rw[e];decide
   cases ak:decide (d.k=1)with
   |true=>rw[ak]at h;simp only[cF,cB,h6]at h;exact⟨ae,dy h.1,λe=>by simp at ak;omega⟩
   |false=>
    rw[ak]at h;simp only[cE]at h;cases aK:decide (d.k=2)with
    |true=>rw[aK]at h;simp only[cF,cB,tq,tB,st]at h;exact⟨ae,by omega,λe=>by simp at aK;omega⟩
    |false=>
     rw[aK]at h;simp only[cE]at h;cases bz:(decide (d.k=3)||decide (d.k=9))with
     |true=>rw[bz]at h;simp only[cF,cB]at h;refine⟨ae,?_,λe=>by simp at bz;omega⟩;have:=h.1;unfold nG at this;simp only[cB,h6]at this;omega
     |false=>
      rw[bz]at h;simp only[cE]at h;cases cu:decide (d.k=6)with
      |true=>
       rw[cu]at h;simp only[cF,cB,h6,tq,tB,st,Bool.and_eq_false_iff]at h;refine⟨ae,dy h.2.2,λ_=>?_⟩;obtain⟨⟨bc,bi,ca⟩,_⟩:=h;refine⟨by omega,by omega,?_⟩;rcases ca with ca | ca
       ·left
        simpa using ca
       ·right
        omega
      |false=>rw[cu]at h;simp only[cE,cB,h6]at h;exact⟨ae,dy h.2.1,λe=>by simp at cu;omega⟩
def HD:List Value:=[.int .i64 0,.int .i64 1,.string ⟨#[63]⟩,.int .i64 0,.int .i64 (-1),.string ⟨#[42]⟩,.int .i64 1,.int .i64 (-1),.string ⟨#[43]⟩]
def PW(I:aH):Prop:=∃ T an,I 2=some (.cells HD.toArray T an)
def Ck(lo:Nat)(hi:Int):List UInt8:=
 bif decide (hi=lo)then [123]++nI lo++[125]else
 bif decide (hi=-1)then [123]++nI lo++[44,125]else [123]++nI lo++[44]++nI hi.toNat++[125]
def tI(lo:Nat)(hi:Int):List UInt8:=
 bif decide ((0:Int)=lo)&&decide (1=hi)then [63]else
 bif decide ((0:Int)=lo)&&decide (-1=hi)then [42]else
 bif decide ((1:Int)=lo)&&decide (-1=hi)then [43]else Ck lo hi
def aiC(lo:Nat)(hi:Int):(Ck lo hi).length<=7:=by
 have aa:=Hx lo;have ad:=Hx hi.toNat;unfold Ck;cases decide (hi=lo)<;>cases decide (hi=-1)<;>simp<;>omega
def aiD(lo:Nat)(hi:Int):(tI lo hi).length<=7:=by
 have aa:=aiC lo hi;unfold tI;cases(decide ((0:Int)=lo)&&decide (1=hi))<;>cases(decide ((0:Int)=lo)&&decide (-1=hi))<;>cases(decide ((1:Int)=lo)&&decide (-1=hi))<;>simp<;>omega
def Xx(n:Nat):(zZ n).size<=2:=Hx n
def qD(lo hi:Int):al:=⟨6,0,0,0,0,⟨#[]⟩,lo,hi,none,0,0,[]⟩
def aiE{lo:Nat}{hi:Int}(e6:lo<=99)(gB:hi=-1\/((lo:Int)<=hi/\hi<=99)):fits (qD lo hi) 1=true:=by
 have aI:oR 6=1:=by decide
 have a6:nH 6=1:=by decide
 rcases gB with rfl | ⟨aa,ad⟩
 ·simp[fits,qD,aI,a6,al.kT];exact⟨eY (by omega),eY (by omega)⟩
 ·simp[fits,qD,aI,a6,al.kT];exact⟨eY (by omega),eY (by omega),.inr ⟨eY (by omega),eY (by omega)⟩⟩
def aiF(a b:List UInt8):strOf a++strOf b=strOf (a++b):=by apply Er;simp[strOf]
def fT.z4{t:Nat}{a b:List UInt8}(av:a.length+b.length<=9223372036854775807){V:Value->Prop}{other:Prop}(h:V (.string (strOf (a++b)))):fT P .add t x y (.val (.string (strOf a))) (.val (.string (strOf b))) V other:=
 fT.concat (a:=strOf a) (b:=strOf b) av (by rw[aiF];exact h)
def aiG(ao:m4 I)(aJ:PW I)(lo:Nat)(hi:Int)(e6:lo<=99)(gB:hi=-1\/((lo:Int)<=hi/\hi<=99)):Spec Tryz.prog 339 [.int .i64 lo,.int .i64 hi] I []
  λr I' M'=>r=.string (strOf (tI lo hi))/\I'=I/\M'=[]:=by
 refine bV [] aY Tryz.func339 rfl rfl rfl ?_;intro B ay;have bg:(qD lo hi).ok I:=⟨by simp[qD],by simp[qD,fm],by simp[qD,fm],by simp[qD,fm],by simp[qD,fm],by show(0:Nat)<=_;omega,⟨by simp only[qD];omega,by simp only[qD];omega⟩,⟨by simp only[qD];omega,by simp only[qD];omega⟩,⟨rfl,⟨b' _,by simp[qD]⟩,.inl rfl⟩,by simp[qD]⟩;refine a8.mk [] [] _ (.refl _) (PC ao bg 1) ?_;rintro v I' M' -⟨rfl,rfl,rfl⟩;rw[aiE e6 gB];refine aX.mk (λh=>by cases h) (λ_=>?_);have bp:cR I' ([]++[]) ⟨2,0,none⟩ 9 HD:=by obtain⟨T,an,aJ⟩:=aJ;exact⟨rfl,_,T,an,.inl aJ,rfl,rfl⟩
 refine aO.mk _ bp ?_;refine dt.inv (ι:=Nat) (λi=>{ bo:=[(0,.val (.int .i64 lo)),(1,.val (.int .i64 hi)),(12,.val (.agg HD.toArray)),(13,.val (.int .i64 i))],cH:=I' }) (λi=>i<=3/\(1<=i->(decide ((0:Int)=lo)&&decide (1=hi))=false)/\(2<=i->(decide ((0:Int)=lo)&&decide (-1=hi))=false)/\(3<=i->(decide ((1:Int)=lo)&&decide (-1=hi))=false)) (λi=>3-i) ?_ ?_
 ·exact⟨0,⟨by simp,by simp,by simp,by simp⟩,.refl,ee,.nil⟩
 ·rintro i⟨im,c1,m2,wC⟩
  match i,im with
  |0,_=>
   refine aX.mk (λ_=>?_) (λh=>by simp at h);refine cw.mk 0 rfl (by decide) ?_;have next:(decide ((0:Int)=lo)&&decide (1=hi))=false->(((0+1:Nat)<=3/\(1<=(0+1:Nat)->(decide ((0:Int)=lo)&&decide (1=hi))=false)/\(2<=(0+1:Nat)->(decide ((0:Int)=lo)&&decide (-1=hi))=false)/\(3<=(0+1:Nat)->(decide ((1:Int)=lo)&&decide (-1=hi))=false))/\3-(0+1)<3-0):=λh=>by
    refine⟨⟨by simp,λ_=>?_,λcG=>?_,λcG=>?_⟩,by simp⟩;·exact h
    ·simp at cG
    ·simp at cG
   refine bX.mk (λbc=>?_) (λbc=>?_)
   ·refine aX.mk (λbi=>?_) (λbi=>?_)
    ·refine⟨_,_,.refl,?_,rfl,rfl⟩;have:tI lo hi=[63]:=by unfold tI;rw[bc,bi];rfl
     rw[this];rfl
    ·refine bd.mk 1 (by decide) ?_;exact⟨1,next (by rw[bc,bi];rfl),.refl,ee,.nil⟩
   ·refine bd.mk 1 (by decide) ?_;exact⟨1,next (by rw[bc];rfl),.refl,ee,.nil⟩
  |1,_=>
   refine aX.mk (λ_=>?_) (λh=>by simp at h);refine cw.mk 1 rfl (by decide) ?_;have next:(decide ((0:Int)=lo)&&decide (-1=hi))=false->(((1+1:Nat)<=3/\(1<=(1+1:Nat)->(decide ((0:Int)=lo)&&decide (1=hi))=false)/\(2<=(1+1:Nat)->(decide ((0:Int)=lo)&&decide (-1=hi))=false)/\(3<=(1+1:Nat)->(decide ((1:Int)=lo)&&decide (-1=hi))=false))/\3-(1+1)<3-1):=λh=>by
    refine⟨⟨by simp,λ_=>?_,λcG=>?_,λcG=>?_⟩,by simp⟩;·exact c1 (by decide)
    ·exact h
    ·simp at cG
   refine bX.mk (λbc=>?_) (λbc=>?_)
   ·refine aX.mk (λbi=>?_) (λbi=>?_)
    ·refine⟨_,_,.refl,?_,rfl,rfl⟩;have:tI lo hi=[42]:=by unfold tI;rw[c1 (by decide),bc,bi];rfl
     rw[this];rfl
    ·refine bd.mk 2 (by decide) ?_;exact⟨2,next (by rw[bc,bi];rfl),.refl,ee,.nil⟩
   ·refine bd.mk 2 (by decide) ?_;exact⟨2,next (by rw[bc];rfl),.refl,ee,.nil⟩
  |2,_=>
   refine aX.mk (λ_=>?_) (λh=>by simp at h);refine cw.mk 2 rfl (by decide) ?_;have next:(decide ((1:Int)=lo)&&decide (-1=hi))=false->(((2+1:Nat)<=3/\(1<=(2+1:Nat)->(decide ((0:Int)=lo)&&decide (1=hi))=false)/\(2<=(2+1:Nat)->(decide ((0:Int)=lo)&&decide (-1=hi))=false)/\(3<=(2+1:Nat)->(decide ((1:Int)=lo)&&decide (-1=hi))=false))/\3-(2+1)<3-2):=λh=>by
    refine⟨⟨by simp,λ_=>?_,λcG=>?_,λcG=>?_⟩,by simp⟩;·exact c1 (by decide)
    ·exact m2 (by decide)
    ·exact h
   refine bX.mk (λbc=>?_) (λbc=>?_)
   ·refine aX.mk (λbi=>?_) (λbi=>?_)
    ·refine⟨_,_,.refl,?_,rfl,rfl⟩;have:tI lo hi=[43]:=by unfold tI;rw[c1 (by decide),m2 (by decide),bc,bi];rfl
     rw[this];rfl
    ·refine bd.mk 3 (by decide) ?_;exact⟨3,next (by rw[bc,bi];rfl),.refl,ee,.nil⟩
   ·refine bd.mk 3 (by decide) ?_;exact⟨3,next (by rw[bc];rfl),.refl,ee,.nil⟩
  |3,_=>
   refine aX.mk (λh=>by simp at h) (λ_=>?_);have aI:=c1 (by decide);have a6:=m2 (by decide);have cq:=wC (by decide);have jT:tI lo hi=Ck lo hi:=by unfold tI;rw[aI,a6,cq];rfl
   rw[jT];have sF:=Xx lo;have BN:=Xx hi.toNat;have sF:=Hx lo;refine aX.mk (λh=>?_) (λh=>?_);·refine a8.mk [] [] _ (.refl _) (Li lo (by omega)) ?_;rintro v I' M' -⟨rfl,rfl,rfl⟩;refine fT.z4 (a:=[123]) (b:=nI lo) (by simp;omega) ?_;refine fT.z4 (a:=[123]++nI lo) (b:=[125]) (by simp;omega) ?_;refine⟨_,_,.refl,?_,rfl,rfl⟩;rw[Ck,h];rfl
   ·refine aX.mk (λk=>?_) (λk=>?_)
    ·refine a8.mk [] [] _ (.refl _) (Li lo (by omega)) ?_;rintro v I' M' -⟨rfl,rfl,rfl⟩;refine fT.z4 (a:=[123]) (b:=nI lo) (by simp;omega) ?_;refine fT.z4 (a:=[123]++nI lo) (b:=[44,125]) (by simp;omega) ?_;refine⟨_,_,.refl,?_,rfl,rfl⟩;rw[Ck,h,k];rfl
    ·refine a8.mk [] [] _ (.refl _) (Li lo (by omega)) ?_;rintro v I' M' -⟨rfl,rfl,rfl⟩;have ae:hi≠-1:=by simpa using k
     obtain⟨aD,rfl⟩:=eG (show 0<=hi by omega);have BN:=Hx aD;refine fT.z4 (a:=[123]) (b:=nI lo) (by simp;omega) ?_;refine fT.z4 (a:=[123]++nI lo) (b:=[44]) (by simp;omega) ?_;refine a8.mk [] [] _ (.refl _) (Li aD (by omega)) ?_;rintro v I' M' -⟨rfl,rfl,rfl⟩;refine fT.z4 (a:=[123]++nI lo++[44]) (b:=nI aD) (by simp;omega) ?_;refine fT.z4 (a:=[123]++nI lo++[44]++nI aD) (b:=[125]) (by simp;omega) ?_;refine⟨_,_,.refl,?_,rfl,rfl⟩;rw[Ck,h,k];rfl
def u3:List (List UInt8):=[[],[],[],[],[],[],[],[],[],[],[],[],[],[32],[],[],[32,47,32],[],[],[],[],[38],[],[],[33],[],[],[60],[],[62]]
def sG(j:Nat):List UInt8:=u3.getD j []
def HE(I:aH):Prop:=∃ T an,I 1=some (.cells (u3.map λl=>Value.string (strOf l)).toArray T an)
def HE.rd(h:HE I)(M:List aE)(ai:i+j<30):cR I M ((Addr.add ⟨1,0,none⟩ i).add j) 1 [.string (strOf (sG (i+j)))]:=by
 obtain⟨T,an,h⟩:=h;rw[z2,eS _ rfl];refine⟨rfl,_,T,an,.inl h,?_,rfl⟩;have aa:i+j<(u3.map λl=>Value.string (strOf l)).length:=by simp[u3];omega
 have ad:i+j<u3.length:=by simp[u3];omega
 simp only[du];rw[fg aa,rl,qo];simp[sG,bS,ad]
def HF(j:Nat):(sG j).length<=3:=by
 by_cases h:j<30
 ·have:∀ j:Fin 30,(sG j.val).length<=3:=by decide
  exact this ⟨j,h⟩
 ·have:u3.length<=j:=by simp[u3];omega
  simp[sG,bS,this]
def rJ(az:List Int)(d:al):List UInt8:=
 bif decide (d.k=0)||decide (d.k=2)then Hz d.t else
 bif decide (d.k=1)then Cj az d.cx d.s1 d.s2 d.cY else
 bif decide (d.k=3)then d.t.data.toList else
 bif decide (d.k=9)then sG 27++d.t.data.toList++[58,32]else sG (d.k.toNat*3)
def pT(d:al):List UInt8:=bif decide (d.k=6)then tI d.lo.toNat d.hi else sG (d.k.toNat*3+2)
def aiH(s:ByteArray):strOf s.data.toList=s:=Er (by simp[strOf])
def PX(ao:m4 I)(aJ:PW I)(Ll:HE I){d:al}(ah:d.ok I)(aB:Lk d):Spec Tryz.prog 321 [d.val] I [] λr I' M'=>r=.string (strOf (pT d))/\I'=I/\M'=[]:=by
 refine bV [] aY Tryz.func321 rfl rfl rfl ?_;intro B ay;refine aX.mk (λh=>?_) (λh=>?_)
 ·obtain⟨bc,bi,ca⟩:=aB.HC (by simpa using h);have aI:d.lo=((d.lo.toNat:Nat):Int):=by omega
  have kr:=aiG ao aJ d.lo.toNat d.hi (by omega) (by omega);rw[<-aI]at kr;refine a8.mk [] [] _ (.refl _) kr ?_;rintro v I' M' -⟨rfl,rfl,rfl⟩;refine⟨_,_,.refl,?_,rfl,rfl⟩;simp only[pT,h];rfl
 ·have ae:=ah.k;have tH:=aB.k;refine cw.mk d.k.toNat (by omega) (by omega) ?_;refine aO.mk _ (Ll.rd _ (by show d.k.toNat*3+2<30;omega)) ?_;refine⟨_,_,.refl,?_,rfl,rfl⟩;simp only[pT,h];rfl
def Xy(Cf:sC I az)(Ll:HE I){d:al}(ah:d.ok I)(aB:Lk d):Spec Tryz.prog 319 [d.val] I []
  λr I' M'=>r=.string (strOf (rJ az d))/\(∀ b o,I b=some o->I' b=some o)/\M'=[]:=by
 refine bV [] aY Tryz.func319 rfl rfl rfl ?_;intro B ay;have ae:=ah.k;have tH:=aB.k;have aq:=aB.t;have lit:(decide (d.k=0)||decide (d.k=2))=true->rJ az d=Hz d.t:=λh=>by simp only[rJ,h];rfl
 refine aX.mk (λaa=>?_) (λaa=>?_)
 ·refine aX.mk (λ_=>?_) (λh=>by rw[aa]at h;cases h);refine a8.mk [] [] _ (.refl _) (Xu d.t (by omega)) ?_;rintro v I' M' -⟨rfl,rfl,rfl⟩;refine⟨_,_,.refl,?_,λ_ _ h=>h,rfl⟩;rw[lit (by rw[aa];rfl)]
 ·refine aX.mk (λad=>?_) (λad=>?_)
  ·refine a8.mk [] [] _ (.refl _) (Xu d.t (by omega)) ?_;rintro v I' M' -⟨rfl,rfl,rfl⟩;refine⟨_,_,.refl,?_,λ_ _ h=>h,rfl⟩;rw[lit (by rw[ad];simp)]
  ·refine aX.mk (λak=>?_) (λak=>?_)
   ·refine a8.mk [] [] _ (.refl _) (aiB Cf (a:=d.cx) (b:=d.s1) (c:=d.s2) (d:=d.cY) (λx ab=>by
     simp only[eI,List.not_mem_nil,or_false]at ab;rcases ab with rfl | rfl | rfl | rfl;·exact ah.cx
     ·exact ah.s1
     ·exact ah.s2
     ·exact ah.cY)) ?_
    rintro v I' M' -⟨rfl,bA,rfl⟩;refine⟨_,_,.refl,?_,bA,rfl⟩;simp only[rJ,aa,ad,ak];rfl
   ·refine aX.mk (λaK=>?_) (λaK=>?_)
    ·refine⟨_,_,.refl,?_,λ_ _ h=>h,rfl⟩;simp only[rJ,aa,ad,ak,aK];rw[<-aiH d.t];rfl
    ·refine aX.mk (λbz=>?_) (λbz=>?_)
     ·have aiI:d.k=9:=by simpa using bz
      refine cT.draw aY rfl rfl rfl ?_;refine cw.mk 9 aiI (by decide) ?_;refine aO.mk _ (Ll.rd _ (by decide)) ?_;have gg:(strOf (sG 27)).size=1:=by decide
      refine fT.concat (a:=strOf (sG 27)) (b:=d.t) (by omega) ?_;refine fT.concat (a:=strOf (sG 27)++d.t) (b:=strOf [58,32]) (by rw[La];show _+2<=_;omega) ?_;refine⟨_,_,.refl,?_,λ_ _ h=>h,rfl⟩;simp only[rJ,aa,ad,ak,aK,bz];refine congrArg Value.string (Er ?_);simp[strOf]
     ·refine cw.mk d.k.toNat (by omega) (by omega) ?_;refine aO.mk _ (Ll.rd _ (by show d.k.toNat*3+0<30;omega)) ?_;refine⟨_,_,.refl,?_,λ_ _ h=>h,rfl⟩;simp only[rJ,aa,ad,ak,aK,bz];rfl
def iF(ns:List al)(k:Int):Int:=(ns.map (·.k)).getD k.toNat 0
def paren(w:Bool)(s:List UInt8):List UInt8:=(bif w then [40]else [])++(s++(bif w then [41]else []))
def u4(sep:List UInt8)(f:Int->List UInt8):Bool->List Int->List UInt8
 |_,[]=>[]| b,k::ks=>(bif b then sep else [])++(f k++u4 sep f true ks)
def Ev(d:al):List UInt8:=sG (d.k.toNat*3+1)
def Ew(az:List Int)(ns:List al)(d:al)(g:Int->List UInt8):List UInt8:=
 rJ az d++(u4 (Ev d) (λk=>paren (hN d.k (iF ns k)) (g k)) false d.au++pT d)
def kW(az:List Int)(ns:List al):Int->List UInt8:=mA [] (Ew az ns) ns
def nM(az:List Int)(t:bk):List UInt8:=bif right t then kW az t.ns t.bC else []
def Xz{sep:List UInt8}{f g:Int->List UInt8}:∀ {ks:List Int} {b:Bool},(∀ k∈ks,f k=g k)->u4 sep f b ks=u4 sep g b ks
 |[],b,_=>rfl| k::ks,b,h=>by unfold u4;rw[h k (by simp),Xz λx ab=>h x (by simp[ab])]
def XA(af:right t=true)(ai:j<t.ns.length):kW az t.ns j=Ew az t.ns t.ns[j] (kW az t.ns):=by refine El (λd g eg h=>?_) af ai;unfold Ew;rw[Xz λk ae=>by rw[h k ae]]
def aiJ(w:Bool)(s:List UInt8):(paren w s).length<=s.length+2:=by cases w<;>simp[paren]
def XB{sep:List UInt8}{f:Int->List UInt8}(av:sep.length<=3){g:Int->Nat}(aB:∀ k,(f k).length+3<=g k):∀ {ks:List Int} {b:Bool},(u4 sep f b ks).length<=gQ g ks
 |[],b=>by simp[u4,gQ]
 |k::ks,b=>by
  have aa:=XB av aB (ks:=ks) (b:=true);have ad:=aB k;unfold u4;simp only[cr,gQ,b5,hj]at aa |-;cases b<;>simp<;>omega
def PY(az:List Int){d:al}(aB:Lk d):(rJ az d).length<=2400:=by
 have aa:(Hz d.t).length<=2+4*d.t.size:=by have:=HA (oV · Ci) 4 (λc=>Hv c Ci) d.t.data.toList;have ad:d.t.data.toList.length=d.t.size:=rfl;simp only[Hz,cr,et,hB];omega
 have ad:=aiA az d.cx d.s1 d.s2 d.cY;have ak:=aB.t;have aK:=HF 27;have bz:=HF (d.k.toNat*3);have cu:d.t.data.toList.length=d.t.size:=rfl;unfold rJ;cases(decide (d.k=0)||decide (d.k=2))<;>cases decide (d.k=1)<;>cases decide (d.k=3)<;>cases decide (d.k=9)<;>simp only[cF,cE,cr,et,hB]<;>omega
def Lm(d:al):(pT d).length<=7:=by
 have aa:=aiD d.lo.toNat d.hi;have ad:=HF (d.k.toNat*3+2);unfold pT;cases decide (d.k=6)<;>simp only[cF,cE]<;>omega
def Ln{α:Type}(c:Nat):∀ l:List α,(l.map λ_=>c).sum=c*l.length
 |[]=>by simp
 |x::l=>by rw[b5,hj,Ln c l,et,Nat.mul_add];omega
def XC(af:right t=true):(kW az t.ns t.bC).length+5<=2412*t.ns.length:=by
 have h:=PN af (g:=λk=>(kW az t.ns k).length+5) (c:=λ_=>2412) λj ai=>by rw[XA af ai];have aa:=PY az (PV (Em af ai));have ad:=Lm t.ns[j];have ak:=XB (sep:=Ev t.ns[j]) (HF _) (f:=λk=>paren (hN t.ns[j].k (iF t.ns k)) (kW az t.ns k)) (g:=λk=>(kW az t.ns k).length+5) (λk=>by have:=aiJ (hN t.ns[j].k (iF t.ns k)) (kW az t.ns k);omega) (ks:=t.ns[j].au) (b:=false);unfold Ew;simp only[cr];omega
 rw[Ln]at h;exact h
def XD(az:List Int)(t:bk):(nM az t).length<=2412*t.ns.length:=by
 unfold nM;cases af:right t with
 |false=>simp| true=>have:=XC (az:=az) af;simp only[cF];omega
abbrev Open:=Nat×Nat×Bool
def nN(e:Open):List Value:=[.int .i64 e.1,.int .i64 e.2.1,.bool e.2.2]
def nodeAt(ns:List al)(j:Nat):al:=ns.getD j ⟨0,0,0,0,0,.empty,0,0,none,0,0,[]⟩
def PZ(az:List Int)(ns:List al)(d:al)(k:Int):List UInt8:=paren (hN d.k (iF ns k)) (kW az ns k)
def oX(az:List Int)(ns:List al)(e:Open):List UInt8:=bif decide ((e.2.1:Int)=0)then(bif e.2.2 then [40]else [])++rJ az (nodeAt ns e.1)else []
def u5(az:List Int)(ns:List al)(e:Open):List UInt8:=
 oX az ns e++(u4 (Ev (nodeAt ns e.1)) (PZ az ns (nodeAt ns e.1)) (decide (0<(e.2.1:Int))) ((nodeAt ns e.1).au.drop e.2.1)++(pT (nodeAt ns e.1)++(bif e.2.2 then [41]else [])))
def z5(ns:List al):Int->Nat:=mA 0 (λd g=>2+gQ g d.au) ns
def n9(ns:List al)(e:Open):Nat:=1+gQ (z5 ns) ((nodeAt ns e.1).au.drop e.2.1)
def wD(ns:List al)(a0:List Open):Nat:=(a0.map (n9 ns)).sum
def u6(az:List Int)(ns:List al)(a0:List Open):List UInt8:=a0.reverse.flatMap (u5 az ns)
def Cl(az:List Int)(ns:List al)(a0:List Open)(e:Open):u6 az ns (a0++[e])=u5 az ns e++u6 az ns a0:=by simp[u6]
def sH(ns:List al)(a0:List Open)(e:Open):wD ns (a0++[e])=wD ns a0+n9 ns e:=by simp[wD]
def XE(ns:List al):∀ a0:List Open,a0.length<=wD ns a0
 |[]=>by simp
 |e::a0=>by have:=XE ns a0;simp only[wD,b5,hj,et,n9]at this |-;omega
def gr{ns:List al}(h:j<ns.length):nodeAt ns j=ns[j]:=by simp[nodeAt,bS,h]
def XF{g eg:Int->Nat}{ks:List Int}(h:∀ k∈ks,g k=eg k):gQ g ks=gQ eg ks:=by unfold gQ;rw[fV h]
def XG(af:right t=true)(ai:j<t.ns.length):z5 t.ns j=2+gQ (z5 t.ns) t.ns[j].au:=
 El (λd g eg h=>by rw[XF h]) af ai
def aiK(af:right t=true):z5 t.ns t.bC<=2*t.ns.length:=by
 have:=PN af (g:=z5 t.ns) (c:=λ_=>2) λj ai=>by rw[XG af ai];exact b' _
 rwa [Ln]at this
def XH(af:right t=true)(ai:j<t.ns.length)(w:Bool):u5 az t.ns (j,0,w)=paren w (kW az t.ns j):=by rw[XA af ai];simp only[u5,oX,gr ai];cases w<;>simp[paren,Ew,PZ]<;>rfl
def XI(af:right t=true)(ai:j<t.ns.length)(w:Bool):n9 t.ns (j,0,w)+1=z5 t.ns j:=by rw[XG af ai];simp[n9,gr ai];omega
def P0(af:right t=true)(ai:j<t.ns.length)(hi:i<t.ns[j].au.length) :
  u5 az t.ns (j,i,w)=oX az t.ns (j,i,w)++((bif decide (0<(i:Int))then Ev t.ns[j]else [])++(u5 az t.ns (t.ns[j].au[i].toNat,0,hN t.ns[j].k (iF t.ns t.ns[j].au[i]))++u5 az t.ns (j,i+1,w))):=by
 have ae:=ly af j ai _ (bJ hi);rw[XH af (by omega)];have aI:(((t.ns[j].au[i].toNat:Nat):Int))=t.ns[j].au[i]:=zS ae.1;rw[aI];have ah:=fg hi;simp only[u5,gr ai];rw[ah];have a6:oX az t.ns (j,i+1,w)=[]:=by have:decide (((i+1:Nat):Int)=0)=false:=eY (by omega);simp only[oX,this,cE]
 have cq:decide (0<((i+1:Nat):Int))=true:=iX (by omega);rw[a6,cq];simp only[u4,PZ,dW,hX]
def P1(af:right t=true)(ai:j<t.ns.length){w':Bool}(hi:i<t.ns[j].au.length):n9 t.ns (j,i+1,w)+n9 t.ns (t.ns[j].au[i].toNat,0,w')+1=n9 t.ns (j,i,w):=by
 have ae:=ly af j ai _ (bJ hi);have aa:=XI af (j:=t.ns[j].au[i].toNat) (by omega) w';have aI:(((t.ns[j].au[i].toNat:Nat):Int))=t.ns[j].au[i]:=zS ae.1;rw[aI]at aa;have ah:=fg hi;have cq:n9 t.ns (j,i,w)=1+gQ (z5 t.ns) (t.ns[j].au.drop i):=by simp[n9,gr ai]
 have dS:n9 t.ns (j,i+1,w)=1+gQ (z5 t.ns) (t.ns[j].au.drop (i+1)):=by simp[n9,gr ai]
 rw[cq,dS,ah];simp only[gQ,b5,hj];omega
def P2(ai:j<t.ns.length)(hi:t.ns[j].au.length<=i):u5 az t.ns (j,i,w)=oX az t.ns (j,i,w)++(pT t.ns[j]++(bif w then [41]else [])):=by simp only[u5,gr ai,lW hi];rfl
def P3{d:Nat}{x:dH}(h:F d=x):gY F d x=F:=by
 funext t;unfold gY;cases e:Nat.beq t d with
 |false=>rfl| true=>have:=ed e;subst this;exact h.symm
def aiL{d:Nat}{x:Option (List Value)}(h:C d=x):jB C d x=C:=by
 funext t;unfold jB;cases e:Nat.beq t d with
 |false=>rfl| true=>have:=ed e;subst this;exact h.symm
def Lo:Code->Code
 | .scope c=>c
 | .seq a b=>match Lo a with
  | .skip=>Lo b| c=>c
 |_=>.skip
def XJ(c:Code)(l:Nat):Code:=(findLabel c l).getD .skip
def ck.z2{M:List aE}{vs:List Value}{K:List aE->Prop}(a9 post:List aE)(cs:Array Value)(T:Nat)(ba:M=a9++⟨b,.cells cs T (0,0)⟩::post)(ag:i+j+vs.length<=cs.size)(aa:fK vs=true)
  (h:K (a9++⟨b,.cells (cj cs.toList (i+j) vs).toArray T (0,0)⟩::post)):ck M (((⟨b,0,none⟩:Addr).add i).add j) vs K:=by
 rw[Go.V.z2];refine ck.add a9 post cs T ba (by omega) aa ?_;rw[du];exact h
structure e2(I:aH)(az:List Int):Prop where
 c:m4 I
 p:PW I
 s:HE I
 d:sC I az
def P4(a b c:α)(L:List α):(a::b::(L++[c])).Perm ([b,c]++(a::L)):=
 (List.Perm.swap b a _).trans (((((PD c L).cons a)).trans (List.Perm.swap c a L)).cons b)
def P5(a9:List Value)(a b c z:Value)(bl:List Value):cj (a9++([a,b,c]++bl)) (a9.length+1) [z]=a9++([a,z,c]++bl):=by have:=Xs a9 a b z (c::bl) _ rfl;exact this
def e2.mono{I':aH}(h:e2 I az)(bA:∀ b o,I b=some o->I' b=some o):e2 I' az:=by obtain⟨⟨aiM,f1,aa⟩,⟨Cm,f2,ad⟩,⟨aiN,f3,ak⟩,⟨aK,bz,P6,f4,cu⟩⟩:=h;exact⟨⟨aiM,f1,bA _ _ aa⟩,⟨Cm,f2,bA _ _ ad⟩,⟨aiN,f3,bA _ _ ak⟩,⟨aK,bz,P6,f4,bA _ _ cu⟩⟩
def pU(a0:List Open):List Value:=a0.flatMap nN
def HG(a0:List Open):(pU a0).length=a0.length*3:=gO nN 3 (λ_=>rfl) a0
def Cn(a0:List Open)(e:Open):pU (a0++[e])=pU a0++[.int .i64 e.1,.int .i64 e.2.1,.bool e.2.2]:=by simp[pU,nN]
abbrev HH:=gp×aR×List Open×aH
def XK(t:bk)(g:Nat)(x:HH):xM:={ bo:=[(1,.ref 1 0),(3,.val (ptr g)),(4,.val x.2.1.val)],cl:=[(1,t.cells)],cH:=x.2.2.2,dd:=x.2.1.ar 360++x.1.M g }
structure Lp(dQ:aH)(az:List Int)(t:bk)(x:HH):Prop where
 le:∀ b o,dQ b=some o->x.2.2.2 b=some o
 ok:x.1.ok
 os:x.2.1.ok 3 (pU x.2.2.1)
 ne:x.2.2.1≠[]
 avm:∀ e∈x.2.2.1,e.1<t.ns.length
 avn:x.1.cz++u6 az t.ns x.2.2.1=kW az t.ns t.bC
 avo:wD t.ns x.2.2.1<=2*t.ns.length
def XL{dQ:aH}(be:e2 dQ az)(aq:t.ok dQ)(af:right t=true)(aD:t.n<=1024){p:Nat->Nat×HH->Prop}(x:HH)(ab:Lp dQ az t x)(aJ:∀ y,Lp dQ az t y->wD t.ns y.2.2.1<wD t.ns x.2.2.1->p 0 (g,y))(B:Nat)(ay:World)(G:Fr)(Co:dN) :
  V ⟨Tryz.prog,sy,[3],Tryz.f299.ntmps,B,ay,dQ,[],none⟩ (XJ (Lo (Tryz.f299.body.getD .skip)) 0) (gY (gY (gY G 4 (.val x.2.1.val)) 3 (.val (ptr g))) 1 (.ref 1 0)) (jB Co 1 (some t.cells)) x.2.2.2 (x.2.1.ar 360++x.1.M g)
   (Pj (λl=>qm [] (λy=>XK t y.1 y.2) (p l)) (wc ⟨Tryz.prog,sy,[3],Tryz.f299.ntmps,B,ay,dQ,[],none⟩ Tryz.f299.results.toList
    (λr I' M'=>r=.string (strOf (kW az t.ns t.bC))/\(∀ b o,dQ b=some o->I' b=some o)/\M'=[]))):=by
 obtain⟨x,⟨Ch,n,fp,aS⟩,a0,I1⟩:=x;obtain⟨bf,HI,b4,bt,ei,n',XM⟩:=ab;simp only at bf HI b4 bt ei n' XM aJ |-;have kw:=be.mono bf;have tJ:=aq.mono bf;have oL:=aq.n;obtain⟨ia,⟨j,i,w⟩,rfl⟩:∃ ia e,a0=ia++[e]:=by
  rcases zR a0 with h | ⟨r,e,h⟩;·exact(bt h).elim
  ·exact⟨r,e,by simpa using h⟩
 have gG:ia.length+1=n:=by have aa:=b4.len;rw[HG]at aa;simp at aa;omega
 have ai:j<t.ns.length:=ei (j,i,w) (by simp);have jS:j<t.n:=by omega
 cases Ch with
 |none=>have:=(b4.nil rfl).1;simp only at this;omega| some c5=>
 obtain⟨dz,m0,l1,eh⟩:=b4.cap c5 rfl;simp only at dz m0 l1 eh;have gy:(pU ia).length=(n-1)*3:=by rw[HG];omega
 obtain⟨bl,nL⟩:∃ bl,aS=pU ia++([.int .i64 j,.int .i64 i,.bool w]++bl):=by refine⟨aS.drop (n*3),?_⟩;have ad:=pM (n*3) aS;rw[eh,Cn,dW]at ad;exact ad.symm
 have aiO:aS[(n-1)*3+0]?=some (.int .i64 j):=by rw[nL,<-gy,l3 (by omega)];simp
 have sI:aS[(n-1)*3+1]?=some (.int .i64 i):=by rw[nL,<-gy,l3 (by omega)];simp
 have Lq:aS[(n-1)*3+2]?=some (.bool w):=by rw[nL,<-gy,l3 (by omega)];simp
 have z6:=XC (az:=az) af;have kg:x.cz.length<=2412*t.ns.length:=by have:=congrArg List.length n';rw[cr]at this;omega
 have XN:=XE t.ns (ia++[(j,i,w)]);simp only[cr,et,hB]at XN;have gm:=tJ.ns t.ns[j] (bJ ai);have fj:=gm.aG;have q9:=PV (Em af ai);obtain⟨aM,bB,bp⟩:=tJ.a'.row al.cL jS ai;rw[Cl]at n';rw[sH]at XM aJ XN;have kx:IntKind.i64.wrap ((n:Int)-1)=((n-1:Nat):Int):=by rw[wrap_i64 ⟨by omega,by omega⟩];omega
 refine bd.mk (((n-1:Nat)):Int) kx ?_;refine bm.mk ⟨c5,0,none⟩ (n-1) rfl rfl (by show n-1<n;omega) ?_;refine cT.draw aY rfl rfl rfl ?_;refine aO.mk [.int .i64 j] (nK (b:=c5) (cs:=aS) (T:=360) (by simp[aR.ar]) aiO) ?_;refine bm.mk aM j bB rfl jS ?_;refine aO.mk _ (bp _) ?_;refine bW.mk λb6 Lr XO=>?_;refine ck.mk [] (⟨c5,.cells aS.toArray 360 (0,0)⟩::x.M g) _ _ rfl rfl (bK rfl) rfl ?_;refine aO.mk [.int .i64 i] (nK (b:=c5) (cs:=aS) (T:=360) (by simp[aR.ar]) sI) ?_;refine aX.mk (λaa=>?_) (λaa=>?_)
 ·refine aO.mk [.bool w] (nK (b:=c5) (cs:=aS) (T:=360) (by simp[aR.ar]) Lq) ?_;refine aX.mk (λad=>?_) (λad=>?_)
  ·refine a8.mk (x.M g) [⟨b6,.cells t.ns[j].cells.toArray 82 (0,0)⟩,⟨c5,.cells aS.toArray 360 (0,0)⟩] _ (eU (l₁:=[_,_])) (pP g HI 40 (by omega)) ?_;rintro v eA dD -⟨rfl,rfl,y,aC,g5,rfl⟩;have Hw:y.cz.length<=2412*t.ns.length+1:=by rw[g5];simp;omega
   refine aO.mk _ (dr (T:=82) (b:=b6) (cs:=t.ns[j].cells) (k:=0) (n:=9) (by simp) (bK rfl)) ?_;refine a8.mk [] (y.M g++[⟨b6,.cells t.ns[j].cells.toArray 82 (0,0)⟩,⟨c5,.cells aS.toArray 360 (0,0)⟩]) _ (by simp) (Xy kw.d kw.s gm q9) ?_;rintro v eA dD -⟨rfl,gq,rfl⟩;have kX:∀ b o,dQ b=some o->eA b=some o:=λb o h=>gq _ _ (bf _ _ h);have Ex:=PY az q9;refine a8.mk (y.M g) [⟨b6,.cells t.ns[j].cells.toArray 82 (0,0)⟩,⟨c5,.cells aS.toArray 360 (0,0)⟩] _ (by simp) (uW g aC _ (by show _+(rJ az t.ns[j]).length<=_;omega)) ?_;rintro v lu oM -⟨rfl,rfl,u,hu,x9,rfl⟩;have sJ:u.cz=x.cz++oX az t.ns (j,i,w):=by rw[x9,g5];simp only[oX,aa,ad,gr ai,cF,cE];simp[strOf]
   have HB:u.cz.length<=2412*t.ns.length+2401:=by rw[sJ,cr];simp only[oX,aa,ad,gr ai,cF,cE,cr,et,hB];omega
   have h0:=be.mono kX;have nO:=aq.mono kX;have rK:=nO.ns t.ns[j] (bJ ai);have HJ:∀ {k m:Nat},k+m<=9->cR lu (u.M g++[⟨b6,.cells t.ns[j].cells.toArray 82 (0,0)⟩,⟨c5,.cells aS.toArray 360 (0,0)⟩]) ((⟨b6,0,none⟩:Addr).add k) m ((t.ns[j].cells.drop k).take m):=λh=>dr (T:=82) (by simp) h;refine cT.draw aY rfl rfl rfl ?_;refine aO.mk [.int .i64 i] (nK (b:=c5) (cs:=aS) (T:=360) (by simp[aR.ar]) sI) ?_;refine aO.mk _ (HJ (by decide)) ?_;refine aX.mk (λae=>?_) (λae=>?_)
   ·have eo:i<t.ns[j].aG:=by simpa using ae
    have rL:i<t.ns[j].au.length:=by omega
    obtain⟨gn,fo,fh⟩:=rK.a'.one eo rL;have e0:=ly af j ai _ (bJ rL);obtain⟨q,yb⟩:=eG e0.1;have hC:q<t.ns.length:=by omega
    have oY:q<t.n:=by omega
    obtain⟨rM,yc,yd⟩:=nO.a'.row al.cL oY hC;have ye:∀ M,cR lu M ((rM.add (q*9)).add 0) 1 [.int .u8 t.ns[q].k]:=λM=>(yd M).part (k:=0) (m:=1) (by decide);have u7:iF t.ns ((q:Nat):Int)=t.ns[q].k:=by simp[iF,bS,hC]
    have jr:=P0 (az:=az) af ai (w:=w) rL;have z7:=P1 af ai (w:=w) (w':=hN t.ns[j].k t.ns[q].k) rL;rw[yb]at jr z7;simp only[Cc,hH]at jr z7;rw[u7]at jr;have gP:IntKind.i64.wrap ((i:Int)+1)=((i+1:Nat):Int):=by have:=rK.a'.cap;rw[wrap_i64 ⟨by omega,by omega⟩];omega
    have c9:cj aS ((n-1)*3+1) [.int .i64 ((i+1:Nat):Int)]=pU ia++([.int .i64 j,.int .i64 ((i+1:Nat):Int),.bool w]++bl):=by rw[nL,<-gy];exact P5 _ _ _ _ _ _
    have Cp:aR.ok ⟨some c5,n,fp,cj aS ((n-1)*3+1) [.int .i64 ((i+1:Nat):Int)]⟩ 3 (pU (ia++[(j,i+1,w)])):=by
     rw[c9,Cn];refine⟨by simp only[cr,et,hB];omega,(λh=>by cases h),λca _=>⟨?_,m0,l1,?_⟩⟩;·simp only;rw[<-dz,nL];simp
     ·simp only;rw[<-dW];refine sB ?_;simp only[cr,et,hB];omega
    refine aO.mk [.int .i64 i] (nK (b:=c5) (cs:=aS) (T:=360) (by simp[aR.ar]) sI) ?_;refine aX.mk (λbb=>by simp at aa bb;omega) (λbb=>?_);refine cT.draw aY rfl rfl rfl ?_;refine aO.mk _ (dr (T:=82) (b:=b6) (cs:=t.ns[j].cells) (k:=8) (n:=1) (by simp) (bK rfl)) ?_;refine aO.mk [.int .i64 i] (nK (b:=c5) (cs:=aS) (T:=360) (by simp[aR.ar]) sI) ?_;refine bm.mk gn i fo rfl eo ?_;refine aO.mk [.int .i64 (q:Nat)] (by have dR:=fh;rw[yb]at dR;exact dR _) ?_;refine aO.mk [.int .i64 i] (nK (b:=c5) (cs:=aS) (T:=360) (by simp[aR.ar]) sI) ?_;refine bd.mk ((i+1:Nat):Int) gP ?_;refine ck.z2 (u.M g++[⟨b6,.cells t.ns[j].cells.toArray 82 (0,0)⟩]) [] aS.toArray 360 (by simp[aR.ar]) ?_ rfl ?_;·simp only[tr];show(n-1)*3+1+1<=_;omega
    refine cT.draw aY rfl rfl rfl ?_;refine aO.mk [.int .u8 t.ns[j].k] (dr (T:=82) (b:=b6) (cs:=t.ns[j].cells) (k:=0) (n:=1) (by simp) (bK rfl)) ?_;refine bm.mk rM q yc rfl oY ?_;refine aO.mk [.int .u8 t.ns[q].k] (ye _) ?_;refine eJ.mk _ (PQ t.ns[j].k t.ns[q].k) ?_;rintro v HK qw -⟨rfl,rfl,rfl⟩;refine bW.mk λb9 m8 Cq=>?_;refine bD.append aY rfl (by simp) (e:=360) rfl rfl rfl ⟨some c5,n,fp,cj aS ((n-1)*3+1) [.int .i64 ((i+1:Nat):Int)]⟩ (xs:=pU (ia++[(j,i+1,w)])) Cp rfl (m:=1) rfl (cb:=nN (q,0,hN t.ns[j].k t.ns[q].k)) (by decide) (dr (b:=b9) (cs:=nN (q,0,hN t.ns[j].k t.ns[q].k)) (k:=0) (n:=3) (T:=360) (.head _) (bK rfl)) rfl (Mr:=⟨b9,.cells (nN (q,0,hN t.ns[j].k t.ns[q].k)).toArray 360 (0,0)⟩::(u.M g++[⟨b6,.cells t.ns[j].cells.toArray 82 (0,0)⟩])) (by exact eU (l₁:=(⟨b9,.cells (nN (q,0,hN t.ns[j].k t.ns[q].k)).toArray 360 (0,0)⟩:aE)::(u.M g++[⟨b6,.cells t.ns[j].cells.toArray 82 (0,0)⟩])) (l₂:=[⟨c5,.cells (cj aS ((n-1)*3+1) [.int .i64 ((i+1:Nat):Int)]).toArray 360 (0,0)⟩])) (by show n+1<=_;simp only[maxLen];omega) (by show(n+1)*24<=_;omega) ?_;intro eg c' kh ew e' fe jZ;refine⟨(g,u,⟨some eg,n+1,c',kh⟩,ia++[(j,i+1,w)]++[(q,0,hN t.ns[j].k t.ns[q].k)],_),aJ _ ⟨kX,hu,⟨?_,(λh=>by cases h),λca _=>⟨ew,e',fe,?_⟩⟩,by simp,?_,?_,?_⟩ ?_,.perm (M1:=[⟨b9,.cells (nN (q,0,hN t.ns[j].k t.ns[q].k)).toArray 360 (0,0)⟩,⟨b6,.cells t.ns[j].cells.toArray 82 (0,0)⟩]++(⟨eg,.cells kh.toArray 360 (0,0)⟩::u.M g)) (P4 _ _ _ _) (.sub (mT _ _) .refl),fG,.cons rfl .nil⟩;·show _=(n+1)*3;rw[HG];simp;omega
    ·show kh.take ((n+1)*3)=_;rw[Cn (ia++[(j,i+1,w)])];exact jZ
    ·intro e he;simp only[cv,eN]at he;rcases he with(he | rfl) | rfl
     ·exact ei e (by simp[he])
     ·exact ai
     ·exact hC
    ·simp only;rw[Cl,Cl,sJ,<-n',jr];rw[show decide (0<(i:Int))=false from bb];simp
    ·simp only;rw[sH,sH];omega
    ·simp only;rw[sH,sH];omega
   ·have eo:t.ns[j].au.length<=i:=by simp at ae;omega
    have jr:=P2 (az:=az) ai (w:=w) eo;have kR:=Lm t.ns[j];refine aO.mk _ (dr (T:=82) (b:=b6) (cs:=t.ns[j].cells) (k:=0) (n:=9) (by simp) (bK rfl)) ?_;refine a8.mk [] (u.M g++[⟨b6,.cells t.ns[j].cells.toArray 82 (0,0)⟩,⟨c5,.cells aS.toArray 360 (0,0)⟩]) _ (.refl _) (PX h0.c h0.p h0.s rK q9) ?_;rintro v HK qw -⟨rfl,rfl,rfl⟩;refine a8.mk (u.M g) [⟨b6,.cells t.ns[j].cells.toArray 82 (0,0)⟩,⟨c5,.cells aS.toArray 360 (0,0)⟩] _ (by simp) (uW g hu _ (by show _+(pT t.ns[j]).length<=_;omega)) ?_;rintro v XP XQ -⟨rfl,rfl,a,a7,j0,rfl⟩;have XR:a.cz.length<=2412*t.ns.length+2410:=by rw[j0,cr];show _+(pT t.ns[j]).length<=_;omega
    refine aO.mk [.bool w] (nK (b:=c5) (cs:=aS) (T:=360) (by simp[aR.ar]) Lq) ?_;refine aX.mk (λhw=>?_) (λhw=>?_)
    ·subst hw;refine a8.mk (a.M g) [⟨b6,.cells t.ns[j].cells.toArray 82 (0,0)⟩,⟨c5,.cells aS.toArray 360 (0,0)⟩] _ (by simp) (pP g a7 41 (by omega)) ?_;rintro v XS XT -⟨rfl,rfl,c,ao,jT,rfl⟩;refine bd.mk (((n-1:Nat)):Int) kx ?_;refine jR.mk 0 (n-1) rfl rfl (dp _) (by show n-1<=fp;omega) ?_;refine aX.mk (λbb=>?_) (λbb=>?_)
     ·have gK:0<n-1:=by simp at bb;omega
      refine⟨(g,c,⟨some c5,n-1,fp,aS⟩,ia,_),aJ _ ⟨kX,ao,⟨?_,(λh=>by cases h),λca _=>⟨dz,by show n-1<=fp;omega,l1,?_⟩⟩,?_,λe he=>ei e (by simp[he]),?_,?_⟩ ?_,.perm (M1:=[⟨b6,.cells t.ns[j].cells.toArray 82 (0,0)⟩]++(⟨c5,.cells aS.toArray 360 (0,0)⟩::c.M g)) (eU (l₂:=[_,_])) (.sub (mT _ _) .refl),fG,.cons rfl .nil⟩;·exact gy
      ·show aS.take ((n-1)*3)=_;rw[nL,<-gy];exact sB rfl
      ·intro h;simp only at h;rw[h]at gG;simp at gG;omega
      ·simp only;rw[jT,j0,sJ,<-n',jr];simp[strOf]
      ·simp only;omega
      ·simp only[n9];omega
     ·have gK:n-1=0:=by simp at bb;omega
      have u9:ia=[]:=jl (by omega);have oZ:c.cz=kW az t.ns t.bC:=by rw[jT,j0,sJ,<-n',jr,u9];simp[u6,strOf]
      refine a8.mk (c.M g) [⟨b6,.cells t.ns[j].cells.toArray 82 (0,0)⟩,⟨c5,.cells aS.toArray 360 (0,0)⟩] _ (by simp) (x7 g ao (by rw[oZ];omega)) ?_;rintro v HL HM -⟨rfl,rfl,rfl⟩;refine⟨_,_,.sub (gd _) .refl,?_,kX,rfl⟩;rw[oZ];rfl
    ·subst hw;refine bd.mk (((n-1:Nat)):Int) kx ?_;refine jR.mk 0 (n-1) rfl rfl (dp _) (by show n-1<=fp;omega) ?_;refine aX.mk (λbb=>?_) (λbb=>?_)
     ·have gK:0<n-1:=by simp at bb;omega
      refine⟨(g,a,⟨some c5,n-1,fp,aS⟩,ia,_),aJ _ ⟨kX,a7,⟨?_,(λh=>by cases h),λca _=>⟨dz,by show n-1<=fp;omega,l1,?_⟩⟩,?_,λe he=>ei e (by simp[he]),?_,?_⟩ ?_,.perm (M1:=[⟨b6,.cells t.ns[j].cells.toArray 82 (0,0)⟩]++(⟨c5,.cells aS.toArray 360 (0,0)⟩::a.M g)) (eU (l₂:=[_,_])) (.sub (mT _ _) .refl),fG,.cons rfl .nil⟩;·exact gy
      ·show aS.take ((n-1)*3)=_;rw[nL,<-gy];exact sB rfl
      ·intro h;simp only at h;rw[h]at gG;simp at gG;omega
      ·simp only;rw[j0,sJ,<-n',jr];simp[strOf]
      ·simp only;omega
      ·simp only[n9];omega
     ·have gK:n-1=0:=by simp at bb;omega
      have u9:ia=[]:=jl (by omega);have oZ:a.cz=kW az t.ns t.bC:=by rw[j0,sJ,<-n',jr,u9];simp[u6,strOf]
      refine a8.mk (a.M g) [⟨b6,.cells t.ns[j].cells.toArray 82 (0,0)⟩,⟨c5,.cells aS.toArray 360 (0,0)⟩] _ (by simp) (x7 g a7 (by rw[oZ];omega)) ?_;rintro v HL HM -⟨rfl,rfl,rfl⟩;refine⟨_,_,.sub (gd _) .refl,?_,kX,rfl⟩;rw[oZ];rfl
  ·refine aO.mk _ (dr (T:=82) (b:=b6) (cs:=t.ns[j].cells) (k:=0) (n:=9) (.head _) (bK rfl)) ?_;refine a8.mk [] (⟨b6,.cells t.ns[j].cells.toArray 82 (0,0)⟩::⟨c5,.cells aS.toArray 360 (0,0)⟩::x.M g) _ (.refl _) (Xy kw.d kw.s gm q9) ?_;rintro v eA dD -⟨rfl,gq,rfl⟩;have kX:∀ b o,dQ b=some o->eA b=some o:=λb o h=>gq _ _ (bf _ _ h);have Ex:=PY az q9;refine a8.mk (x.M g) [⟨b6,.cells t.ns[j].cells.toArray 82 (0,0)⟩,⟨c5,.cells aS.toArray 360 (0,0)⟩] _ (eU (l₁:=[_,_])) (uW g HI _ (by show _+(rJ az t.ns[j]).length<=_;omega)) ?_;rintro v lu oM -⟨rfl,rfl,u,hu,x9,rfl⟩;have sJ:u.cz=x.cz++oX az t.ns (j,i,w):=by rw[x9];simp only[oX,aa,ad,gr ai,cF,cE];simp[strOf]
   have HB:u.cz.length<=2412*t.ns.length+2401:=by rw[sJ,cr];simp only[oX,aa,ad,gr ai,cF,cE,cr,et,hB];omega
   have h0:=be.mono kX;have nO:=aq.mono kX;have rK:=nO.ns t.ns[j] (bJ ai);have HJ:∀ {k m:Nat},k+m<=9->cR lu (u.M g++[⟨b6,.cells t.ns[j].cells.toArray 82 (0,0)⟩,⟨c5,.cells aS.toArray 360 (0,0)⟩]) ((⟨b6,0,none⟩:Addr).add k) m ((t.ns[j].cells.drop k).take m):=λh=>dr (T:=82) (by simp) h;refine cT.draw aY rfl rfl rfl ?_;refine aO.mk [.int .i64 i] (nK (b:=c5) (cs:=aS) (T:=360) (by simp[aR.ar]) sI) ?_;refine aO.mk _ (HJ (by decide)) ?_;refine aX.mk (λae=>?_) (λae=>?_)
   ·have eo:i<t.ns[j].aG:=by simpa using ae
    have rL:i<t.ns[j].au.length:=by omega
    obtain⟨gn,fo,fh⟩:=rK.a'.one eo rL;have e0:=ly af j ai _ (bJ rL);obtain⟨q,yb⟩:=eG e0.1;have hC:q<t.ns.length:=by omega
    have oY:q<t.n:=by omega
    obtain⟨rM,yc,yd⟩:=nO.a'.row al.cL oY hC;have ye:∀ M,cR lu M ((rM.add (q*9)).add 0) 1 [.int .u8 t.ns[q].k]:=λM=>(yd M).part (k:=0) (m:=1) (by decide);have u7:iF t.ns ((q:Nat):Int)=t.ns[q].k:=by simp[iF,bS,hC]
    have jr:=P0 (az:=az) af ai (w:=w) rL;have z7:=P1 af ai (w:=w) (w':=hN t.ns[j].k t.ns[q].k) rL;rw[yb]at jr z7;simp only[Cc,hH]at jr z7;rw[u7]at jr;have gP:IntKind.i64.wrap ((i:Int)+1)=((i+1:Nat):Int):=by have:=rK.a'.cap;rw[wrap_i64 ⟨by omega,by omega⟩];omega
    have c9:cj aS ((n-1)*3+1) [.int .i64 ((i+1:Nat):Int)]=pU ia++([.int .i64 j,.int .i64 ((i+1:Nat):Int),.bool w]++bl):=by rw[nL,<-gy];exact P5 _ _ _ _ _ _
    have Cp:aR.ok ⟨some c5,n,fp,cj aS ((n-1)*3+1) [.int .i64 ((i+1:Nat):Int)]⟩ 3 (pU (ia++[(j,i+1,w)])):=by
     rw[c9,Cn];refine⟨by simp only[cr,et,hB];omega,(λh=>by cases h),λca _=>⟨?_,m0,l1,?_⟩⟩;·simp only;rw[<-dz,nL];simp
     ·simp only;rw[<-dW];refine sB ?_;simp only[cr,et,hB];omega
    refine aO.mk [.int .i64 i] (nK (b:=c5) (cs:=aS) (T:=360) (by simp[aR.ar]) sI) ?_;refine aX.mk (λbb=>by simp at aa bb;omega) (λbb=>?_);refine cT.draw aY rfl rfl rfl ?_;refine aO.mk _ (dr (T:=82) (b:=b6) (cs:=t.ns[j].cells) (k:=8) (n:=1) (by simp) (bK rfl)) ?_;refine aO.mk [.int .i64 i] (nK (b:=c5) (cs:=aS) (T:=360) (by simp[aR.ar]) sI) ?_;refine bm.mk gn i fo rfl eo ?_;refine aO.mk [.int .i64 (q:Nat)] (by have dR:=fh;rw[yb]at dR;exact dR _) ?_;refine aO.mk [.int .i64 i] (nK (b:=c5) (cs:=aS) (T:=360) (by simp[aR.ar]) sI) ?_;refine bd.mk ((i+1:Nat):Int) gP ?_;refine ck.z2 (u.M g++[⟨b6,.cells t.ns[j].cells.toArray 82 (0,0)⟩]) [] aS.toArray 360 (by simp[aR.ar]) ?_ rfl ?_;·simp only[tr];show(n-1)*3+1+1<=_;omega
    refine cT.draw aY rfl rfl rfl ?_;refine aO.mk [.int .u8 t.ns[j].k] (dr (T:=82) (b:=b6) (cs:=t.ns[j].cells) (k:=0) (n:=1) (by simp) (bK rfl)) ?_;refine bm.mk rM q yc rfl oY ?_;refine aO.mk [.int .u8 t.ns[q].k] (ye _) ?_;refine eJ.mk _ (PQ t.ns[j].k t.ns[q].k) ?_;rintro v HK qw -⟨rfl,rfl,rfl⟩;refine bW.mk λb9 m8 Cq=>?_;refine bD.append aY rfl (by simp) (e:=360) rfl rfl rfl ⟨some c5,n,fp,cj aS ((n-1)*3+1) [.int .i64 ((i+1:Nat):Int)]⟩ (xs:=pU (ia++[(j,i+1,w)])) Cp rfl (m:=1) rfl (cb:=nN (q,0,hN t.ns[j].k t.ns[q].k)) (by decide) (dr (b:=b9) (cs:=nN (q,0,hN t.ns[j].k t.ns[q].k)) (k:=0) (n:=3) (T:=360) (.head _) (bK rfl)) rfl (Mr:=⟨b9,.cells (nN (q,0,hN t.ns[j].k t.ns[q].k)).toArray 360 (0,0)⟩::(u.M g++[⟨b6,.cells t.ns[j].cells.toArray 82 (0,0)⟩])) (by exact eU (l₁:=(⟨b9,.cells (nN (q,0,hN t.ns[j].k t.ns[q].k)).toArray 360 (0,0)⟩:aE)::(u.M g++[⟨b6,.cells t.ns[j].cells.toArray 82 (0,0)⟩])) (l₂:=[⟨c5,.cells (cj aS ((n-1)*3+1) [.int .i64 ((i+1:Nat):Int)]).toArray 360 (0,0)⟩])) (by show n+1<=_;simp only[maxLen];omega) (by show(n+1)*24<=_;omega) ?_;intro eg c' kh ew e' fe jZ;refine⟨(g,u,⟨some eg,n+1,c',kh⟩,ia++[(j,i+1,w)]++[(q,0,hN t.ns[j].k t.ns[q].k)],_),aJ _ ⟨kX,hu,⟨?_,(λh=>by cases h),λca _=>⟨ew,e',fe,?_⟩⟩,by simp,?_,?_,?_⟩ ?_,.perm (M1:=[⟨b9,.cells (nN (q,0,hN t.ns[j].k t.ns[q].k)).toArray 360 (0,0)⟩,⟨b6,.cells t.ns[j].cells.toArray 82 (0,0)⟩]++(⟨eg,.cells kh.toArray 360 (0,0)⟩::u.M g)) (P4 _ _ _ _) (.sub (mT _ _) .refl),fG,.cons rfl .nil⟩;·show _=(n+1)*3;rw[HG];simp;omega
    ·show kh.take ((n+1)*3)=_;rw[Cn (ia++[(j,i+1,w)])];exact jZ
    ·intro e he;simp only[cv,eN]at he;rcases he with(he | rfl) | rfl
     ·exact ei e (by simp[he])
     ·exact ai
     ·exact hC
    ·simp only;rw[Cl,Cl,sJ,<-n',jr];rw[show decide (0<(i:Int))=false from bb];simp
    ·simp only;rw[sH,sH];omega
    ·simp only;rw[sH,sH];omega
   ·have eo:t.ns[j].au.length<=i:=by simp at ae;omega
    have jr:=P2 (az:=az) ai (w:=w) eo;have kR:=Lm t.ns[j];refine aO.mk _ (dr (T:=82) (b:=b6) (cs:=t.ns[j].cells) (k:=0) (n:=9) (by simp) (bK rfl)) ?_;refine a8.mk [] (u.M g++[⟨b6,.cells t.ns[j].cells.toArray 82 (0,0)⟩,⟨c5,.cells aS.toArray 360 (0,0)⟩]) _ (.refl _) (PX h0.c h0.p h0.s rK q9) ?_;rintro v HK qw -⟨rfl,rfl,rfl⟩;refine a8.mk (u.M g) [⟨b6,.cells t.ns[j].cells.toArray 82 (0,0)⟩,⟨c5,.cells aS.toArray 360 (0,0)⟩] _ (by simp) (uW g hu _ (by show _+(pT t.ns[j]).length<=_;omega)) ?_;rintro v XP XQ -⟨rfl,rfl,a,a7,j0,rfl⟩;have XR:a.cz.length<=2412*t.ns.length+2410:=by rw[j0,cr];show _+(pT t.ns[j]).length<=_;omega
    refine aO.mk [.bool w] (nK (b:=c5) (cs:=aS) (T:=360) (by simp[aR.ar]) Lq) ?_;refine aX.mk (λhw=>?_) (λhw=>?_)
    ·subst hw;refine a8.mk (a.M g) [⟨b6,.cells t.ns[j].cells.toArray 82 (0,0)⟩,⟨c5,.cells aS.toArray 360 (0,0)⟩] _ (by simp) (pP g a7 41 (by omega)) ?_;rintro v XS XT -⟨rfl,rfl,c,ao,jT,rfl⟩;refine bd.mk (((n-1:Nat)):Int) kx ?_;refine jR.mk 0 (n-1) rfl rfl (dp _) (by show n-1<=fp;omega) ?_;refine aX.mk (λbb=>?_) (λbb=>?_)
     ·have gK:0<n-1:=by simp at bb;omega
      refine⟨(g,c,⟨some c5,n-1,fp,aS⟩,ia,_),aJ _ ⟨kX,ao,⟨?_,(λh=>by cases h),λca _=>⟨dz,by show n-1<=fp;omega,l1,?_⟩⟩,?_,λe he=>ei e (by simp[he]),?_,?_⟩ ?_,.perm (M1:=[⟨b6,.cells t.ns[j].cells.toArray 82 (0,0)⟩]++(⟨c5,.cells aS.toArray 360 (0,0)⟩::c.M g)) (eU (l₂:=[_,_])) (.sub (mT _ _) .refl),fG,.cons rfl .nil⟩;·exact gy
      ·show aS.take ((n-1)*3)=_;rw[nL,<-gy];exact sB rfl
      ·intro h;simp only at h;rw[h]at gG;simp at gG;omega
      ·simp only;rw[jT,j0,sJ,<-n',jr];simp[strOf]
      ·simp only;omega
      ·simp only[n9];omega
     ·have gK:n-1=0:=by simp at bb;omega
      have u9:ia=[]:=jl (by omega);have oZ:c.cz=kW az t.ns t.bC:=by rw[jT,j0,sJ,<-n',jr,u9];simp[u6,strOf]
      refine a8.mk (c.M g) [⟨b6,.cells t.ns[j].cells.toArray 82 (0,0)⟩,⟨c5,.cells aS.toArray 360 (0,0)⟩] _ (by simp) (x7 g ao (by rw[oZ];omega)) ?_;rintro v HL HM -⟨rfl,rfl,rfl⟩;refine⟨_,_,.sub (gd _) .refl,?_,kX,rfl⟩;rw[oZ];rfl
    ·subst hw;refine bd.mk (((n-1:Nat)):Int) kx ?_;refine jR.mk 0 (n-1) rfl rfl (dp _) (by show n-1<=fp;omega) ?_;refine aX.mk (λbb=>?_) (λbb=>?_)
     ·have gK:0<n-1:=by simp at bb;omega
      refine⟨(g,a,⟨some c5,n-1,fp,aS⟩,ia,_),aJ _ ⟨kX,a7,⟨?_,(λh=>by cases h),λca _=>⟨dz,by show n-1<=fp;omega,l1,?_⟩⟩,?_,λe he=>ei e (by simp[he]),?_,?_⟩ ?_,.perm (M1:=[⟨b6,.cells t.ns[j].cells.toArray 82 (0,0)⟩]++(⟨c5,.cells aS.toArray 360 (0,0)⟩::a.M g)) (eU (l₂:=[_,_])) (.sub (mT _ _) .refl),fG,.cons rfl .nil⟩;·exact gy
      ·show aS.take ((n-1)*3)=_;rw[nL,<-gy];exact sB rfl
      ·intro h;simp only at h;rw[h]at gG;simp at gG;omega
      ·simp only;rw[j0,sJ,<-n',jr];simp[strOf]
      ·simp only;omega
      ·simp only[n9];omega
     ·have gK:n-1=0:=by simp at bb;omega
      have u9:ia=[]:=jl (by omega);have oZ:a.cz=kW az t.ns t.bC:=by rw[j0,sJ,<-n',jr,u9];simp[u6,strOf]
      refine a8.mk (a.M g) [⟨b6,.cells t.ns[j].cells.toArray 82 (0,0)⟩,⟨c5,.cells aS.toArray 360 (0,0)⟩] _ (by simp) (x7 g a7 (by rw[oZ];omega)) ?_;rintro v HL HM -⟨rfl,rfl,rfl⟩;refine⟨_,_,.sub (gd _) .refl,?_,kX,rfl⟩;rw[oZ];rfl
 ·have avp:x.cz=x.cz++oX az t.ns (j,i,w):=by simp only[oX,aa,cE,dF]
  have h0:=be.mono bf;have nO:=aq.mono bf;have rK:=nO.ns t.ns[j] (bJ ai);have HJ:∀ {k m:Nat},k+m<=9->cR I1 (⟨b6,.cells t.ns[j].cells.toArray 82 (0,0)⟩::⟨c5,.cells aS.toArray 360 (0,0)⟩::x.M g) ((⟨b6,0,none⟩:Addr).add k) m ((t.ns[j].cells.drop k).take m):=λh=>dr (T:=82) (by simp) h;refine cT.draw aY rfl rfl rfl ?_;refine aO.mk [.int .i64 i] (nK (b:=c5) (cs:=aS) (T:=360) (by simp[aR.ar]) sI) ?_;refine aO.mk _ (HJ (by decide)) ?_;refine aX.mk (λae=>?_) (λae=>?_)
  ·have eo:i<t.ns[j].aG:=by simpa using ae
   have rL:i<t.ns[j].au.length:=by omega
   obtain⟨gn,fo,fh⟩:=rK.a'.one eo rL;have e0:=ly af j ai _ (bJ rL);obtain⟨q,yb⟩:=eG e0.1;have hC:q<t.ns.length:=by omega
   have oY:q<t.n:=by omega
   obtain⟨rM,yc,yd⟩:=nO.a'.row al.cL oY hC;have ye:∀ M,cR I1 M ((rM.add (q*9)).add 0) 1 [.int .u8 t.ns[q].k]:=λM=>(yd M).part (k:=0) (m:=1) (by decide);have u7:iF t.ns ((q:Nat):Int)=t.ns[q].k:=by simp[iF,bS,hC]
   have jr:=P0 (az:=az) af ai (w:=w) rL;have z7:=P1 af ai (w:=w) (w':=hN t.ns[j].k t.ns[q].k) rL;rw[yb]at jr z7;simp only[Cc,hH]at jr z7;rw[u7]at jr;have gP:IntKind.i64.wrap ((i:Int)+1)=((i+1:Nat):Int):=by have:=rK.a'.cap;rw[wrap_i64 ⟨by omega,by omega⟩];omega
   have c9:cj aS ((n-1)*3+1) [.int .i64 ((i+1:Nat):Int)]=pU ia++([.int .i64 j,.int .i64 ((i+1:Nat):Int),.bool w]++bl):=by rw[nL,<-gy];exact P5 _ _ _ _ _ _
   have Cp:aR.ok ⟨some c5,n,fp,cj aS ((n-1)*3+1) [.int .i64 ((i+1:Nat):Int)]⟩ 3 (pU (ia++[(j,i+1,w)])):=by
    rw[c9,Cn];refine⟨by simp only[cr,et,hB];omega,(λh=>by cases h),λca _=>⟨?_,m0,l1,?_⟩⟩;·simp only;rw[<-dz,nL];simp
    ·simp only;rw[<-dW];refine sB ?_;simp only[cr,et,hB];omega
   refine aO.mk [.int .i64 i] (nK (b:=c5) (cs:=aS) (T:=360) (by simp[aR.ar]) sI) ?_;refine aX.mk (λbb=>?_) (λbb=>by simp at aa bb;omega);refine aO.mk [.int .u8 t.ns[j].k] (dr (T:=82) (b:=b6) (cs:=t.ns[j].cells) (k:=0) (n:=1) (.head _) (bK rfl)) ?_;refine cw.mk t.ns[j].k.toNat (by have:=rK.k;omega) (by have:=q9.k;have:=rK.k;omega) ?_;refine aO.mk _ (h0.s.rd _ (by have:=q9.k;have:=rK.k;show t.ns[j].k.toNat*3+1<30;omega)) ?_;refine a8.mk (x.M g) [⟨b6,.cells t.ns[j].cells.toArray 82 (0,0)⟩,⟨c5,.cells aS.toArray 360 (0,0)⟩] _ (eU (l₁:=[_,_])) (uW g HI _ (by have:=HF (t.ns[j].k.toNat*3+1);show _+(sG (t.ns[j].k.toNat*3+1)).length<=_;omega)) ?_;rintro v qv rB -⟨rfl,rfl,z,u',aiP,rfl⟩;have tE:z.cz=x.cz++Ev t.ns[j]:=aiP;refine cT.draw aY rfl rfl rfl ?_;refine aO.mk _ (dr (T:=82) (b:=b6) (cs:=t.ns[j].cells) (k:=8) (n:=1) (by simp) (bK rfl)) ?_;refine aO.mk [.int .i64 i] (nK (b:=c5) (cs:=aS) (T:=360) (by simp[aR.ar]) sI) ?_;refine bm.mk gn i fo rfl eo ?_;refine aO.mk [.int .i64 (q:Nat)] (by have dR:=fh;rw[yb]at dR;exact dR _) ?_;refine aO.mk [.int .i64 i] (nK (b:=c5) (cs:=aS) (T:=360) (by simp[aR.ar]) sI) ?_;refine bd.mk ((i+1:Nat):Int) gP ?_;refine ck.z2 (z.M g++[⟨b6,.cells t.ns[j].cells.toArray 82 (0,0)⟩]) [] aS.toArray 360 (by simp[aR.ar]) ?_ rfl ?_;·simp only[tr];show(n-1)*3+1+1<=_;omega
   refine cT.draw aY rfl rfl rfl ?_;refine aO.mk [.int .u8 t.ns[j].k] (dr (T:=82) (b:=b6) (cs:=t.ns[j].cells) (k:=0) (n:=1) (by simp) (bK rfl)) ?_;refine bm.mk rM q yc rfl oY ?_;refine aO.mk [.int .u8 t.ns[q].k] (ye _) ?_;refine eJ.mk _ (PQ t.ns[j].k t.ns[q].k) ?_;rintro v HK qw -⟨rfl,rfl,rfl⟩;refine bW.mk λb9 m8 Cq=>?_;refine bD.append aY rfl (by simp) (e:=360) rfl rfl rfl ⟨some c5,n,fp,cj aS ((n-1)*3+1) [.int .i64 ((i+1:Nat):Int)]⟩ (xs:=pU (ia++[(j,i+1,w)])) Cp rfl (m:=1) rfl (cb:=nN (q,0,hN t.ns[j].k t.ns[q].k)) (by decide) (dr (b:=b9) (cs:=nN (q,0,hN t.ns[j].k t.ns[q].k)) (k:=0) (n:=3) (T:=360) (.head _) (bK rfl)) rfl (Mr:=⟨b9,.cells (nN (q,0,hN t.ns[j].k t.ns[q].k)).toArray 360 (0,0)⟩::(z.M g++[⟨b6,.cells t.ns[j].cells.toArray 82 (0,0)⟩])) (by exact eU (l₁:=(⟨b9,.cells (nN (q,0,hN t.ns[j].k t.ns[q].k)).toArray 360 (0,0)⟩:aE)::(z.M g++[⟨b6,.cells t.ns[j].cells.toArray 82 (0,0)⟩])) (l₂:=[⟨c5,.cells (cj aS ((n-1)*3+1) [.int .i64 ((i+1:Nat):Int)]).toArray 360 (0,0)⟩])) (by show n+1<=_;simp only[maxLen];omega) (by show(n+1)*24<=_;omega) ?_;intro eg c' kh ew e' fe jZ;refine⟨(g,z,⟨some eg,n+1,c',kh⟩,ia++[(j,i+1,w)]++[(q,0,hN t.ns[j].k t.ns[q].k)],_),aJ _ ⟨bf,u',⟨?_,(λh=>by cases h),λca _=>⟨ew,e',fe,?_⟩⟩,by simp,?_,?_,?_⟩ ?_,.perm (M1:=[⟨b9,.cells (nN (q,0,hN t.ns[j].k t.ns[q].k)).toArray 360 (0,0)⟩,⟨b6,.cells t.ns[j].cells.toArray 82 (0,0)⟩]++(⟨eg,.cells kh.toArray 360 (0,0)⟩::z.M g)) (P4 _ _ _ _) (.sub (mT _ _) .refl),fG,.cons rfl .nil⟩;·show _=(n+1)*3;rw[HG];simp;omega
   ·show kh.take ((n+1)*3)=_;rw[Cn (ia++[(j,i+1,w)])];exact jZ
   ·intro e he;simp only[cv,eN]at he;rcases he with(he | rfl) | rfl
    ·exact ei e (by simp[he])
    ·exact ai
    ·exact hC
   ·simp only;rw[Cl,Cl,tE,<-n',jr];rw[show decide (0<(i:Int))=true from bb,show oX az t.ns (j,i,w)=[]from by simp only[oX,aa,cE]];simp
   ·simp only;rw[sH,sH];omega
   ·simp only;rw[sH,sH];omega
  ·have eo:t.ns[j].au.length<=i:=by simp at ae;omega
   have aiQ:=P2 (az:=az) ai (w:=w) eo;have jr:u5 az t.ns (j,i,w)=pT t.ns[j]++(bif w then [41]else []):=by rw[aiQ];simp only[oX,aa,cE,hX]
   have kR:=Lm t.ns[j];refine aO.mk _ (dr (T:=82) (b:=b6) (cs:=t.ns[j].cells) (k:=0) (n:=9) (.head _) (bK rfl)) ?_;refine a8.mk [] (⟨b6,.cells t.ns[j].cells.toArray 82 (0,0)⟩::⟨c5,.cells aS.toArray 360 (0,0)⟩::x.M g) _ (.refl _) (PX h0.c h0.p h0.s rK q9) ?_;rintro v HK qw -⟨rfl,rfl,rfl⟩;refine a8.mk (x.M g) [⟨b6,.cells t.ns[j].cells.toArray 82 (0,0)⟩,⟨c5,.cells aS.toArray 360 (0,0)⟩] _ (eU (l₁:=[_,_])) (uW g HI _ (by show _+(pT t.ns[j]).length<=_;omega)) ?_;rintro v XP XQ -⟨rfl,rfl,a,a7,j0,rfl⟩;have XR:a.cz.length<=2412*t.ns.length+2410:=by rw[j0,cr];show _+(pT t.ns[j]).length<=_;omega
   refine aO.mk [.bool w] (nK (b:=c5) (cs:=aS) (T:=360) (by simp[aR.ar]) Lq) ?_;refine aX.mk (λhw=>?_) (λhw=>?_)
   ·subst hw;refine a8.mk (a.M g) [⟨b6,.cells t.ns[j].cells.toArray 82 (0,0)⟩,⟨c5,.cells aS.toArray 360 (0,0)⟩] _ (by simp) (pP g a7 41 (by omega)) ?_;rintro v XS XT -⟨rfl,rfl,c,ao,jT,rfl⟩;refine bd.mk (((n-1:Nat)):Int) kx ?_;refine jR.mk 0 (n-1) rfl rfl (dp _) (by show n-1<=fp;omega) ?_;refine aX.mk (λbb=>?_) (λbb=>?_)
    ·have gK:0<n-1:=by simp at bb;omega
     refine⟨(g,c,⟨some c5,n-1,fp,aS⟩,ia,_),aJ _ ⟨bf,ao,⟨?_,(λh=>by cases h),λca _=>⟨dz,by show n-1<=fp;omega,l1,?_⟩⟩,?_,λe he=>ei e (by simp[he]),?_,?_⟩ ?_,.perm (M1:=[⟨b6,.cells t.ns[j].cells.toArray 82 (0,0)⟩]++(⟨c5,.cells aS.toArray 360 (0,0)⟩::c.M g)) (eU (l₂:=[_,_])) (.sub (mT _ _) .refl),fG,.cons rfl .nil⟩;·exact gy
     ·show aS.take ((n-1)*3)=_;rw[nL,<-gy];exact sB rfl
     ·intro h;simp only at h;rw[h]at gG;simp at gG;omega
     ·simp only;rw[jT,j0,<-n',jr];simp[strOf]
     ·simp only;omega
     ·simp only[n9];omega
    ·have gK:n-1=0:=by simp at bb;omega
     have u9:ia=[]:=jl (by omega);have oZ:c.cz=kW az t.ns t.bC:=by rw[jT,j0,<-n',jr,u9];simp[u6,strOf]
     refine a8.mk (c.M g) [⟨b6,.cells t.ns[j].cells.toArray 82 (0,0)⟩,⟨c5,.cells aS.toArray 360 (0,0)⟩] _ (by simp) (x7 g ao (by rw[oZ];omega)) ?_;rintro v HL HM -⟨rfl,rfl,rfl⟩;refine⟨_,_,.sub (gd _) .refl,?_,bf,rfl⟩;rw[oZ];rfl
   ·subst hw;refine bd.mk (((n-1:Nat)):Int) kx ?_;refine jR.mk 0 (n-1) rfl rfl (dp _) (by show n-1<=fp;omega) ?_;refine aX.mk (λbb=>?_) (λbb=>?_)
    ·have gK:0<n-1:=by simp at bb;omega
     refine⟨(g,a,⟨some c5,n-1,fp,aS⟩,ia,_),aJ _ ⟨bf,a7,⟨?_,(λh=>by cases h),λca _=>⟨dz,by show n-1<=fp;omega,l1,?_⟩⟩,?_,λe he=>ei e (by simp[he]),?_,?_⟩ ?_,.perm (M1:=[⟨b6,.cells t.ns[j].cells.toArray 82 (0,0)⟩]++(⟨c5,.cells aS.toArray 360 (0,0)⟩::a.M g)) (eU (l₂:=[_,_])) (.sub (mT _ _) .refl),fG,.cons rfl .nil⟩;·exact gy
     ·show aS.take ((n-1)*3)=_;rw[nL,<-gy];exact sB rfl
     ·intro h;simp only at h;rw[h]at gG;simp at gG;omega
     ·simp only;rw[j0,<-n',jr];simp[strOf]
     ·simp only;omega
     ·simp only[n9];omega
    ·have gK:n-1=0:=by simp at bb;omega
     have u9:ia=[]:=jl (by omega);have oZ:a.cz=kW az t.ns t.bC:=by rw[j0,<-n',jr,u9];simp[u6,strOf]
     refine a8.mk (a.M g) [⟨b6,.cells t.ns[j].cells.toArray 82 (0,0)⟩,⟨c5,.cells aS.toArray 360 (0,0)⟩] _ (by simp) (x7 g a7 (by rw[oZ];omega)) ?_;rintro v HL HM -⟨rfl,rfl,rfl⟩;refine⟨_,_,.sub (gd _) .refl,?_,bf,rfl⟩;rw[oZ];rfl
def XU{X:c3}{c:Code}{M:List aE}{K:kq}{t1 t2 t3:Nat}{a b d:dH}{e:Option (List Value)}(h:∀ G Co,V X c (gY (gY (gY G t3 d) t2 b) t1 a) (jB Co t1 e) I M K)
  (aa:F t1=a) (ad:F t2=b) (ak:F t3=d) (aK:C t1=e):V X c F C I M K:=by
 have:=h F C;rwa [P3 ak,P3 ad,P3 aa,aiL aK]at this
def aiR(be:e2 I az)(aq:t.ok I)(aD:t.n<=1024):Spec Tryz.prog 299 [t.val] I [] λr I' M'=>r=.string (strOf (nM az t))/\(∀ b o,I b=some o->I' b=some o)/\M'=[]:=by
 refine bV [3] aY Tryz.func299 rfl rfl rfl ?_;intro B ay;have oL:=aq.n;cases af:right t with
 |true=>
  have P7:nM az t=kW az t.ns t.bC:=by simp[nM,af]
  rw[P7];have m5:=l4 af;obtain⟨r,mz⟩:=eG m5.1;have eH:r<t.ns.length:=by omega
  obtain⟨ns,z8,yf,z9,bC⟩:=t;simp only at mz;subst mz;have mz:(⟨ns,z8,yf,z9,Int.ofNat r⟩:bk).bC=Int.ofNat r:=rfl;refine cT.scope aY rfl (λy:Nat×HH=>XK ⟨ns,z8,yf,z9,Int.ofNat r⟩ y.1 y.2) (λ_=>0) (λy=>Lp I az ⟨ns,z8,yf,z9,Int.ofNat r⟩ y.2) (λy=>wD ns y.2.2.2.1) (λ_=>XJ (Lo (Tryz.f299.body.getD .skip)) 0) (λ_ _=>⟨by kernel_rfl,by kernel_rfl⟩) ?_ ?_
  ·refine a8.mk [] [] _ (.refl _) (n7 be.c aq) ?_;rintro v I' M' -⟨rfl,rfl,rfl⟩;rw[af];refine aX.mk (λh=>by cases h) (λ_=>?_);refine bW.mk λg aw En=>?_;refine bW.mk λgf Ey avq=>?_;refine XU (t1:=1) (t2:=3) (t3:=4) (λG Co=>XL be aq af aD (p:=λl y=>Lp _ az ⟨ns,z8,yf,z9,Int.ofNat r⟩ y.2/\0=l) (g:=g) (gp.new,⟨some gf,1,1,nN (r,0,false)⟩,[(r,0,false)],I') ?_ (λy aC _=>⟨aC,rfl⟩) B ay G Co) rfl rfl rfl rfl;refine⟨λ_ _ h=>h,gp.Lf,⟨rfl,(λh=>by cases h),λca _=>⟨rfl,b' _,by simp only[maxLen];omega,rfl⟩⟩,by simp,?_,?_,?_⟩
   ·intro e he;simp only[eN]at he;subst he;exact eH
   ·simp only[u6,zP,iS,Ld,dF];have dR:=XH (az:=az) af eH false;simp only at dR |-;rw[dR];simp[gp.new,paren]
   ·have aa:=XI af eH false;have ad:=aiK af;simp only[Cc]at aa ad;simp only[wD,b5,hy,hj,zW];omega
  ·rintro⟨g,x⟩ab;refine XU (t1:=1) (t2:=3) (t3:=4) (λG Co=>XL be aq af aD (g:=g) x ab (λy aC aZ=>⟨⟨aC,rfl⟩,aZ⟩) B ay G Co) rfl rfl rfl rfl
 |false=>
  have P7:nM az t=[]:=by simp[nM,af]
  rw[P7];refine cT.scope aY rfl (ι:=Empty) (λe=>nomatch e) (λe=>nomatch e) (λe=>nomatch e) (λe=>nomatch e) (λ_=>.skip) (λe=>nomatch e) ?_ (λe=>nomatch e);refine a8.mk [] [] _ (.refl _) (n7 be.c aq) ?_;rintro v I' M' -⟨rfl,rfl,rfl⟩;rw[af];refine aX.mk (λ_=>?_) (λh=>by cases h);exact⟨_,_,.refl,rfl,λ_ _ h=>h,rfl⟩
def a3.val(d:a3):Value:=.agg #[.string d.name,.slice d.t.a d.t.n d.t.c,.int .i64 d.t.bC]
def qE(az:List Int)(d:a3):List UInt8:=
 bif decide (strOf (nM az d.t)=⟨#[]⟩) || !nG d.name then []else d.name.data.toList++[32,60,45,32]++nM az d.t++[10]
def XV(h:nG s=true):s.size<=32:=by unfold nG at h;simp only[cB,h6]at h;omega
def aiS(az:List Int)(d:a3):(qE az d).length<=37+2412*d.t.ns.length:=by
 have aa:=XD az d.t;unfold qE;cases ao:(decide (strOf (nM az d.t)=⟨#[]⟩) || !nG d.name)with
 |true=>simp| false=>simp only[tB,Bool.not_eq_false']at ao;have ad:=XV ao.2;have ak:d.name.data.toList.length=d.name.size:=rfl;simp only[cE,cr,et,hB];omega
def aiT(be:e2 I az){d:a3}(ah:d.ok I)(aD:d.t.n<=1024):Spec Tryz.prog 278 [d.val] I [] λr I' M'=>r=.string (strOf (qE az d))/\(∀ b o,I b=some o->I' b=some o)/\M'=[]:=by
 refine bV [] aY Tryz.func278 rfl rfl rfl ?_;intro B ay;refine a8.mk [] [] _ (.refl _) (aiR be ah.t aD) ?_;rintro v I1 M1 -⟨rfl,de,rfl⟩;refine bX.mk (λaa=>?_) (λaa=>?_)
 ·refine a8.mk [] [] _ (.refl _) (PB _ d.name) ?_;rintro v I' M' -⟨rfl,rfl,rfl⟩;refine aX.mk (λad=>?_) (λad=>?_)
  ·refine⟨_,_,.refl,?_,de,rfl⟩;have:qE az d=[]:=by unfold qE;rw[aa,ad];rfl
   rw[this];rfl
  ·have hm:nG d.name=true:=by simpa using ad
   have ad:=XV hm;have ak:d.name.data.toList.length=d.name.size:=rfl;have aK:=XD az d.t;have bz:=ah.t.n;refine fT.concat (a:=d.name) (b:=strOf [32,60,45,32]) (by show _+4<=_;omega) ?_;refine fT.concat (a:=d.name++strOf [32,60,45,32]) (b:=strOf (nM az d.t)) (by rw[La];show _+4+(nM az d.t).length<=_;omega) ?_;refine fT.concat (a:=d.name++strOf [32,60,45,32]++strOf (nM az d.t)) (b:=strOf [10]) (by rw[La,La];show _+4+(nM az d.t).length+1<=_;omega) ?_;refine⟨_,_,.refl,?_,de,rfl⟩;refine congrArg Value.string (Er ?_);rw[qE,aa,hm];simp[strOf]
 ·refine⟨_,_,.refl,?_,de,rfl⟩;have:qE az d=[]:=by unfold qE;rw[aa];rfl
  rw[this];rfl
def qF(az:List Int):List a3->List UInt8->List UInt8
 |[],a2=>a2| d::ds,a2=>bif decide (strOf (qE az d)=⟨#[]⟩)then []else qF az ds (a2++qE az d)
def aiU(be:e2 I az){g:cU}(aw:g.ok I)(aD:g.n<=64)(aq:∀ d∈g.ds,d.t.n<=1024):Spec Tryz.prog 234 [g.val] I [] λr I' M'=>r=.string (strOf (qF az g.ds []))/\(∀ b o,I b=some o->I' b=some o)/\M'=[]:=by
 refine bV [3] aY Tryz.func234 rfl rfl rfl ?_;intro B ay;have iG:=aw.n;have z6:∀ d∈g.ds,d.t.ns.length<=1024:=λd ah=>by rw[(aw.ds d ah).t.n];exact aq d ah
 refine bW.mk λb ag wz=>?_;refine dt.inv (ι:=Nat×gp×aH) (λp=>{ bo:=[(3,.val (ptr b)),(8,.val (.slice g.a g.n g.c)),(9,.val (.int .i64 g.n)),(10,.val (.int .i64 p.1))],cH:=p.2.2,dd:=p.2.1.M b }) (λp=>p.1<=g.n/\p.2.1.ok/\(∀ b o,I b=some o->p.2.2 b=some o)/\p.2.1.cz.length<=2500000*p.1/\qF az g.ds []=qF az (g.ds.drop p.1) p.2.1.cz) (λp=>g.n-p.1) ?_ ?_
 ·exact⟨(0,gp.new,I),⟨by simp,gp.Lf,λ_ _ h=>h,by simp[gp.new],rfl⟩,.refl,ee,.nil⟩
 ·rintro⟨i,x,I1⟩⟨hi,ab,de,kg,iv⟩;simp only at hi ab de kg iv;refine aX.mk (λh=>?_) (λh=>?_)
  ·have aZ:i<g.n:=by simpa using h
   have cy:i<g.ds.length:=by omega
   have rH:=aw.mono de;obtain⟨aM,bB,bp⟩:=rH.a'.row a3.cL aZ cy;have g9:g.ds[i]∈g.ds:=bJ cy;have z':=aiS az g.ds[i];have dR:=z6 _ g9;have l2:g.ds.drop i=g.ds[i]::g.ds.drop (i+1):=fg cy;refine bm.mk aM i bB rfl aZ ?_;refine aO.mk _ (bp _) ?_;refine a8.mk [] (x.M b) _ (.refl _) (aiT (be.mono de) (rH.ds _ g9) (aq _ g9)) ?_;rintro v eA dD -⟨rfl,gq,rfl⟩;refine aX.mk (λaa=>?_) (λaa=>?_);·refine⟨_,_,.sub (gd _) .refl,?_,λb o h=>gq _ _ (de _ _ h),rfl⟩;rw[iv,l2,qF,aa];rfl
   ·refine a8.mk (x.M b) [] _ (by simp) (uW b ab _ (by show _+(qE az g.ds[i]).length<=_;omega)) ?_;rintro v I' M' -⟨rfl,rfl,y,aC,g5,rfl⟩;have XW:y.cz=x.cz++qE az g.ds[i]:=g5;have gP:IntKind.i64.wrap ((i:Int)+1)=((i+1:Nat):Int):=by rw[wrap_i64 ⟨by omega,by omega⟩];omega
    refine bd.mk _ gP ?_;refine⟨(i+1,y,_),⟨⟨by simp only;omega,aC,λb o h=>gq _ _ (de _ _ h),?_,?_⟩,by simp only;omega⟩,.perm (by simp) .refl,ee,.nil⟩;·simp only;rw[XW,cr];omega
    ·simp only;rw[iv,l2,qF,aa,XW];rfl
  ·have c0:g.n<=i:=by simpa using h
   have h8:g.ds.drop i=[]:=lW (by omega);refine a8.mk (x.M b) [] _ (by simp) (x7 b ab (by omega)) ?_;rintro v I' M' -⟨rfl,rfl,rfl⟩;refine⟨_,_,.refl,?_,de,by simp⟩;rw[iv,h8];rfl
def aiV(be:e2 I az){g:cU}(aw:g.ok I)(aD:g.n<=64)(aq:∀ d∈g.ds,d.t.n<=1024):Spec Tryz.prog 182 [g.val] I [] λr I' M'=>r=.int .i64 ((qF az g.ds []).length:Int)/\(∀ b o,I b=some o->I' b=some o)/\M'=[]:=by refine bV [] aY Tryz.func182 rfl rfl rfl ?_;intro B ay;refine a8.mk [] [] _ (.refl _) (aiU be aw aD aq) ?_;rintro v I' M' -⟨rfl,bA,rfl⟩;exact⟨_,_,.refl,rfl,bA,rfl⟩
def ky(ns:List al)(kind:Int):List Int->Bool
 |[]=>true| k::ks=>bif decide (iF ns k=kind)||(decide (iF ns k=0)&&decide (kind=4))then false else ky ns kind ks
def kY(ns:List al):List al->Bool
 |[]=>true| d::ds=>bif !decide (d.k=4) && !decide (d.k=5)then kY ns ds else bif ky ns d.k d.au then kY ns ds else false
def normal(t:bk):Bool:=right t&&kY t.ns t.ns
def c8(h:i<=140737488355328):IntKind.i64.wrap ((i:Int)+1)=((i+1:Nat):Int):=by rw[wrap_i64 ⟨by omega,by omega⟩];omega
def aiW(ao:m4 I)(aq:t.ok I):Spec Tryz.prog 118 [t.val] I [] (λv I' M'=>v=.bool (normal t)/\I'=I/\M'=[]):=by
 refine bV [] aY Tryz.func118 rfl rfl rfl ?_;intro B ay;have aD:=aq.n;have hA:=aq.a'.cap;refine a8.mk [] [] _ (.refl _) (n7 ao aq) ?_;rintro v I' M' -⟨rfl,rfl,rfl⟩;refine aX.mk (λh=>?_) (λh=>?_)
 ·refine⟨_,_,.refl,?_,rfl,rfl⟩;simp[normal,show right t=false by simpa using h]
 ·have af:right t=true:=by simpa using h
  have eK:normal t=kY t.ns t.ns:=by simp[normal,af]
  rw[eK];refine dt.inv (ι:=Nat) (λi=>{ bo:=[(1,.ref 1 0),(12,.val (.slice t.a t.n t.c)),(13,.val (.int .i64 t.n)),(14,.val (.int .i64 i))],cl:=[(1,t.cells)],cH:=I' }) (λi=>i<=t.n/\kY t.ns t.ns=kY t.ns (t.ns.drop i)) (λi=>t.n-i) ?_ ?_;·exact⟨0,⟨by simp,rfl⟩,.refl,ee,.cons rfl .nil⟩
  ·rintro i⟨hi,ei⟩;refine aX.mk (λh=>?_) (λh=>?_)
   ·have aZ:i<t.n:=by simpa using h
    have cy:i<t.ns.length:=by omega
    obtain⟨aM,bB,bp⟩:=aq.a'.row al.cL aZ cy;have gm:=aq.ns t.ns[i] (bJ cy);have fj:=gm.aG;have l2:t.ns.drop i=t.ns[i]::t.ns.drop (i+1):=fg cy;refine bm.mk aM i bB rfl aZ ?_;refine aO.mk _ (bp _) ?_;refine bX.mk (λeT=>?_) (λeT=>?_)
    ·refine aX.mk (λc4=>?_) (λc4=>?_)
     ·refine bd.mk _ (c8 (i:=i) (by omega)) ?_;refine⟨i+1,⟨⟨by omega,?_⟩,by omega⟩,.refl,ee,.cons rfl .nil⟩;rw[ei,l2,kY,eT,c4];rfl
     ·have iZ:kY t.ns t.ns=bif ky t.ns t.ns[i].k t.ns[i].au then kY t.ns (t.ns.drop (i+1))else false:=by rw[ei,l2,kY,eT,c4];rfl
      refine dt.inv (ι:=Nat) (λj=>{ bo:=[(1,.ref 1 0),(4,.ref 4 0),(12,.val (.slice t.a t.n t.c)),(13,.val (.int .i64 t.n)),(14,.val (.int .i64 i)),(27,.val (.slice t.ns[i].b0 t.ns[i].aG t.ns[i].ch)),(28,.val (.int .i64 t.ns[i].aG)),(29,.val (.int .i64 j))],cl:=[(1,t.cells),(4,t.ns[i].cells)],cH:=I' }) (λj=>j<=t.ns[i].aG/\ky t.ns t.ns[i].k t.ns[i].au=ky t.ns t.ns[i].k (t.ns[i].au.drop j)) (λj=>t.ns[i].aG-j) ?_ ?_;·exact⟨0,⟨by simp,rfl⟩,.refl,kN,.cons rfl (.cons rfl .nil)⟩
      ·rintro j⟨ai,kZ⟩;refine aX.mk (λh=>?_) (λh=>?_)
       ·have fB:j<t.ns[i].aG:=by simpa using h
        have oS:j<t.ns[i].au.length:=by omega
        obtain⟨gn,fo,fh⟩:=gm.a'.one fB oS;have jW:t.ns[i].au.drop j=t.ns[i].au[j]::t.ns[i].au.drop (j+1):=fg oS;have e0:=ly af i cy _ (bJ oS);generalize hZ:t.ns[i].au[j]=aiX at *;obtain⟨q,rfl⟩:=eG e0.1;have hC:q<t.ns.length:=by omega
        have oY:q<t.n:=by omega
        obtain⟨rM,yc,yd⟩:=aq.a'.row al.cL oY hC;have ye:∀ M,cR I' M ((rM.add (q*9)).add 0) 1 [.int .u8 t.ns[q].k]:=λM=>(yd M).part (k:=0) (m:=1) (by decide);have u7:iF t.ns ((q:Nat):Int)=t.ns[q].k:=by simp[iF,bS,hC]
        have bad:(decide (t.ns[q].k=t.ns[i].k)||(decide (t.ns[q].k=0)&&decide (t.ns[i].k=4)))=true->kY t.ns t.ns=false:=λag=>by rw[iZ,kZ,jW,ky,u7,ag];rfl
        have HN:(decide (t.ns[q].k=t.ns[i].k)||(decide (t.ns[q].k=0)&&decide (t.ns[i].k=4)))=false->ky t.ns t.ns[i].k t.ns[i].au=ky t.ns t.ns[i].k (t.ns[i].au.drop (j+1)):=λag=>by rw[kZ,jW,ky,u7,ag];rfl
        have gP:=c8 (i:=j) (by have:=gm.a'.cap;omega);refine bm.mk gn j fo rfl fB ?_;refine aO.mk _ (fh _) ?_;refine bm.mk rM q yc rfl oY ?_;refine aO.mk _ (ye _) ?_;refine bX.mk (λfF=>?_) (λfF=>?_)
        ·refine bX.mk (λfz=>?_) (λfz=>?_)
         ·refine aX.mk (λl6=>?_) (λl6=>?_)
          ·refine⟨_,_,.refl,?_,rfl,rfl⟩;rw[bad (by rw[fF,fz,l6];rfl)]
          ·refine bd.mk _ gP ?_;exact⟨j+1,⟨⟨by omega,HN (by rw[fF,fz,l6];rfl)⟩,by omega⟩,.refl,kN,.cons rfl (.cons rfl .nil)⟩
         ·refine bd.mk _ gP ?_;exact⟨j+1,⟨⟨by omega,HN (by rw[fF,fz];rfl)⟩,by omega⟩,.refl,kN,.cons rfl (.cons rfl .nil)⟩
        ·refine⟨_,_,.refl,?_,rfl,rfl⟩;rw[bad (by rw[fF];rfl)]
       ·have Cb:t.ns[i].au.drop j=[]:=lW (by simp at h;omega);refine bd.mk _ (c8 (i:=i) (by omega)) ?_;refine⟨i+1,⟨⟨by omega,?_⟩,by omega⟩,.refl,ee,.cons rfl .nil⟩;rw[iZ,kZ,Cb];rfl
    ·have iZ:kY t.ns t.ns=bif ky t.ns t.ns[i].k t.ns[i].au then kY t.ns (t.ns.drop (i+1))else false:=by rw[ei,l2,kY,eT];rfl
     refine dt.inv (ι:=Nat) (λj=>{ bo:=[(1,.ref 1 0),(4,.ref 4 0),(12,.val (.slice t.a t.n t.c)),(13,.val (.int .i64 t.n)),(14,.val (.int .i64 i)),(27,.val (.slice t.ns[i].b0 t.ns[i].aG t.ns[i].ch)),(28,.val (.int .i64 t.ns[i].aG)),(29,.val (.int .i64 j))],cl:=[(1,t.cells),(4,t.ns[i].cells)],cH:=I' }) (λj=>j<=t.ns[i].aG/\ky t.ns t.ns[i].k t.ns[i].au=ky t.ns t.ns[i].k (t.ns[i].au.drop j)) (λj=>t.ns[i].aG-j) ?_ ?_;·exact⟨0,⟨by simp,rfl⟩,.refl,kN,.cons rfl (.cons rfl .nil)⟩
     ·rintro j⟨ai,kZ⟩;refine aX.mk (λh=>?_) (λh=>?_)
      ·have fB:j<t.ns[i].aG:=by simpa using h
       have oS:j<t.ns[i].au.length:=by omega
       obtain⟨gn,fo,fh⟩:=gm.a'.one fB oS;have jW:t.ns[i].au.drop j=t.ns[i].au[j]::t.ns[i].au.drop (j+1):=fg oS;have e0:=ly af i cy _ (bJ oS);generalize hZ:t.ns[i].au[j]=aiX at *;obtain⟨q,rfl⟩:=eG e0.1;have hC:q<t.ns.length:=by omega
       have oY:q<t.n:=by omega
       obtain⟨rM,yc,yd⟩:=aq.a'.row al.cL oY hC;have ye:∀ M,cR I' M ((rM.add (q*9)).add 0) 1 [.int .u8 t.ns[q].k]:=λM=>(yd M).part (k:=0) (m:=1) (by decide);have u7:iF t.ns ((q:Nat):Int)=t.ns[q].k:=by simp[iF,bS,hC]
       have bad:(decide (t.ns[q].k=t.ns[i].k)||(decide (t.ns[q].k=0)&&decide (t.ns[i].k=4)))=true->kY t.ns t.ns=false:=λag=>by rw[iZ,kZ,jW,ky,u7,ag];rfl
       have HN:(decide (t.ns[q].k=t.ns[i].k)||(decide (t.ns[q].k=0)&&decide (t.ns[i].k=4)))=false->ky t.ns t.ns[i].k t.ns[i].au=ky t.ns t.ns[i].k (t.ns[i].au.drop (j+1)):=λag=>by rw[kZ,jW,ky,u7,ag];rfl
       have gP:=c8 (i:=j) (by have:=gm.a'.cap;omega);refine bm.mk gn j fo rfl fB ?_;refine aO.mk _ (fh _) ?_;refine bm.mk rM q yc rfl oY ?_;refine aO.mk _ (ye _) ?_;refine bX.mk (λfF=>?_) (λfF=>?_)
       ·refine bX.mk (λfz=>?_) (λfz=>?_)
        ·refine aX.mk (λl6=>?_) (λl6=>?_)
         ·refine⟨_,_,.refl,?_,rfl,rfl⟩;rw[bad (by rw[fF,fz,l6];rfl)]
         ·refine bd.mk _ gP ?_;exact⟨j+1,⟨⟨by omega,HN (by rw[fF,fz,l6];rfl)⟩,by omega⟩,.refl,kN,.cons rfl (.cons rfl .nil)⟩
        ·refine bd.mk _ gP ?_;exact⟨j+1,⟨⟨by omega,HN (by rw[fF,fz];rfl)⟩,by omega⟩,.refl,kN,.cons rfl (.cons rfl .nil)⟩
       ·refine⟨_,_,.refl,?_,rfl,rfl⟩;rw[bad (by rw[fF];rfl)]
      ·have Cb:t.ns[i].au.drop j=[]:=lW (by simp at h;omega);refine bd.mk _ (c8 (i:=i) (by omega)) ?_;refine⟨i+1,⟨⟨by omega,?_⟩,by omega⟩,.refl,ee,.cons rfl .nil⟩;rw[iZ,kZ,Cb];rfl
   ·have c0:t.n<=i:=by simpa using h
    have h8:t.ns.drop i=[]:=lW (by omega);refine⟨_,_,.refl,?_,rfl,rfl⟩;rw[ei,h8];rfl
def sK(t:bk):Nat:=bif right t then t.n else 0
def va(g:cU):Nat:=(g.ds.map λd=>sK d.t).sum
def XX{α:Type}(f:α->Nat)(m:Nat):∀ (l:List α),(∀ x∈l,f x<=m)->(l.map f).sum<=m*l.length
 |[],_=>by simp
 |x::l,h=>by have aa:=h x (by simp);have ad:=XX f m l λy aC=>h y (by simp[aC]);simp only[b5,hj,et,Nat.mul_add];omega
def aiY(ao:m4 I){g:cU}(aw:g.ok I)(aD:g.n<=64)(aq:∀ d∈g.ds,d.t.n<=1024):Spec Tryz.prog 50 [g.val] I [] (λv I' M'=>v=.int .i64 (va g:Nat)/\I'=I/\M'=[]):=by
 refine bV [] aY Tryz.func50 rfl rfl rfl ?_;intro B ay;have iG:=aw.n;refine dt.inv (ι:=Nat) (λi=>{ bo:=[(3,.val (.int .i64 (((g.ds.take i).map λd=>sK d.t).sum:Nat))),(7,.val (.slice g.a g.n g.c)),(8,.val (.int .i64 g.n)),(9,.val (.int .i64 i))],cH:=I }) (λi=>i<=g.n) (λi=>g.n-i) ?_ ?_
 ·exact⟨0,by simp,.refl,ee,.nil⟩
 ·intro i hi;refine aX.mk (λh=>?_) (λh=>?_)
  ·have aZ:i<g.n:=by simpa using h
   have cy:i<g.ds.length:=by omega
   obtain⟨aM,bB,bp⟩:=aw.a'.row a3.cL aZ cy;have g9:g.ds[i]∈g.ds:=bJ cy;have av:((g.ds.take i).map λd=>sK d.t).sum<=1024*(g.ds.take i).length:=XX _ 1024 _ λd ah=>by
    have:=aq d (sA ah);unfold sK;cases right d.t<;>simp
    omega
   have ax:=Ej i g.ds;have gg:sK g.ds[i].t<=1024:=by
    have:=aq _ g9;unfold sK;cases right g.ds[i].t<;>simp
    omega
   refine bm.mk aM i bB rfl aZ ?_;refine aO.mk _ (bp _) ?_;refine a8.mk [] [] _ (.refl _) (ah2 ao (aw.ds _ g9).t) ?_;rintro v I' M' -⟨rfl,rfl,rfl⟩;have aI:(bif right g.ds[i].t then(g.ds[i].t.n:Int)else 0)=(sK g.ds[i].t:Nat):=by
    unfold sK;cases right g.ds[i].t<;>rfl
   rw[aI];refine bd.mk ((((g.ds.take (i+1)).map λd=>sK d.t).sum:Nat):Int) ?_ ?_;·rw[wrap_i64 ⟨by omega,by omega⟩,gj cy,cM,oT];simp
   refine bd.mk _ (c8 (i:=i) (by omega)) ?_;exact⟨i+1,⟨by omega,by omega⟩,.refl,ee,.nil⟩
  ·have c0:g.n<=i:=by simpa using h
   refine⟨_,_,.refl,?_,rfl,rfl⟩;rw[fC (by omega)];rfl
def pV(az:List Int)(g:cU):Bool:=
 decide (64<g.n)||((!g.ds.all λd=>pO d.t)||(decide (1024<va g)||decide (8192<(qF az g.ds []).length)))
def aiZ(be:e2 I az){g:cU}(aw:g.ok I):Spec Tryz.prog 119 [g.val] I [] (λv I' M'=>v=.bool (pV az g)/\(∀ b o,I b=some o->I' b=some o)/\M'=[]):=by
 refine bV [] aY Tryz.func119 rfl rfl rfl ?_;intro B ay;have iG:=aw.n;refine aX.mk (λaa=>?_) (λaa=>?_)
 ·refine⟨_,_,.refl,?_,λ_ _ h=>h,rfl⟩;have:64<g.n:=by simp at aa;omega
  simp[pV,this]
 ·have aD:g.n<=64:=by simp at aa;omega
  have dy:pV az g=((!g.ds.all λd=>pO d.t)||(decide (1024<va g)||decide (8192<(qF az g.ds []).length))):=by
   have:¬ 64<g.n:=by omega
   simp[pV,this]
  rw[dy];refine dt.inv (ι:=Nat) (λi=>{ bo:=[(1,.ref 1 0),(10,.val (.slice g.a g.n g.c)),(11,.val (.int .i64 g.n)),(12,.val (.int .i64 i))],cl:=[(1,[.slice g.a g.n g.c])],cH:=I }) (λi=>i<=g.n/\(g.ds.take i).all (λd=>pO d.t)=true) (λi=>g.n-i) ?_ ?_;·exact⟨0,⟨by simp,rfl⟩,.refl,ee,.cons rfl .nil⟩
  ·rintro i⟨hi,eO⟩;refine aX.mk (λh=>?_) (λh=>?_)
   ·have aZ:i<g.n:=by simpa using h
    have cy:i<g.ds.length:=by omega
    obtain⟨aM,bB,bp⟩:=aw.a'.row a3.cL aZ cy;have g9:g.ds[i]∈g.ds:=bJ cy;refine bm.mk aM i bB rfl aZ ?_;refine aO.mk _ (bp _) ?_;refine a8.mk [] [] _ (.refl _) (ah6 be.c (aw.ds _ g9).t) ?_;rintro v I' M' -⟨rfl,rfl,rfl⟩;refine aX.mk (λad=>?_) (λad=>?_)
    ·refine⟨_,_,.refl,?_,λ_ _ h=>h,rfl⟩;have aB:pO g.ds[i].t=false:=by simpa using ad
     have:(g.ds.all λd=>pO d.t)=false:=by rw[Lb];exact⟨_,g9,by simp[aB]⟩
     rw[this];rfl
    ·have aB:pO g.ds[i].t=true:=by simpa using ad
     refine bd.mk _ (c8 (i:=i) (by omega)) ?_;refine⟨i+1,⟨⟨by omega,?_⟩,by omega⟩,.refl,ee,.cons rfl .nil⟩;rw[gj cy,Ho,eO];simp[aB]
   ·have c0:g.n<=i:=by simpa using h
    rw[fC (by omega)]at eO;rw[eO];have Aa:∀ d∈g.ds,d.t.n<=1024:=λd ah=>by have:=fS.1 eO d ah;unfold pO at this;simp only[cB,h6]at this;exact this.1
    refine a8.mk [] [] _ (.refl _) (aiY be.c aw aD Aa) ?_;rintro v I' M' -⟨rfl,rfl,rfl⟩;refine bX.mk (λad=>?_) (λad=>?_)
    ·refine a8.mk [] [] _ (.refl _) (aiV be aw aD Aa) ?_;rintro v eA M' -⟨rfl,gq,rfl⟩;refine⟨_,_,.refl,?_,gq,rfl⟩;have oQ:¬ 1024<va g:=by simp at ad;omega
     simp[oQ];omega
    ·refine⟨_,_,.refl,?_,λ_ _ h=>h,rfl⟩;have oQ:1024<va g:=by simp at ad;omega
     simp[oQ]
def eV(name:ByteArray):List a3->Nat->Int
 |[],_=>-1| d::ds,i=>bif decide (d.name=name)then(i:Int)else eV name ds (i+1)
def ai0{g:cU}(aw:g.ok I)(name:ByteArray):Spec Tryz.prog 124 [g.val,.string name] I [] (λv I' M'=>v=.int .i64 (eV name g.ds 0)/\I'=I/\M'=[]):=by
 refine bV [] aY Tryz.func124 rfl rfl rfl ?_;intro B ay;have iG:=aw.n;have hA:=aw.a'.cap;refine dt.inv (ι:=Nat) (λi=>{ bo:=[(1,.val (.string name)),(8,.val (.slice g.a g.n g.c)),(9,.val (.int .i64 g.n)),(10,.val (.int .i64 i))],cH:=I }) (λi=>i<=g.n/\eV name g.ds 0=eV name (g.ds.drop i) i) (λi=>g.n-i) ?_ ?_
 ·exact⟨0,⟨by simp,rfl⟩,.refl,ee,.nil⟩
 ·rintro i⟨hi,aB⟩;refine aX.mk (λh=>?_) (λh=>?_)
  ·have aZ:i<g.n:=by simpa using h
   have cy:i<g.ds.length:=by omega
   obtain⟨aM,bB,bp⟩:=aw.a'.row a3.cL aZ cy;have l2:g.ds.drop i=g.ds[i]::g.ds.drop (i+1):=fg cy;refine bm.mk aM i bB rfl aZ ?_;refine aO.mk _ (bp _) ?_;refine aX.mk (λad=>?_) (λad=>?_);·refine⟨_,_,.refl,?_,rfl,rfl⟩;rw[aB,l2,eV,ad];rfl
   ·refine bd.mk _ (c8 (i:=i) (by omega)) ?_;refine⟨i+1,⟨⟨by omega,?_⟩,by omega⟩,.refl,ee,.nil⟩;rw[aB,l2,eV,ad];rfl
  ·have c0:g.n<=i:=by simpa using h
   refine⟨_,_,.refl,?_,rfl,rfl⟩;rw[aB,lW (by omega)];rfl
def drop_cons{L:List α}{x:α}{bl:List α}(h:L.drop k=x::bl):∃ ae:k<L.length,L[k]=x/\L.drop (k+1)=bl:=by
 have ae:k<L.length:=by apply Nat.lt_of_not_le;intro bf;rw[lW bf]at h;cases h
 have ah:=fg ae;rw[h]at ah;obtain⟨aa,ad⟩:=Hp ah;exact⟨ae,aa.symm,ad.symm⟩
def tK:Nat->List a3->List (List Value)
 |_,[]=>[]| i,d::ds=>d.t.ns.map (λn=>[.int .i64 i,n.val])++tK (i+1) ds
def ai1(g:cU):Spec Tryz.prog 120 [g.val] I [] λr I' M'=>∃ b,r=.func (.func 183) #[] #[ptr b]/\I' b=some (.cells #[.slice g.a g.n g.c] 30 (0,0))/\(∀ b o,I b=some o->I' b=some o)/\M'=[]:=by refine bV [1] aY Tryz.func120 rfl rfl rfl ?_;intro B ay;refine bW.mk λg aw En=>?_;exact⟨_,_,.mP rfl (by simp) .refl,g,rfl,n8 ..,lz aw,rfl⟩
def ai2{g:cU}(aw:g.ok I)(ag:I b=some (.cells #[.slice g.a g.n g.c] 30 (0,0))) :
  Iter Tryz.prog 183 [ptr b] I (tK 0 g.ds):=by
 intro l R ls kv dQ M0 oW iT;refine BU [] aY Tryz.func183 rfl rfl rfl ?_;intro B ay;have iG:=aw.n;have hA:=aw.a'.cap;have bp:∀ (M:List aE),cR dQ M ((⟨b,0,none⟩:Addr).add 0) 1 [.slice g.a g.n g.c]:=λM=>⟨rfl,_,_,_,.inl (oW _ _ ag),rfl,rfl⟩;refine aO.mk _ (bp _) ?_;refine dt.inv (ι:=Nat×Nat×aH×List aE) (λx=>{ bo:=[(0,.val (.func (.yield l) #[] #[])),(8,.val (.slice g.a g.n g.c)),(9,.val (.int .i64 g.n)),(10,.val (.int .i64 x.1))],cH:=x.2.2.1,dd:=x.2.2.2 }) (λx=>x.1<=g.n/\(∀ b o,I b=some o->x.2.2.1 b=some o)/\R x.2.1 x.2.2.1 x.2.2.2/\x.2.1<=(tK 0 g.ds).length/\(tK 0 g.ds).drop x.2.1=tK x.1 (g.ds.drop x.1)) (λx=>g.n-x.1) ?_ ?_
 ·exact⟨(0,0,dQ,M0),⟨by simp,oW,iT,by simp,rfl⟩,.refl,ee,.nil⟩
 ·rintro⟨i,k,I1,M1⟩⟨hi,de,h',c7,iY⟩;simp only at hi de h' c7 iY;refine aX.mk (λh=>?_) (λh=>?_)
  ·have aZ:i<g.n:=by simpa using h
   have cy:i<g.ds.length:=by omega
   have rH:=aw.mono de;obtain⟨aM,bB,P8⟩:=rH.a'.row a3.cL aZ cy;have g9:g.ds[i]∈g.ds:=bJ cy;have hk:=(aw.ds _ g9).t.n;have avr:=(aw.ds _ g9).t.a'.cap;have l2:g.ds.drop i=g.ds[i]::g.ds.drop (i+1):=fg cy;refine bm.mk aM i bB rfl aZ ?_;refine aO.mk _ (P8 _) ?_;refine dt.inv (ι:=Nat×Nat×aH×List aE) (λx=>{ bo:=[(0,.val (.func (.yield l) #[] #[])),(3,.val (.int .i64 i)),(8,.val (.slice g.a g.n g.c)),(9,.val (.int .i64 g.n)),(10,.val (.int .i64 i)),(17,.val (.slice g.ds[i].t.a g.ds[i].t.n g.ds[i].t.c)),(18,.val (.int .i64 g.ds[i].t.n)),(19,.val (.int .i64 x.1))],cH:=x.2.2.1,dd:=x.2.2.2 }) (λx=>x.1<=g.ds[i].t.n/\(∀ b o,I b=some o->x.2.2.1 b=some o)/\R x.2.1 x.2.2.1 x.2.2.2/\x.2.1<=(tK 0 g.ds).length/\(tK 0 g.ds).drop x.2.1=(g.ds[i].t.ns.drop x.1).map (λn=>[.int .i64 i,n.val])++tK (i+1) (g.ds.drop (i+1))) (λx=>g.ds[i].t.n-x.1) ?_ ?_;·refine⟨(0,k,I1,M1),⟨by simp,de,h',c7,?_⟩,.refl,kN,.nil⟩;simp only;rw[iY,l2];rfl
   ·rintro⟨j,k,I1,M1⟩⟨ai,de,h',c7,iY⟩;simp only at ai de h' c7 iY;refine aX.mk (λh=>?_) (λh=>?_)
    ·have fB:j<g.ds[i].t.n:=by simpa using h
     have oS:j<g.ds[i].t.ns.length:=by omega
     have rH:=aw.mono de;obtain⟨m9,nP,jD⟩:=(rH.ds _ g9).t.a'.row al.cL fB oS;have bU:g.ds[i].t.ns.drop j=g.ds[i].t.ns[j]::g.ds[i].t.ns.drop (j+1):=fg oS;rw[bU,b5,pN]at iY;obtain⟨ae,aj,sL⟩:=drop_cons iY;refine bm.mk m9 j nP rfl fB ?_;refine aO.mk _ (jD _) ?_;refine bD.yield rfl (by simp) rfl rfl ?_;have aC:=kv k ae I1 M1 de h';rw[aj]at aC;refine B4.mk M1 [] _ (by simp) aC ?_;rintro v eA dD gq (⟨rfl,m3⟩ | ⟨rfl,ab⟩);·refine aX.mk (λh=>by simp at h) (λ_=>?_);refine bd.mk _ (c8 (i:=j) (by omega)) ?_;exact⟨(j+1,k+1,eA,dD),⟨⟨by simp only;omega,λb o h=>gq b o (de b o h),m3,ae,sL⟩,by simp only;omega⟩,.perm (by simp) .refl,kN,.nil⟩
     ·refine aX.mk (λ_=>?_) (λh=>by simp at h);exact⟨_,_,.perm (by simp) .refl,.inr ab⟩
    ·have c0:g.ds[i].t.n<=j:=by simpa using h
     rw[lW (show g.ds[i].t.ns.length<=j by omega),hy,hX]at iY;refine bd.mk _ (c8 (i:=i) (by omega)) ?_;exact⟨(i+1,k,I1,M1),⟨⟨by simp only;omega,de,h',c7,iY⟩,by simp only;omega⟩,.refl,ee,.nil⟩
  ·have c0:g.n<=i:=by simpa using h
   refine⟨_,_,.refl,.inl ?_⟩;rw[lW (show g.ds.length<=i by omega)]at iY;have pQ:k=(tK 0 g.ds).length:=by have:=Eh.1 iY;omega
   rw[<-pQ];exact h'
section
variable{X:c3}{β:Nat->Nat}{a:Act}{w:World}{F:Fr}{C:dN}{I:aH}{M:List aE}{o:Oper}{K:gl}
def cN.swap{n:Nat}{nF Ls:Obj}{w':World}(h:cN X β a w F C I (⟨n,nF⟩::M))(av:w'.heap.size=w.heap.size)(aD:w'.heap[n]?=some Ls)(ag:∀ b,b≠n->w'.heap[b]?=w.heap[b]?)(aA:oB w w'):cN X β a w' F C I (⟨n,Ls⟩::M):=by
 have aa:=h.WK av ag aA;have fM:(⟨n,nF⟩:aE)∈(⟨n,nF⟩:aE)::M:=by simp
 have bU:=h.holds.b3;simp only[b5,lf]at bU;have mem:∀ x,x∈(⟨n,Ls⟩:aE)::M->x=⟨n,Ls⟩\/x∈M:=λx ab=>eI.1 ab;exact {
  size:=aa.size
  defers:=by
   obtain⟨a',aI,a6,cq⟩:=aa.defers;obtain⟨ai3,f1,f2,f3⟩:=h.defers;refine⟨a',aI,a6,λr af=>{ cq r af with e7:=λx ab=>?_ }⟩;rcases mem x ab with rfl | ab
   ·have dS:a'=ai3:=by
     have:=aI.symm.trans f1;have Cr:∀ l eu:List Nat,l.map xF=eu.map xF->l=eu:=by
      intro l
      induction l with
      |nil=>intro eu h;cases eu with
       |nil=>rfl| cons=>simp at h
      |cons y l aQ=>intro eu h;cases eu with
       |nil=>simp at h
       |cons z eu=>
        simp only[b5,zV,xF,Deferred.mk.injEq]at h;have aC:y=z:=by simpa using h.1
        rw[aC,aQ eu h.2]
     exact Cr _ _ this
    subst dS;exact(f3 r af).e7 ⟨n,nF⟩ fM
   ·exact(cq r af).e7 x ab
  holds:={
   i:=aa.holds.i
   m:=λx ab=>by
    rcases mem x ab with rfl | ab;·exact aD
    ·exact aa.holds.m x ab
   d:=λx ab=>by
    rcases mem x ab with rfl | ab;·exact h.holds.d ⟨n,nF⟩ fM
    ·exact aa.holds.d x ab
   b3:=by simpa using bU }
  an:=h.an
  cm:=λs cs kr=>by
   have uK:=h.cm s cs kr;refine { aa.cm s cs kr with e7:=λx ab=>?_ };rcases mem x ab with rfl | ab;·exact uK.e7 ⟨n,nF⟩ fM
   ·exact(aa.cm s cs kr).e7 x ab
  inj:=h.inj
  il:=h.il
  hT:=h.hT
  own:=λx ab=>by
   rcases mem x ab with rfl | ab;·exact h.own ⟨n,nF⟩ fM
   ·exact aa.own x ab
  dO:=aa.dO
  out:=aa.out
  sz:=aa.sz
  fx:=aa.fx }
def o0(l:List (ByteArray×Int)):Nat->List MapEntry
 |i=>match l with
  |[]=>[]| p::l=>{ key:=.string p.1,val:=.int .i64 p.2,born:=i }::o0 l (i+1)
def jJ(l:List (ByteArray×Int)):Obj:=.map (o0 l 0).toArray l.length
def eW(s:ByteArray):List (ByteArray×Int)->Option Int
 |[]=>none| p::l=>bif decide (s=p.1)then some p.2 else eW s l
def ai4(l:List (ByteArray×Int))(p:ByteArray×Int):∀ i,o0 (l++[p]) i=o0 l i++[{ key:=.string p.1,val:=.int .i64 p.2,born:=i+l.length }]:=by
 induction l with
 |nil=>intro i;simp[o0]| cons q l aQ=>intro i;simp only[pN,o0,aQ,et,zV,true_and,List.append_cancel_left_eq,MapEntry.mk.injEq,and_true];omega
def bytes_beq(a b:ByteArray):(a == b)=decide (a=b):=by
 rw[tc];simp only[h6];constructor
 ·intro h
  first | exact eq_of_beq h | exact v3 (eq_of_beq (a:=a.data) (b:=b.data) h)
 ·rintro rfl
  first | exact G2 _ | exact G2 a.data
def Lt(s:ByteArray):∀ (l:List (ByteArray×Int)) (i j:Nat),∃ r,Instr.findNow .string (.string s) (o0 l i) j=some r/\r.map (·.2)=(eW s l).map (Value.int .i64)
 |[],i,j=>⟨none,rfl,rfl⟩
 |p::l,i,j=>by
  obtain⟨r,aa,ad⟩:=Lt s l (i+1) (j+1);unfold o0 Instr.findNow;simp only[Instr.sameNow,bytes_beq];cases ag:decide (s=p.1)with
  |true=>exact⟨_,rfl,by simp[eW,ag]⟩| false=>exact⟨r,aa,by simp only[eW,ag,cE];exact ad⟩
def bD.makeMap(aN:cW X.P X.E){t:Nat}{r:Operand}(aA:o.op=.makeMap t (some r))(ah:∀ d,o.dst=some d->d<X.n)(aq:X.E t=some db)(dk:db.bP=.map k e)
  {q:IntKind} {n:Int} (af:bH F r=.val (.int q n)) (h:∀ b,K (put o.dst (.val (.map (some b))) F) C I (⟨b,jJ []⟩::M)):bD X o F C I M K:=by
 refine⟨λa w Q ⟨β,aV⟩=>?_⟩;obtain⟨d,fP,fl⟩:=(aN _ _ aq).fs;have aa:d=.map k e:=by rw[dk]at fl;cases d<;>simp_all[fr]
 subst aa;have P9:=dj aV.an af;refine iN (by rw[aA];simp) (v:=.map (some w.heap.size)) (w':=w.alloc (.map #[] 0)) ?_ ⟨_,_,_,_,⟨β,cN.put (x:=.val (.map (some w.heap.size))) (aV.n2 (jJ [])) ah rfl⟩,h _⟩;unfold execOp;simp only[aA,lg,P9];simp[Instr.makeMap,run_underlying fP,asInt,oE]
def bD.lookup(aN:cW X.P X.E){t:Nat}(aA:o.op=.lookup t x y true)(ah:∀ d,o.dst=some d->d<X.n)(aq:X.E t=some db)(dk:db.bP=.map k e)(ae:X.E k=some tC)(er:tC.bP=.string)(bb:∀ w,(zeroValue e).run X.P w=.ok (.int .i64 0) w)(ab:bH F x=.val (.map (some g)))(aC:bH F y=.val (.string s))(ba:(⟨g,jJ l⟩:aE)∈M)
  (h:K (put o.dst (.val (.tuple #[.int .i64 ((eW s l).getD 0),.bool (eW s l).isSome])) F) C I M):bD X o F C I M K:=by
 refine⟨λa w Q ⟨β,aV⟩=>?_⟩;obtain⟨d,fP,fl⟩:=(aN _ _ aq).fs;have aa:d=.map k e:=by rw[dk]at fl;cases d<;>simp_all[fr]
 subst aa;obtain⟨dK,sM,gm⟩:=(aN _ _ ae).fs;have ad:dK=.string:=by rw[er]at gm;cases dK<;>simp_all[fr]
 subst ad;have aw:w.heap[g]?=some (.map (o0 l 0).toArray l.length):=aV.holds.m _ ba;have ex:=dj aV.an ab;have oP:=dj aV.an aC;obtain⟨r,v',mB⟩:=Lt s l 0 0;have ao:(Instr.checkKey (o0 l 0).toArray.isEmpty 10000 k (.string s)).run X.P w=.ok () w:=Ei (k:=.string s) sM (by simp[MapKept.IsKey]) _ 9999;have vb:(Instr.findKey k (.string s) (o0 l 0)).run X.P w=.ok r w:=Ek sM v';have fb:(Instr.lookup t (.map (some g)) (.string s) true).run X.P w=.ok (.tuple #[.int .i64 ((eW s l).getD 0),.bool (eW s l).isSome]) w:=by
  unfold Instr.lookup;simp only[cp,run_underlying fP,bZ,Eg aw,da,ao,vb];cases r with
  |none=>
   cases ax:eW s l with
   |none=>simp[bb]| some v=>rw[ax]at mB;simp at mB
  |some p=>
   cases ax:eW s l with
   |none=>rw[ax]at mB;simp at mB| some v=>rw[ax]at mB;simp only[lg,kK]at mB;simp[mB]
 refine v9 aV ah (by rw[aA];simp) ?_ h;unfold execOp;simp only[aA,ex,oP,cp,fb,bZ,da]
def bD.XY(aN:cW X.P X.E){t:Nat}{z:Operand}(aA:o.op=.mapUpdate t x y z)(ah:o.dst=none)(aq:X.E t=some db)(dk:db.bP=.map k e)(ae:X.E k=some tC)(er:tC.bP=.string)
 {v:Int} (ab:bH F x=.val (.map (some g))) (aC:bH F y=.val (.string s)) (BR:bH F z=.val (.int .i64 v)) (ax:eW s l=none)
  {Mr:List aE} (ba:M.Perm (⟨g,jJ l⟩::Mr)) (h:K F C I (⟨g,jJ (l++[(s,v)])⟩::Mr)):bD X o F C I M K:=by
 refine⟨λa w Q ⟨β,iT⟩=>?_⟩;have aV:cN X β a w F C I (⟨g,jJ l⟩::Mr):=iT.h7 (.perm ba .refl);obtain⟨d,fP,fl⟩:=(aN _ _ aq).fs;have aa:d=.map k e:=by rw[dk]at fl;cases d<;>simp_all[fr]
 subst aa;obtain⟨dK,sM,gm⟩:=(aN _ _ ae).fs;have ad:dK=.string:=by rw[er]at gm;cases dK<;>simp_all[fr]
 subst ad;have aw:w.heap[g]?=some (.map (o0 l 0).toArray l.length):=aV.holds.m ⟨g,jJ l⟩ (by simp);have ex:=dj aV.an ab;have oP:=dj aV.an aC;have P':=dj aV.an BR;obtain⟨r,v',mB⟩:=Lt s l 0 0;have af:r=none:=by
  rw[ax]at mB;cases r with
  |none=>rfl| some _=>simp at mB
 subst af;have ao:(Instr.checkKey false 10000 k (.string s)).run X.P w=.ok () w:=Ei (k:=.string s) sM (by simp[MapKept.IsKey]) _ 9999;have vb:(Instr.findKey k (.string s) (o0 l 0)).run X.P w=.ok none w:=Ek sM v';have e8:jJ (l++[(s,v)])=.map ((o0 l 0).toArray.push { key:=.string s,val:=.int .i64 v,born:=l.length }) (l.length+1):=by unfold jJ;rw[ai4];simp
 have fb:(Instr.mapUpdate t (.map (some g)) (.string s) (.int .i64 v)).run X.P w=.ok () { w with heap:=w.heap.setIfInBounds g (jJ (l++[(s,v)])) }:=by unfold Instr.mapUpdate;simp only[cp,run_underlying fP,bZ,Eg aw,ao,vb,PE _ aw,e8]
 have g2:=MapKept.heap_set (o':=jJ (l++[(s,v)])) aw;refine DU (by rw[aA];simp) (w':={ w with heap:=w.heap.setIfInBounds g (jJ (l++[(s,v)])) }) ?_ ⟨F,C,I,_,⟨β,?_⟩,h⟩
 ·unfold execOp;simp only[aA,ex,oP,P',cp,fb,bZ,da]
 ·rw[ah];exact aV.swap (by simp) g2.1 g2.2 ⟨rfl,rfl⟩
end
end Go.V
