/- Part 3 of what the proofs of this seat share: the executor, data in memory, walks.
-/
import Derived.Test.YtmncamccjfmbpaaGreatDoorK2
import Derived.Lib.Builder
import Derived.Lib.Bytealg
import Derived.Laws.Pointers
import Derived.Laws.StructEq
import Derived.WideMake
set_option linter.all false
set_option maxHeartbeats 8000000
set_option maxRecDepth 100000
namespace Go.V
open Go Go.Proofs
def eH:=@Int.eq_ofNat_of_zero_le
def eI:=@List.perm_append_comm
def dV:=@List.append_assoc
def fA:=@List.take_of_length_le
def et:=@decide_eq_false
def fR:=@List.map_congr_left
def dD:=@Nat.zero_le
def e9:=@decide_eq_true
def hg:=@List.flatMap_append
def f':=@List.getElem_map
def fS:=@List.length_nil
def m3:=@List.getElem?_append_right
def ih:=@List.getElem?_set
def h4:=@List.sum_cons
def m4:=@List.cons_append
def rG:=@List.take_append_drop
def sE:=@List.length_replicate
def sF:=@Bool.or_eq_false_iff
def n2:=@Bool.true_and
def qu:=@List.take_left'
def wb:=@List.eq_nil_or_concat
def qv:=@List.sum_append
def zt:=@List.reverse_singleton
def zu:=@Int.toNat_of_nonneg
def zv:=@List.filter_sublist
def BL:=@Int.ofNat_eq_natCast
def DV:=@List.sublist_cons_self
def DW:=@MapKept.run_getObj_map
def zw:=@List.ext_getElem?
def BM:=@List.length_take_le
def xU:=@List.cons.injEq
def DX:=@List.drop_eq_nil_iff
def DY:=@MapKept.run_checkKey
def xV:=@Bool.false_and
def DZ:=@MapKept.run_findKey
def Ks:=@Int.fdiv_eq_ediv_of_nonneg
def Kt:=@List.perm_append_singleton
def BN:=@List.drop_left'
def Ku:=@ByteArray.size_append
def Kv:=@List.mem_of_mem_take
def GW:=@List.all_append
def Pe:=@MapKept.run_setObj_map
def Kw:=@List.all_eq_false
def D1:=@List.sum_nil
def Kx:=@List.getElem_set
def Ky:=@BitVec.toNat_and
def Kz:=@Nat.lt_of_not_le
def KA:=@List.set_set
variable{I:aJ}{b j g c bq e T k i:Nat}{s:ByteArray}{v pC p:Value}{t:bS}{P:Program}{w:Bool}{sa:Option Addr}{x y:Operand}{c7 tx:dG}{cs:List Value}{ax:List Int}{os:aY}{α:Type}{F:Fr}{C:dC}{l:List (ByteArray×Int)}
def dE(b:Nat)(s:List Int):aD:=⟨b,.cells (s.map (Value.int .i64)).toArray 3 (0,0)⟩
def GX{M:List aD}{s:List Int}(a':dE b s∈M)(ai:j<s.length):cF I M ((⟨b,0,none⟩:Addr).add (j*1)) 1 [.int .i64 s[j]]:=by
 rw[eP _ rfl];refine⟨rfl,_,3,(0,0),.inr ⟨_,a',rfl,rfl⟩,?_,rfl⟩;have aa:j<(s.map (Value.int .i64)).length:=by simpa using ai
 simp only[c8,e2];rw[eV aa,qh,rl];simp
def GY{M:List aD}{s:List Int}{v:Int}(ai:j<s.length)(ah:s[j]=v)(a':dE b s∈M):cF I M ((⟨b,0,none⟩:Addr).add (j*1)) 1 [.int .i64 v]:=ah ▸ GX a' ai
def oL(s:List Int)(j:Nat)(ai:j<s.length)(b:Int):cm (s.map (Value.int .i64)) j [.int .i64 b]=(s.set j b).map (Value.int .i64):=by unfold cm;rw[pw,DG];simp[ai]
def Wl(an:m1 I)(av:t.ok I):Spec Tryz.prog 36 [t.val] I [] (λv I' M'=>v=.int .i64 (bif right t then(t.n:Int)else 0)/\I'=I/\M'=[]):=by
 refine cb [] a6 Tryz.func36 rfl rfl rfl ?_;intro B az;refine be.mk [] [] _ (.refl _) (qt an av) ?_;rintro v I' M' -⟨rfl,rfl,rfl⟩;refine a2.mk (λh=>?_) (λh=>?_)
 ·refine⟨_,_,.refl,?_,rfl,rfl⟩;rw[show right t=false by simpa using h];rfl
 ·refine⟨_,_,.refl,?_,rfl,rfl⟩;rw[show right t=true by simpa using h];rfl
def Wm{i:Nat}:∀ {ks:List Int} {s b3:List Bool},kU i ks s=some b3->∀ k∈ks,0<=k/\k<i
 |[],s,b3,_,k,ae=>by cases ae
 |x::ks,s,b3,h,k,ae=>by
  unfold kU at h;cases ag:(decide (x<0)||(decide ((i:Int)<=x)||s.getD x.toNat false))with
  |true=>rw[ag]at h;cases h
  |false=>
   rw[ag]at h;simp only[sF,ss]at ag;rcases ec.1 ae with rfl | ae;·omega
   ·exact Wm h k ae
def Wn:∀ {i:Nat} {ds:List ao} {s b3:List Bool},jw i ds s=some b3->∀ j (h:j<ds.length),∀ k∈ds[j].aw,0<=k/\k<(i+j:Nat)
 |i,[],s,b3,_,j,ai,_,_=>by cases ai
 |i,d::ds,s,b3,h,j,ai,k,ae=>by
  unfold jw at h;cases aA:fits d d.aw.length with
  |false=>rw[aA]at h;cases h
  |true=>
   rw[aA]at h;simp only[b5]at h;cases aH:kU i d.aw s with
   |none=>rw[aH]at h;cases h
   |some s1=>
    rw[aH]at h;cases j with
    |zero=>exact Wm aH k (by simpa using ae)| succ j=>have:=Wn h j (by simpa using ai) k (by simpa using ae);omega
def mj(h:right t=true):∀ j (ai:j<t.ns.length),∀ k∈t.ns[j].aw,0<=k/\k<j:=by
 unfold right at h;simp only[cz]at h;obtain⟨_,_,h⟩:=h;split at h
 ·rename_i s ar;intro j ai k ae;have:=Wn ar j ai k ae;omega
 ·cases h
def qw(h:right t=true):0<=t.bn/\t.bn<t.ns.length:=by unfold right at h;simp only[cz,hV]at h;exact⟨h.1,h.2.1⟩
def GZ(g1:List Int):List Int->Int->Int
 |[],m=>m| k::ks,m=>GZ g1 ks (max m (g1.getD k.toNat 0))
def wc:Nat->List ao->List Int->List Int
 |_,[],g1=>g1| i,d::ds,g1=>wc (i+1) ds (g1.set i (GZ g1 d.aw 0+1))
def depth(t:bS):Int:=bif right t then(wc 0 t.ns (List.replicate t.ns.length 0)).getD t.bn.toNat 0 else 0
def aha(an:m1 I)(av:t.ok I):Spec Tryz.prog 48 [t.val] I [] (λv I' M'=>v=.int .i64 (depth t)/\I'=I/\M'=[]):=by
 refine cb [] a6 Tryz.func48 rfl rfl rfl ?_;intro B az;have aB:=av.n;have jx:=av.a0.cap;refine be.mk [] [] _ (.refl _) (qt an av) ?_;rintro v I' M' -⟨rfl,rfl,rfl⟩;refine a2.mk (λh=>?_) (λh=>?_)
 ·refine⟨_,_,.refl,?_,rfl,rfl⟩;simp[depth,show right t=false by simpa using h]
 ·have af:right t=true:=by simpa using h
  have we:=mj af;obtain⟨a8,ba⟩:=qw af;refine mO.mk t.n t.n rfl rfl (ca _) (by show 8*t.n<=_;omega) (by omega) ?_;refine bX.mk λb ag sB=>?_;refine di.inv (ι:=Nat×List Int) (λx=>{ bi:=[(1,.ref 1 0),(3,.val (.slice (some ⟨b,0,none⟩) t.n t.n)),(16,.val (.slice t.a t.n t.c)),(17,.val (.int .i64 t.n)),(18,.val (.int .i64 x.1))],cl:=[(1,t.cells)],cD:=I',c0:=[dE b x.2] }) (λx=>x.1<=t.n/\x.2.length=t.n/\(∀ j,0<=x.2.getD j 0/\x.2.getD j 0<=x.1)/\(∀ j,x.1<=j->x.2.getD j 0=0)/\wc 0 t.ns (List.replicate t.ns.length 0)=wc x.1 (t.ns.drop x.1) x.2) (λx=>t.n-x.1) ?_ ?_
  ·have z:∀ j,(List.replicate t.n (0:Int)).getD j 0=0:=λj=>by
    by_cases ai:j<t.n<;>simp[bA,ai]
   refine⟨(0,List.replicate t.n 0),⟨by omega,by simp,λj=>by rw[z];simp,λj _=>z j,by simp[aB]⟩,?_,hn,.cons rfl .nil⟩;show ic _ _ [⟨b,.cells (rowOf [Value.int .i64 0] (t.n*1)).toArray 3 (0,0)⟩] _ [dE b (List.replicate t.n 0)];rw[tv,e2];simp only[dE,xI];exact .refl
  ·rintro⟨i,g1⟩⟨fr,iN,iw,kp,Bo⟩;simp only at fr iN iw kp Bo;refine a2.mk (λh=>?_) (λh=>?_)
   ·have aX:i<t.n:=by simpa using h
    have cj:i<t.ns.length:=by omega
    obtain⟨aS,bH,bl⟩:=av.a0.row ao.cP aX cj;have hK:=av.ns t.ns[i] (br cj);have e':=hK.aN;have j8:t.ns.drop i=t.ns[i]::t.ns.drop (i+1):=eV cj;refine bd.mk aS i bH rfl aX ?_;refine aM.mk t.ns[i].cells (bl _) ?_;refine di.inv (ι:=Nat×Int) (λx=>{ bi:=[(1,.ref 1 0),(3,.val (.slice (some ⟨b,0,none⟩) t.n t.n)),(4,.val (.int .i64 i)),(16,.val (.slice t.a t.n t.c)),(17,.val (.int .i64 t.n)),(18,.val (.int .i64 i)),(24,.val (.slice t.ns[i].dB t.ns[i].aN t.ns[i].dp)),(25,.val (.int .i64 t.ns[i].aN)),(26,.val (.int .i64 x.1))],cl:=[(1,t.cells)],cD:=I',c0:=[dE b (g1.set i x.2)] }) (λx=>x.1<=t.ns[i].aN/\0<=x.2/\x.2<=i/\GZ g1 t.ns[i].aw 0=GZ g1 (t.ns[i].aw.drop x.1) x.2) (λx=>t.ns[i].aN-x.1) ?_ ?_
    ·refine⟨(0,0),⟨by omega,by omega,by simp,rfl⟩,?_,i',.cons rfl .nil⟩;have e:g1.set i 0=g1:=by
      have aa:=kp i (ca _);rw[bA]at aa;apply zw;intro j;rw[ih];split
      ·rename_i e;subst e;have:i<g1.length:=by omega
       simp[this]at aa |-;exact aa.symm
      ·rfl
     simp only;rw[e];exact .refl
    ·rintro⟨j,m⟩⟨Kq,tw,DU,Pf⟩;simp only at Kq tw DU Pf;refine a2.mk (λh=>?_) (λh=>?_)
     ·have eM:j<t.ns[i].aN:=by simpa using h
      have iD:j<t.ns[i].aw.length:=by omega
      obtain⟨gk,fu,fb⟩:=hK.a0.one eM iD;have j9:t.ns[i].aw.drop j=t.ns[i].aw[j]::t.ns[i].aw.drop (j+1):=eV iD;have ae:=we i cj t.ns[i].aw[j] (br iD);have kV:t.ns[i].aw[j]=((t.ns[i].aw[j].toNat:Nat):Int):=by omega
      have cA:t.ns[i].aw[j].toNat<t.n:=by omega
      refine bd.mk gk j fu rfl eM ?_;refine aM.mk [.int .i64 t.ns[i].aw[j]] (fb _) ?_;refine cV.draw a6 rfl rfl rfl ?_;have dM:i<(g1.set i m).length:=by simp;omega
      have mh:t.ns[i].aw[j].toNat<(g1.set i m).length:=by simp;omega
      have Pg:(g1.set i m)[i]=m:=by simp
      have ff:(g1.set i m)[t.ns[i].aw[j].toNat]=g1.getD t.ns[i].aw[j].toNat 0:=by
       have bt:i≠t.ns[i].aw[j].toNat:=by omega
       have dW:t.ns[i].aw[j].toNat<g1.length:=by omega
       rw[Kx,bR bt];simp[bA,dW]
      refine bd.mk ⟨b,0,none⟩ i rfl rfl aX ?_;refine aM.mk [.int .i64 m] (GY dM Pg (by simp)) ?_;refine bd.mk ⟨b,0,none⟩ t.ns[i].aw[j].toNat rfl kV cA ?_;refine aM.mk [.int .i64 (g1.getD t.ns[i].aw[j].toNat 0)] (GY mh ff (by simp)) ?_;refine bd.mk ⟨b,0,none⟩ i rfl rfl aX ?_;refine b2.add [] [] _ 3 rfl ?_ rfl ?_;·simp only[oC,bI];show 0+i*1+1<=_;simp;omega
      have fQ:IntKind.i64.wrap ((j:Int)+1)=((j+1:Nat):Int):=by rw[wrap_i64 ⟨by omega,by have:=hK.a0.cap;omega⟩];omega
      refine bg.mk _ fQ ?_;have auR:=iw t.ns[i].aw[j].toNat;refine⟨(j+1,max m (g1.getD t.ns[i].aw[j].toNat 0)),⟨⟨by omega,by simp only;omega,by simp only;omega,?_⟩,by show _<_;simp only;omega⟩,?_,i',.cons rfl .nil⟩;·simp only;rw[Pf,j9];rfl
      ·have e:=oL (g1.set i m) i dM (max m (g1.getD t.ns[i].aw[j].toNat 0));simp only[dE];rw[KA]at e;rw[<-e];simp only[c8,e2];exact .refl
     ·have eM:¬ j<t.ns[i].aN:=by simpa using h
      have BK:t.ns[i].aw.drop j=[]:=kr (by omega);have hm:GZ g1 t.ns[i].aw 0=m:=by rw[Pf,BK];rfl
      have dM:i<(g1.set i m).length:=by simp;omega
      have Pg:(g1.set i m)[i]=m:=by simp
      have Ph:IntKind.i64.wrap (m+1)=m+1:=wrap_i64 ⟨by omega,by omega⟩;have fQ:IntKind.i64.wrap ((i:Int)+1)=((i+1:Nat):Int):=by rw[wrap_i64 ⟨by omega,by omega⟩];omega
      refine bd.mk ⟨b,0,none⟩ i rfl rfl aX ?_;refine aM.mk [.int .i64 m] (GY dM Pg (by simp)) ?_;refine bg.mk _ Ph ?_;refine bd.mk ⟨b,0,none⟩ i rfl rfl aX ?_;refine b2.add [] [] _ 3 rfl ?_ rfl ?_;·simp only[oC,bI];show 0+i*1+1<=_;omega
      refine bg.mk _ fQ ?_;refine⟨(i+1,g1.set i (m+1)),⟨⟨by omega,by simp[iN],?_,?_,?_⟩,by show _<_;simp only;omega⟩,?_,hn,.cons rfl .nil⟩
      ·intro q;have ahb:=iw q;simp only[bA,ih]at ahb |-;split
       ·rename_i e;subst e;have:i<g1.length:=by omega
        simp[this];omega
       ·omega
      ·intro q aR;have Wo:=kp q (by omega);simp only at aR;simp only[bA,ih]at Wo |-;rw[bR (by omega)];exact Wo
      ·simp only;rw[Bo,j8];simp only[wc,hm]
      ·have e:=oL (g1.set i m) i dM (m+1);simp only[dE];rw[KA]at e;rw[<-e];simp only[c8,e2];exact .refl
   ·have cI:¬ i<t.n:=by simpa using h
    have hk:t.ns.drop i=[]:=kr (by omega);have gR:wc 0 t.ns (List.replicate t.ns.length 0)=g1:=by rw[Bo,hk];rfl
    have rH:t.bn=((t.bn.toNat:Nat):Int):=by omega
    have fv:t.bn.toNat<g1.length:=by omega
    refine bd.mk ⟨b,0,none⟩ t.bn.toNat rfl rH (by omega) ?_;refine aM.mk [.int .i64 g1[t.bn.toNat]] (GY fv rfl (by simp)) ?_;refine⟨_,_,.sub (fO _) .refl,?_,rfl,rfl⟩;have:depth t=g1[t.bn.toNat]:=by unfold depth;rw[af,gR];simp[bA,fv]
    rw[this];rfl
def pD(t:bS):Bool:=decide (t.n<=1024)&&(right t&&decide (depth t<=32))
def ahc(an:m1 I)(av:t.ok I):Spec Tryz.prog 119 [t.val] I [] (λv I' M'=>v=.bool (pD t)/\I'=I/\M'=[]):=by
 refine cb [] a6 Tryz.func119 rfl rfl rfl ?_;intro B az;refine ct.mk (λaa=>?_) (λaa=>?_)
 ·refine be.mk [] [] _ (.refl _) (qt an av) ?_;rintro v I' M' -⟨rfl,rfl,rfl⟩;refine ct.mk (λab=>?_) (λab=>?_)
  ·refine be.mk [] [] _ (.refl _) (aha an av) ?_;rintro v I' M' -⟨rfl,rfl,rfl⟩;refine⟨_,_,.refl,?_,rfl,rfl⟩;have tz:t.n<=1024:=by simp at aa;omega
   simp[pD,tz,ab]
  ·refine⟨_,_,.refl,?_,rfl,rfl⟩;have oK:right t=false:=ab;simp[pD,oK]
 ·refine⟨_,_,.refl,?_,rfl,rfl⟩;have tz:¬ t.n<=1024:=by simp at aa;omega
  simp[pD,tz]
def gI{α:Type}(z:α)(f:ao->(Int->α)->α):List ao->List α->List α
 |[],a5=>a5| d::ds,a5=>gI z f ds (a5++[f d λk=>a5.getD k.toNat z])
section
variable{α:Type}{z:α}{f:ao->(Int->α)->α}
def Pj:∀ (ds:List ao) (a5:List α),(gI z f ds a5).length=a5.length+ds.length
 |[],a5=>by simp[gI]
 |d::ds,a5=>by rw[gI,Pj ds];simp;omega
def Pk:∀ (ds:List ao) (a5:List α) (j:Nat),j<a5.length->(gI z f ds a5)[j]?=a5[j]?
 |[],a5,j,_=>rfl| d::ds,a5,j,h=>by rw[gI,Pk ds _ j (by simp;omega),rj h]
def Pl:∀ (ds:List ao) (a5:List α) (j:Nat) (h:j<ds.length),(gI z f ds a5)[a5.length+j]?=some (f ds[j] λk=>((gI z f ds a5).take (a5.length+j)).getD k.toNat z)
 |d::ds,a5,0,_=>by
  rw[gI,qb,Pk ds _ a5.length (by simp)];simp only[List.getElem?_concat_length,uE,jY];congr 1;funext k;have:(gI z f ds (a5++[f d λk=>a5.getD k.toNat z])).take a5.length=a5:=by
   apply zw;intro i;rw[k7];split;·rename_i hi;rw[Pk ds _ i (by simp;omega),rj hi]
   ·rw[rk (by omega)]
  rw[this]
 |d::ds,a5,j+1,h=>by have:=Pl ds (a5++[f d λk=>a5.getD k.toNat z]) j (by simpa using h);rw[gI];simp only[ch,dx,fS,c8,Gu]at this |-;rw[show a5.length+(j+1)=a5.length+1+j from by omega];exact this
def ml(z:α)(f:ao->(Int->α)->α)(ns:List ao)(k:Int):α:=(gI z f ns []).getD k.toNat z
def D2(aA:∀ d g dK,(∀ k∈d.aw,g k=dK k)->f d g=f d dK)(af:right t=true)(ai:j<t.ns.length):ml z f t.ns j=f t.ns[j] (ml z f t.ns):=by have h:=Pl (z:=z) (f:=f) t.ns [] j ai;simp only[fS,c8]at h;unfold ml;rw[bA,show((j:Int).toNat)=j from by omega,h,kk];refine aA _ _ _ λk ae=>?_;have:=mj af j ai k ae;rw[bA,bA,k7,bN (by omega)]
end
def free(g:Nat->Nat)(s:List Bool):Nat->Nat
 |0=>0| i+1=>free g s i+(bif s.getD i false then 0 else g i)
def Wp{g:Nat->Nat}{s:List Bool}{k:Nat}:∀ {i:Nat},i<=k->free g (s.set k true) i=free g s i
 |0,_=>rfl| i+1,h=>by unfold free;rw[Wp (by omega)];simp only[bA,ih];rw[bR (by omega)]
def Wq{g:Nat->Nat}{s:List Bool}{k:Nat}(ar:s.getD k false=false)(ay:k<s.length):∀ {i:Nat},k<i->free g (s.set k true) i+g k=free g s i
 |i+1,h=>by
  unfold free;by_cases e:i=k;·subst e;rw[Wp (ca _),ar];simp[bA,ay]
  ·have:=Wq (g:=g) ar ay (i:=i) (by omega);simp only[bA,ih]at this |-;rw[bR (by omega)];omega
def g2(g:Int->Nat)(ks:List Int):Nat:=(ks.map g).sum
def Wr{g:Nat->Nat}{i:Nat}:∀ {ks:List Int} {s b3:List Bool},kU i ks s=some b3->i<=s.length->b3.length=s.length/\free g b3 i+g2 (λk=>g k.toNat) ks=free g s i
 |[],s,b3,h,_=>by simp only[kU,jY]at h;subst h;exact⟨rfl,rfl⟩
 |x::ks,s,b3,h,ay=>by
  unfold kU at h;cases ag:(decide (x<0)||(decide ((i:Int)<=x)||s.getD x.toNat false))with
  |true=>rw[ag]at h;cases h| false=>rw[ag]at h;simp only[sF,ss]at ag;obtain⟨aa,ab,aj⟩:=ag;obtain⟨aG,a7⟩:=Wr (g:=g) h (by simpa using ay);have cn:=Wq (g:=g) aj (by omega) (i:=i) (by omega);refine⟨by simpa using aG,?_⟩;simp only[g2,b0,h4]at a7 |-;omega
def Pm{g:Nat->Nat}{c:ao->Nat}:∀ {ds:List ao} {i:Nat} {s b3:List Bool},jw i ds s=some b3->i+ds.length<=s.length->(∀ j (h:j<ds.length),g (i+j)<=c ds[j]+g2 (λk=>g k.toNat) ds[j].aw) -> b3.length=s.length/\free g b3 (i+ds.length)<=free g s i+(ds.map c).sum
 |[],i,s,b3,h,_,_=>by simp only[jw,jY]at h;subst h;simp
 |d::ds,i,s,b3,h,ay,au=>by
  unfold jw at h;cases aA:fits d d.aw.length with
  |false=>rw[aA]at h;cases h
  |true=>
   rw[aA]at h;simp only[b5]at h;cases aH:kU i d.aw s with
   |none=>rw[aH]at h;cases h
   |some s1=>
    rw[aH]at h;simp only[dx]at ay;obtain⟨aG,a7⟩:=Wr (g:=g) aH (by omega);obtain⟨cn,dr⟩:=Pm (g:=g) (c:=c) h (by omega) (λj ai=>by
     have:=au (j+1) (by simp;omega);simp only[Gu]at this;rw[show i+1+j=i+(j+1)from by omega];exact this)
    have az:=au 0 (by simp);simp only[qb,uE]at az;refine⟨by omega,?_⟩;have lq:free g s1 (i+1)<=free g s1 i+g i:=by
     show free g s1 i+_<=_;cases s1.getD i false<;>simp
    simp only[dx,b0,h4];rw[show i+(ds.length+1)=i+1+ds.length from by omega];omega
def Ws{bn:Int}:∀ {s:List Bool} {i:Nat},rD bn i s=true->∀ j,j<s.length->(i+j:Nat)=bn->s.getD j false=false
 |b::s,i,h,j,ai,e=>by
  unfold rD at h;cases ag:(b == decide ((i:Int)=bn))with
  |true=>rw[ag]at h;cases h
  |false=>
   rw[ag]at h;cases j with
   |zero=>
    have:decide ((i:Int)=bn)=true:=by simpa using e
    rw[this]at ag;simpa using ag
   |succ j=>have:=Ws (i:=i+1) h j (by simpa using ai) (by omega);simpa using this
def Wt{g:Nat->Nat}{s:List Bool}{k:Nat}(ae:s.getD k false=false):∀ {n:Nat},k<n->g k<=free g s n
 |n+1,h=>by
  unfold free;by_cases e:n=k;·subst e;rw[ae];simp
  ·have:=Wt (g:=g) ae (n:=n) (by omega);omega
def Pn(af:right t=true){g:Int->Nat}{c:ao->Nat}(h:∀ j (ai:j<t.ns.length),g j<=c t.ns[j]+g2 g t.ns[j].aw):g t.bn<=(t.ns.map c).sum:=by
 have tA:=qw af;have ae:=mj af;unfold right at af;simp only[cz]at af;obtain⟨_,_,af⟩:=af;split at af
 ·rename_i s ar;obtain⟨aG,a7⟩:=Pm (g:=λk=>g k) (c:=c) ar (by simp) (λj ai=>by refine k' (by rw[c8];exact h j ai) (Nat.le_of_eq ?_);congr 1;unfold g2;congr 1;refine fR λk ff=>?_;have:=ae j ai k ff;rw[zu this.1]);simp only[sE,c8]at aG a7;have bb:=Ws af t.bn.toNat (by omega) (by omega);have:=Wt (g:=λk=>g k) bb (n:=t.ns.length) (by omega);rw[zu tA.1]at this;simp only[free]at a7;omega
 ·cases af
def D3(af:right t=true)(ai:j<t.ns.length):fits t.ns[j] t.ns[j].aw.length=true:=by
 have aux:∀ {ds:List ao} {i:Nat} {s b3:List Bool},jw i ds s=some b3->∀ j (h:j<ds.length),fits ds[j] ds[j].aw.length=true:=by
  intro ds
  induction ds with
  |nil=>intro i s b3 _ j ai;cases ai
  |cons d ds aL=>
   intro i s b3 h j ai;unfold jw at h;cases aA:fits d d.aw.length with
   |false=>rw[aA]at h;cases h
   |true=>
    rw[aA]at h;simp only[b5]at h;cases aH:kU i d.aw s with
    |none=>rw[aH]at h;cases h
    |some s1=>
     rw[aH]at h;cases j with
     |zero=>exact aA| succ j=>exact aL h j (by simpa using ai)
 unfold right at af;simp only[cz]at af;obtain⟨_,_,af⟩:=af;split at af
 ·rename_i s ar;exact aux ar j ai
 ·cases af
def ahd{w:World}(t u ty e:Nat)(i:TypeInfo)(av:P.underlying t=some (.slice e)){mg:TypeDesc}(hu:P.underlying u=some mg)(n1:∀ k,mg≠.int k)(hi:P.info? e=some i)
 {n:Nat} (mZ:n<=c) (az:(∃ b c,pC=.slice b 0 c)\/pC=.string .empty):(Builtin.append_ #[t,u] ty #[.slice sa n c,pC]).run P w=.ok (.slice sa n c) w:=by
 have GS:(match mg with | .int _=>true | _=>false)=false:=by cases mg<;>first | rfl | exact(n1 _ rfl).elim
 rcases az with⟨b,c',rfl⟩ | rfl
 ·cases b<;>cases sa<;>simp[Builtin.append_,run_underlying av,run_underlying hu,sizeOf,typeInfo,hi,GS,Builtin.lenOf,mZ,Builtin.firstCells,Builtin.zeroCells,loadCells,loadCellsFrom,storeCells]
 ·cases sa<;>simp[Builtin.append_,run_underlying av,run_underlying hu,sizeOf,typeInfo,hi,GS,Builtin.lenOf,mZ,Builtin.firstCells,loadCells,storeCells]
section
variable{X:cU}{β:Nat->Nat}{a:Act}{w:World}{F:Fr}{C:dC}{I:aJ}{M:List aD}{o:Oper}{K:gi}
def bz.bin{op:BinOp}{t:Nat}(aH:o.op=.binOp op t x y bq)(ak:∀ d,o.dst=some d->d<X.n){q:Value}(ad:bE F x=.val p)(aE:bE F y=.val q)
  (au:∀ w,(eqGuard op t x y p q).run X.P w=.ok () w) (af:∀ w,eE I M w->(binOp op t p q).run X.P w=.ok v w) (h:K (put o.dst (.val v) F) C I M):bz X o F C I M K:=by
 refine⟨λac w Q ⟨β,aV⟩=>?_⟩;have ex:=dd aV.al ad;have oJ:=dd aV.al aE;refine vQ aV ak (by rw[aH];simp) ?_ h;unfold execOp;simp only[aH,ck,ex,oJ,au,bV,af w aV.holds,c3]
def bz.conv{s t:Nat}(aH:o.op=.convert s t x)(ak:∀ d,o.dst=some d->d<X.n)(ad:bE F x=.val p)
  (af:∀ w,eE I M w->(convert s t p).run X.P w=.ok v w) (h:K (put o.dst (.val v) F) C I M):bz X o F C I M K:=by
 refine⟨λac w Q ⟨β,aV⟩=>?_⟩;have ex:=dd aV.al ad;refine vQ aV ak (by rw[aH];simp) ?_ h;unfold execOp;simp only[aH,ck,ex,bV,af w aV.holds,c3]
def bz.un{op:UnOp}{t:Nat}(aH:o.op=.unOp op t x)(ak:∀ d,o.dst=some d->d<X.n)(ad:bE F x=.val p)
  (af:∀ w,eE I M w->(Op.unary op p).run X.P w=.ok v w) (h:K (put o.dst (.val v) F) C I M):bz X o F C I M K:=by
 refine⟨λac w Q ⟨β,aV⟩=>?_⟩;have ex:=dd aV.al ad;refine vQ aV ak (by rw[aH];simp) ?_ h;unfold execOp;simp only[aH,ck,ex,bV,af w aV.holds,c3]
def jy(x:Int):Int:=IntKind.u64.wrap (BitVec.ofInt 64 IntKind.u64.max ^^^ BitVec.ofInt 64 x).toNat
def bz.G0{t:Nat}(aH:o.op=.unOp .xor t x)(ak:∀ d,o.dst=some d->d<X.n){n:Int}(ad:bE F x=.val (.int .u64 n))(h:K (put o.dst (.val (.int .u64 (jy n))) F) C I M):bz X o F C I M K:=
 .un aH ak ad (λw _=>rfl) h
def bz.Po(aO:cT X.P X.E){s:Operand}{t u:Nat}(aH:o.op=.call { callee:=.builtin .append,args:=#[s,x],argTypes:=#[t,u] })(ak:∀ d,o.dst=some d->d<X.n)
 {lP aF:dG} (av:X.E t=some c7) (dR:c7.bL=.slice e) (hu:X.E u=some lP) (fE:∀ k,lP.bL≠.int k) (he:X.E e=some aF)
 {n:Nat} (ar:bE F s=.val (.slice sa n c)) (mZ:n<=c)
 (ad:bE F x=.val pC) (az:(∃ b c,pC=.slice b 0 c)\/pC=.string .empty)
  (h:K (put o.dst (.val (.slice sa n c)) F) C I M):bz X o F C I M K:=by
 refine⟨λa w Q ⟨β,aV⟩=>?_⟩;obtain⟨inf,z,hi,fr,iN,iw,kp⟩:=(aO _ _ he).inf;obtain⟨d,fF,fk⟩:=(aO _ _ hu).fo;obtain⟨fL,jL,j7⟩:=(aO _ _ av).fo;have qp:fL=.slice e:=by rw[dR]at j7;cases fL<;>simp_all[fm]
 subst qp;have fa:=ahd (w:=w) t u o.type e inf jL fF (λk cX=>fE k (by rw[<-fk,cX];rfl)) hi (sa:=sa) mZ az;have es:=dd aV.al ar;have ex:=dd aV.al ad;refine vQ aV ak (by rw[aH];simp) ?_ h;unfold execOp;simp only[aH,resolve,invoke,builtin,ck,c3,bV,su,b0,hy,es,ex,fa]
def Wu(op:BinOp)(t:Nat)(x y:Operand)(p q:Option Addr)(P:Program)(w:World):(eqGuard op t x y (.pointer p) (.pointer q)).run P w=.ok () w:=by
 unfold eqGuard;cases op<;>rfl
def bz.KB(aO:cT X.P X.E){t:Nat}(aH:o.op=.binOp .eql t x y bq)(ak:∀ d,o.dst=some d->d<X.n)(av:X.E t=some c7)(dR:c7.bL=.pointer e)
  {p:Option Addr} (ad:bE F x=.val (.pointer p)) (aE:bE F y=.val (.pointer none)) (h:K (put o.dst (.val (.bool p.isNone)) F) C I M):bz X o F C I M K:=by
 obtain⟨d,fF,fk⟩:=(aO _ _ av).fo;have aa:d=.pointer e:=by rw[dR]at fk;cases d<;>simp_all[fm]
 subst aa;exact .bin aH ak ad aE (λw=>Wu ..) (λw _=>run_eql_pointer_nil w t p (by simp[Program.pointee,fF])) h
def bz.Wv(aO:cT X.P X.E){t:Nat}(aH:o.op=.binOp .neq t x y bq)(ak:∀ d,o.dst=some d->d<X.n){ahe:dG}(av:X.E t=some c7)(dR:c7.bL=.pointer e)(he:X.E e=some ahe)
  {p:Addr} (ad:bE F x=.val (.pointer (some p))) (aE:bE F y=.val (.pointer (some p))) (h:K (put o.dst (.val (.bool false)) F) C I M):bz X o F C I M K:=by
 obtain⟨d,fF,fk⟩:=(aO _ _ av).fo;have aa:d=.pointer e:=by rw[dR]at fk;cases d<;>simp_all[fm]
 subst aa;obtain⟨inf,z,hi,_⟩:=(aO _ _ he).inf;exact .bin aH ak ad aE (λw=>Wu ..) (λw _=>Lib.run_neq_ptr_same w p fF hi) h
end
def Ww{f:Nat}{fn:Func}{e:Array Value->Sem Value}{args:List Value}{M:List aD}(aA:P.funcs[f]?=some fn)(KD:(fn.name == "runtime.NumGoroutine")=false)
  (ag:fn.body.isNone=true) (aB:Extern.findNext fn=none) (he:Extern.find fn=some e) (af:∀ w,(e args.toArray).run P w=.ok v w):Spec P f args I M λr I' M'=>r=v/\I'=I/\M'=M:=by
 refine .inr λw hw=>⟨v,w,I,M,?_,⟨rfl,rfl,rfl⟩,hw,λ_ _ h=>h,λ_ _ h=>.inl h,λx ad=>.inl ⟨x,ad,rfl⟩,λ_ _ _=>rfl,.refl _,ca _⟩;rw[run_callFunc_extern aA KD ag aB he,af];rfl
def zx(l:List UInt8):List Value:=l.map λb=>.int .u8 b.toNat
structure gl where
 tB:Bool
 os:aY
 bK:List UInt8
def gl.aq(b:Nat)(x:gl):aD:=⟨b,.cells #[.pointer (bif x.tB then some ⟨b,0,none⟩else none),x.os.val] 207 (0,0)⟩
def gl.M(b:Nat)(x:gl):List aD:=x.aq b::x.os.aq 5
structure gl.ok(x:gl):Prop where
 os:x.os.ok 1 (zx x.bK)
 ne:∀ g,x.os.a=some g->x.bK≠[]
def gl.new:gl:=⟨false,⟨none,0,0,[]⟩,[]⟩
def gl.KE:gl.new.ok:=⟨⟨rfl,λ_=>⟨rfl,rfl⟩,λg h=>by cases h⟩,λg h=>by cases h⟩
def gl.ok.n{x:gl}(h:x.ok):x.os.n=x.bK.length:=by have:=h.os.len;simp[zx]at this;omega
def ptr(b:Nat):Value:=.pointer (some ⟨b,0,none⟩)
def c4{M:List aD}(a':(⟨b,.cells cs.toArray T (0,0)⟩:aD)∈M){n:Nat}(h:k+n<=cs.length):cF I M ((⟨b,0,none⟩:Addr).add k) n ((cs.drop k).take n):=by
 rw[eP _ rfl];refine⟨rfl,_,T,(0,0),.inr ⟨_,a',rfl,rfl⟩,?_,?_⟩
 ·simp
 ·simp;omega
def Pp{M:List aD}(v:Value):Spec Tryz.prog 234 [v] I M λr I' M'=>r=v/\I'=I/\M'=M:=
 Ww Tryz.func234 (by kernel_rfl) (by kernel_rfl) (by kernel_rfl) (e:=Extern.AbiNoEscape.same) (by kernel_rfl) (λw=>Lib.run_noEscape w _)
def Wx{M:List aD}(s:ByteArray)(c:UInt8):Spec Tryz.prog 325 [.string s,.int .u8 c.toNat] I M λr I' M'=>r=.int .i64 (Lib.indexByte s.data.toList c)/\I'=I/\M'=M:=
 Ww Tryz.func325 (by kernel_rfl) (by kernel_rfl) (by kernel_rfl) (e:=Extern.BytealgIndexByte.indexByte) (by kernel_rfl) (λw=>by
  have:=Lib.run_indexByteString (P:=Tryz.prog) s (c.toNat:Int) w;simpa using this)
def ahf(s:ByteArray)(c:UInt8):Spec Tryz.prog 307 [.string s,.int .u8 c.toNat] I [] λr I' M'=>r=.int .i64 (Lib.indexByte s.data.toList c)/\I'=I/\M'=[]:=by refine cb [] a6 Tryz.func307 rfl rfl rfl ?_;intro B az;refine be.mk [] [] _ (.refl _) (Wx s c) ?_;rintro v I' M' -⟨rfl,rfl,rfl⟩;exact⟨_,_,.refl,rfl,rfl,rfl⟩
def Wy(s:ByteArray)(c:UInt8):Spec Tryz.prog 291 [.string s,.int .u8 c.toNat] I [] λr I' M'=>r=.int .i64 (Lib.indexByte s.data.toList c)/\I'=I/\M'=[]:=by refine cb [] a6 Tryz.func291 rfl rfl rfl ?_;intro B az;refine be.mk [] [] _ (.refl _) (ahf s c) ?_;rintro v I' M' -⟨rfl,rfl,rfl⟩;exact⟨_,_,.refl,rfl,rfl,rfl⟩
def KF{M:List aD}{w:World}(h:eE I M w){cs:Array Value}{al:Nat×Nat}(a':(⟨b,.cells cs T al⟩:aD)∈M):w.shape? b=some (T,cs.size):=by have:=h.m _ a';simp only at this;simp[World.shape?,this]
def Wz(b:Nat)(x:gl):Spec Tryz.prog 192 [ptr b] I [x.aq b] λr I' M'=>r=.tuple #[]/\I'=I/\M'=[{ x with tB:=true:gl }.aq b]:=by
 obtain⟨tB,os,bK⟩:=x;obtain⟨inf,z,hi,fr,_⟩:=(a6 207 _ rfl).inf;refine cb [] a6 Tryz.func192 rfl rfl rfl ?_;intro B az;cases tB with
 |false=>refine aM.mk [.pointer none] (c4 (cs:=[.pointer none,os.val]) (k:=0) (n:=1) (T:=207) (ed.2 rfl) (by simp)) ?_;refine .other (bz.KB a6 rfl (by simp) rfl rfl rfl rfl ?_);refine a2.mk (λ_=>?_) (λh=>by cases h);refine bz.conv rfl (by simp) rfl (λw hw=>Lib.run_to_unsafe (t:=207) (e:=207) (cells:=2) w ⟨b,0,none⟩ (by kernel_rfl) (by kernel_rfl) (j:=inf) hi (by rw[fr];decide) (KF (cs:=#[.pointer none,os.val]) hw (ed.2 rfl)) (by simp)) ?_;refine be.mk [gl.aq b ⟨false,os,bK⟩] [] _ (by simp) (Pp _) ?_;rintro v I' M' -⟨rfl,rfl,rfl⟩;refine bz.conv rfl (by simp) rfl (λw hw=>Lib.run_from_unsafe (u:=207) (e:=207) (cells:=2) w ⟨b,0,none⟩ (by kernel_rfl) (by kernel_rfl) (j:=inf) hi (KF (cs:=#[.pointer none,os.val]) hw (ed.2 rfl)) (by kernel_rfl)) ?_;refine b2.add [] [] _ _ rfl (bJ rfl) rfl ?_;exact⟨_,_,.refl,rfl,rfl,rfl⟩
 |true=>refine aM.mk [ptr b] (c4 (cs:=[ptr b,os.val]) (k:=0) (n:=1) (T:=207) (ed.2 rfl) (by simp)) ?_;refine .other (bz.KB a6 rfl (by simp) rfl rfl rfl rfl ?_);refine a2.mk (λh=>by cases h) (λ_=>?_);refine aM.mk [ptr b] (c4 (cs:=[ptr b,os.val]) (k:=0) (n:=1) (T:=207) (ed.2 rfl) (by simp)) ?_;refine .other (bz.Wv a6 rfl (by simp) rfl rfl rfl rfl rfl ?_);refine a2.mk (λh=>by cases h) (λ_=>?_);exact⟨_,_,.refl,rfl,rfl,rfl⟩
def pE(b:Nat){x:gl}(ad:x.ok)(c:UInt8)(ay:x.bK.length<70368744177664):Spec Tryz.prog 230 [ptr b,.int .u8 c.toNat] I (x.M b)
  λr I' M'=>r=.nilIface/\I'=I/\∃ y:gl,y.ok/\y.bK=x.bK++[c]/\M'=y.M b:=by
 refine cb [] a6 Tryz.func230 rfl rfl rfl ?_;intro B az;have aB:=ad.n;refine be.mk [x.aq b] (x.os.aq 5) _ (.refl _) (Wz b x) ?_;rintro v I' M' -⟨rfl,rfl,rfl⟩;refine aM.mk [x.os.val] (c4 (cs:=[ptr b,x.os.val]) (k:=1) (n:=1) (T:=207) (.head _) (by simp)) ?_;refine bX.mk λg au BO=>?_;refine bz.append a6 rfl (by simp) (e:=5) rfl rfl rfl x.os (xs:=zx x.bK) ad.os rfl (m:=1) rfl (b8:=[.int .u8 c.toNat]) (by decide) ?_ rfl (Mr:=[⟨g,.cells #[.int .u8 c.toNat] 5 (0,0)⟩,{ x with tB:=true:gl }.aq b]) ?_ ?_ ?_ ?_
 ·exact c4 (cs:=[.int .u8 c.toNat]) (k:=0) (n:=1) (T:=5) (.head _) (by simp)
 ·exact eI (l₁:=[_,_]) (l₂:=x.os.aq 5)
 ·simp only[maxLen];omega
 ·show(x.os.n+1)*1<=_;omega
 ·intro dK c' aT aa ab aj aI;refine b2.add [⟨dK,.cells aT.toArray 5 (0,0)⟩,⟨g,.cells #[.int .u8 c.toNat] 5 (0,0)⟩] [] _ _ rfl (bJ rfl) rfl ?_;refine⟨_,_,.perm (M1:=[⟨g,.cells #[.int .u8 c.toNat] 5 (0,0)⟩]++gl.M b ⟨true,⟨some dK,x.os.n+1,c',aT⟩,x.bK++[c]⟩) ?_ (.sub (l' _ _) .refl),rfl,rfl,_,?_,rfl,rfl⟩
  ·exact eI (l₁:=[_]) (l₂:=[_,_])
  ·refine⟨⟨?_,λh=>by simp at h,?_⟩,by simp⟩
   ·simp[zx,aB]
   ·intro ba kW;refine⟨aa,ab,aj,?_⟩;rw[aI];simp[zx]
def uO(b:Nat){x:gl}(ad:x.ok)(s:ByteArray)(ay:x.bK.length+s.size<=70368744177664):Spec Tryz.prog 148 [ptr b,.string s] I (x.M b)
  λr I' M'=>r=.tuple #[.int .i64 s.size,.nilIface]/\I'=I/\∃ y:gl,y.ok/\y.bK=x.bK++s.data.toList/\M'=y.M b:=by
 refine cb [] a6 Tryz.func148 rfl rfl rfl ?_;intro B az;have aB:=ad.n;refine be.mk [x.aq b] (x.os.aq 5) _ (.refl _) (Wz b x) ?_;rintro v I' M' -⟨rfl,rfl,rfl⟩;refine aM.mk [x.os.val] (c4 (cs:=[ptr b,x.os.val]) (k:=1) (n:=1) (T:=207) (.head _) (by simp)) ?_;by_cases ar:s.size=0
 ·have he:s=.empty:=vL (OH ar);subst he;have mZ:x.os.n<=x.os.c:=by
   cases a4:x.os.a with
   |none=>obtain⟨aa,ab⟩:=ad.os.nil a4;omega
   |some g=>exact(ad.os.cap g a4).2.1
  refine bz.Po a6 rfl (by simp) (e:=5) rfl rfl rfl (by simp) rfl rfl mZ rfl (.inr rfl) ?_;refine b2.add [] (x.os.aq 5) _ _ rfl (bJ rfl) rfl ?_;exact⟨_,_,.refl,rfl,rfl,⟨true,x.os,x.bK⟩,⟨ad.os,ad.ne⟩,by simp,rfl⟩
 ·refine bz.agZ a6 rfl (by simp) (e:=5) rfl rfl rfl rfl rfl rfl x.os (xs:=zx x.bK) ad.os rfl rfl (by omega) (Mr:=[{ x with tB:=true:gl }.aq b]) (eI (l₁:=[_])) ?_ ?_ ?_
  ·simp only[maxLen];omega
  ·show(x.os.n+s.size)*1<=_;omega
  ·intro dK c' aT aa ab aj aI;refine b2.add [⟨dK,.cells aT.toArray 5 (0,0)⟩] [] _ _ rfl (bJ rfl) rfl ?_;refine⟨_,_,.perm (M1:=gl.M b ⟨true,⟨some dK,x.os.n+s.size,c',aT⟩,x.bK++s.data.toList⟩) ?_ .refl,rfl,rfl,_,?_,rfl,rfl⟩
   ·exact eI (l₁:=[_]) (l₂:=[_])
   ·refine⟨⟨?_,λh=>by simp at h,?_⟩,λg _ h=>?_⟩
    ·simp[zx,aB]
    ·intro ba kW;refine⟨aa,ab,aj,?_⟩;rw[aI];simp[zx,lk]
    ·have bB:=congrArg List.length (List.append_eq_nil_iff.1 h).2;exact ar (by simpa using bB)
def xW(b:Nat){x:gl}(ad:x.ok)(ay:x.bK.length<=70368744177664):Spec Tryz.prog 149 [ptr b] I (x.M b)
  λr I' M'=>r=.string ⟨x.bK.toArray⟩/\I'=I/\M'=[]:=by
 refine cb [] a6 Tryz.func149 rfl rfl rfl ?_;intro B az;have aB:=ad.n;obtain⟨tB,⟨a,n,c,aT⟩,bK⟩:=x;simp only at aB ay;subst aB;refine cV.draw a6 rfl rfl rfl ?_;cases a with
 |none=>obtain⟨aa,ab⟩:=ad.os.nil rfl;simp only at aa ab;have pF:bK=[]:=iy aa;subst pF;subst ab;refine aM.mk [.slice none 0 0] (c4 (cs:=[.pointer (bif tB then some ⟨b,0,none⟩else none),.slice none 0 0]) (k:=1) (n:=1) (T:=207) (.head _) (by simp)) ?_;refine aM.mk [.slice none 0 0] (c4 (cs:=[.pointer (bif tB then some ⟨b,0,none⟩else none),.slice none 0 0]) (k:=1) (n:=1) (T:=207) (.head _) (by simp)) ?_;refine bz.V1 rfl (by simp) rfl rfl ?_;exact⟨_,_,.sub (fO _) .refl,rfl,rfl,rfl⟩
 |some g=>
  obtain⟨aa,ab,aj,aI⟩:=ad.os.cap g rfl;have bt:=ad.ne g rfl;simp only at aa ab aj aI bt;have oA:bK.length≠0:=λh=>bt (iy h);refine aM.mk [.slice (some ⟨g,0,none⟩) bK.length c] (c4 (cs:=[.pointer (bif tB then some ⟨b,0,none⟩else none),.slice (some ⟨g,0,none⟩) bK.length c]) (k:=1) (n:=1) (T:=207) (.head _) (by simp)) ?_;refine Dw.mk (by omega) ?_;refine aM.mk [.slice (some ⟨g,0,none⟩) bK.length c] (c4 (cs:=[.pointer (bif tB then some ⟨b,0,none⟩else none),.slice (some ⟨g,0,none⟩) bK.length c]) (k:=1) (n:=1) (T:=207) (.head _) (by simp)) ?_;refine bz.O6 a6 rfl (by simp) (e:=5) rfl rfl rfl rfl (l:=bK) (g:=g) (cs:=aT.toArray) rfl rfl bt (by omega) (Mr:=[gl.aq b ⟨tB,⟨some g,bK.length,c,aT⟩,bK⟩]) (eI (l₁:=[_]) (l₂:=[_])) ?_ ?_;·rw[e2]at aI;exact aI
  ·exact⟨_,_,.sub (fO _) .refl,rfl,rfl,rfl⟩
def BP(c:UInt8)(left:ByteArray):Bool:=decide ((32:Int)<=c.toNat)&&(decide ((c.toNat:Int)<=126)&&(!decide ((c.toNat:Int)=92)&&decide (Lib.indexByte left.data.toList c<0)))
def ahg(c:UInt8)(left:ByteArray):Spec Tryz.prog 298 [.int .u8 c.toNat,.string left] I [] λr I' M'=>r=.bool (BP c left)/\I'=I/\M'=[]:=by
 refine cb [] a6 Tryz.func298 rfl rfl rfl ?_;intro B az;refine ct.mk (λaa=>?_) (λaa=>?_)
 ·refine ct.mk (λab=>?_) (λab=>?_)
  ·refine ct.mk (λaj=>?_) (λaj=>?_)
   ·refine be.mk [] [] _ (.refl _) (Wy left c) ?_;rintro v I' M' -⟨rfl,rfl,rfl⟩;refine⟨_,_,.refl,?_,rfl,rfl⟩;simp only[BP,aa,ab,aj,n2]
   ·refine⟨_,_,.refl,?_,rfl,rfl⟩;simp only[BP,aa,ab,aj,n2,uG,xV]
  ·refine⟨_,_,.refl,?_,rfl,rfl⟩;simp only[BP,aa,ab,n2,uG,xV]
 ·refine⟨_,_,.refl,?_,rfl,rfl⟩;simp only[BP,aa,n2,uG,xV]
def D4:ByteArray:=⟨#[48,49,50,51,52,53,54,55,56,57,97,98,99,100,101,102]⟩
def zy(n:Nat):UInt8:=D4.data.toList.getD n 0
def oM(c:UInt8)(left:ByteArray):List UInt8:=
 bif BP c left then [c]else
 bif decide ((c.toNat:Int)=10)then [92,110]else
 bif decide ((c.toNat:Int)=13)then [92,114]else
 bif decide ((c.toNat:Int)=9)then [92,116]else
 bif decide ((c.toNat:Int)=92)||decide ((0:Int)<=Lib.indexByte left.data.toList c)then [92,c]else [92,120,zy (c.toNat/16),zy (c.toNat%16)]
def G1(c:UInt8)(left:ByteArray):(oM c left).length<=4:=by
 unfold oM;cases BP c left<;>cases decide ((c.toNat:Int)=10)<;>cases decide ((c.toNat:Int)=13)<;>cases decide ((c.toNat:Int)=9)<;>cases(decide ((c.toNat:Int)=92)||decide ((0:Int)<=Lib.indexByte left.data.toList c))<;>simp
def ahh:∀ n:Nat,n<256->IntKind.u8.wrap ((BitVec.ofInt 8 (n:Int)) &&& (BitVec.ofInt 8 15)).toNat=((n%16:Nat):Int):=by decide +kernel
def WA(ai:j<D4.size):D4[j]=zy j:=by have:j<D4.data.toList.length:=ai;simp only[zy,bA,dg this,kk];rfl
def KG(b:Nat){x:gl}(ad:x.ok)(c:UInt8)(left:ByteArray)(ay:x.bK.length<=70368744177600):Spec Tryz.prog 279 [ptr b,.int .u8 c.toNat,.string left] I (x.M b)
  λr I' M'=>I'=I/\∃ y:gl,y.ok/\y.bK=x.bK++oM c left/\M'=y.M b:=by
 refine cb [] a6 Tryz.func279 rfl rfl rfl ?_;intro B az;refine be.mk [] (x.M b) _ (.refl _) (ahg c left) ?_;rintro v I' M' -⟨rfl,rfl,rfl⟩;refine a2.mk (λaa=>?_) (λaa=>?_)
 ·refine be.mk (x.M b) [] _ (by simp) (pE b ad c (by omega)) ?_;rintro v I' M' -⟨rfl,rfl,y,aE,g3,rfl⟩;refine⟨_,_,.refl,rfl,y,aE,?_,by simp⟩;rw[g3,oM,aa];rfl
 ·refine a2.mk (λab=>?_) (λab=>?_)
  ·refine be.mk (x.M b) [] _ (by simp) (uO b ad _ (by show _+2<=_;omega)) ?_;rintro v I' M' -⟨rfl,rfl,y,aE,g3,rfl⟩;refine⟨_,_,.refl,rfl,y,aE,?_,by simp⟩;rw[g3,oM,aa,ab];rfl
  ·refine a2.mk (λaj=>?_) (λaj=>?_)
   ·refine be.mk (x.M b) [] _ (by simp) (uO b ad _ (by show _+2<=_;omega)) ?_;rintro v I' M' -⟨rfl,rfl,y,aE,g3,rfl⟩;refine⟨_,_,.refl,rfl,y,aE,?_,by simp⟩;rw[g3,oM,aa,ab,aj];rfl
   ·refine a2.mk (λaI=>?_) (λaI=>?_)
    ·refine be.mk (x.M b) [] _ (by simp) (uO b ad _ (by show _+2<=_;omega)) ?_;rintro v I' M' -⟨rfl,rfl,y,aE,g3,rfl⟩;refine⟨_,_,.refl,rfl,y,aE,?_,by simp⟩;rw[g3,oM,aa,ab,aj,aI];rfl
    ·have two:∀ (I1:aJ),(decide ((c.toNat:Int)=92)||decide ((0:Int)<=Lib.indexByte left.data.toList c))=true->oM c left=[92,c]:=λ_ h=>by rw[oM,aa,ab,aj,aI,h];rfl
     have other:(decide ((c.toNat:Int)=92)||decide ((0:Int)<=Lib.indexByte left.data.toList c))=false->oM c left=[92,120,zy (c.toNat/16),zy (c.toNat%16)]:=λh=>by rw[oM,aa,ab,aj,aI,h];rfl
     have an:=c.toNat_lt;refine ct.mk (λbB=>?_) (λbB=>?_)
     ·refine be.mk [] (x.M b) _ (.refl _) (Wy left c) ?_;rintro v I' M' -⟨rfl,rfl,rfl⟩;refine a2.mk (λb4=>?_) (λb4=>?_)
      ·refine be.mk (x.M b) [] _ (by simp) (pE b ad 92 (by omega)) ?_;rintro v I' M' -⟨rfl,rfl,y,aE,g3,rfl⟩;refine be.mk (y.M b) [] _ (by simp) (pE b aE c (by rw[g3];simp;omega)) ?_;rintro v I' M' -⟨rfl,rfl,z,bb,tC,rfl⟩;refine⟨_,_,.refl,rfl,z,bb,?_,by simp⟩;rw[tC,g3,two I' (by rw[bB];exact b4)];simp
      ·refine be.mk (x.M b) [] _ (by simp) (uO b ad _ (by show _+2<=_;omega)) ?_;rintro v I' M' -⟨rfl,rfl,y,aE,g3,rfl⟩;have KH:y.bK.length=x.bK.length+2:=by rw[g3];simp
       refine xv.mk 4 rfl ?_;refine Bc.mk (s:=D4) (c.toNat/16) ?_ (by show _<16;omega) ?_
       ·show(c.toNat:Int).fdiv (2^(min 4 (IntKind.u8.bits)))=_;have ahi:((2:Int)^(min 4 IntKind.u8.bits))=16:=by decide
        rw[ahi,Ks _ (by omega)];omega
       rw[WA];refine be.mk (y.M b) [] _ (by simp) (pE b aE (zy (c.toNat/16)) (by omega)) ?_;rintro v I' M' -⟨rfl,rfl,z,bb,tC,rfl⟩;have xX:z.bK.length=x.bK.length+3:=by rw[tC];simp;omega
       refine Bc.mk (s:=D4) (c.toNat%16) (ahh c.toNat an) (by show _<16;omega) ?_;rw[WA];refine be.mk (z.M b) [] _ (by simp) (pE b bb (zy (c.toNat%16)) (by omega)) ?_;rintro v I' M' -⟨rfl,rfl,u,hu,xY,rfl⟩;refine⟨_,_,.refl,rfl,u,hu,?_,by simp⟩;rw[xY,tC,g3,other (by rw[bB];exact b4)];simp
     ·refine be.mk (x.M b) [] _ (by simp) (pE b ad 92 (by omega)) ?_;rintro v I' M' -⟨rfl,rfl,y,aE,g3,rfl⟩;refine be.mk (y.M b) [] _ (by simp) (pE b aE c (by rw[g3];simp;omega)) ?_;rintro v I' M' -⟨rfl,rfl,z,bb,tC,rfl⟩;refine⟨_,_,.refl,rfl,z,bb,?_,by simp⟩;rw[tC,g3,two I' (by rw[bB];rfl)];simp
def nE(n:Nat):List UInt8:=bif Nat.blt n 10 then [UInt8.ofNat (48+n)]else [UInt8.ofNat (48+n/10),UInt8.ofNat (48+n%10)]
def zz(n:Nat):ByteArray:=⟨(nE n).toArray⟩
def WB:ByteArray:=⟨((List.range 10).map (λn=>UInt8.ofNat (48+n))++(List.range 26).map (λn=>UInt8.ofNat (97+n))).toArray⟩
def WC:ByteArray:=⟨((List.range 100).flatMap λn=>[UInt8.ofNat (48+n/10),UInt8.ofNat (48+n%10)]).toArray⟩
def ahj:∀ n:Fin 10,(WB.extract n.val (n.val+1)).data.toList=nE n.val:=by decide +kernel
def ahk:∀ n:Fin 100,10<=n.val->(WC.extract (n.val*2) (n.val*2+2)).data.toList=nE n.val:=by decide +kernel
def D5{a b:ByteArray}(h:a.data.toList=b.data.toList):a=b:=vL (gV h)
def G2(n:Nat):(nE n).length<=2:=by
 unfold nE;cases Nat.blt n 10<;>simp
def ahl(n:Nat)(aB:n<100):Spec Tryz.prog 336 [.int .i64 n] I [] λr I' M'=>r=.string (zz n)/\I'=I/\M'=[]:=by
 refine cb [] a6 Tryz.func336 rfl rfl rfl ?_;intro B az;refine a2.mk (λh=>?_) (λh=>?_)
 ·have aX:n<10:=by simp at h;omega
  refine bg.mk ((n+1:Nat):Int) (by rw[wrap_i64 ⟨by omega,by omega⟩];omega) ?_;refine l6.mk n (n+1) rfl rfl (by omega) (by show _<=36;omega) ?_;refine⟨_,_,.refl,?_,rfl,rfl⟩;have:WB.extract n (n+1)=zz n:=D5 (ahj ⟨n,aX⟩);rw[<-this];rfl
 ·have cI:10<=n:=by simp at h;omega
  refine bg.mk ((n*2:Nat):Int) (by rw[wrap_i64 ⟨by omega,by omega⟩];omega) ?_;refine bg.mk ((n*2:Nat):Int) (by rw[wrap_i64 ⟨by omega,by omega⟩];omega) ?_;refine bg.mk ((n*2+2:Nat):Int) (by rw[wrap_i64 ⟨by omega,by omega⟩];omega) ?_;refine l6.mk (n*2) (n*2+2) rfl rfl (by omega) (by show _<=200;omega) ?_;refine⟨_,_,.refl,?_,rfl,rfl⟩;have:WC.extract (n*2) (n*2+2)=zz n:=D5 (ahk ⟨n,aB⟩ cI);rw[<-this];rfl
def ahm(n:Nat)(aB:n<100):Spec Tryz.prog 329 [.int .i64 n,.int .i64 10] I [] λr I' M'=>r=.string (zz n)/\I'=I/\M'=[]:=by refine cb [] a6 Tryz.func329 rfl rfl rfl ?_;intro B az;refine a2.mk (λh=>?_) (λh=>by cases h);refine ct.mk (λh=>?_) (λh=>by simp at h;try omega);refine a2.mk (λh=>?_) (λh=>by simp at h;try omega);refine be.mk [] [] _ (.refl _) (ahl n aB) ?_;rintro v I' M' -⟨rfl,rfl,rfl⟩;exact⟨_,_,.refl,rfl,rfl,rfl⟩
def ahn(n:Nat)(aB:n<100):Spec Tryz.prog 316 [.int .i64 n] I [] λr I' M'=>r=.string (zz n)/\I'=I/\M'=[]:=by refine cb [] a6 Tryz.func316 rfl rfl rfl ?_;intro B az;refine be.mk [] [] _ (.refl _) (ahm n aB) ?_;rintro v I' M' -⟨rfl,rfl,rfl⟩;exact⟨_,_,.refl,rfl,rfl,rfl⟩
def aho(n:Nat)(aB:n<100):Spec Tryz.prog 301 [.int .i64 n] I [] λr I' M'=>r=.string (zz n)/\I'=I/\M'=[]:=by refine cb [] a6 Tryz.func301 rfl rfl rfl ?_;intro B az;refine be.mk [] [] _ (.refl _) (ahn n aB) ?_;rintro v I' M' -⟨rfl,rfl,rfl⟩;exact⟨_,_,.refl,rfl,rfl,rfl⟩
def KI(n:Nat)(aB:n<100):Spec Tryz.prog 282 [.int .i64 n] I [] λr I' M'=>r=.string (zz n)/\I'=I/\M'=[]:=by refine cb [] a6 Tryz.func282 rfl rfl rfl ?_;intro B az;refine be.mk [] [] _ (.refl _) (aho n aB) ?_;rintro v I' M' -⟨rfl,rfl,rfl⟩;exact⟨_,_,.refl,rfl,rfl,rfl⟩
def hB(node m5:Int):Bool:=
 bif decide (node=5)then decide (m5=5)else
 bif decide (node=4)||(decide (node=7)||decide (node=8))then decide (m5=4)||decide (m5=5)else
 bif decide (node=6)then decide (m5=4)||(decide (m5=5)||(decide (m5=6)||(decide (m5=7)||decide (m5=8))))else false
def Pq(a b:Int):Spec Tryz.prog 232 [.int .u8 a,.int .u8 b] I [] λr I' M'=>r=.bool (hB a b)/\I'=I/\M'=[]:=by
 refine cb [] a6 Tryz.func232 rfl rfl rfl ?_;intro B az;refine a2.mk (λaa=>?_) (λaa=>?_)
 ·refine⟨_,_,.refl,?_,rfl,rfl⟩;simp only[hB,aa];rfl
 ·have two:∀ (I1:aJ) (h:(decide (a=4)||(decide (a=7)||decide (a=8)))=true),hB a b=(decide (b=4)||decide (b=5)):=λ_ h=>by simp only[hB,aa,h];rfl
  have Pr:(decide (a=4)||(decide (a=7)||decide (a=8)))=true->ct (decide (b=4)) false (vV [] I [] λI' M'=>Value.bool (decide (b=5))=.bool (hB a b)/\I'=I/\M'=[]) (vV [] I [] λI' M'=>Value.bool true=.bool (hB a b)/\I'=I/\M'=[]):=λh=>by
   refine ct.mk (λaI=>?_) (λaI=>?_);·refine⟨_,_,.refl,?_,rfl,rfl⟩;rw[two I h,aI];rfl
   ·refine⟨_,_,.refl,?_,rfl,rfl⟩;rw[two I h,aI];rfl
  refine a2.mk (λab=>?_) (λab=>?_);·refine a2.mk (λ_=>?_) (λh=>by rw[ab]at h;cases h);exact Pr (by rw[ab];rfl)
  ·refine a2.mk (λaj=>?_) (λaj=>?_)
   ·refine a2.mk (λ_=>?_) (λh=>by rw[aj]at h;cases h);exact Pr (by rw[aj];simp)
   ·refine a2.mk (λaI=>?_) (λaI=>?_)
    ·exact Pr (by rw[aI];simp)
    ·have hw:hB a b=(bif decide (a=6)then decide (b=4)||(decide (b=5)||(decide (b=6)||(decide (b=7)||decide (b=8))))else false):=by simp only[hB,aa,ab,aj,aI];rfl
     refine a2.mk (λbB=>?_) (λbB=>?_)
     ·rw[bB]at hw;simp only[b5]at hw;refine ct.mk (λeg=>?_) (λeg=>?_)
      ·refine ct.mk (λcy=>?_) (λcy=>?_)
       ·refine ct.mk (λgG=>?_) (λgG=>?_)
        ·refine ct.mk (λmm=>?_) (λmm=>?_)
         ·refine⟨_,_,.refl,?_,rfl,rfl⟩;rw[hw,eg,cy,gG,mm];rfl
         ·refine⟨_,_,.refl,?_,rfl,rfl⟩;rw[hw,eg,cy,gG,mm];rfl
        ·refine⟨_,_,.refl,?_,rfl,rfl⟩;rw[hw,eg,cy,gG];rfl
       ·refine⟨_,_,.refl,?_,rfl,rfl⟩;rw[hw,eg,cy];rfl
      ·refine⟨_,_,.refl,?_,rfl,rfl⟩;rw[hw,eg];rfl
     ·refine⟨_,_,.refl,?_,rfl,rfl⟩;rw[hw,bB];rfl
def wrap_u64(x:Int):g' (IntKind.u64.wrap x):=by unfold IntKind.wrap g';simp only[IntKind.bits,IntKind.signed];simp;omega
def wrap_u8(x:Int):0<=IntKind.u8.wrap x/\IntKind.u8.wrap x<256:=by unfold IntKind.wrap;simp only[IntKind.bits,IntKind.signed];simp;omega
def WD{x:Int}(h:g' x):IntKind.u64.wrap x=x:=by obtain⟨aa,ab⟩:=h;unfold IntKind.wrap;simp only[IntKind.bits,IntKind.signed];simp;omega
def sG(I:aJ)(ax:List Int):Prop:=ax.length=64/\(∀ x∈ax,0<=x/\x<256)/\∃ T al,I 3=some (.cells (ax.map (Value.int .u8)).toArray T al)
def sG.rd(h:sG I ax)(M:List aD)(ai:j<64):cF I M (Addr.add ⟨3,0,none⟩ (j*1)) 1 [.int .u8 (ax.getD j 0)]:=by
 obtain⟨ay,_,T,al,h⟩:=h;rw[eP _ rfl];refine⟨rfl,_,T,al,.inl h,?_,rfl⟩;have aa:j<(ax.map (Value.int .u8)).length:=by simp[ay,ai]
 have ab:j<ax.length:=by omega
 simp only[c8,e2];rw[eV aa,qh,rl];simp[bA,ab]
def sG.at(h:sG I ax)(j:Nat):0<=ax.getD j 0/\ax.getD j 0<256:=by
 rw[bA];by_cases ai:j<ax.length
 ·rw[dg ai];exact h.2.1 _ (br ai)
 ·simp[ai]
def G3(x y:Int):Int:=IntKind.u64.wrap (BitVec.ofInt 64 x &&& BitVec.ofInt 64 y).toNat
def tD(x:Int):Int:=IntKind.u64.wrap (G3 x (IntKind.u64.wrap (0-x))*285870213051353865)
def uP(ax:List Int)(x:Int):Int:=bif decide (x=0)then 64 else ax.getD ((tD x).toNat/2^58) 0
def ahp(h:sG I ax)(x:Int):0<=uP ax x/\uP ax x<256:=by
 unfold uP;cases decide (x=0)
 ·exact h.at _
 ·simp
def ahq(ag:sG I ax)(x:Int):Spec Tryz.prog 315 [.int .u64 x] I [] λr I' M'=>r=.int .i64 (uP ax x)/\I'=I/\M'=[]:=by
 refine cb [] a6 Tryz.func315 rfl rfl rfl ?_;intro B az;refine a2.mk (λh=>?_) (λh=>?_)
 ·refine⟨_,_,.refl,?_,rfl,rfl⟩;simp only[uP,h];rfl
 ·have a4:=wrap_u64 (G3 x (IntKind.u64.wrap (0-x))*285870213051353865);refine bg.mk _ rfl ?_;refine bg.mk (tD x) rfl ?_;refine xv.mk 58 rfl ?_;have aG:((2:Int)^(min 58 IntKind.u64.bits))=2^58:=by decide
  rw[aG];obtain⟨BQ,D6⟩:=a4;have a7:(tD x).fdiv (2^58)=(((tD x).toNat/2^58:Nat):Int):=by rw[Ks _ (by decide)];have:tD x=((tD x).toNat:Int):=(zu BQ).symm;omega
  rw[a7];have ai:(tD x).toNat/2^58<64:=by have:tD x<18446744073709551616:=D6;omega
  refine eG.mk ((tD x).toNat/2^58) rfl ai ?_;refine aM.mk [.int .u8 (ax.getD ((tD x).toNat/2^58) 0)] (ag.rd _ ai) ?_;have ak:=ag.at ((tD x).toNat/2^58);refine bg.mk (ax.getD ((tD x).toNat/2^58) 0) (wrap_i64 ⟨by omega,by omega⟩) ?_;refine⟨_,_,.refl,?_,rfl,rfl⟩;simp only[uP,h];rfl
def ahr(a b c d:Int):Nat->List Value
 |0=>[.int .u64 (a),.int .u64 (b),.int .u64 (c),.int .u64 (d)]| 1=>[.int .u64 (jy a),.int .u64 (b),.int .u64 (c),.int .u64 (d)]| 2=>[.int .u64 (jy a),.int .u64 (jy b),.int .u64 (c),.int .u64 (d)]| 3=>[.int .u64 (jy a),.int .u64 (jy b),.int .u64 (jy c),.int .u64 (d)]| _=>[.int .u64 (jy a),.int .u64 (jy b),.int .u64 (jy c),.int .u64 (jy d)]
def ahs(a b c d:Int):Spec Tryz.prog 299 [.agg #[.int .u64 a,.int .u64 b,.int .u64 c,.int .u64 d]] I [] λr I' M'=>r=.agg #[.int .u64 (jy a),.int .u64 (jy b),.int .u64 (jy c),.int .u64 (jy d)]/\I'=I/\M'=[]:=by
 refine cb [] a6 Tryz.func299 rfl rfl rfl ?_;intro B az;refine di.inv (ι:=Nat) (λi=>{ bi:=[(1,.ref 1 0),(2,.ref 2 0),(5,.val (.agg #[.int .u64 a,.int .u64 b,.int .u64 c,.int .u64 d])),(6,.val (.int .i64 i))],cl:=[(1,ahr a b c d i),(2,[.int .u64 0,.int .u64 0,.int .u64 0,.int .u64 0])],cD:=I }) (λi=>i<=4) (λi=>4-i) ?_ ?_
 ·exact⟨0,by simp,.refl,ew,.cons rfl (.cons rfl .nil)⟩
 ·intro i hi
  match i,hi with
  |0,_=>refine a2.mk (λ_=>?_) (λh=>by simp at h);refine eG.mk 0 rfl (by decide) ?_;refine bz.G0 rfl (by simp) rfl ?_;refine eG.mk 0 rfl (by decide) ?_;refine bg.mk 1 (by decide) ?_;exact⟨1,⟨by simp,by simp⟩,.refl,ew,.cons rfl (.cons rfl .nil)⟩| 1,_=>refine a2.mk (λ_=>?_) (λh=>by simp at h);refine eG.mk 1 rfl (by decide) ?_;refine bz.G0 rfl (by simp) rfl ?_;refine eG.mk 1 rfl (by decide) ?_;refine bg.mk 2 (by decide) ?_;exact⟨2,⟨by simp,by simp⟩,.refl,ew,.cons rfl (.cons rfl .nil)⟩| 2,_=>refine a2.mk (λ_=>?_) (λh=>by simp at h);refine eG.mk 2 rfl (by decide) ?_;refine bz.G0 rfl (by simp) rfl ?_;refine eG.mk 2 rfl (by decide) ?_;refine bg.mk 3 (by decide) ?_;exact⟨3,⟨by simp,by simp⟩,.refl,ew,.cons rfl (.cons rfl .nil)⟩| 3,_=>refine a2.mk (λ_=>?_) (λh=>by simp at h);refine eG.mk 3 rfl (by decide) ?_;refine bz.G0 rfl (by simp) rfl ?_;refine eG.mk 3 rfl (by decide) ?_;refine bg.mk 4 (by decide) ?_;exact⟨4,⟨by simp,by simp⟩,.refl,ew,.cons rfl (.cons rfl .nil)⟩| 4,_=>refine a2.mk (λh=>by simp at h) (λ_=>?_);exact⟨_,_,.refl,rfl,rfl,rfl⟩
def aht:Spec Tryz.prog 280 [] I [] λr I' M'=>r=.agg #[.int .u64 (jy 0),.int .u64 (jy 0),.int .u64 (jy 0),.int .u64 (jy 0)]/\I'=I/\M'=[]:=by refine cb [] a6 Tryz.func280 rfl rfl rfl ?_;intro B az;refine be.mk [] [] _ (.refl _) (ahs 0 0 0 0) ?_;rintro v I' M' -⟨rfl,rfl,rfl⟩;exact⟨_,_,.refl,rfl,rfl,rfl⟩
def mo(I:aJ)(b:Nat)(o:Obj):ins I b o b=some o:=by simp[ins]
def hL{o:Obj}(ag:I b=none):∀ c p,I c=some p->ins I b o c=some p:=by
 intro c p h;unfold ins;cases e:Nat.beq c b with
 |false=>exact h| true=>have:=dP e;subst this;rw[ag]at h;cases h
def ahu{x y:Int}(ad:g' x)(aE:g' y):G3 x y=((x.toNat &&& y.toNat:Nat):Int):=by
 obtain⟨x,rfl⟩:=eH ad.1;obtain⟨y,rfl⟩:=eH aE.1;have aa:x<18446744073709551616:=by have:=ad.2;omega
 have ab:y<18446744073709551616:=by have:=aE.2;omega
 have e:∀ z:Nat,z<18446744073709551616->(BitVec.ofInt 64 (z:Int)).toNat=z:=λz bb=>by rw[BitVec.toNat_ofInt];omega
 unfold G3;rw[Ky,e x aa,e y ab,WD]
 ·simp
 ·have:=Nat.and_le_left (n:=x) (m:=y);exact⟨by omega,by omega⟩
def zA(x:Int):Int:=G3 x (IntKind.u64.wrap (x-1))
def BR(n:Nat):Nat:=((List.range 64).filter n.testBit).length
def ahv(n:Nat):BR n<=64:=by have:=Bv n.testBit (List.range 64);simpa[BR]using this
def ahw{x:Int}(ad:g' x)(az:x≠0):g' (zA x)/\BR (zA x).toNat<BR x.toNat:=by
 obtain⟨n,rfl⟩:=eH ad.1;have aa:n<18446744073709551616:=by have:=ad.2;omega
 have oA:0<n:=by omega
 have ar:g' ((n:Int)-1):=⟨by omega,by omega⟩;have e:zA (n:Int)=((n &&& (n-1):Nat):Int):=by unfold zA;rw[WD ar,ahu ad ar];congr 2;omega
 have bm:n &&& (n-1)<=n-1:=Nat.and_le_right;refine⟨by rw[e];exact⟨by omega,by omega⟩,?_⟩;rw[e];simp only[g6];unfold BR;have kx:List.Sublist ((List.range 64).filter (n &&& (n-1)).testBit) ((List.range 64).filter n.testBit):=by
  have:(List.range 64).filter (n &&& (n-1)).testBit=((List.range 64).filter n.testBit).filter (n-1).testBit:=by rw[List.filter_filter];congr 1;funext i;rw[Nat.testBit_and,Bool.and_comm]
  rw[this];exact zv
 rcases Nat.lt_or_eq_of_le kx.length_le with h | h
 ·exact h
 ·exfalso;have sH:=kx.eq_of_length h;have:n &&& (n-1)=n:=by
   apply Nat.eq_of_testBit_eq;intro i;by_cases hi:i<64
   ·have hm:i∈(List.range 64).filter (n &&& (n-1)).testBit ↔ i∈(List.range 64).filter n.testBit:=by rw[sH]
    simp only[ja,g7,hi,true_and]at hm;cases aa:(n &&& (n-1)).testBit i<;>cases ab:n.testBit i<;>simp_all
   ·have ab:2^64<=2^i:=Nat.pow_le_pow_right (by omega) (by omega);rw[Nat.testBit_lt_two_pow (by omega),Nat.testBit_lt_two_pow (by omega)]
  omega
def byteOf(ax:List Int)(i:Nat)(w:Int):UInt8:=UInt8.ofNat (IntKind.u8.wrap ((i:Int)*64+uP ax w)).toNat
def ahx(ax:List Int)(i:Nat)(w:Int):((byteOf ax i w).toNat:Int)=IntKind.u8.wrap ((i:Int)*64+uP ax w):=by have:=wrap_u8 ((i:Int)*64+uP ax w);unfold byteOf;rw[UInt8.toNat_ofNat'];omega
def uQ(ax:List Int)(i:Nat):Nat->Int->List UInt8
 |0,_=>[]| f+1,w=>bif decide (w=0)then []else byteOf ax i w::uQ ax i f (zA w)
def jf(ax:List Int):Nat->List Int->List UInt8
 |_,[]=>[]| i,w::ws=>uQ ax i 64 w++jf ax (i+1) ws
def WE(ax:List Int)(i:Nat):∀ f w,(uQ ax i f w).length<=f
 |0,_=>by simp[uQ]
 |f+1,w=>by
  unfold uQ;have:=WE ax i f (zA w);cases decide (w=0)<;>simp
  exact this
def Ps(ax:List Int):∀ ws i,(jf ax i ws).length<=64*ws.length
 |[],_=>by simp[jf]
 |w::ws,i=>by have aa:=WE ax i 64 w;have ab:=Ps ax ws (i+1);simp only[jf,ch,dx];omega
def tE(l:List UInt8):List (List Value):=l.map λc=>[.int .u8 c.toNat]
def D7(a b c d:Int):List Value:=[.int .u64 a,.int .u64 b,.int .u64 c,.int .u64 d]
def ahy(a b c d:Int):Spec Tryz.prog 300 [.agg #[.int .u64 a,.int .u64 b,.int .u64 c,.int .u64 d]] I [] λr I' M'=>∃ g,r=.func (.func 314) #[] #[ptr g]/\I' g=some (.cells (D7 a b c d).toArray 64 (0,0))/\(∀ b o,I b=some o->I' b=some o)/\M'=[]:=by refine cb [1] a6 Tryz.func300 rfl rfl rfl ?_;intro B az;refine bX.mk λg au BO=>?_;exact⟨_,_,.kN rfl (by simp) .refl,g,rfl,mo ..,hL au,rfl⟩
def ahz(BS:sG I ax){a b c d:Int}(sI:∀ x∈[a,b,c,d],g' x)(au:I g=some (.cells (D7 a b c d).toArray 64 (0,0))) :
  Iter Tryz.prog 314 [ptr g] I (tE (jf ax 0 [a,b,c,d])):=by
 intro l R kS qx dn M0 lr iA;refine za [] a6 Tryz.func314 rfl rfl rfl ?_;intro B az;have bl:∀ (I1:aJ) (M:List aD),(∀ b o,I b=some o->I1 b=some o)->cF I1 M ⟨g,0,none⟩ 4 (D7 a b c d):=λI1 M h=>⟨rfl,_,_,_,.inl (h _ _ au),rfl,rfl⟩;refine aM.mk _ (bl _ _ lr) ?_;refine di.inv (ι:=Nat×Nat×aJ×List aD) (λx=>{ bi:=[(0,.val (.func (.yield l) #[] #[])),(5,.val (.agg (D7 a b c d).toArray)),(6,.val (.int .i64 x.1))],cD:=x.2.2.1,c0:=x.2.2.2 }) (λx=>x.1<=4/\(∀ b o,I b=some o->x.2.2.1 b=some o)/\R x.2.1 x.2.2.1 x.2.2.2/\x.2.1<=(jf ax 0 [a,b,c,d]).length/\(jf ax 0 [a,b,c,d]).drop x.2.1=jf ax x.1 ([a,b,c,d].drop x.1)) (λx=>4-x.1) ?_ ?_
 ·exact⟨(0,0,dn,M0),⟨by simp,lr,iA,by simp,rfl⟩,.refl,hl,.nil⟩
 ·rintro⟨i,k,I1,M1⟩⟨hi,cH,g4,cA,ha⟩;simp only at hi cH g4 cA ha;refine a2.mk (λh=>?_) (λh=>?_)
  ·have aX:i<4:=by simp at h;omega
   have cj:i < [a,b,c,d].length:=aX;refine eG.mk i rfl aX ?_;have tF:pack false ((((D7 a b c d).toArray).toList.drop (i*1)).take 1)=.int .u64 [a,b,c,d][i]:=by
    match i,aX with
    |0,_=>rfl| 1,_=>rfl| 2,_=>rfl| 3,_=>rfl
   have j8:[a,b,c,d].drop i=[a,b,c,d][i]::[a,b,c,d].drop (i+1):=eV cj;refine di.inv (ι:=Int×Nat×Nat×aJ×List aD) (λx=>{ bi:=[(0,.val (.func (.yield l) #[] #[])),(3,.val (.int .i64 i)),(4,.val (.int .u64 x.1)),(5,.val (.agg (D7 a b c d).toArray)),(6,.val (.int .i64 i))],cD:=x.2.2.2.1,c0:=x.2.2.2.2 }) (λx=>g' x.1/\BR x.1.toNat<=x.2.1/\(∀ b o,I b=some o->x.2.2.2.1 b=some o)/\R x.2.2.1 x.2.2.2.1 x.2.2.2.2/\x.2.2.1<=(jf ax 0 [a,b,c,d]).length/\(jf ax 0 [a,b,c,d]).drop x.2.2.1=uQ ax i x.2.1 x.1++jf ax (i+1) ([a,b,c,d].drop (i+1))) (λx=>BR x.1.toNat) ?_ ?_
   ·refine⟨([a,b,c,d][i],64,k,I1,M1),⟨sI _ (br cj),ahv _,cH,g4,cA,?_⟩,.refl,.cons .refl (.cons .refl (.cons ?_ (xH))),.nil⟩
    ·simp only;rw[ha,j8];rfl
    ·simp only;rw[<-tF];exact .refl
   ·rintro⟨w,f,k,I1,M1⟩⟨hw,aA,cH,g4,cA,ha⟩;simp only at hw aA cH g4 cA ha;refine a2.mk (λh=>?_) (λh=>?_)
    ·have KJ:w≠0:=by simpa using h
     obtain⟨kX,iE⟩:=ahw hw KJ;obtain⟨f,rfl⟩:∃ uR,f=uR+1:=⟨f-1,by omega⟩;have ag:uQ ax i (f+1) w=byteOf ax i w::uQ ax i f (zA w):=by simp[uQ,KJ]
     rw[ag,m4]at ha;have ae:k<(jf ax 0 [a,b,c,d]).length:=by apply Kz;intro bm;rw[kr bm]at ha;cases ha
     have hK:=eV ae;rw[ha]at hK;obtain⟨tG,eN⟩:=List.cons.inj hK;have jg:k<(tE (jf ax 0 [a,b,c,d])).length:=by simpa[tE]using ae
     have ah:(tE (jf ax 0 [a,b,c,d]))[k]=[.int .u8 (IntKind.u8.wrap ((i:Int)*64+uP ax w))]:=by simp only[tE,f',<-tG,ahx]
     have mq:sG I1 ax:=by obtain⟨dF,eJ,T,al,eF⟩:=BS;exact⟨dF,eJ,T,al,cH _ _ eF⟩
     have auS:=ahp mq w;refine bg.mk ((i:Int)*64) (wrap_i64 ⟨by omega,by omega⟩) ?_;refine be.mk [] M1 _ (.refl _) (ahq mq w) ?_;rintro v I' M' -⟨rfl,rfl,rfl⟩;refine bg.mk ((i:Int)*64+uP ax w) (wrap_i64 ⟨by omega,by omega⟩) ?_;refine bg.mk _ rfl ?_;refine bz.yield rfl (by simp) rfl rfl ?_;have aE:=qx k jg I' M1 cH g4;rw[ah]at aE;refine zm.mk M1 [] _ (by simp) aE ?_;rintro v dI dq e4 (⟨rfl,ll⟩ | ⟨rfl,ad⟩);·refine a2.mk (λh=>by simp at h) (λ_=>?_);refine bg.mk _ rfl ?_;exact⟨(zA w,f,k+1,dI,dq),⟨⟨kX,by simp only;omega,λb o h=>e4 b o (cH b o h),ll,ae,eN.symm⟩,by simp only;exact iE⟩,.perm (by simp) .refl,hn,.nil⟩
     ·refine a2.mk (λ_=>?_) (λh=>by simp at h);exact⟨_,_,.perm (by simp) .refl,.inr ad⟩
    ·have KJ:w=0:=by simpa using h
     have fQ:IntKind.i64.wrap ((i:Int)+1)=((i+1:Nat):Int):=by rw[wrap_i64 ⟨by omega,by omega⟩];omega
     refine bg.mk _ fQ ?_;have ag:uQ ax i f w=[]:=by cases f<;>simp[uQ,KJ]
     rw[ag,iz]at ha;exact⟨(i+1,k,I1,M1),⟨⟨by simp only;omega,cH,g4,cA,ha⟩,by simp only;omega⟩,.refl,hl,.nil⟩
  ·have kp:i=4:=by simp at h;omega
   subst kp;refine⟨_,_,.refl,.inl ?_⟩;have oG:(jf ax 0 [a,b,c,d]).drop k=[]:=by rw[ha];rfl
   have xZ:k=(tE (jf ax 0 [a,b,c,d])).length:=by have:=DX.1 oG;simp only[tE,bI];omega
   rw[<-xZ];exact g4
def uS(l:List (UInt8×UInt8))(b:UInt8):List (UInt8×UInt8):=match l.getLast? with
 |some p=>bif decide ((p.2.toNat:Int)+1=b.toNat)then l.dropLast++[(p.1,b)]else l++[(b,b)]| none=>[(b,b)]
def pG(l:List UInt8):List (UInt8×UInt8):=l.foldl uS []
def j'(p:UInt8×UInt8):List Value:=[.int .u8 p.1.toNat,.int .u8 p.2.toNat]
def pH(l:List (UInt8×UInt8)):List Value:=l.flatMap j'
def KK(l:List (UInt8×UInt8)):(pH l).length=l.length*2:=iQ j' 2 (λ_=>rfl) l
def ahA(l:List (UInt8×UInt8))(b:UInt8):(uS l b).length<=l.length+1:=by
 unfold uS;split
 ·rename_i p h;cases decide ((p.2.toNat:Int)+1=b.toNat)<;>simp
 ·simp
def WG(l:List UInt8):(pG l).length<=l.length:=by
 have:∀ (l:List UInt8) (a5:List (UInt8×UInt8)),(l.foldl uS a5).length<=a5.length+l.length:=by
  intro l
  induction l with
  |nil=>intro a5;simp| cons b l aL=>intro a5;have aa:=aL (uS a5 b);have ab:=ahA a5 b;simp only[js,dx];omega
 simpa[pG]using this l []
def zB:((⟨b,0,none⟩:Addr).add i).add j=(⟨b,0,none⟩:Addr).add (i+j):=by rw[eP ⟨_,0,none⟩ rfl i,eP _ rfl j,eP _ rfl (i+j)];simp
def nF{M:List aD}(a':(⟨b,.cells cs.toArray T (0,0)⟩:aD)∈M)(h:cs[i+j]?=some v):cF I M (((⟨b,0,none⟩:Addr).add i).add j) 1 [v]:=by obtain⟨ay,rfl⟩:=ia.1 h;have:=c4 (I:=I) a' (k:=i+j) (n:=1) (by omega);rw[eV ay,qh,rl]at this;rw[zB];exact this
def WH(a9:List Value)(u v z:Value)(bj:List Value)(k:Nat)(ae:k=a9.length+1):cm (a9++([u,v]++bj)) k [z]=a9++([u,z]++bj):=by
 subst ae;unfold cm;have aG:(a9++([u,v]++bj)).take (a9.length+1)=a9++[u]:=by rw[show a9++([u,v]++bj)=(a9++[u])++(v::bj)from by simp];exact qu (by simp)
 have a7:(a9++([u,v]++bj)).drop (a9.length+1+[z].length)=bj:=by rw[show a9++([u,v]++bj)=(a9++[u,v])++bj from by simp];exact BN (by simp)
 rw[aG,a7];simp
def Pt{a0:List (UInt8×UInt8)}{x:UInt8}(bT:os.ok 2 (pH a0)){aT:List Value}(aa:aT.length=c*2)(ab:os.n+1<=c)(aj:c<=maxLen)(aI:aT.take ((os.n+1)*2)=pH a0++j' (x,x)) :
  aY.ok ⟨some g,os.n+1,c,aT⟩ 2 (pH (a0++[(x,x)])):=by
 have x0:pH (a0++[(x,x)])=pH a0++j' (x,x):=by simp[pH]
 have ay:=bT.len;refine⟨?_,(λh=>by cases h),λbQ rI=>⟨aa,ab,aj,by rw[x0];exact aI⟩⟩;rw[x0,ch,ay];simp[j'];omega
def ahB(l:List UInt8)(x:UInt8):pG (l++[x])=uS (pG l) x:=by simp[pG]
def ahC(BS:sG I ax){a b c d:Int}(sI:∀ x∈[a,b,c,d],g' x):Spec Tryz.prog 281 [.agg #[.int .u64 a,.int .u64 b,.int .u64 c,.int .u64 d]] I []
  λr I' M'=>(∀ b o,I b=some o->I' b=some o)/\∃ os:aY,r=os.val/\os.ok 2 (pH (pG (jf ax 0 [a,b,c,d])))/\M'=os.aq 344:=by
 refine cb [3] a6 Tryz.func281 rfl rfl rfl ?_;intro B az;refine bX.mk λg au BO=>?_;refine be.mk [] [⟨g,.cells #[.slice none 0 0] 342 (0,0)⟩] _ (.refl _) (ahy a b c d) ?_;rintro v I1 M1 -⟨a8,rfl,pI,cH,rfl⟩;have ahD:sG I1 ax:=by obtain⟨dF,eJ,T,al,eF⟩:=BS;exact⟨dF,eJ,T,al,cH _ _ eF⟩
 have cc:=Ps ax [a,b,c,d] 0;refine cV.range a6 rfl rfl rfl .refl (ahz ahD sI pI) (λvs h=>?_) (λk I' M'=>(∀ b o,I1 b=some o->I' b=some o)/\∃ os:aY,os.ok 2 (pH (pG ((jf ax 0 [a,b,c,d]).take k)))/\M'=⟨g,.cells #[os.val] 342 (0,0)⟩::os.aq 344) (λ_ _ _=>False) ⟨λ_ _ h=>h,⟨none,0,0,[]⟩,⟨rfl,λ_=>⟨rfl,rfl⟩,λg h=>by cases h⟩,rfl⟩ ?_ ?_ (λ_ _ _ _ h=>h.elim)
 ·obtain⟨c,_,rfl⟩:=cN.1 h;rfl
 ·rintro k ae I' M' -⟨jh,os,bT,rfl⟩l B az iO;have Pu:k<(jf ax 0 [a,b,c,d]).length:=by simpa[tE]using ae
  generalize auT:jf ax 0 [a,b,c,d]=L at *;generalize ad:L[k]=x;have ah:(tE L)[k]=[.int .u8 x.toNat]:=by simp[tE,ad]
  rw[ah];have m0:pG (L.take (k+1))=uS (pG (L.take k)) x:=by rw[gg Pu,ad,ahB]
  rw[m0];have fv:(pG (L.take k)).length<=256:=by have aa:=WG (L.take k);have ab:=BM k L;simp only[dx,fS]at cc;omega
  generalize ep:pG (L.take k)=a0 at *;have ij:=x.toNat_lt;obtain⟨x1,n,eU,aT⟩:=os;have aB:a0.length=n:=by have:=bT.len;rw[KK]at this;simp only at this;omega
  cases x1 with
  |none=>
   obtain⟨aG,a7⟩:=bT.nil rfl;simp only at aG a7;subst aG;subst a7;have rH:a0=[]:=iy aB;have iF:uS a0 x=a0++[(x,x)]:=by rw[rH];rfl
   refine aM.mk [.slice none 0 0] (c4 (cs:=[.slice none 0 0]) (k:=0) (n:=1) (T:=342) (.head _) (by simp)) ?_;refine bg.mk (-1) (by decide) ?_;refine ct.mk (λh=>by simp at h) (λ_=>?_);refine aM.mk [.slice none 0 0] (c4 (cs:=[.slice none 0 0]) (k:=0) (n:=1) (T:=342) (.head _) (by simp)) ?_;refine bX.mk λba kW WI=>?_;refine bz.append a6 rfl (by simp) (e:=344) rfl rfl rfl (⟨none,0,0,aT⟩:aY) bT rfl (m:=1) rfl (b8:=j' (x,x)) (by decide) (c4 (cs:=j' (x,x)) (k:=0) (n:=2) (T:=344) (.head _) (by simp[j'])) rfl (Mr:=[⟨ba,.cells (j' (x,x)).toArray 344 (0,0)⟩,⟨g,.cells #[.slice none 0 0] 342 (0,0)⟩]) (eI (l₁:=[_,_])) (by simp only[maxLen];omega) (by show(_+1)*2<=_;simp only;omega) ?_;intro dK c' hC dF eJ eF ik;refine b2.mk [⟨dK,.cells hC.toArray 344 (0,0)⟩,⟨ba,.cells (j' (x,x)).toArray 344 (0,0)⟩] [] _ _ rfl rfl (bJ rfl) rfl ?_;refine⟨_,_,.perm (M1:=[⟨ba,.cells (j' (x,x)).toArray 344 (0,0)⟩]++(⟨g,.cells #[aY.val ⟨some dK,(⟨none,0,0,aT⟩:aY).n+1,c',hC⟩] 342 (0,0)⟩::aY.aq ⟨some dK,(⟨none,0,0,aT⟩:aY).n+1,c',hC⟩ 344)) (eI (l₁:=[_]) (l₂:=[_,_])) (.sub (l' _ _) .refl),jh,⟨some dK,(⟨none,0,0,aT⟩:aY).n+1,c',hC⟩,?_,rfl⟩;rw[iF];exact Pt bT dF eJ eF ik
  |some cJ=>
   obtain⟨dX,mZ,kv,ey⟩:=bT.cap cJ rfl;simp only at dX mZ kv ey;refine aM.mk [.slice (some ⟨cJ,0,none⟩) n eU] (c4 (cs:=[.slice (some ⟨cJ,0,none⟩) n eU]) (k:=0) (n:=1) (T:=342) (.head _) (by simp)) ?_;refine bg.mk ((n:Int)-1) (wrap_i64 ⟨by omega,by omega⟩) ?_;refine ct.mk (λaa=>?_) (λaa=>?_)
   ·have oA:1<=n:=by simp at aa;omega
    obtain⟨uT,p,rfl⟩:∃ uT p,a0=uT++[p]:=by
     rcases wb a0 with h | ⟨r,p,h⟩;·subst h;simp at aB;omega
     ·exact⟨r,p,by simpa using h⟩
    have uK:uT.length=n-1:=by simp at aB;omega
    have gS:(pH uT).length=(n-1)*2:=by rw[KK,uK]
    obtain⟨bj,mr⟩:∃ bj,aT=pH uT++([.int .u8 p.1.toNat,.int .u8 p.2.toNat]++bj):=by refine⟨aT.drop (n*2),?_⟩;have ab:=rG (n*2) aT;rw[ey]at ab;rw[<-ab,BN (by rw[KK,aB])];simp[pH,j']
    have fc:aT[(n-1)*2+1*1]?=some (.int .u8 p.2.toNat):=by rw[mr,<-gS,m3 (by omega)];simp
    have jz:=p.2.toNat_lt;refine aM.mk [.slice (some ⟨cJ,0,none⟩) n eU] (c4 (cs:=[.slice (some ⟨cJ,0,none⟩) n eU]) (k:=0) (n:=1) (T:=342) (.head _) (by simp)) ?_;refine bd.mk ⟨cJ,0,none⟩ (n-1) rfl (by omega) (by omega) ?_;refine eG.mk 1 rfl (by decide) ?_;refine aM.mk [.int .u8 p.2.toNat] (nF (b:=cJ) (cs:=aT) (T:=344) (by simp[aY.aq]) fc) ?_;refine bg.mk (p.2.toNat:Int) (wrap_i64 ⟨by omega,by omega⟩) ?_;refine bg.mk ((p.2.toNat:Int)+1) (wrap_i64 ⟨by omega,by omega⟩) ?_;refine bg.mk (x.toNat:Int) (wrap_i64 ⟨by omega,by omega⟩) ?_;have iF:uS (uT++[p]) x=bif decide ((p.2.toNat:Int)+1=x.toNat)then uT++[(p.1,x)]else uT++[p]++[(x,x)]:=by simp[uS]
    refine a2.mk (λab=>?_) (λab=>?_)
    ·rw[ab]at iF;refine aM.mk [.slice (some ⟨cJ,0,none⟩) n eU] (c4 (cs:=[.slice (some ⟨cJ,0,none⟩) n eU]) (k:=0) (n:=1) (T:=342) (.head _) (by simp)) ?_;refine bd.mk ⟨cJ,0,none⟩ (n-1) rfl (by omega) (by omega) ?_;refine eG.mk 1 rfl (by decide) ?_;rw[zB];refine b2.add [⟨g,.cells #[.slice (some ⟨cJ,0,none⟩) n eU] 342 (0,0)⟩] [] aT.toArray _ rfl ?_ rfl ?_
     ·simp only[oC];show 0+((n-1)*2+1)+1<=_;omega
     ·refine⟨_,_,.refl,jh,⟨some cJ,n,eU,cm aT (0+((n-1)*2+1*1)) [.int .u8 x.toNat]⟩,?_,rfl⟩;have dL:cm aT (0+((n-1)*2+1*1)) [.int .u8 x.toNat]=pH uT++([.int .u8 p.1.toNat,.int .u8 x.toNat]++bj):=by rw[mr];exact WH _ _ _ _ _ _ (by omega)
      rw[iF,dL];have x0:pH (uT++[(p.1,x)])=pH uT++[.int .u8 p.1.toNat,.int .u8 x.toNat]:=by simp[pH,j']
      refine⟨?_,(λh=>by cases h),λbQ rI=>⟨?_,mZ,kv,?_⟩⟩;·simp only[b5];rw[x0,ch,gS];simp;omega
      ·simp only;rw[<-dX,mr];simp
      ·simp only[b5];rw[x0,<-dV];refine qu ?_;rw[ch,gS];simp;omega
    ·rw[ab]at iF;simp only[b']at iF;refine aM.mk [.slice (some ⟨cJ,0,none⟩) n eU] (c4 (cs:=[.slice (some ⟨cJ,0,none⟩) n eU]) (k:=0) (n:=1) (T:=342) (.head _) (by simp)) ?_;refine bX.mk λba kW WI=>?_;refine bz.append a6 rfl (by simp) (e:=344) rfl rfl rfl (⟨some cJ,n,eU,aT⟩:aY) bT rfl (m:=1) rfl (b8:=j' (x,x)) (by decide) (c4 (cs:=j' (x,x)) (k:=0) (n:=2) (T:=344) (.head _) (by simp[j'])) rfl (Mr:=[⟨ba,.cells (j' (x,x)).toArray 344 (0,0)⟩,⟨g,.cells #[.slice (some ⟨cJ,0,none⟩) n eU] 342 (0,0)⟩]) (eI (l₁:=[_,_])) (by simp only[maxLen];omega) (by show(_+1)*2<=_;simp only;omega) ?_;intro dK c' hC dF eJ eF ik;refine b2.mk [⟨dK,.cells hC.toArray 344 (0,0)⟩,⟨ba,.cells (j' (x,x)).toArray 344 (0,0)⟩] [] _ _ rfl rfl (bJ rfl) rfl ?_;refine⟨_,_,.perm (M1:=[⟨ba,.cells (j' (x,x)).toArray 344 (0,0)⟩]++(⟨g,.cells #[aY.val ⟨some dK,(⟨some cJ,n,eU,aT⟩:aY).n+1,c',hC⟩] 342 (0,0)⟩::aY.aq ⟨some dK,(⟨some cJ,n,eU,aT⟩:aY).n+1,c',hC⟩ 344)) (eI (l₁:=[_]) (l₂:=[_,_])) (.sub (l' _ _) .refl),jh,⟨some dK,(⟨some cJ,n,eU,aT⟩:aY).n+1,c',hC⟩,?_,rfl⟩;rw[iF];exact Pt bT dF eJ eF ik
   ·have uK:n=0:=by simp at aa;omega
    have rH:a0=[]:=iy (by omega);have iF:uS a0 x=a0++[(x,x)]:=by rw[rH];rfl
    refine aM.mk [.slice (some ⟨cJ,0,none⟩) n eU] (c4 (cs:=[.slice (some ⟨cJ,0,none⟩) n eU]) (k:=0) (n:=1) (T:=342) (.head _) (by simp)) ?_;refine bX.mk λba kW WI=>?_;refine bz.append a6 rfl (by simp) (e:=344) rfl rfl rfl (⟨some cJ,n,eU,aT⟩:aY) bT rfl (m:=1) rfl (b8:=j' (x,x)) (by decide) (c4 (cs:=j' (x,x)) (k:=0) (n:=2) (T:=344) (.head _) (by simp[j'])) rfl (Mr:=[⟨ba,.cells (j' (x,x)).toArray 344 (0,0)⟩,⟨g,.cells #[.slice (some ⟨cJ,0,none⟩) n eU] 342 (0,0)⟩]) (eI (l₁:=[_,_])) (by simp only[maxLen];omega) (by show(_+1)*2<=_;simp only;omega) ?_;intro dK c' hC dF eJ eF ik;refine b2.mk [⟨dK,.cells hC.toArray 344 (0,0)⟩,⟨ba,.cells (j' (x,x)).toArray 344 (0,0)⟩] [] _ _ rfl rfl (bJ rfl) rfl ?_;refine⟨_,_,.perm (M1:=[⟨ba,.cells (j' (x,x)).toArray 344 (0,0)⟩]++(⟨g,.cells #[aY.val ⟨some dK,(⟨some cJ,n,eU,aT⟩:aY).n+1,c',hC⟩] 342 (0,0)⟩::aY.aq ⟨some dK,(⟨some cJ,n,eU,aT⟩:aY).n+1,c',hC⟩ 344)) (eI (l₁:=[_]) (l₂:=[_,_])) (.sub (l' _ _) .refl),jh,⟨some dK,(⟨some cJ,n,eU,aT⟩:aY).n+1,c',hC⟩,?_,rfl⟩;rw[iF];exact Pt bT dF eJ eF ik
 ·rintro I' M' -⟨jh,os,bT,rfl⟩;refine aM.mk [os.val] (c4 (cs:=[os.val]) (k:=0) (n:=1) (T:=342) (.head _) (by simp)) ?_;refine⟨_,_,.sub (DV _ _) .refl,λb o h=>jh _ _ (cH _ _ h),os,rfl,?_,rfl⟩;have:(jf ax 0 [a,b,c,d]).take (tE (jf ax 0 [a,b,c,d])).length=jf ax 0 [a,b,c,d]:=fA (by simp[tE]);rw[this]at bT;exact bT
def aY.ok.row{M:List aD}{f:α->List Value}{size:Nat}(aA:∀ x,(f x).length=size)(az:0<size){l:List α}(h:os.ok size (l.flatMap f))(a':∀ x∈os.aq e,x∈M)(ai:j<l.length) :
  ∃ aS,os.a.map (λg=>(⟨g,0,none⟩:Addr))=some aS/\cF I M (aS.add (j*size)) size (f l[j]):=by
 have aB:l.length=os.n:=by have aa:=h.len;rw[iQ f size aA]at aa;exact Nat.eq_of_mul_eq_mul_right az aa
 cases a4:os.a with
 |none=>have:=(h.nil a4).1;omega
 |some g=>
  obtain⟨aa,ab,aj,aI⟩:=h.cap g a4;refine⟨⟨g,0,none⟩,rfl,?_⟩;have bm:j*size+size<=os.n*size:=by have:=vK size (show j+1<=os.n by omega);rw[lO,oD]at this;exact this
  have dX:os.n*size<=os.aT.length:=by rw[aa];exact vK _ ab
  have:=c4 (I:=I) (M:=M) (b:=g) (T:=e) (cs:=os.aT) (a' _ (by simp[aY.aq,a4])) (k:=j*size) (n:=size) (by omega);have aG:(os.aT.drop (j*size)).take size=f l[j]:=by rw[<-DS f size aA l j ai,<-aI,Gx,Bw];congr 1;omega
  rw[aG]at this;exact this
def BT:ByteArray:=⟨#[34]⟩
def zC:ByteArray:=⟨#[93,45,94]⟩
def G4(s:ByteArray):List UInt8:=[34]++s.data.toList.flatMap (oM · BT)++[34]
def strOf(l:List UInt8):ByteArray:=⟨l.toArray⟩
def G5{α β:Type}(f:α->List β)(m:Nat)(aA:∀ x,(f x).length<=m):∀ l:List α,(l.flatMap f).length<=m*l.length
 |[]=>by simp
 |x::l=>by have aa:=G5 f m aA l;have ab:=aA x;simp only[j6,ch,dx,Nat.mul_add];omega
def WJ(s:ByteArray)(ar:s.size<=1099511627776):Spec Tryz.prog 259 [.string s] I [] λr I' M'=>r=.string (strOf (G4 s))/\I'=I/\M'=[]:=by
 refine cb [3] a6 Tryz.func259 rfl rfl rfl ?_;intro B az;refine bX.mk λb ag sB=>?_;refine be.mk (gl.new.M b) [] _ (.refl _) (pE b gl.KE 34 (by decide)) ?_;rintro v I' M' -⟨rfl,rfl,sy,gx,G6,rfl⟩;refine di.inv (ι:=Nat×gl) (λp=>{ bi:=[(0,.val (.string s)),(3,.val (ptr b)),(4,.val (.int .i64 p.1))],cD:=I',c0:=p.2.M b }) (λp=>p.1<=s.size/\p.2.ok/\p.2.bK=[34]++(s.data.toList.take p.1).flatMap (oM · BT)) (λp=>s.size-p.1) ?_ ?_
 ·exact⟨(0,sy),⟨by simp,gx,by simp[G6,gl.new]⟩,.perm (by simp) .refl,hl,.nil⟩
 ·rintro⟨i,x⟩⟨hi,ad,ky⟩;simp only at hi ad ky;have c2:x.bK.length<=1+4*i:=by rw[ky];have:=G5 (oM · BT) 4 (λc=>G1 c BT) (s.data.toList.take i);have ab:=BM i s.data.toList;simp only[ch,dx,fS];omega
  refine a2.mk (λh=>?_) (λh=>?_)
  ·have aX:i<s.size:=by simpa using h
   have cj:i<s.data.toList.length:=aX;refine Bc.mk i rfl aX ?_;refine be.mk (x.M b) [] _ (by simp) (KG b ad s[i] BT (by omega)) ?_;rintro v I' M' -⟨rfl,y,aE,g3,rfl⟩;have fQ:IntKind.i64.wrap ((i:Int)+1)=((i+1:Nat):Int):=by rw[wrap_i64 ⟨by omega,by omega⟩];omega
   refine bg.mk _ fQ ?_;refine⟨(i+1,y),⟨⟨by simp only;omega,aE,?_⟩,by simp only;omega⟩,.perm (by simp) .refl,hl,.nil⟩;simp only;rw[g3,ky,gg cj,hg,dV];congr 1;simp;rfl
  ·have cI:s.size<=i:=by simpa using h
   have gR:s.data.toList.take i=s.data.toList:=fA cI;refine be.mk (x.M b) [] _ (by simp) (pE b ad 34 (by omega)) ?_;rintro v I' M' -⟨rfl,rfl,y,aE,g3,rfl⟩;refine be.mk (y.M b) [] _ (by simp) (xW b aE (by rw[g3];simp;omega)) ?_;rintro v I' M' -⟨rfl,rfl,rfl⟩;refine⟨_,_,.refl,?_,rfl,by simp⟩;rw[g3,ky,gR];rfl
def uU(p:UInt8×UInt8):List UInt8:=
 oM p.1 zC++((bif decide (1<IntKind.u8.wrap ((p.2.toNat:Int)-p.1.toNat))then [45]else [])++(bif !decide ((p.2.toNat:Int)=p.1.toNat)then oM p.2 zC else []))
def BU(ax:List Int)(a b c d:Int):List UInt8:=
 bif (a == jy 0&&(b == jy 0&&(c == jy 0&&d == jy 0)))then [46]else [91]++(pG (jf ax 0 [a,b,c,d])).flatMap uU++[93]
def WK(p:UInt8×UInt8):(uU p).length<=9:=by
 have aa:=G1 p.1 zC;have ab:=G1 p.2 zC;unfold uU;cases decide (1<IntKind.u8.wrap ((p.2.toNat:Int)-p.1.toNat))<;>cases decide ((p.2.toNat:Int)=p.1.toNat)<;>simp<;>omega
def WL(ax:List Int)(a b c d:Int):(pG (jf ax 0 [a,b,c,d])).length<=256:=by have aa:=Ps ax [a,b,c,d] 0;have ab:=WG (jf ax 0 [a,b,c,d]);simp only[dx,fS]at aa;omega
def ahE(ax:List Int)(a b c d:Int):(BU ax a b c d).length<=2306:=by
 have aa:=WL ax a b c d;have ab:=G5 uU 9 WK (pG (jf ax 0 [a,b,c,d]));unfold BU;cases(a == jy 0&&(b == jy 0&&(c == jy 0&&d == jy 0)))
 ·simp only[b',ch,dx,fS];omega
 ·simp
def ahF(BS:sG I ax){a b c d:Int}(sI:∀ x∈[a,b,c,d],g' x):Spec Tryz.prog 260 [.agg #[.int .u64 a,.int .u64 b,.int .u64 c,.int .u64 d]] I []
  λr I' M'=>r=.string (strOf (BU ax a b c d))/\(∀ b o,I b=some o->I' b=some o)/\M'=[]:=by
 refine cb [3] a6 Tryz.func260 rfl rfl rfl ?_;intro B az;refine cV.draw a6 rfl rfl rfl ?_;refine d'.mk _ aht ?_;rintro v I' M' -⟨rfl,rfl,rfl⟩;refine gw.O3 a6 (e:=62) rfl rfl rfl rfl (by kernel_rfl) ?_;refine a2.mk (λh=>?_) (λh=>?_)
 ·refine⟨_,_,.refl,?_,λ_ _ h=>h,rfl⟩;simp only[BU,h];rfl
 ·refine bX.mk λg au BO=>?_;refine be.mk (gl.new.M g) [] _ (.refl _) (pE g gl.KE 91 (by decide)) ?_;rintro v I' M' -⟨rfl,rfl,sy,gx,G6,rfl⟩;refine be.mk [] (sy.M g) _ (by simp) (ahC BS sI) ?_;rintro v I1 M1 -⟨cH,os,rfl,bT,rfl⟩;have fv:=WL ax a b c d;have dX:BU ax a b c d=[91]++(pG (jf ax 0 [a,b,c,d])).flatMap uU++[93]:=by simp only[BU,h];rfl
  generalize ep:pG (jf ax 0 [a,b,c,d])=a0 at *;have aB:a0.length=os.n:=by have:=bT.len;rw[KK]at this;omega
  refine di.inv (ι:=Nat×gl) (λp=>{ bi:=[(3,.val (ptr g)),(11,.val os.val),(12,.val (.int .i64 os.n)),(13,.val (.int .i64 p.1))],cD:=I1,c0:=p.2.M g++os.aq 344 }) (λp=>p.1<=os.n/\p.2.ok/\p.2.bK=[91]++(a0.take p.1).flatMap uU) (λp=>os.n-p.1) ?_ ?_;·exact⟨(0,sy),⟨by simp,gx,by simp[G6,gl.new]⟩,.perm (by simpa using eI) .refl,ew,.nil⟩
  ·rintro⟨i,x⟩⟨hi,ad,ky⟩;simp only at hi ad ky;have c2:x.bK.length<=1+9*i:=by rw[ky];have:=G5 uU 9 WK (a0.take i);have ab:=BM i a0;simp only[ch,dx,fS];omega
   refine a2.mk (λh=>?_) (λh=>?_)
   ·have aX:i<os.n:=by simpa using h
    have cj:i<a0.length:=by omega
    obtain⟨aS,bH,bl⟩:=aY.ok.row (I:=I1) (M:=x.M g++os.aq 344) (f:=j') (λ_=>rfl) (by decide) bT (e:=344) (λy aE=>by simp[aE]) cj;refine bd.mk aS i bH rfl aX ?_;refine aM.mk _ bl ?_;generalize aC:a0[i]=p;refine eG.mk 0 rfl (by decide) ?_;refine be.mk (x.M g) (os.aq 344) _ (.refl _) (KG g ad p.1 zC (by omega)) ?_;rintro v I' M' -⟨rfl,y,aE,g3,rfl⟩;have KH:y.bK.length<=5+9*i:=by rw[g3,ch];have:=G1 p.1 zC;omega
    refine eG.mk 1 rfl (by decide) ?_;refine eG.mk 0 rfl (by decide) ?_;refine bg.mk _ rfl ?_;refine a2.mk (λeg=>?_) (λeg=>?_)
    ·refine be.mk (y.M g) (os.aq 344) _ (by simp) (pE g aE 45 (by omega)) ?_;rintro v I' M' -⟨rfl,rfl,u,hu,xY,rfl⟩;have zD:u.bK.length<=6+9*i:=by rw[xY];simp;omega
     refine eG.mk 1 rfl (by decide) ?_;refine eG.mk 0 rfl (by decide) ?_;refine a2.mk (λcy=>?_) (λcy=>?_)
     ·refine eG.mk 1 rfl (by decide) ?_;refine be.mk (u.M g) (os.aq 344) _ (by simp) (KG g hu p.2 zC (by omega)) ?_;rintro v I' M' -⟨rfl,z,bb,tC,rfl⟩;have fQ:IntKind.i64.wrap ((i:Int)+1)=((i+1:Nat):Int):=by rw[wrap_i64 ⟨by omega,by omega⟩];omega
      refine bg.mk _ fQ ?_;refine⟨(i+1,z),⟨⟨by simp only;omega,bb,?_⟩,by simp only;omega⟩,.perm (by simp) .refl,ew,.nil⟩;simp only;rw[tC,xY,g3,ky,gg cj,hg,aC];simp[uU,eg,cy]
     ·have fQ:IntKind.i64.wrap ((i:Int)+1)=((i+1:Nat):Int):=by rw[wrap_i64 ⟨by omega,by omega⟩];omega
      refine bg.mk _ fQ ?_;refine⟨(i+1,u),⟨⟨by simp only;omega,hu,?_⟩,by simp only;omega⟩,.perm (by simp) .refl,ew,.nil⟩;simp only;rw[xY,g3,ky,gg cj,hg,aC];simp[uU,eg,cy]
    ·refine eG.mk 1 rfl (by decide) ?_;refine eG.mk 0 rfl (by decide) ?_;refine a2.mk (λcy=>?_) (λcy=>?_)
     ·refine eG.mk 1 rfl (by decide) ?_;refine be.mk (y.M g) (os.aq 344) _ (by simp) (KG g aE p.2 zC (by omega)) ?_;rintro v I' M' -⟨rfl,z,bb,tC,rfl⟩;have fQ:IntKind.i64.wrap ((i:Int)+1)=((i+1:Nat):Int):=by rw[wrap_i64 ⟨by omega,by omega⟩];omega
      refine bg.mk _ fQ ?_;refine⟨(i+1,z),⟨⟨by simp only;omega,bb,?_⟩,by simp only;omega⟩,.perm (by simp) .refl,ew,.nil⟩;simp only;rw[tC,g3,ky,gg cj,hg,aC];simp[uU,eg,cy]
     ·have fQ:IntKind.i64.wrap ((i:Int)+1)=((i+1:Nat):Int):=by rw[wrap_i64 ⟨by omega,by omega⟩];omega
      refine bg.mk _ fQ ?_;refine⟨(i+1,y),⟨⟨by simp only;omega,aE,?_⟩,by simp only;omega⟩,.perm (by simp) .refl,ew,.nil⟩;simp only;rw[g3,ky,gg cj,hg,aC];simp[uU,eg,cy]
   ·have cI:os.n<=i:=by simpa using h
    have gR:a0.take i=a0:=fA (by omega);refine be.mk (x.M g) (os.aq 344) _ (.refl _) (pE g ad 93 (by omega)) ?_;rintro v I' M' -⟨rfl,rfl,y,aE,g3,rfl⟩;refine be.mk (y.M g) (os.aq 344) _ (.refl _) (xW g aE (by rw[g3];simp;omega)) ?_;rintro v I' M' -⟨rfl,rfl,rfl⟩;refine⟨_,_,.sub (fO _) .refl,?_,cH,rfl⟩;rw[g3,ky,gR,dX];rfl
structure KL(d:ao):Prop where
 k:d.k<10
 t:d.t.size<=255
 G7:d.k=6->0<=d.lo/\d.lo<=99/\(d.hi=-1\/(d.lo<=d.hi/\d.hi<=99))
def Pv{d:ao}{n:Int}(h:fits d n=true):KL d:=by
 unfold fits at h;cases aa:decide (10<=d.k)with
 |true=>rw[aa]at h;cases h
 |false=>
  rw[aa]at h;simp only[b']at h;have ae:d.k<10:=by simpa using aa
  cases ab:(decide (n<uN d.k.toNat)||(decide (0<=sC d.k.toNat)&&decide (sC d.k.toNat<n)))with
  |true=>rw[ab]at h;cases h
  |false=>
   rw[ab]at h;simp only[b']at h;have db:d.t=⟨#[]⟩->d.t.size<=255:=λe=>by rw[e];decide
   cases aj:decide (d.k=1)with
   |true=>rw[aj]at h;simp only[b5,cz,hV]at h;exact⟨ae,db h.1,λe=>by simp at aj;omega⟩
   |false=>
    rw[aj]at h;simp only[b']at h;cases aI:decide (d.k=2)with
    |true=>rw[aI]at h;simp only[b5,cz,to,sF,ss]at h;exact⟨ae,by omega,λe=>by simp at aI;omega⟩
    |false=>
     rw[aI]at h;simp only[b']at h;cases bB:(decide (d.k=3)||decide (d.k=9))with
     |true=>rw[bB]at h;simp only[b5,cz]at h;refine⟨ae,?_,λe=>by simp at bB;omega⟩;have:=h.1;unfold nD at this;simp only[cz,hV]at this;omega
     |false=>
      rw[bB]at h;simp only[b']at h;cases b4:decide (d.k=6)with
      |true=>
       rw[b4]at h;simp only[b5,cz,hV,to,sF,ss,Bool.and_eq_false_iff]at h;refine⟨ae,db h.2.2,λ_=>?_⟩;obtain⟨⟨a8,ba,bQ⟩,_⟩:=h;refine⟨by omega,by omega,?_⟩;rcases bQ with bQ | bQ
       ·left
        simpa using bQ
       ·right
        omega
      |false=>rw[b4]at h;simp only[b',cz,hV]at h;exact⟨ae,db h.2.1,λe=>by simp at b4;omega⟩
def G8:List Value:=[.int .i64 0,.int .i64 1,.string ⟨#[63]⟩,.int .i64 0,.int .i64 (-1),.string ⟨#[42]⟩,.int .i64 1,.int .i64 (-1),.string ⟨#[43]⟩]
def Pw(I:aJ):Prop:=∃ T al,I 2=some (.cells G8.toArray T al)
def BV(lo:Nat)(hi:Int):List UInt8:=
 bif decide (hi=lo)then [123]++nE lo++[125]else
 bif decide (hi=-1)then [123]++nE lo++[44,125]else [123]++nE lo++[44]++nE hi.toNat++[125]
def tH(lo:Nat)(hi:Int):List UInt8:=
 bif decide ((0:Int)=lo)&&decide (1=hi)then [63]else
 bif decide ((0:Int)=lo)&&decide (-1=hi)then [42]else
 bif decide ((1:Int)=lo)&&decide (-1=hi)then [43]else BV lo hi
def ahG(lo:Nat)(hi:Int):(BV lo hi).length<=7:=by
 have aa:=G2 lo;have ab:=G2 hi.toNat;unfold BV;cases decide (hi=lo)<;>cases decide (hi=-1)<;>simp<;>omega
def ahH(lo:Nat)(hi:Int):(tH lo hi).length<=7:=by
 have aa:=ahG lo hi;unfold tH;cases(decide ((0:Int)=lo)&&decide (1=hi))<;>cases(decide ((0:Int)=lo)&&decide (-1=hi))<;>cases(decide ((1:Int)=lo)&&decide (-1=hi))<;>simp<;>omega
def WM(n:Nat):(zz n).size<=2:=G2 n
def qy(lo hi:Int):ao:=⟨6,0,0,0,0,⟨#[]⟩,lo,hi,none,0,0,[]⟩
def ahI{lo:Nat}{hi:Int}(eS:lo<=99)(gB:hi=-1\/((lo:Int)<=hi/\hi<=99)):fits (qy lo hi) 1=true:=by
 have aG:uN 6=1:=by decide
 have a7:sC 6=1:=by decide
 rcases gB with rfl | ⟨aa,ab⟩
 ·simp[fits,qy,aG,a7,ao.rC];exact⟨et (by omega),et (by omega)⟩
 ·simp[fits,qy,aG,a7,ao.rC];exact⟨et (by omega),et (by omega),.inr ⟨et (by omega),et (by omega)⟩⟩
def ahJ(a b:List UInt8):strOf a++strOf b=strOf (a++b):=by apply D5;simp[strOf]
def gw.zE{t:Nat}{a b:List UInt8}(ar:a.length+b.length<=9223372036854775807){V:Value->Prop}{other:Prop}(h:V (.string (strOf (a++b)))):gw P .add t x y (.val (.string (strOf a))) (.val (.string (strOf b))) V other:=
 gw.concat (a:=strOf a) (b:=strOf b) ar (by rw[ahJ];exact h)
def ahK(an:m1 I)(aC:Pw I)(lo:Nat)(hi:Int)(eS:lo<=99)(gB:hi=-1\/((lo:Int)<=hi/\hi<=99)):Spec Tryz.prog 261 [.int .i64 lo,.int .i64 hi] I []
  λr I' M'=>r=.string (strOf (tH lo hi))/\I'=I/\M'=[]:=by
 refine cb [] a6 Tryz.func261 rfl rfl rfl ?_;intro B az;have bx:(qy lo hi).ok I:=⟨by simp[qy],by simp[qy,g'],by simp[qy,g'],by simp[qy,g'],by simp[qy,g'],by show(0:Nat)<=_;omega,⟨by simp only[qy];omega,by simp only[qy];omega⟩,⟨by simp only[qy];omega,by simp only[qy];omega⟩,⟨rfl,⟨ca _,by simp[qy]⟩,.inl rfl⟩,by simp[qy]⟩;refine be.mk [] [] _ (.refl _) (Wj an bx 1) ?_;rintro v I' M' -⟨rfl,rfl,rfl⟩;rw[ahI eS gB];refine a2.mk (λh=>by cases h) (λ_=>?_);have bl:cF I' ([]++[]) ⟨2,0,none⟩ 9 G8:=by obtain⟨T,al,aC⟩:=aC;exact⟨rfl,_,T,al,.inl aC,rfl,rfl⟩
 refine aM.mk _ bl ?_;refine di.inv (ι:=Nat) (λi=>{ bi:=[(0,.val (.int .i64 lo)),(1,.val (.int .i64 hi)),(12,.val (.agg G8.toArray)),(13,.val (.int .i64 i))],cD:=I' }) (λi=>i<=3/\(1<=i->(decide ((0:Int)=lo)&&decide (1=hi))=false)/\(2<=i->(decide ((0:Int)=lo)&&decide (-1=hi))=false)/\(3<=i->(decide ((1:Int)=lo)&&decide (-1=hi))=false)) (λi=>3-i) ?_ ?_
 ·exact⟨0,⟨by simp,by simp,by simp,by simp⟩,.refl,ew,.nil⟩
 ·rintro i⟨iw,c5,m2,G9⟩
  match i,iw with
  |0,_=>
   refine a2.mk (λ_=>?_) (λh=>by simp at h);refine eG.mk 0 rfl (by decide) ?_;have next:(decide ((0:Int)=lo)&&decide (1=hi))=false->(((0+1:Nat)<=3/\(1<=(0+1:Nat)->(decide ((0:Int)=lo)&&decide (1=hi))=false)/\(2<=(0+1:Nat)->(decide ((0:Int)=lo)&&decide (-1=hi))=false)/\(3<=(0+1:Nat)->(decide ((1:Int)=lo)&&decide (-1=hi))=false))/\3-(0+1)<3-0):=λh=>by
    refine⟨⟨by simp,λ_=>?_,λcS=>?_,λcS=>?_⟩,by simp⟩;·exact h
    ·simp at cS
    ·simp at cS
   refine ct.mk (λa8=>?_) (λa8=>?_)
   ·refine a2.mk (λba=>?_) (λba=>?_)
    ·refine⟨_,_,.refl,?_,rfl,rfl⟩;have:tH lo hi=[63]:=by unfold tH;rw[a8,ba];rfl
     rw[this];rfl
    ·refine bg.mk 1 (by decide) ?_;exact⟨1,next (by rw[a8,ba];rfl),.refl,ew,.nil⟩
   ·refine bg.mk 1 (by decide) ?_;exact⟨1,next (by rw[a8];rfl),.refl,ew,.nil⟩
  |1,_=>
   refine a2.mk (λ_=>?_) (λh=>by simp at h);refine eG.mk 1 rfl (by decide) ?_;have next:(decide ((0:Int)=lo)&&decide (-1=hi))=false->(((1+1:Nat)<=3/\(1<=(1+1:Nat)->(decide ((0:Int)=lo)&&decide (1=hi))=false)/\(2<=(1+1:Nat)->(decide ((0:Int)=lo)&&decide (-1=hi))=false)/\(3<=(1+1:Nat)->(decide ((1:Int)=lo)&&decide (-1=hi))=false))/\3-(1+1)<3-1):=λh=>by
    refine⟨⟨by simp,λ_=>?_,λcS=>?_,λcS=>?_⟩,by simp⟩;·exact c5 (by decide)
    ·exact h
    ·simp at cS
   refine ct.mk (λa8=>?_) (λa8=>?_)
   ·refine a2.mk (λba=>?_) (λba=>?_)
    ·refine⟨_,_,.refl,?_,rfl,rfl⟩;have:tH lo hi=[42]:=by unfold tH;rw[c5 (by decide),a8,ba];rfl
     rw[this];rfl
    ·refine bg.mk 2 (by decide) ?_;exact⟨2,next (by rw[a8,ba];rfl),.refl,ew,.nil⟩
   ·refine bg.mk 2 (by decide) ?_;exact⟨2,next (by rw[a8];rfl),.refl,ew,.nil⟩
  |2,_=>
   refine a2.mk (λ_=>?_) (λh=>by simp at h);refine eG.mk 2 rfl (by decide) ?_;have next:(decide ((1:Int)=lo)&&decide (-1=hi))=false->(((2+1:Nat)<=3/\(1<=(2+1:Nat)->(decide ((0:Int)=lo)&&decide (1=hi))=false)/\(2<=(2+1:Nat)->(decide ((0:Int)=lo)&&decide (-1=hi))=false)/\(3<=(2+1:Nat)->(decide ((1:Int)=lo)&&decide (-1=hi))=false))/\3-(2+1)<3-2):=λh=>by
    refine⟨⟨by simp,λ_=>?_,λcS=>?_,λcS=>?_⟩,by simp⟩;·exact c5 (by decide)
    ·exact m2 (by decide)
    ·exact h
   refine ct.mk (λa8=>?_) (λa8=>?_)
   ·refine a2.mk (λba=>?_) (λba=>?_)
    ·refine⟨_,_,.refl,?_,rfl,rfl⟩;have:tH lo hi=[43]:=by unfold tH;rw[c5 (by decide),m2 (by decide),a8,ba];rfl
     rw[this];rfl
    ·refine bg.mk 3 (by decide) ?_;exact⟨3,next (by rw[a8,ba];rfl),.refl,ew,.nil⟩
   ·refine bg.mk 3 (by decide) ?_;exact⟨3,next (by rw[a8];rfl),.refl,ew,.nil⟩
  |3,_=>
   refine a2.mk (λh=>by simp at h) (λ_=>?_);have aG:=c5 (by decide);have a7:=m2 (by decide);have cn:=G9 (by decide);have jI:tH lo hi=BV lo hi:=by unfold tH;rw[aG,a7,cn];rfl
   rw[jI];have wg:=WM lo;have Bk:=WM hi.toNat;have wg:=G2 lo;refine a2.mk (λh=>?_) (λh=>?_);·refine be.mk [] [] _ (.refl _) (KI lo (by omega)) ?_;rintro v I' M' -⟨rfl,rfl,rfl⟩;refine gw.zE (a:=[123]) (b:=nE lo) (by simp;omega) ?_;refine gw.zE (a:=[123]++nE lo) (b:=[125]) (by simp;omega) ?_;refine⟨_,_,.refl,?_,rfl,rfl⟩;rw[BV,h];rfl
   ·refine a2.mk (λk=>?_) (λk=>?_)
    ·refine be.mk [] [] _ (.refl _) (KI lo (by omega)) ?_;rintro v I' M' -⟨rfl,rfl,rfl⟩;refine gw.zE (a:=[123]) (b:=nE lo) (by simp;omega) ?_;refine gw.zE (a:=[123]++nE lo) (b:=[44,125]) (by simp;omega) ?_;refine⟨_,_,.refl,?_,rfl,rfl⟩;rw[BV,h,k];rfl
    ·refine be.mk [] [] _ (.refl _) (KI lo (by omega)) ?_;rintro v I' M' -⟨rfl,rfl,rfl⟩;have ae:hi≠-1:=by simpa using k
     obtain⟨aB,rfl⟩:=eH (show 0<=hi by omega);have Bk:=G2 aB;refine gw.zE (a:=[123]) (b:=nE lo) (by simp;omega) ?_;refine gw.zE (a:=[123]++nE lo) (b:=[44]) (by simp;omega) ?_;refine be.mk [] [] _ (.refl _) (KI aB (by omega)) ?_;rintro v I' M' -⟨rfl,rfl,rfl⟩;refine gw.zE (a:=[123]++nE lo++[44]) (b:=nE aB) (by simp;omega) ?_;refine gw.zE (a:=[123]++nE lo++[44]++nE aB) (b:=[125]) (by simp;omega) ?_;refine⟨_,_,.refl,?_,rfl,rfl⟩;rw[BV,h,k];rfl
def uV:List (List UInt8):=[[],[],[],[],[],[],[],[],[],[],[],[],[],[32],[],[],[32,47,32],[],[],[],[],[38],[],[],[33],[],[],[60],[],[62]]
def sJ(j:Nat):List UInt8:=uV.getD j []
def G'(I:aJ):Prop:=∃ T al,I 1=some (.cells (uV.map λl=>Value.string (strOf l)).toArray T al)
def G'.rd(h:G' I)(M:List aD)(ai:i+j<30):cF I M ((Addr.add ⟨1,0,none⟩ i).add j) 1 [.string (strOf (sJ (i+j)))]:=by
 obtain⟨T,al,h⟩:=h;rw[zB,eP _ rfl];refine⟨rfl,_,T,al,.inl h,?_,rfl⟩;have aa:i+j<(uV.map λl=>Value.string (strOf l)).length:=by simp[uV];omega
 have ab:i+j<uV.length:=by simp[uV];omega
 simp only[c8];rw[eV aa,qh,rl];simp[sJ,bA,ab]
def Ha(j:Nat):(sJ j).length<=3:=by
 by_cases h:j<30
 ·have:∀ j:Fin 30,(sJ j.val).length<=3:=by decide
  exact this ⟨j,h⟩
 ·have:uV.length<=j:=by simp[uV];omega
  simp[sJ,bA,this]
def rJ(ax:List Int)(d:ao):List UInt8:=
 bif decide (d.k=0)||decide (d.k=2)then G4 d.t else
 bif decide (d.k=1)then BU ax d.cx d.s1 d.s2 d.c1 else
 bif decide (d.k=3)then d.t.data.toList else
 bif decide (d.k=9)then sJ 27++d.t.data.toList++[58,32]else sJ (d.k.toNat*3)
def pJ(d:ao):List UInt8:=bif decide (d.k=6)then tH d.lo.toNat d.hi else sJ (d.k.toNat*3+2)
def ahL(s:ByteArray):strOf s.data.toList=s:=D5 (by simp[strOf])
def Px(an:m1 I)(aC:Pw I)(D8:G' I){d:ao}(ak:d.ok I)(aA:KL d):Spec Tryz.prog 233 [d.val] I [] λr I' M'=>r=.string (strOf (pJ d))/\I'=I/\M'=[]:=by
 refine cb [] a6 Tryz.func233 rfl rfl rfl ?_;intro B az;refine a2.mk (λh=>?_) (λh=>?_)
 ·obtain⟨a8,ba,bQ⟩:=aA.G7 (by simpa using h);have aG:d.lo=((d.lo.toNat:Nat):Int):=by omega
  have nx:=ahK an aC d.lo.toNat d.hi (by omega) (by omega);rw[<-aG]at nx;refine be.mk [] [] _ (.refl _) nx ?_;rintro v I' M' -⟨rfl,rfl,rfl⟩;refine⟨_,_,.refl,?_,rfl,rfl⟩;simp only[pJ,h];rfl
 ·have ae:=ak.k;have tG:=aA.k;refine eG.mk d.k.toNat (by omega) (by omega) ?_;refine aM.mk _ (D8.rd _ (by show d.k.toNat*3+2<30;omega)) ?_;refine⟨_,_,.refl,?_,rfl,rfl⟩;simp only[pJ,h];rfl
def WN(BS:sG I ax)(D8:G' I){d:ao}(ak:d.ok I)(aA:KL d):Spec Tryz.prog 231 [d.val] I []
  λr I' M'=>r=.string (strOf (rJ ax d))/\(∀ b o,I b=some o->I' b=some o)/\M'=[]:=by
 refine cb [] a6 Tryz.func231 rfl rfl rfl ?_;intro B az;have ae:=ak.k;have tG:=aA.k;have av:=aA.t;have lit:(decide (d.k=0)||decide (d.k=2))=true->rJ ax d=G4 d.t:=λh=>by simp only[rJ,h];rfl
 refine a2.mk (λaa=>?_) (λaa=>?_)
 ·refine a2.mk (λ_=>?_) (λh=>by rw[aa]at h;cases h);refine be.mk [] [] _ (.refl _) (WJ d.t (by omega)) ?_;rintro v I' M' -⟨rfl,rfl,rfl⟩;refine⟨_,_,.refl,?_,λ_ _ h=>h,rfl⟩;rw[lit (by rw[aa];rfl)]
 ·refine a2.mk (λab=>?_) (λab=>?_)
  ·refine be.mk [] [] _ (.refl _) (WJ d.t (by omega)) ?_;rintro v I' M' -⟨rfl,rfl,rfl⟩;refine⟨_,_,.refl,?_,λ_ _ h=>h,rfl⟩;rw[lit (by rw[ab];simp)]
  ·refine a2.mk (λaj=>?_) (λaj=>?_)
   ·refine be.mk [] [] _ (.refl _) (ahF BS (a:=d.cx) (b:=d.s1) (c:=d.s2) (d:=d.c1) (λx ad=>by
     simp only[ec,List.not_mem_nil,or_false]at ad;rcases ad with rfl | rfl | rfl | rfl;·exact ak.cx
     ·exact ak.s1
     ·exact ak.s2
     ·exact ak.c1)) ?_
    rintro v I' M' -⟨rfl,bw,rfl⟩;refine⟨_,_,.refl,?_,bw,rfl⟩;simp only[rJ,aa,ab,aj];rfl
   ·refine a2.mk (λaI=>?_) (λaI=>?_)
    ·refine⟨_,_,.refl,?_,λ_ _ h=>h,rfl⟩;simp only[rJ,aa,ab,aj,aI];rw[<-ahL d.t];rfl
    ·refine a2.mk (λbB=>?_) (λbB=>?_)
     ·have ahM:d.k=9:=by simpa using bB
      refine cV.draw a6 rfl rfl rfl ?_;refine eG.mk 9 ahM (by decide) ?_;refine aM.mk _ (D8.rd _ (by decide)) ?_;have fq:(strOf (sJ 27)).size=1:=by decide
      refine gw.concat (a:=strOf (sJ 27)) (b:=d.t) (by omega) ?_;refine gw.concat (a:=strOf (sJ 27)++d.t) (b:=strOf [58,32]) (by rw[Ku];show _+2<=_;omega) ?_;refine⟨_,_,.refl,?_,λ_ _ h=>h,rfl⟩;simp only[rJ,aa,ab,aj,aI,bB];refine congrArg Value.string (D5 ?_);simp[strOf]
     ·refine eG.mk d.k.toNat (by omega) (by omega) ?_;refine aM.mk _ (D8.rd _ (by show d.k.toNat*3+0<30;omega)) ?_;refine⟨_,_,.refl,?_,λ_ _ h=>h,rfl⟩;simp only[rJ,aa,ab,aj,aI,bB];rfl
def iG(ns:List ao)(k:Int):Int:=(ns.map (·.k)).getD k.toNat 0
def paren(w:Bool)(s:List UInt8):List UInt8:=(bif w then [40]else [])++(s++(bif w then [41]else []))
def uW(sep:List UInt8)(f:Int->List UInt8):Bool->List Int->List UInt8
 |_,[]=>[]| b,k::ks=>(bif b then sep else [])++(f k++uW sep f true ks)
def D9(d:ao):List UInt8:=sJ (d.k.toNat*3+1)
def D'(ax:List Int)(ns:List ao)(d:ao)(g:Int->List UInt8):List UInt8:=
 rJ ax d++(uW (D9 d) (λk=>paren (hB d.k (iG ns k)) (g k)) false d.aw++pJ d)
def kY(ax:List Int)(ns:List ao):Int->List UInt8:=ml [] (D' ax ns) ns
def nG(ax:List Int)(t:bS):List UInt8:=bif right t then kY ax t.ns t.bn else []
def WO{sep:List UInt8}{f g:Int->List UInt8}:∀ {ks:List Int} {b:Bool},(∀ k∈ks,f k=g k)->uW sep f b ks=uW sep g b ks
 |[],b,_=>rfl| k::ks,b,h=>by unfold uW;rw[h k (by simp),WO λx ad=>h x (by simp[ad])]
def WQ(af:right t=true)(ai:j<t.ns.length):kY ax t.ns j=D' ax t.ns t.ns[j] (kY ax t.ns):=by refine D2 (λd g dK h=>?_) af ai;unfold D';rw[WO λk ae=>by rw[h k ae]]
def ahN(w:Bool)(s:List UInt8):(paren w s).length<=s.length+2:=by cases w<;>simp[paren]
def WR{sep:List UInt8}{f:Int->List UInt8}(ar:sep.length<=3){g:Int->Nat}(aA:∀ k,(f k).length+3<=g k):∀ {ks:List Int} {b:Bool},(uW sep f b ks).length<=g2 g ks
 |[],b=>by simp[uW,g2]
 |k::ks,b=>by
  have aa:=WR ar aA (ks:=ks) (b:=true);have ab:=aA k;unfold uW;simp only[ch,g2,b0,h4]at aa |-;cases b<;>simp<;>omega
def Py(ax:List Int){d:ao}(aA:KL d):(rJ ax d).length<=2400:=by
 have aa:(G4 d.t).length<=2+4*d.t.size:=by have:=G5 (oM · BT) 4 (λc=>G1 c BT) d.t.data.toList;have ab:d.t.data.toList.length=d.t.size:=rfl;simp only[G4,ch,dx,fS];omega
 have ab:=ahE ax d.cx d.s1 d.s2 d.c1;have aj:=aA.t;have aI:=Ha 27;have bB:=Ha (d.k.toNat*3);have b4:d.t.data.toList.length=d.t.size:=rfl;unfold rJ;cases(decide (d.k=0)||decide (d.k=2))<;>cases decide (d.k=1)<;>cases decide (d.k=3)<;>cases decide (d.k=9)<;>simp only[b5,b',ch,dx,fS]<;>omega
def KM(d:ao):(pJ d).length<=7:=by
 have aa:=ahH d.lo.toNat d.hi;have ab:=Ha (d.k.toNat*3+2);unfold pJ;cases decide (d.k=6)<;>simp only[b5,b']<;>omega
def KN{α:Type}(c:Nat):∀ l:List α,(l.map λ_=>c).sum=c*l.length
 |[]=>by simp
 |x::l=>by rw[b0,h4,KN c l,dx,Nat.mul_add];omega
def WS(af:right t=true):(kY ax t.ns t.bn).length+5<=2412*t.ns.length:=by
 have h:=Pn af (g:=λk=>(kY ax t.ns k).length+5) (c:=λ_=>2412) λj ai=>by rw[WQ af ai];have aa:=Py ax (Pv (D3 af ai));have ab:=KM t.ns[j];have aj:=WR (sep:=D9 t.ns[j]) (Ha _) (f:=λk=>paren (hB t.ns[j].k (iG t.ns k)) (kY ax t.ns k)) (g:=λk=>(kY ax t.ns k).length+5) (λk=>by have:=ahN (hB t.ns[j].k (iG t.ns k)) (kY ax t.ns k);omega) (ks:=t.ns[j].aw) (b:=false);unfold D';simp only[ch];omega
 rw[KN]at h;exact h
def WT(ax:List Int)(t:bS):(nG ax t).length<=2412*t.ns.length:=by
 unfold nG;cases af:right t with
 |false=>simp| true=>have:=WS (ax:=ax) af;simp only[b5];omega
abbrev Open:=Nat×Nat×Bool
def nH(e:Open):List Value:=[.int .i64 e.1,.int .i64 e.2.1,.bool e.2.2]
def nodeAt(ns:List ao)(j:Nat):ao:=ns.getD j ⟨0,0,0,0,0,.empty,0,0,none,0,0,[]⟩
def Pz(ax:List Int)(ns:List ao)(d:ao)(k:Int):List UInt8:=paren (hB d.k (iG ns k)) (kY ax ns k)
def oN(ax:List Int)(ns:List ao)(e:Open):List UInt8:=bif decide ((e.2.1:Int)=0)then(bif e.2.2 then [40]else [])++rJ ax (nodeAt ns e.1)else []
def uX(ax:List Int)(ns:List ao)(e:Open):List UInt8:=
 oN ax ns e++(uW (D9 (nodeAt ns e.1)) (Pz ax ns (nodeAt ns e.1)) (decide (0<(e.2.1:Int))) ((nodeAt ns e.1).aw.drop e.2.1)++(pJ (nodeAt ns e.1)++(bif e.2.2 then [41]else [])))
def zF(ns:List ao):Int->Nat:=ml 0 (λd g=>2+g2 g d.aw) ns
def n3(ns:List ao)(e:Open):Nat:=1+g2 (zF ns) ((nodeAt ns e.1).aw.drop e.2.1)
def wi(ns:List ao)(aZ:List Open):Nat:=(aZ.map (n3 ns)).sum
def uY(ax:List Int)(ns:List ao)(aZ:List Open):List UInt8:=aZ.reverse.flatMap (uX ax ns)
def BW(ax:List Int)(ns:List ao)(aZ:List Open)(e:Open):uY ax ns (aZ++[e])=uX ax ns e++uY ax ns aZ:=by simp[uY]
def sK(ns:List ao)(aZ:List Open)(e:Open):wi ns (aZ++[e])=wi ns aZ+n3 ns e:=by simp[wi]
def WU(ns:List ao):∀ aZ:List Open,aZ.length<=wi ns aZ
 |[]=>by simp
 |e::aZ=>by have:=WU ns aZ;simp only[wi,b0,h4,dx,n3]at this |-;omega
def gm{ns:List ao}(h:j<ns.length):nodeAt ns j=ns[j]:=by simp[nodeAt,bA,h]
def WV{g dK:Int->Nat}{ks:List Int}(h:∀ k∈ks,g k=dK k):g2 g ks=g2 dK ks:=by unfold g2;rw[fR h]
def WW(af:right t=true)(ai:j<t.ns.length):zF t.ns j=2+g2 (zF t.ns) t.ns[j].aw:=
 D2 (λd g dK h=>by rw[WV h]) af ai
def ahO(af:right t=true):zF t.ns t.bn<=2*t.ns.length:=by
 have:=Pn af (g:=zF t.ns) (c:=λ_=>2) λj ai=>by rw[WW af ai];exact ca _
 rwa [KN]at this
def WX(af:right t=true)(ai:j<t.ns.length)(w:Bool):uX ax t.ns (j,0,w)=paren w (kY ax t.ns j):=by rw[WQ af ai];simp only[uX,oN,gm ai];cases w<;>simp[paren,D',Pz]<;>rfl
def WY(af:right t=true)(ai:j<t.ns.length)(w:Bool):n3 t.ns (j,0,w)+1=zF t.ns j:=by rw[WW af ai];simp[n3,gm ai];omega
def PA(af:right t=true)(ai:j<t.ns.length)(hi:i<t.ns[j].aw.length) :
  uX ax t.ns (j,i,w)=oN ax t.ns (j,i,w)++((bif decide (0<(i:Int))then D9 t.ns[j]else [])++(uX ax t.ns (t.ns[j].aw[i].toNat,0,hB t.ns[j].k (iG t.ns t.ns[j].aw[i]))++uX ax t.ns (j,i+1,w))):=by
 have ae:=mj af j ai _ (br hi);rw[WX af (by omega)];have aG:(((t.ns[j].aw[i].toNat:Nat):Int))=t.ns[j].aw[i]:=zu ae.1;rw[aG];have ak:=eV hi;simp only[uX,gm ai];rw[ak];have a7:oN ax t.ns (j,i+1,w)=[]:=by have:decide (((i+1:Nat):Int)=0)=false:=et (by omega);simp only[oN,this,b']
 have cn:decide (0<((i+1:Nat):Int))=true:=e9 (by omega);rw[a7,cn];simp only[uW,Pz,dV,iz]
def PB(af:right t=true)(ai:j<t.ns.length){w':Bool}(hi:i<t.ns[j].aw.length):n3 t.ns (j,i+1,w)+n3 t.ns (t.ns[j].aw[i].toNat,0,w')+1=n3 t.ns (j,i,w):=by
 have ae:=mj af j ai _ (br hi);have aa:=WY af (j:=t.ns[j].aw[i].toNat) (by omega) w';have aG:(((t.ns[j].aw[i].toNat:Nat):Int))=t.ns[j].aw[i]:=zu ae.1;rw[aG]at aa;have ak:=eV hi;have cn:n3 t.ns (j,i,w)=1+g2 (zF t.ns) (t.ns[j].aw.drop i):=by simp[n3,gm ai]
 have dr:n3 t.ns (j,i+1,w)=1+g2 (zF t.ns) (t.ns[j].aw.drop (i+1)):=by simp[n3,gm ai]
 rw[cn,dr,ak];simp only[g2,b0,h4];omega
def PC(ai:j<t.ns.length)(hi:t.ns[j].aw.length<=i):uX ax t.ns (j,i,w)=oN ax t.ns (j,i,w)++(pJ t.ns[j]++(bif w then [41]else [])):=by simp only[uX,gm ai,kr hi];rfl
def Ea{d:Nat}{x:dA}(h:F d=x):fZ F d x=F:=by
 funext t;unfold fZ;cases e:Nat.beq t d with
 |false=>rfl| true=>have:=dP e;subst this;exact h.symm
def ahP{d:Nat}{x:Option (List Value)}(h:C d=x):jt C d x=C:=by
 funext t;unfold jt;cases e:Nat.beq t d with
 |false=>rfl| true=>have:=dP e;subst this;exact h.symm
def Eb:Code->Code
 | .scope c=>c
 | .seq a b=>match Eb a with
  | .skip=>Eb b| c=>c
 |_=>.skip
def KO(c:Code)(l:Nat):Code:=(findLabel c l).getD .skip
def b2.zB{M:List aD}{vs:List Value}{K:List aD->Prop}(a9 post:List aD)(cs:Array Value)(T:Nat)(a':M=a9++⟨b,.cells cs T (0,0)⟩::post)(ag:i+j+vs.length<=cs.size)(aa:gv vs=true)
  (h:K (a9++⟨b,.cells (cm cs.toList (i+j) vs).toArray T (0,0)⟩::post)):b2 M (((⟨b,0,none⟩:Addr).add i).add j) vs K:=by
 rw[Go.V.zB];refine b2.add a9 post cs T a' (by omega) aa ?_;rw[c8];exact h
structure ga(I:aJ)(ax:List Int):Prop where
 c:m1 I
 p:Pw I
 s:G' I
 d:sG I ax
def PD(a b c:α)(L:List α):(a::b::(L++[c])).Perm ([b,c]++(a::L)):=
 (List.Perm.swap b a _).trans (((((Kt c L).cons a)).trans (List.Perm.swap c a L)).cons b)
def PE(a9:List Value)(a b c z:Value)(bj:List Value):cm (a9++([a,b,c]++bj)) (a9.length+1) [z]=a9++([a,z,c]++bj):=by have:=WH a9 a b z (c::bj) _ rfl;exact this
def ga.mono{I':aJ}(h:ga I ax)(bw:∀ b o,I b=some o->I' b=some o):ga I' ax:=by obtain⟨⟨ahQ,f1,aa⟩,⟨BX,f2,ab⟩,⟨ahR,f3,aj⟩,⟨aI,bB,PF,f4,b4⟩⟩:=h;exact⟨⟨ahQ,f1,bw _ _ aa⟩,⟨BX,f2,bw _ _ ab⟩,⟨ahR,f3,bw _ _ aj⟩,⟨aI,bB,PF,f4,bw _ _ b4⟩⟩
def pK(aZ:List Open):List Value:=aZ.flatMap nH
def Hb(aZ:List Open):(pK aZ).length=aZ.length*3:=iQ nH 3 (λ_=>rfl) aZ
def BY(aZ:List Open)(e:Open):pK (aZ++[e])=pK aZ++[.int .i64 e.1,.int .i64 e.2.1,.bool e.2.2]:=by simp[pK,nH]
abbrev Hc:=gl×aY×List Open×aJ
def WZ(t:bS)(g:Nat)(x:Hc):vT:={ bi:=[(1,.ref 1 0),(3,.val (ptr g)),(4,.val x.2.1.val)],cl:=[(1,t.cells)],cD:=x.2.2.2,c0:=x.2.1.aq 285++x.1.M g }
structure KP(dn:aJ)(ax:List Int)(t:bS)(x:Hc):Prop where
 le:∀ b o,dn b=some o->x.2.2.2 b=some o
 ok:x.1.ok
 os:x.2.1.ok 3 (pK x.2.2.1)
 ne:x.2.2.1≠[]
 auU:∀ e∈x.2.2.1,e.1<t.ns.length
 auV:x.1.bK++uY ax t.ns x.2.2.1=kY ax t.ns t.bn
 Hd:wi t.ns x.2.2.1<=2*t.ns.length
def W0{dn:aJ}(bu:ga dn ax)(av:t.ok dn)(af:right t=true)(aB:t.n<=1024){p:Nat->Nat×Hc->Prop}(x:Hc)(ad:KP dn ax t x)(aC:∀ y,KP dn ax t y->wi t.ns y.2.2.1<wi t.ns x.2.2.1->p 0 (g,y))(B:Nat)(az:World)(G:Fr)(oO:dC) :
  V ⟨Tryz.prog,qs,[3],Tryz.f191.ntmps,B,az,dn,[],none⟩ (KO (Eb (Tryz.f191.body.getD .skip)) 0) (fZ (fZ (fZ G 4 (.val x.2.1.val)) 3 (.val (ptr g))) 1 (.ref 1 0)) (jt oO 1 (some t.cells)) x.2.2.2 (x.2.1.aq 285++x.1.M g)
   (Kj (λl=>pq [] (λy=>WZ t y.1 y.2) (p l)) (uD ⟨Tryz.prog,qs,[3],Tryz.f191.ntmps,B,az,dn,[],none⟩ Tryz.f191.results.toList
    (λr I' M'=>r=.string (strOf (kY ax t.ns t.bn))/\(∀ b o,dn b=some o->I' b=some o)/\M'=[]))):=by
 obtain⟨x,⟨x1,n,eU,aT⟩,aZ,I1⟩:=x;obtain⟨bm,He,bT,bt,fw,n4,rK⟩:=ad;simp only at bm He bT bt fw n4 rK aC |-;have jA:=bu.mono bm;have BZ:=av.mono bm;have ry:=av.n;obtain⟨h5,⟨j,i,w⟩,rfl⟩:∃ h5 e,aZ=h5++[e]:=by
  rcases wb aZ with h | ⟨r,e,h⟩;·exact(bt h).elim
  ·exact⟨r,e,by simpa using h⟩
 have e5:h5.length+1=n:=by have aa:=bT.len;rw[Hb]at aa;simp at aa;omega
 have ai:j<t.ns.length:=fw (j,i,w) (by simp);have ix:j<t.n:=by omega
 cases x1 with
 |none=>have:=(bT.nil rfl).1;simp only at this;omega| some cJ=>
 obtain⟨dX,mZ,kv,ey⟩:=bT.cap cJ rfl;simp only at dX mZ kv ey;have gS:(pK h5).length=(n-1)*3:=by rw[Hb];omega
 obtain⟨bj,mr⟩:∃ bj,aT=pK h5++([.int .i64 j,.int .i64 i,.bool w]++bj):=by refine⟨aT.drop (n*3),?_⟩;have ab:=rG (n*3) aT;rw[ey,BY,dV]at ab;exact ab.symm
 have ahS:aT[(n-1)*3+0]?=some (.int .i64 j):=by rw[mr,<-gS,m3 (by omega)];simp
 have sL:aT[(n-1)*3+1]?=some (.int .i64 i):=by rw[mr,<-gS,m3 (by omega)];simp
 have KQ:aT[(n-1)*3+2]?=some (.bool w):=by rw[mr,<-gS,m3 (by omega)];simp
 have uZ:=WS (ax:=ax) af;have ij:x.bK.length<=2412*t.ns.length:=by have:=congrArg List.length n4;rw[ch]at this;omega
 have W1:=WU t.ns (h5++[(j,i,w)]);simp only[ch,dx,fS]at W1;have hK:=BZ.ns t.ns[j] (br ai);have e':=hK.aN;have q8:=Pv (D3 af ai);obtain⟨aS,bH,bl⟩:=BZ.a0.row ao.cP ix ai;rw[BW]at n4;rw[sK]at rK aC W1;have qz:IntKind.i64.wrap ((n:Int)-1)=((n-1:Nat):Int):=by rw[wrap_i64 ⟨by omega,by omega⟩];omega
 refine bg.mk (((n-1:Nat)):Int) qz ?_;refine bd.mk ⟨cJ,0,none⟩ (n-1) rfl rfl (by show n-1<n;omega) ?_;refine cV.draw a6 rfl rfl rfl ?_;refine aM.mk [.int .i64 j] (nF (b:=cJ) (cs:=aT) (T:=285) (by simp[aY.aq]) ahS) ?_;refine bd.mk aS j bH rfl ix ?_;refine aM.mk _ (bl _) ?_;refine bX.mk λb6 B0 PG=>?_;refine b2.mk [] (⟨cJ,.cells aT.toArray 285 (0,0)⟩::x.M g) _ _ rfl rfl (bJ rfl) rfl ?_;refine aM.mk [.int .i64 i] (nF (b:=cJ) (cs:=aT) (T:=285) (by simp[aY.aq]) sL) ?_;refine a2.mk (λaa=>?_) (λaa=>?_)
 ·refine aM.mk [.bool w] (nF (b:=cJ) (cs:=aT) (T:=285) (by simp[aY.aq]) KQ) ?_;refine a2.mk (λab=>?_) (λab=>?_)
  ·refine be.mk (x.M g) [⟨b6,.cells t.ns[j].cells.toArray 66 (0,0)⟩,⟨cJ,.cells aT.toArray 285 (0,0)⟩] _ (eI (l₁:=[_,_])) (pE g He 40 (by omega)) ?_;rintro v dI dq -⟨rfl,rfl,y,aE,g3,rfl⟩;have KH:y.bK.length<=2412*t.ns.length+1:=by rw[g3];simp;omega
   refine aM.mk _ (c4 (T:=66) (b:=b6) (cs:=t.ns[j].cells) (k:=0) (n:=9) (by simp) (bJ rfl)) ?_;refine be.mk [] (y.M g++[⟨b6,.cells t.ns[j].cells.toArray 66 (0,0)⟩,⟨cJ,.cells aT.toArray 285 (0,0)⟩]) _ (by simp) (WN jA.d jA.s hK q8) ?_;rintro v dI dq -⟨rfl,e4,rfl⟩;have iH:∀ b o,dn b=some o->dI b=some o:=λb o h=>e4 _ _ (bm _ _ h);have Ec:=Py ax q8;refine be.mk (y.M g) [⟨b6,.cells t.ns[j].cells.toArray 66 (0,0)⟩,⟨cJ,.cells aT.toArray 285 (0,0)⟩] _ (by simp) (uO g aE _ (by show _+(rJ ax t.ns[j]).length<=_;omega)) ?_;rintro v h2 sA -⟨rfl,rfl,u,hu,xY,rfl⟩;have sM:u.bK=x.bK++oN ax t.ns (j,i,w):=by rw[xY,g3];simp only[oN,aa,ab,gm ai,b5,b'];simp[strOf]
   have zD:u.bK.length<=2412*t.ns.length+2401:=by rw[sM,ch];simp only[oN,aa,ab,gm ai,b5,b',ch,dx,fS];omega
   have il:=bu.mono iH;have sN:=av.mono iH;have rL:=sN.ns t.ns[j] (br ai);have Hf:∀ {k m:Nat},k+m<=9->cF h2 (u.M g++[⟨b6,.cells t.ns[j].cells.toArray 66 (0,0)⟩,⟨cJ,.cells aT.toArray 285 (0,0)⟩]) ((⟨b6,0,none⟩:Addr).add k) m ((t.ns[j].cells.drop k).take m):=λh=>c4 (T:=66) (by simp) h;refine cV.draw a6 rfl rfl rfl ?_;refine aM.mk [.int .i64 i] (nF (b:=cJ) (cs:=aT) (T:=285) (by simp[aY.aq]) sL) ?_;refine aM.mk _ (Hf (by decide)) ?_;refine a2.mk (λae=>?_) (λae=>?_)
   ·have dM:i<t.ns[j].aN:=by simpa using ae
    have lR:i<t.ns[j].aw.length:=by omega
    obtain⟨gk,fu,fb⟩:=rL.a0.one dM lR;have ff:=mj af j ai _ (br lR);obtain⟨q,wj⟩:=eH ff.1;have fe:q<t.ns.length:=by omega
    have oP:q<t.n:=by omega
    obtain⟨nI,sO,x2⟩:=sN.a0.row ao.cP oP fe;have ms:∀ M,cF h2 M ((nI.add (q*9)).add 0) 1 [.int .u8 t.ns[q].k]:=λM=>(x2 M).part (k:=0) (m:=1) (by decide);have u0:iG t.ns ((q:Nat):Int)=t.ns[q].k:=by simp[iG,bA,fe]
    have hM:=PA (ax:=ax) af ai (w:=w) lR;have zG:=PB af ai (w:=w) (w':=hB t.ns[j].k t.ns[q].k) lR;rw[wj]at hM zG;simp only[BL,g6]at hM zG;rw[u0]at hM;have fQ:IntKind.i64.wrap ((i:Int)+1)=((i+1:Nat):Int):=by have:=rL.a0.cap;rw[wrap_i64 ⟨by omega,by omega⟩];omega
    have dL:cm aT ((n-1)*3+1) [.int .i64 ((i+1:Nat):Int)]=pK h5++([.int .i64 j,.int .i64 ((i+1:Nat):Int),.bool w]++bj):=by rw[mr,<-gS];exact PE _ _ _ _ _ _
    have B1:aY.ok ⟨some cJ,n,eU,cm aT ((n-1)*3+1) [.int .i64 ((i+1:Nat):Int)]⟩ 3 (pK (h5++[(j,i+1,w)])):=by
     rw[dL,BY];refine⟨by simp only[ch,dx,fS];omega,(λh=>by cases h),λbQ _=>⟨?_,mZ,kv,?_⟩⟩;·simp only;rw[<-dX,mr];simp
     ·simp only;rw[<-dV];refine qu ?_;simp only[ch,dx,fS];omega
    refine aM.mk [.int .i64 i] (nF (b:=cJ) (cs:=aT) (T:=285) (by simp[aY.aq]) sL) ?_;refine a2.mk (λbb=>by simp at aa bb;omega) (λbb=>?_);refine cV.draw a6 rfl rfl rfl ?_;refine aM.mk _ (c4 (T:=66) (b:=b6) (cs:=t.ns[j].cells) (k:=8) (n:=1) (by simp) (bJ rfl)) ?_;refine aM.mk [.int .i64 i] (nF (b:=cJ) (cs:=aT) (T:=285) (by simp[aY.aq]) sL) ?_;refine bd.mk gk i fu rfl dM ?_;refine aM.mk [.int .i64 (q:Nat)] (by have dW:=fb;rw[wj]at dW;exact dW _) ?_;refine aM.mk [.int .i64 i] (nF (b:=cJ) (cs:=aT) (T:=285) (by simp[aY.aq]) sL) ?_;refine bg.mk ((i+1:Nat):Int) fQ ?_;refine b2.zB (u.M g++[⟨b6,.cells t.ns[j].cells.toArray 66 (0,0)⟩]) [] aT.toArray 285 (by simp[aY.aq]) ?_ rfl ?_;·simp only[oC];show(n-1)*3+1+1<=_;omega
    refine cV.draw a6 rfl rfl rfl ?_;refine aM.mk [.int .u8 t.ns[j].k] (c4 (T:=66) (b:=b6) (cs:=t.ns[j].cells) (k:=0) (n:=1) (by simp) (bJ rfl)) ?_;refine bd.mk nI q sO rfl oP ?_;refine aM.mk [.int .u8 t.ns[q].k] (ms _) ?_;refine d'.mk _ (Pq t.ns[j].k t.ns[q].k) ?_;rintro v zH pA -⟨rfl,rfl,rfl⟩;refine bX.mk λb9 jM u1=>?_;refine bz.append a6 rfl (by simp) (e:=285) rfl rfl rfl ⟨some cJ,n,eU,cm aT ((n-1)*3+1) [.int .i64 ((i+1:Nat):Int)]⟩ (xs:=pK (h5++[(j,i+1,w)])) B1 rfl (m:=1) rfl (b8:=nH (q,0,hB t.ns[j].k t.ns[q].k)) (by decide) (c4 (b:=b9) (cs:=nH (q,0,hB t.ns[j].k t.ns[q].k)) (k:=0) (n:=3) (T:=285) (.head _) (bJ rfl)) rfl (Mr:=⟨b9,.cells (nH (q,0,hB t.ns[j].k t.ns[q].k)).toArray 285 (0,0)⟩::(u.M g++[⟨b6,.cells t.ns[j].cells.toArray 66 (0,0)⟩])) (by exact eI (l₁:=(⟨b9,.cells (nH (q,0,hB t.ns[j].k t.ns[q].k)).toArray 285 (0,0)⟩:aD)::(u.M g++[⟨b6,.cells t.ns[j].cells.toArray 66 (0,0)⟩])) (l₂:=[⟨cJ,.cells (cm aT ((n-1)*3+1) [.int .i64 ((i+1:Nat):Int)]).toArray 285 (0,0)⟩])) (by show n+1<=_;simp only[maxLen];omega) (by show(n+1)*24<=_;omega) ?_;intro dK c' hC dF eJ eF ik;refine⟨(g,u,⟨some dK,n+1,c',hC⟩,h5++[(j,i+1,w)]++[(q,0,hB t.ns[j].k t.ns[q].k)],_),aC _ ⟨iH,hu,⟨?_,(λh=>by cases h),λbQ _=>⟨dF,eJ,eF,?_⟩⟩,by simp,?_,?_,?_⟩ ?_,.perm (M1:=[⟨b9,.cells (nH (q,0,hB t.ns[j].k t.ns[q].k)).toArray 285 (0,0)⟩,⟨b6,.cells t.ns[j].cells.toArray 66 (0,0)⟩]++(⟨dK,.cells hC.toArray 285 (0,0)⟩::u.M g)) (PD _ _ _ _) (.sub (l' _ _) .refl),hl,.cons rfl .nil⟩;·show _=(n+1)*3;rw[Hb];simp;omega
    ·show hC.take ((n+1)*3)=_;rw[BY (h5++[(j,i+1,w)])];exact ik
    ·intro e he;simp only[cB,ed]at he;rcases he with(he | rfl) | rfl
     ·exact fw e (by simp[he])
     ·exact ai
     ·exact fe
    ·simp only;rw[BW,BW,sM,<-n4,hM];rw[show decide (0<(i:Int))=false from bb];simp
    ·simp only;rw[sK,sK];omega
    ·simp only;rw[sK,sK];omega
   ·have dM:t.ns[j].aw.length<=i:=by simp at ae;omega
    have hM:=PC (ax:=ax) ai (w:=w) dM;have mf:=KM t.ns[j];refine aM.mk _ (c4 (T:=66) (b:=b6) (cs:=t.ns[j].cells) (k:=0) (n:=9) (by simp) (bJ rfl)) ?_;refine be.mk [] (u.M g++[⟨b6,.cells t.ns[j].cells.toArray 66 (0,0)⟩,⟨cJ,.cells aT.toArray 285 (0,0)⟩]) _ (.refl _) (Px il.c il.p il.s rL q8) ?_;rintro v zH pA -⟨rfl,rfl,rfl⟩;refine be.mk (u.M g) [⟨b6,.cells t.ns[j].cells.toArray 66 (0,0)⟩,⟨cJ,.cells aT.toArray 285 (0,0)⟩] _ (by simp) (uO g hu _ (by show _+(pJ t.ns[j]).length<=_;omega)) ?_;rintro v tI W2 -⟨rfl,rfl,a,a4,kz,rfl⟩;have W3:a.bK.length<=2412*t.ns.length+2410:=by rw[kz,ch];show _+(pJ t.ns[j]).length<=_;omega
    refine aM.mk [.bool w] (nF (b:=cJ) (cs:=aT) (T:=285) (by simp[aY.aq]) KQ) ?_;refine a2.mk (λhw=>?_) (λhw=>?_)
    ·subst hw;refine be.mk (a.M g) [⟨b6,.cells t.ns[j].cells.toArray 66 (0,0)⟩,⟨cJ,.cells aT.toArray 285 (0,0)⟩] _ (by simp) (pE g a4 41 (by omega)) ?_;rintro v W4 W5 -⟨rfl,rfl,c,an,jI,rfl⟩;refine bg.mk (((n-1:Nat)):Int) qz ?_;refine l6.mk 0 (n-1) rfl rfl (dD _) (by show n-1<=eU;omega) ?_;refine a2.mk (λbb=>?_) (λbb=>?_)
     ·have g9:0<n-1:=by simp at bb;omega
      refine⟨(g,c,⟨some cJ,n-1,eU,aT⟩,h5,_),aC _ ⟨iH,an,⟨?_,(λh=>by cases h),λbQ _=>⟨dX,by show n-1<=eU;omega,kv,?_⟩⟩,?_,λe he=>fw e (by simp[he]),?_,?_⟩ ?_,.perm (M1:=[⟨b6,.cells t.ns[j].cells.toArray 66 (0,0)⟩]++(⟨cJ,.cells aT.toArray 285 (0,0)⟩::c.M g)) (eI (l₂:=[_,_])) (.sub (l' _ _) .refl),hl,.cons rfl .nil⟩;·exact gS
      ·show aT.take ((n-1)*3)=_;rw[mr,<-gS];exact qu rfl
      ·intro h;simp only at h;rw[h]at e5;simp at e5;omega
      ·simp only;rw[jI,kz,sM,<-n4,hM];simp[strOf]
      ·simp only;omega
      ·simp only[n3];omega
     ·have g9:n-1=0:=by simp at bb;omega
      have u2:h5=[]:=iy (by omega);have nJ:c.bK=kY ax t.ns t.bn:=by rw[jI,kz,sM,<-n4,hM,u2];simp[uY,strOf]
      refine be.mk (c.M g) [⟨b6,.cells t.ns[j].cells.toArray 66 (0,0)⟩,⟨cJ,.cells aT.toArray 285 (0,0)⟩] _ (by simp) (xW g an (by rw[nJ];omega)) ?_;rintro v Hg Hh -⟨rfl,rfl,rfl⟩;refine⟨_,_,.sub (fO _) .refl,?_,iH,rfl⟩;rw[nJ];rfl
    ·subst hw;refine bg.mk (((n-1:Nat)):Int) qz ?_;refine l6.mk 0 (n-1) rfl rfl (dD _) (by show n-1<=eU;omega) ?_;refine a2.mk (λbb=>?_) (λbb=>?_)
     ·have g9:0<n-1:=by simp at bb;omega
      refine⟨(g,a,⟨some cJ,n-1,eU,aT⟩,h5,_),aC _ ⟨iH,a4,⟨?_,(λh=>by cases h),λbQ _=>⟨dX,by show n-1<=eU;omega,kv,?_⟩⟩,?_,λe he=>fw e (by simp[he]),?_,?_⟩ ?_,.perm (M1:=[⟨b6,.cells t.ns[j].cells.toArray 66 (0,0)⟩]++(⟨cJ,.cells aT.toArray 285 (0,0)⟩::a.M g)) (eI (l₂:=[_,_])) (.sub (l' _ _) .refl),hl,.cons rfl .nil⟩;·exact gS
      ·show aT.take ((n-1)*3)=_;rw[mr,<-gS];exact qu rfl
      ·intro h;simp only at h;rw[h]at e5;simp at e5;omega
      ·simp only;rw[kz,sM,<-n4,hM];simp[strOf]
      ·simp only;omega
      ·simp only[n3];omega
     ·have g9:n-1=0:=by simp at bb;omega
      have u2:h5=[]:=iy (by omega);have nJ:a.bK=kY ax t.ns t.bn:=by rw[kz,sM,<-n4,hM,u2];simp[uY,strOf]
      refine be.mk (a.M g) [⟨b6,.cells t.ns[j].cells.toArray 66 (0,0)⟩,⟨cJ,.cells aT.toArray 285 (0,0)⟩] _ (by simp) (xW g a4 (by rw[nJ];omega)) ?_;rintro v Hg Hh -⟨rfl,rfl,rfl⟩;refine⟨_,_,.sub (fO _) .refl,?_,iH,rfl⟩;rw[nJ];rfl
  ·refine aM.mk _ (c4 (T:=66) (b:=b6) (cs:=t.ns[j].cells) (k:=0) (n:=9) (.head _) (bJ rfl)) ?_;refine be.mk [] (⟨b6,.cells t.ns[j].cells.toArray 66 (0,0)⟩::⟨cJ,.cells aT.toArray 285 (0,0)⟩::x.M g) _ (.refl _) (WN jA.d jA.s hK q8) ?_;rintro v dI dq -⟨rfl,e4,rfl⟩;have iH:∀ b o,dn b=some o->dI b=some o:=λb o h=>e4 _ _ (bm _ _ h);have Ec:=Py ax q8;refine be.mk (x.M g) [⟨b6,.cells t.ns[j].cells.toArray 66 (0,0)⟩,⟨cJ,.cells aT.toArray 285 (0,0)⟩] _ (eI (l₁:=[_,_])) (uO g He _ (by show _+(rJ ax t.ns[j]).length<=_;omega)) ?_;rintro v h2 sA -⟨rfl,rfl,u,hu,xY,rfl⟩;have sM:u.bK=x.bK++oN ax t.ns (j,i,w):=by rw[xY];simp only[oN,aa,ab,gm ai,b5,b'];simp[strOf]
   have zD:u.bK.length<=2412*t.ns.length+2401:=by rw[sM,ch];simp only[oN,aa,ab,gm ai,b5,b',ch,dx,fS];omega
   have il:=bu.mono iH;have sN:=av.mono iH;have rL:=sN.ns t.ns[j] (br ai);have Hf:∀ {k m:Nat},k+m<=9->cF h2 (u.M g++[⟨b6,.cells t.ns[j].cells.toArray 66 (0,0)⟩,⟨cJ,.cells aT.toArray 285 (0,0)⟩]) ((⟨b6,0,none⟩:Addr).add k) m ((t.ns[j].cells.drop k).take m):=λh=>c4 (T:=66) (by simp) h;refine cV.draw a6 rfl rfl rfl ?_;refine aM.mk [.int .i64 i] (nF (b:=cJ) (cs:=aT) (T:=285) (by simp[aY.aq]) sL) ?_;refine aM.mk _ (Hf (by decide)) ?_;refine a2.mk (λae=>?_) (λae=>?_)
   ·have dM:i<t.ns[j].aN:=by simpa using ae
    have lR:i<t.ns[j].aw.length:=by omega
    obtain⟨gk,fu,fb⟩:=rL.a0.one dM lR;have ff:=mj af j ai _ (br lR);obtain⟨q,wj⟩:=eH ff.1;have fe:q<t.ns.length:=by omega
    have oP:q<t.n:=by omega
    obtain⟨nI,sO,x2⟩:=sN.a0.row ao.cP oP fe;have ms:∀ M,cF h2 M ((nI.add (q*9)).add 0) 1 [.int .u8 t.ns[q].k]:=λM=>(x2 M).part (k:=0) (m:=1) (by decide);have u0:iG t.ns ((q:Nat):Int)=t.ns[q].k:=by simp[iG,bA,fe]
    have hM:=PA (ax:=ax) af ai (w:=w) lR;have zG:=PB af ai (w:=w) (w':=hB t.ns[j].k t.ns[q].k) lR;rw[wj]at hM zG;simp only[BL,g6]at hM zG;rw[u0]at hM;have fQ:IntKind.i64.wrap ((i:Int)+1)=((i+1:Nat):Int):=by have:=rL.a0.cap;rw[wrap_i64 ⟨by omega,by omega⟩];omega
    have dL:cm aT ((n-1)*3+1) [.int .i64 ((i+1:Nat):Int)]=pK h5++([.int .i64 j,.int .i64 ((i+1:Nat):Int),.bool w]++bj):=by rw[mr,<-gS];exact PE _ _ _ _ _ _
    have B1:aY.ok ⟨some cJ,n,eU,cm aT ((n-1)*3+1) [.int .i64 ((i+1:Nat):Int)]⟩ 3 (pK (h5++[(j,i+1,w)])):=by
     rw[dL,BY];refine⟨by simp only[ch,dx,fS];omega,(λh=>by cases h),λbQ _=>⟨?_,mZ,kv,?_⟩⟩;·simp only;rw[<-dX,mr];simp
     ·simp only;rw[<-dV];refine qu ?_;simp only[ch,dx,fS];omega
    refine aM.mk [.int .i64 i] (nF (b:=cJ) (cs:=aT) (T:=285) (by simp[aY.aq]) sL) ?_;refine a2.mk (λbb=>by simp at aa bb;omega) (λbb=>?_);refine cV.draw a6 rfl rfl rfl ?_;refine aM.mk _ (c4 (T:=66) (b:=b6) (cs:=t.ns[j].cells) (k:=8) (n:=1) (by simp) (bJ rfl)) ?_;refine aM.mk [.int .i64 i] (nF (b:=cJ) (cs:=aT) (T:=285) (by simp[aY.aq]) sL) ?_;refine bd.mk gk i fu rfl dM ?_;refine aM.mk [.int .i64 (q:Nat)] (by have dW:=fb;rw[wj]at dW;exact dW _) ?_;refine aM.mk [.int .i64 i] (nF (b:=cJ) (cs:=aT) (T:=285) (by simp[aY.aq]) sL) ?_;refine bg.mk ((i+1:Nat):Int) fQ ?_;refine b2.zB (u.M g++[⟨b6,.cells t.ns[j].cells.toArray 66 (0,0)⟩]) [] aT.toArray 285 (by simp[aY.aq]) ?_ rfl ?_;·simp only[oC];show(n-1)*3+1+1<=_;omega
    refine cV.draw a6 rfl rfl rfl ?_;refine aM.mk [.int .u8 t.ns[j].k] (c4 (T:=66) (b:=b6) (cs:=t.ns[j].cells) (k:=0) (n:=1) (by simp) (bJ rfl)) ?_;refine bd.mk nI q sO rfl oP ?_;refine aM.mk [.int .u8 t.ns[q].k] (ms _) ?_;refine d'.mk _ (Pq t.ns[j].k t.ns[q].k) ?_;rintro v zH pA -⟨rfl,rfl,rfl⟩;refine bX.mk λb9 jM u1=>?_;refine bz.append a6 rfl (by simp) (e:=285) rfl rfl rfl ⟨some cJ,n,eU,cm aT ((n-1)*3+1) [.int .i64 ((i+1:Nat):Int)]⟩ (xs:=pK (h5++[(j,i+1,w)])) B1 rfl (m:=1) rfl (b8:=nH (q,0,hB t.ns[j].k t.ns[q].k)) (by decide) (c4 (b:=b9) (cs:=nH (q,0,hB t.ns[j].k t.ns[q].k)) (k:=0) (n:=3) (T:=285) (.head _) (bJ rfl)) rfl (Mr:=⟨b9,.cells (nH (q,0,hB t.ns[j].k t.ns[q].k)).toArray 285 (0,0)⟩::(u.M g++[⟨b6,.cells t.ns[j].cells.toArray 66 (0,0)⟩])) (by exact eI (l₁:=(⟨b9,.cells (nH (q,0,hB t.ns[j].k t.ns[q].k)).toArray 285 (0,0)⟩:aD)::(u.M g++[⟨b6,.cells t.ns[j].cells.toArray 66 (0,0)⟩])) (l₂:=[⟨cJ,.cells (cm aT ((n-1)*3+1) [.int .i64 ((i+1:Nat):Int)]).toArray 285 (0,0)⟩])) (by show n+1<=_;simp only[maxLen];omega) (by show(n+1)*24<=_;omega) ?_;intro dK c' hC dF eJ eF ik;refine⟨(g,u,⟨some dK,n+1,c',hC⟩,h5++[(j,i+1,w)]++[(q,0,hB t.ns[j].k t.ns[q].k)],_),aC _ ⟨iH,hu,⟨?_,(λh=>by cases h),λbQ _=>⟨dF,eJ,eF,?_⟩⟩,by simp,?_,?_,?_⟩ ?_,.perm (M1:=[⟨b9,.cells (nH (q,0,hB t.ns[j].k t.ns[q].k)).toArray 285 (0,0)⟩,⟨b6,.cells t.ns[j].cells.toArray 66 (0,0)⟩]++(⟨dK,.cells hC.toArray 285 (0,0)⟩::u.M g)) (PD _ _ _ _) (.sub (l' _ _) .refl),hl,.cons rfl .nil⟩;·show _=(n+1)*3;rw[Hb];simp;omega
    ·show hC.take ((n+1)*3)=_;rw[BY (h5++[(j,i+1,w)])];exact ik
    ·intro e he;simp only[cB,ed]at he;rcases he with(he | rfl) | rfl
     ·exact fw e (by simp[he])
     ·exact ai
     ·exact fe
    ·simp only;rw[BW,BW,sM,<-n4,hM];rw[show decide (0<(i:Int))=false from bb];simp
    ·simp only;rw[sK,sK];omega
    ·simp only;rw[sK,sK];omega
   ·have dM:t.ns[j].aw.length<=i:=by simp at ae;omega
    have hM:=PC (ax:=ax) ai (w:=w) dM;have mf:=KM t.ns[j];refine aM.mk _ (c4 (T:=66) (b:=b6) (cs:=t.ns[j].cells) (k:=0) (n:=9) (by simp) (bJ rfl)) ?_;refine be.mk [] (u.M g++[⟨b6,.cells t.ns[j].cells.toArray 66 (0,0)⟩,⟨cJ,.cells aT.toArray 285 (0,0)⟩]) _ (.refl _) (Px il.c il.p il.s rL q8) ?_;rintro v zH pA -⟨rfl,rfl,rfl⟩;refine be.mk (u.M g) [⟨b6,.cells t.ns[j].cells.toArray 66 (0,0)⟩,⟨cJ,.cells aT.toArray 285 (0,0)⟩] _ (by simp) (uO g hu _ (by show _+(pJ t.ns[j]).length<=_;omega)) ?_;rintro v tI W2 -⟨rfl,rfl,a,a4,kz,rfl⟩;have W3:a.bK.length<=2412*t.ns.length+2410:=by rw[kz,ch];show _+(pJ t.ns[j]).length<=_;omega
    refine aM.mk [.bool w] (nF (b:=cJ) (cs:=aT) (T:=285) (by simp[aY.aq]) KQ) ?_;refine a2.mk (λhw=>?_) (λhw=>?_)
    ·subst hw;refine be.mk (a.M g) [⟨b6,.cells t.ns[j].cells.toArray 66 (0,0)⟩,⟨cJ,.cells aT.toArray 285 (0,0)⟩] _ (by simp) (pE g a4 41 (by omega)) ?_;rintro v W4 W5 -⟨rfl,rfl,c,an,jI,rfl⟩;refine bg.mk (((n-1:Nat)):Int) qz ?_;refine l6.mk 0 (n-1) rfl rfl (dD _) (by show n-1<=eU;omega) ?_;refine a2.mk (λbb=>?_) (λbb=>?_)
     ·have g9:0<n-1:=by simp at bb;omega
      refine⟨(g,c,⟨some cJ,n-1,eU,aT⟩,h5,_),aC _ ⟨iH,an,⟨?_,(λh=>by cases h),λbQ _=>⟨dX,by show n-1<=eU;omega,kv,?_⟩⟩,?_,λe he=>fw e (by simp[he]),?_,?_⟩ ?_,.perm (M1:=[⟨b6,.cells t.ns[j].cells.toArray 66 (0,0)⟩]++(⟨cJ,.cells aT.toArray 285 (0,0)⟩::c.M g)) (eI (l₂:=[_,_])) (.sub (l' _ _) .refl),hl,.cons rfl .nil⟩;·exact gS
      ·show aT.take ((n-1)*3)=_;rw[mr,<-gS];exact qu rfl
      ·intro h;simp only at h;rw[h]at e5;simp at e5;omega
      ·simp only;rw[jI,kz,sM,<-n4,hM];simp[strOf]
      ·simp only;omega
      ·simp only[n3];omega
     ·have g9:n-1=0:=by simp at bb;omega
      have u2:h5=[]:=iy (by omega);have nJ:c.bK=kY ax t.ns t.bn:=by rw[jI,kz,sM,<-n4,hM,u2];simp[uY,strOf]
      refine be.mk (c.M g) [⟨b6,.cells t.ns[j].cells.toArray 66 (0,0)⟩,⟨cJ,.cells aT.toArray 285 (0,0)⟩] _ (by simp) (xW g an (by rw[nJ];omega)) ?_;rintro v Hg Hh -⟨rfl,rfl,rfl⟩;refine⟨_,_,.sub (fO _) .refl,?_,iH,rfl⟩;rw[nJ];rfl
    ·subst hw;refine bg.mk (((n-1:Nat)):Int) qz ?_;refine l6.mk 0 (n-1) rfl rfl (dD _) (by show n-1<=eU;omega) ?_;refine a2.mk (λbb=>?_) (λbb=>?_)
     ·have g9:0<n-1:=by simp at bb;omega
      refine⟨(g,a,⟨some cJ,n-1,eU,aT⟩,h5,_),aC _ ⟨iH,a4,⟨?_,(λh=>by cases h),λbQ _=>⟨dX,by show n-1<=eU;omega,kv,?_⟩⟩,?_,λe he=>fw e (by simp[he]),?_,?_⟩ ?_,.perm (M1:=[⟨b6,.cells t.ns[j].cells.toArray 66 (0,0)⟩]++(⟨cJ,.cells aT.toArray 285 (0,0)⟩::a.M g)) (eI (l₂:=[_,_])) (.sub (l' _ _) .refl),hl,.cons rfl .nil⟩;·exact gS
      ·show aT.take ((n-1)*3)=_;rw[mr,<-gS];exact qu rfl
      ·intro h;simp only at h;rw[h]at e5;simp at e5;omega
      ·simp only;rw[kz,sM,<-n4,hM];simp[strOf]
      ·simp only;omega
      ·simp only[n3];omega
     ·have g9:n-1=0:=by simp at bb;omega
      have u2:h5=[]:=iy (by omega);have nJ:a.bK=kY ax t.ns t.bn:=by rw[kz,sM,<-n4,hM,u2];simp[uY,strOf]
      refine be.mk (a.M g) [⟨b6,.cells t.ns[j].cells.toArray 66 (0,0)⟩,⟨cJ,.cells aT.toArray 285 (0,0)⟩] _ (by simp) (xW g a4 (by rw[nJ];omega)) ?_;rintro v Hg Hh -⟨rfl,rfl,rfl⟩;refine⟨_,_,.sub (fO _) .refl,?_,iH,rfl⟩;rw[nJ];rfl
 ·have auW:x.bK=x.bK++oN ax t.ns (j,i,w):=by simp only[oN,aa,b',ee]
  have il:=bu.mono bm;have sN:=av.mono bm;have rL:=sN.ns t.ns[j] (br ai);have Hf:∀ {k m:Nat},k+m<=9->cF I1 (⟨b6,.cells t.ns[j].cells.toArray 66 (0,0)⟩::⟨cJ,.cells aT.toArray 285 (0,0)⟩::x.M g) ((⟨b6,0,none⟩:Addr).add k) m ((t.ns[j].cells.drop k).take m):=λh=>c4 (T:=66) (by simp) h;refine cV.draw a6 rfl rfl rfl ?_;refine aM.mk [.int .i64 i] (nF (b:=cJ) (cs:=aT) (T:=285) (by simp[aY.aq]) sL) ?_;refine aM.mk _ (Hf (by decide)) ?_;refine a2.mk (λae=>?_) (λae=>?_)
  ·have dM:i<t.ns[j].aN:=by simpa using ae
   have lR:i<t.ns[j].aw.length:=by omega
   obtain⟨gk,fu,fb⟩:=rL.a0.one dM lR;have ff:=mj af j ai _ (br lR);obtain⟨q,wj⟩:=eH ff.1;have fe:q<t.ns.length:=by omega
   have oP:q<t.n:=by omega
   obtain⟨nI,sO,x2⟩:=sN.a0.row ao.cP oP fe;have ms:∀ M,cF I1 M ((nI.add (q*9)).add 0) 1 [.int .u8 t.ns[q].k]:=λM=>(x2 M).part (k:=0) (m:=1) (by decide);have u0:iG t.ns ((q:Nat):Int)=t.ns[q].k:=by simp[iG,bA,fe]
   have hM:=PA (ax:=ax) af ai (w:=w) lR;have zG:=PB af ai (w:=w) (w':=hB t.ns[j].k t.ns[q].k) lR;rw[wj]at hM zG;simp only[BL,g6]at hM zG;rw[u0]at hM;have fQ:IntKind.i64.wrap ((i:Int)+1)=((i+1:Nat):Int):=by have:=rL.a0.cap;rw[wrap_i64 ⟨by omega,by omega⟩];omega
   have dL:cm aT ((n-1)*3+1) [.int .i64 ((i+1:Nat):Int)]=pK h5++([.int .i64 j,.int .i64 ((i+1:Nat):Int),.bool w]++bj):=by rw[mr,<-gS];exact PE _ _ _ _ _ _
   have B1:aY.ok ⟨some cJ,n,eU,cm aT ((n-1)*3+1) [.int .i64 ((i+1:Nat):Int)]⟩ 3 (pK (h5++[(j,i+1,w)])):=by
    rw[dL,BY];refine⟨by simp only[ch,dx,fS];omega,(λh=>by cases h),λbQ _=>⟨?_,mZ,kv,?_⟩⟩;·simp only;rw[<-dX,mr];simp
    ·simp only;rw[<-dV];refine qu ?_;simp only[ch,dx,fS];omega
   refine aM.mk [.int .i64 i] (nF (b:=cJ) (cs:=aT) (T:=285) (by simp[aY.aq]) sL) ?_;refine a2.mk (λbb=>?_) (λbb=>by simp at aa bb;omega);refine aM.mk [.int .u8 t.ns[j].k] (c4 (T:=66) (b:=b6) (cs:=t.ns[j].cells) (k:=0) (n:=1) (.head _) (bJ rfl)) ?_;refine eG.mk t.ns[j].k.toNat (by have:=rL.k;omega) (by have:=q8.k;have:=rL.k;omega) ?_;refine aM.mk _ (il.s.rd _ (by have:=q8.k;have:=rL.k;show t.ns[j].k.toNat*3+1<30;omega)) ?_;refine be.mk (x.M g) [⟨b6,.cells t.ns[j].cells.toArray 66 (0,0)⟩,⟨cJ,.cells aT.toArray 285 (0,0)⟩] _ (eI (l₁:=[_,_])) (uO g He _ (by have:=Ha (t.ns[j].k.toNat*3+1);show _+(sJ (t.ns[j].k.toNat*3+1)).length<=_;omega)) ?_;rintro v rB rA -⟨rfl,rfl,z,u3,ahT,rfl⟩;have tC:z.bK=x.bK++D9 t.ns[j]:=ahT;refine cV.draw a6 rfl rfl rfl ?_;refine aM.mk _ (c4 (T:=66) (b:=b6) (cs:=t.ns[j].cells) (k:=8) (n:=1) (by simp) (bJ rfl)) ?_;refine aM.mk [.int .i64 i] (nF (b:=cJ) (cs:=aT) (T:=285) (by simp[aY.aq]) sL) ?_;refine bd.mk gk i fu rfl dM ?_;refine aM.mk [.int .i64 (q:Nat)] (by have dW:=fb;rw[wj]at dW;exact dW _) ?_;refine aM.mk [.int .i64 i] (nF (b:=cJ) (cs:=aT) (T:=285) (by simp[aY.aq]) sL) ?_;refine bg.mk ((i+1:Nat):Int) fQ ?_;refine b2.zB (z.M g++[⟨b6,.cells t.ns[j].cells.toArray 66 (0,0)⟩]) [] aT.toArray 285 (by simp[aY.aq]) ?_ rfl ?_;·simp only[oC];show(n-1)*3+1+1<=_;omega
   refine cV.draw a6 rfl rfl rfl ?_;refine aM.mk [.int .u8 t.ns[j].k] (c4 (T:=66) (b:=b6) (cs:=t.ns[j].cells) (k:=0) (n:=1) (by simp) (bJ rfl)) ?_;refine bd.mk nI q sO rfl oP ?_;refine aM.mk [.int .u8 t.ns[q].k] (ms _) ?_;refine d'.mk _ (Pq t.ns[j].k t.ns[q].k) ?_;rintro v zH pA -⟨rfl,rfl,rfl⟩;refine bX.mk λb9 jM u1=>?_;refine bz.append a6 rfl (by simp) (e:=285) rfl rfl rfl ⟨some cJ,n,eU,cm aT ((n-1)*3+1) [.int .i64 ((i+1:Nat):Int)]⟩ (xs:=pK (h5++[(j,i+1,w)])) B1 rfl (m:=1) rfl (b8:=nH (q,0,hB t.ns[j].k t.ns[q].k)) (by decide) (c4 (b:=b9) (cs:=nH (q,0,hB t.ns[j].k t.ns[q].k)) (k:=0) (n:=3) (T:=285) (.head _) (bJ rfl)) rfl (Mr:=⟨b9,.cells (nH (q,0,hB t.ns[j].k t.ns[q].k)).toArray 285 (0,0)⟩::(z.M g++[⟨b6,.cells t.ns[j].cells.toArray 66 (0,0)⟩])) (by exact eI (l₁:=(⟨b9,.cells (nH (q,0,hB t.ns[j].k t.ns[q].k)).toArray 285 (0,0)⟩:aD)::(z.M g++[⟨b6,.cells t.ns[j].cells.toArray 66 (0,0)⟩])) (l₂:=[⟨cJ,.cells (cm aT ((n-1)*3+1) [.int .i64 ((i+1:Nat):Int)]).toArray 285 (0,0)⟩])) (by show n+1<=_;simp only[maxLen];omega) (by show(n+1)*24<=_;omega) ?_;intro dK c' hC dF eJ eF ik;refine⟨(g,z,⟨some dK,n+1,c',hC⟩,h5++[(j,i+1,w)]++[(q,0,hB t.ns[j].k t.ns[q].k)],_),aC _ ⟨bm,u3,⟨?_,(λh=>by cases h),λbQ _=>⟨dF,eJ,eF,?_⟩⟩,by simp,?_,?_,?_⟩ ?_,.perm (M1:=[⟨b9,.cells (nH (q,0,hB t.ns[j].k t.ns[q].k)).toArray 285 (0,0)⟩,⟨b6,.cells t.ns[j].cells.toArray 66 (0,0)⟩]++(⟨dK,.cells hC.toArray 285 (0,0)⟩::z.M g)) (PD _ _ _ _) (.sub (l' _ _) .refl),hl,.cons rfl .nil⟩;·show _=(n+1)*3;rw[Hb];simp;omega
   ·show hC.take ((n+1)*3)=_;rw[BY (h5++[(j,i+1,w)])];exact ik
   ·intro e he;simp only[cB,ed]at he;rcases he with(he | rfl) | rfl
    ·exact fw e (by simp[he])
    ·exact ai
    ·exact fe
   ·simp only;rw[BW,BW,tC,<-n4,hM];rw[show decide (0<(i:Int))=true from bb,show oN ax t.ns (j,i,w)=[]from by simp only[oN,aa,b']];simp
   ·simp only;rw[sK,sK];omega
   ·simp only;rw[sK,sK];omega
  ·have dM:t.ns[j].aw.length<=i:=by simp at ae;omega
   have ahU:=PC (ax:=ax) ai (w:=w) dM;have hM:uX ax t.ns (j,i,w)=pJ t.ns[j]++(bif w then [41]else []):=by rw[ahU];simp only[oN,aa,b',iz]
   have mf:=KM t.ns[j];refine aM.mk _ (c4 (T:=66) (b:=b6) (cs:=t.ns[j].cells) (k:=0) (n:=9) (.head _) (bJ rfl)) ?_;refine be.mk [] (⟨b6,.cells t.ns[j].cells.toArray 66 (0,0)⟩::⟨cJ,.cells aT.toArray 285 (0,0)⟩::x.M g) _ (.refl _) (Px il.c il.p il.s rL q8) ?_;rintro v zH pA -⟨rfl,rfl,rfl⟩;refine be.mk (x.M g) [⟨b6,.cells t.ns[j].cells.toArray 66 (0,0)⟩,⟨cJ,.cells aT.toArray 285 (0,0)⟩] _ (eI (l₁:=[_,_])) (uO g He _ (by show _+(pJ t.ns[j]).length<=_;omega)) ?_;rintro v tI W2 -⟨rfl,rfl,a,a4,kz,rfl⟩;have W3:a.bK.length<=2412*t.ns.length+2410:=by rw[kz,ch];show _+(pJ t.ns[j]).length<=_;omega
   refine aM.mk [.bool w] (nF (b:=cJ) (cs:=aT) (T:=285) (by simp[aY.aq]) KQ) ?_;refine a2.mk (λhw=>?_) (λhw=>?_)
   ·subst hw;refine be.mk (a.M g) [⟨b6,.cells t.ns[j].cells.toArray 66 (0,0)⟩,⟨cJ,.cells aT.toArray 285 (0,0)⟩] _ (by simp) (pE g a4 41 (by omega)) ?_;rintro v W4 W5 -⟨rfl,rfl,c,an,jI,rfl⟩;refine bg.mk (((n-1:Nat)):Int) qz ?_;refine l6.mk 0 (n-1) rfl rfl (dD _) (by show n-1<=eU;omega) ?_;refine a2.mk (λbb=>?_) (λbb=>?_)
    ·have g9:0<n-1:=by simp at bb;omega
     refine⟨(g,c,⟨some cJ,n-1,eU,aT⟩,h5,_),aC _ ⟨bm,an,⟨?_,(λh=>by cases h),λbQ _=>⟨dX,by show n-1<=eU;omega,kv,?_⟩⟩,?_,λe he=>fw e (by simp[he]),?_,?_⟩ ?_,.perm (M1:=[⟨b6,.cells t.ns[j].cells.toArray 66 (0,0)⟩]++(⟨cJ,.cells aT.toArray 285 (0,0)⟩::c.M g)) (eI (l₂:=[_,_])) (.sub (l' _ _) .refl),hl,.cons rfl .nil⟩;·exact gS
     ·show aT.take ((n-1)*3)=_;rw[mr,<-gS];exact qu rfl
     ·intro h;simp only at h;rw[h]at e5;simp at e5;omega
     ·simp only;rw[jI,kz,<-n4,hM];simp[strOf]
     ·simp only;omega
     ·simp only[n3];omega
    ·have g9:n-1=0:=by simp at bb;omega
     have u2:h5=[]:=iy (by omega);have nJ:c.bK=kY ax t.ns t.bn:=by rw[jI,kz,<-n4,hM,u2];simp[uY,strOf]
     refine be.mk (c.M g) [⟨b6,.cells t.ns[j].cells.toArray 66 (0,0)⟩,⟨cJ,.cells aT.toArray 285 (0,0)⟩] _ (by simp) (xW g an (by rw[nJ];omega)) ?_;rintro v Hg Hh -⟨rfl,rfl,rfl⟩;refine⟨_,_,.sub (fO _) .refl,?_,bm,rfl⟩;rw[nJ];rfl
   ·subst hw;refine bg.mk (((n-1:Nat)):Int) qz ?_;refine l6.mk 0 (n-1) rfl rfl (dD _) (by show n-1<=eU;omega) ?_;refine a2.mk (λbb=>?_) (λbb=>?_)
    ·have g9:0<n-1:=by simp at bb;omega
     refine⟨(g,a,⟨some cJ,n-1,eU,aT⟩,h5,_),aC _ ⟨bm,a4,⟨?_,(λh=>by cases h),λbQ _=>⟨dX,by show n-1<=eU;omega,kv,?_⟩⟩,?_,λe he=>fw e (by simp[he]),?_,?_⟩ ?_,.perm (M1:=[⟨b6,.cells t.ns[j].cells.toArray 66 (0,0)⟩]++(⟨cJ,.cells aT.toArray 285 (0,0)⟩::a.M g)) (eI (l₂:=[_,_])) (.sub (l' _ _) .refl),hl,.cons rfl .nil⟩;·exact gS
     ·show aT.take ((n-1)*3)=_;rw[mr,<-gS];exact qu rfl
     ·intro h;simp only at h;rw[h]at e5;simp at e5;omega
     ·simp only;rw[kz,<-n4,hM];simp[strOf]
     ·simp only;omega
     ·simp only[n3];omega
    ·have g9:n-1=0:=by simp at bb;omega
     have u2:h5=[]:=iy (by omega);have nJ:a.bK=kY ax t.ns t.bn:=by rw[kz,<-n4,hM,u2];simp[uY,strOf]
     refine be.mk (a.M g) [⟨b6,.cells t.ns[j].cells.toArray 66 (0,0)⟩,⟨cJ,.cells aT.toArray 285 (0,0)⟩] _ (by simp) (xW g a4 (by rw[nJ];omega)) ?_;rintro v Hg Hh -⟨rfl,rfl,rfl⟩;refine⟨_,_,.sub (fO _) .refl,?_,bm,rfl⟩;rw[nJ];rfl
def W6{X:cU}{c:Code}{M:List aD}{K:j3}{t1 t2 t3:Nat}{a b d:dA}{e:Option (List Value)}(h:∀ G oO,V X c (fZ (fZ (fZ G t3 d) t2 b) t1 a) (jt oO t1 e) I M K)
  (aa:F t1=a) (ab:F t2=b) (aj:F t3=d) (aI:C t1=e):V X c F C I M K:=by
 have:=h F C;rwa [Ea aj,Ea ab,Ea aa,ahP aI]at this
def ahV(bu:ga I ax)(av:t.ok I)(aB:t.n<=1024):Spec Tryz.prog 191 [t.val] I [] λr I' M'=>r=.string (strOf (nG ax t))/\(∀ b o,I b=some o->I' b=some o)/\M'=[]:=by
 refine cb [3] a6 Tryz.func191 rfl rfl rfl ?_;intro B az;have ry:=av.n;cases af:right t with
 |true=>
  have rM:nG ax t=kY ax t.ns t.bn:=by simp[nG,af]
  rw[rM];have tA:=qw af;obtain⟨r,rH⟩:=eH tA.1;have fv:r<t.ns.length:=by omega
  obtain⟨ns,ji,gb,jB,bn⟩:=t;simp only at rH;subst rH;have rH:(⟨ns,ji,gb,jB,Int.ofNat r⟩:bS).bn=Int.ofNat r:=rfl;refine cV.scope a6 rfl (λy:Nat×Hc=>WZ ⟨ns,ji,gb,jB,Int.ofNat r⟩ y.1 y.2) (λ_=>0) (λy=>KP I ax ⟨ns,ji,gb,jB,Int.ofNat r⟩ y.2) (λy=>wi ns y.2.2.2.1) (λ_=>KO (Eb (Tryz.f191.body.getD .skip)) 0) (λ_ _=>⟨by kernel_rfl,by kernel_rfl⟩) ?_ ?_
  ·refine be.mk [] [] _ (.refl _) (qt bu.c av) ?_;rintro v I' M' -⟨rfl,rfl,rfl⟩;rw[af];refine a2.mk (λh=>by cases h) (λ_=>?_);refine bX.mk λg au BO=>?_;refine bX.mk λft Ed auX=>?_;refine W6 (t1:=1) (t2:=3) (t3:=4) (λG oO=>W0 bu av af aB (p:=λl y=>KP _ ax ⟨ns,ji,gb,jB,Int.ofNat r⟩ y.2/\0=l) (g:=g) (gl.new,⟨some ft,1,1,nH (r,0,false)⟩,[(r,0,false)],I') ?_ (λy aE _=>⟨aE,rfl⟩) B az G oO) rfl rfl rfl rfl;refine⟨λ_ _ h=>h,gl.KE,⟨rfl,(λh=>by cases h),λbQ _=>⟨rfl,ca _,by simp only[maxLen];omega,rfl⟩⟩,by simp,?_,?_,?_⟩
   ·intro e he;simp only[ed]at he;subst he;exact fv
   ·simp only[uY,zt,j6,List.flatMap_nil,ee];have dW:=WX (ax:=ax) af fv false;simp only at dW |-;rw[dW];simp[gl.new,paren]
   ·have aa:=WY af fv false;have ab:=ahO af;simp only[BL]at aa ab;simp only[wi,b0,hy,h4,D1];omega
  ·rintro⟨g,x⟩ad;refine W6 (t1:=1) (t2:=3) (t3:=4) (λG oO=>W0 bu av af aB (g:=g) x ad (λy aE aX=>⟨⟨aE,rfl⟩,aX⟩) B az G oO) rfl rfl rfl rfl
 |false=>
  have rM:nG ax t=[]:=by simp[nG,af]
  rw[rM];refine cV.scope a6 rfl (ι:=Empty) (λe=>nomatch e) (λe=>nomatch e) (λe=>nomatch e) (λe=>nomatch e) (λ_=>.skip) (λe=>nomatch e) ?_ (λe=>nomatch e);refine be.mk [] [] _ (.refl _) (qt bu.c av) ?_;rintro v I' M' -⟨rfl,rfl,rfl⟩;rw[af];refine a2.mk (λ_=>?_) (λh=>by cases h);exact⟨_,_,.refl,rfl,λ_ _ h=>h,rfl⟩
def aP.val(d:aP):Value:=.agg #[.string d.name,.slice d.t.a d.t.n d.t.c,.int .i64 d.t.bn]
def qA(ax:List Int)(d:aP):List UInt8:=
 bif decide (strOf (nG ax d.t)=⟨#[]⟩) || !nD d.name then []else d.name.data.toList++[32,60,45,32]++nG ax d.t++[10]
def W7(h:nD s=true):s.size<=32:=by unfold nD at h;simp only[cz,hV]at h;omega
def ahW(ax:List Int)(d:aP):(qA ax d).length<=37+2412*d.t.ns.length:=by
 have aa:=WT ax d.t;unfold qA;cases an:(decide (strOf (nG ax d.t)=⟨#[]⟩) || !nD d.name)with
 |true=>simp| false=>simp only[sF,Bool.not_eq_false']at an;have ab:=W7 an.2;have aj:d.name.data.toList.length=d.name.size:=rfl;simp only[b',ch,dx,fS];omega
def ahX(bu:ga I ax){d:aP}(ak:d.ok I)(aB:d.t.n<=1024):Spec Tryz.prog 147 [d.val] I [] λr I' M'=>r=.string (strOf (qA ax d))/\(∀ b o,I b=some o->I' b=some o)/\M'=[]:=by
 refine cb [] a6 Tryz.func147 rfl rfl rfl ?_;intro B az;refine be.mk [] [] _ (.refl _) (ahV bu ak.t aB) ?_;rintro v I1 M1 -⟨rfl,cH,rfl⟩;refine ct.mk (λaa=>?_) (λaa=>?_)
 ·refine be.mk [] [] _ (.refl _) (Pd _ d.name) ?_;rintro v I' M' -⟨rfl,rfl,rfl⟩;refine a2.mk (λab=>?_) (λab=>?_)
  ·refine⟨_,_,.refl,?_,cH,rfl⟩;have:qA ax d=[]:=by unfold qA;rw[aa,ab];rfl
   rw[this];rfl
  ·have hm:nD d.name=true:=by simpa using ab
   have ab:=W7 hm;have aj:d.name.data.toList.length=d.name.size:=rfl;have aI:=WT ax d.t;have bB:=ak.t.n;refine gw.concat (a:=d.name) (b:=strOf [32,60,45,32]) (by show _+4<=_;omega) ?_;refine gw.concat (a:=d.name++strOf [32,60,45,32]) (b:=strOf (nG ax d.t)) (by rw[Ku];show _+4+(nG ax d.t).length<=_;omega) ?_;refine gw.concat (a:=d.name++strOf [32,60,45,32]++strOf (nG ax d.t)) (b:=strOf [10]) (by rw[Ku,Ku];show _+4+(nG ax d.t).length+1<=_;omega) ?_;refine⟨_,_,.refl,?_,cH,rfl⟩;refine congrArg Value.string (D5 ?_);rw[qA,aa,hm];simp[strOf]
 ·refine⟨_,_,.refl,?_,cH,rfl⟩;have:qA ax d=[]:=by unfold qA;rw[aa];rfl
  rw[this];rfl
def qB(ax:List Int):List aP->List UInt8->List UInt8
 |[],a5=>a5| d::ds,a5=>bif decide (strOf (qA ax d)=⟨#[]⟩)then []else qB ax ds (a5++qA ax d)
def ahY(bu:ga I ax){g:cv}(au:g.ok I)(aB:g.n<=64)(av:∀ d∈g.ds,d.t.n<=1024):Spec Tryz.prog 95 [g.val] I [] λr I' M'=>r=.string (strOf (qB ax g.ds []))/\(∀ b o,I b=some o->I' b=some o)/\M'=[]:=by
 refine cb [3] a6 Tryz.func95 rfl rfl rfl ?_;intro B az;have fT:=au.n;have uZ:∀ d∈g.ds,d.t.ns.length<=1024:=λd ak=>by rw[(au.ds d ak).t.n];exact av d ak
 refine bX.mk λb ag sB=>?_;refine di.inv (ι:=Nat×gl×aJ) (λp=>{ bi:=[(3,.val (ptr b)),(8,.val (.slice g.a g.n g.c)),(9,.val (.int .i64 g.n)),(10,.val (.int .i64 p.1))],cD:=p.2.2,c0:=p.2.1.M b }) (λp=>p.1<=g.n/\p.2.1.ok/\(∀ b o,I b=some o->p.2.2 b=some o)/\p.2.1.bK.length<=2500000*p.1/\qB ax g.ds []=qB ax (g.ds.drop p.1) p.2.1.bK) (λp=>g.n-p.1) ?_ ?_
 ·exact⟨(0,gl.new,I),⟨by simp,gl.KE,λ_ _ h=>h,by simp[gl.new],rfl⟩,.refl,ew,.nil⟩
 ·rintro⟨i,x,I1⟩⟨hi,ad,cH,ij,ky⟩;simp only at hi ad cH ij ky;refine a2.mk (λh=>?_) (λh=>?_)
  ·have aX:i<g.n:=by simpa using h
   have cj:i<g.ds.length:=by omega
   have pI:=au.mono cH;obtain⟨aS,bH,bl⟩:=pI.a0.row aP.cP aX cj;have gz:g.ds[i]∈g.ds:=br cj;have zI:=ahW ax g.ds[i];have dW:=uZ _ gz;have j8:g.ds.drop i=g.ds[i]::g.ds.drop (i+1):=eV cj;refine bd.mk aS i bH rfl aX ?_;refine aM.mk _ (bl _) ?_;refine be.mk [] (x.M b) _ (.refl _) (ahX (bu.mono cH) (pI.ds _ gz) (av _ gz)) ?_;rintro v dI dq -⟨rfl,e4,rfl⟩;refine a2.mk (λaa=>?_) (λaa=>?_);·refine⟨_,_,.sub (fO _) .refl,?_,λb o h=>e4 _ _ (cH _ _ h),rfl⟩;rw[ky,j8,qB,aa];rfl
   ·refine be.mk (x.M b) [] _ (by simp) (uO b ad _ (by show _+(qA ax g.ds[i]).length<=_;omega)) ?_;rintro v I' M' -⟨rfl,rfl,y,aE,g3,rfl⟩;have W8:y.bK=x.bK++qA ax g.ds[i]:=g3;have fQ:IntKind.i64.wrap ((i:Int)+1)=((i+1:Nat):Int):=by rw[wrap_i64 ⟨by omega,by omega⟩];omega
    refine bg.mk _ fQ ?_;refine⟨(i+1,y,_),⟨⟨by simp only;omega,aE,λb o h=>e4 _ _ (cH _ _ h),?_,?_⟩,by simp only;omega⟩,.perm (by simp) .refl,ew,.nil⟩;·simp only;rw[W8,ch];omega
    ·simp only;rw[ky,j8,qB,aa,W8];rfl
  ·have cI:g.n<=i:=by simpa using h
   have hk:g.ds.drop i=[]:=kr (by omega);refine be.mk (x.M b) [] _ (by simp) (xW b ad (by omega)) ?_;rintro v I' M' -⟨rfl,rfl,rfl⟩;refine⟨_,_,.refl,?_,cH,by simp⟩;rw[ky,hk];rfl
def ahZ(bu:ga I ax){g:cv}(au:g.ok I)(aB:g.n<=64)(av:∀ d∈g.ds,d.t.n<=1024):Spec Tryz.prog 47 [g.val] I [] λr I' M'=>r=.int .i64 ((qB ax g.ds []).length:Int)/\(∀ b o,I b=some o->I' b=some o)/\M'=[]:=by refine cb [] a6 Tryz.func47 rfl rfl rfl ?_;intro B az;refine be.mk [] [] _ (.refl _) (ahY bu au aB av) ?_;rintro v I' M' -⟨rfl,bw,rfl⟩;exact⟨_,_,.refl,rfl,bw,rfl⟩
def kA(ns:List ao)(kind:Int):List Int->Bool
 |[]=>true| k::ks=>bif decide (iG ns k=kind)||(decide (iG ns k=0)&&decide (kind=4))then false else kA ns kind ks
def kZ(ns:List ao):List ao->Bool
 |[]=>true| d::ds=>bif !decide (d.k=4) && !decide (d.k=5)then kZ ns ds else bif kA ns d.k d.aw then kZ ns ds else false
def normal(t:bS):Bool:=right t&&kZ t.ns t.ns
def cL(h:i<=140737488355328):IntKind.i64.wrap ((i:Int)+1)=((i+1:Nat):Int):=by rw[wrap_i64 ⟨by omega,by omega⟩];omega
def ah0(an:m1 I)(av:t.ok I):Spec Tryz.prog 66 [t.val] I [] (λv I' M'=>v=.bool (normal t)/\I'=I/\M'=[]):=by
 refine cb [] a6 Tryz.func66 rfl rfl rfl ?_;intro B az;have aB:=av.n;have jx:=av.a0.cap;refine be.mk [] [] _ (.refl _) (qt an av) ?_;rintro v I' M' -⟨rfl,rfl,rfl⟩;refine a2.mk (λh=>?_) (λh=>?_)
 ·refine⟨_,_,.refl,?_,rfl,rfl⟩;simp[normal,show right t=false by simpa using h]
 ·have af:right t=true:=by simpa using h
  have ea:normal t=kZ t.ns t.ns:=by simp[normal,af]
  rw[ea];refine di.inv (ι:=Nat) (λi=>{ bi:=[(1,.ref 1 0),(12,.val (.slice t.a t.n t.c)),(13,.val (.int .i64 t.n)),(14,.val (.int .i64 i))],cl:=[(1,t.cells)],cD:=I' }) (λi=>i<=t.n/\kZ t.ns t.ns=kZ t.ns (t.ns.drop i)) (λi=>t.n-i) ?_ ?_;·exact⟨0,⟨by simp,rfl⟩,.refl,ew,.cons rfl .nil⟩
  ·rintro i⟨hi,fw⟩;refine a2.mk (λh=>?_) (λh=>?_)
   ·have aX:i<t.n:=by simpa using h
    have cj:i<t.ns.length:=by omega
    obtain⟨aS,bH,bl⟩:=av.a0.row ao.cP aX cj;have hK:=av.ns t.ns[i] (br cj);have e':=hK.aN;have j8:t.ns.drop i=t.ns[i]::t.ns.drop (i+1):=eV cj;refine bd.mk aS i bH rfl aX ?_;refine aM.mk _ (bl _) ?_;refine ct.mk (λeg=>?_) (λeg=>?_)
    ·refine a2.mk (λcy=>?_) (λcy=>?_)
     ·refine bg.mk _ (cL (i:=i) (by omega)) ?_;refine⟨i+1,⟨⟨by omega,?_⟩,by omega⟩,.refl,ew,.cons rfl .nil⟩;rw[fw,j8,kZ,eg,cy];rfl
     ·have iF:kZ t.ns t.ns=bif kA t.ns t.ns[i].k t.ns[i].aw then kZ t.ns (t.ns.drop (i+1))else false:=by rw[fw,j8,kZ,eg,cy];rfl
      refine di.inv (ι:=Nat) (λj=>{ bi:=[(1,.ref 1 0),(4,.ref 4 0),(12,.val (.slice t.a t.n t.c)),(13,.val (.int .i64 t.n)),(14,.val (.int .i64 i)),(27,.val (.slice t.ns[i].dB t.ns[i].aN t.ns[i].dp)),(28,.val (.int .i64 t.ns[i].aN)),(29,.val (.int .i64 j))],cl:=[(1,t.cells),(4,t.ns[i].cells)],cD:=I' }) (λj=>j<=t.ns[i].aN/\kA t.ns t.ns[i].k t.ns[i].aw=kA t.ns t.ns[i].k (t.ns[i].aw.drop j)) (λj=>t.ns[i].aN-j) ?_ ?_;·exact⟨0,⟨by simp,rfl⟩,.refl,jJ,.cons rfl (.cons rfl .nil)⟩
      ·rintro j⟨ai,m6⟩;refine a2.mk (λh=>?_) (λh=>?_)
       ·have eM:j<t.ns[i].aN:=by simpa using h
        have iD:j<t.ns[i].aw.length:=by omega
        obtain⟨gk,fu,fb⟩:=hK.a0.one eM iD;have j9:t.ns[i].aw.drop j=t.ns[i].aw[j]::t.ns[i].aw.drop (j+1):=eV iD;have ff:=mj af i cj _ (br iD);generalize jg:t.ns[i].aw[j]=ah1 at *;obtain⟨q,rfl⟩:=eH ff.1;have fe:q<t.ns.length:=by omega
        have oP:q<t.n:=by omega
        obtain⟨nI,sO,x2⟩:=av.a0.row ao.cP oP fe;have ms:∀ M,cF I' M ((nI.add (q*9)).add 0) 1 [.int .u8 t.ns[q].k]:=λM=>(x2 M).part (k:=0) (m:=1) (by decide);have u0:iG t.ns ((q:Nat):Int)=t.ns[q].k:=by simp[iG,bA,fe]
        have bad:(decide (t.ns[q].k=t.ns[i].k)||(decide (t.ns[q].k=0)&&decide (t.ns[i].k=4)))=true->kZ t.ns t.ns=false:=λag=>by rw[iF,m6,j9,kA,u0,ag];rfl
        have Hi:(decide (t.ns[q].k=t.ns[i].k)||(decide (t.ns[q].k=0)&&decide (t.ns[i].k=4)))=false->kA t.ns t.ns[i].k t.ns[i].aw=kA t.ns t.ns[i].k (t.ns[i].aw.drop (j+1)):=λag=>by rw[m6,j9,kA,u0,ag];rfl
        have fQ:=cL (i:=j) (by have:=hK.a0.cap;omega);refine bd.mk gk j fu rfl eM ?_;refine aM.mk _ (fb _) ?_;refine bd.mk nI q sO rfl oP ?_;refine aM.mk _ (ms _) ?_;refine ct.mk (λgy=>?_) (λgy=>?_)
        ·refine ct.mk (λgE=>?_) (λgE=>?_)
         ·refine a2.mk (λqC=>?_) (λqC=>?_)
          ·refine⟨_,_,.refl,?_,rfl,rfl⟩;rw[bad (by rw[gy,gE,qC];rfl)]
          ·refine bg.mk _ fQ ?_;exact⟨j+1,⟨⟨by omega,Hi (by rw[gy,gE,qC];rfl)⟩,by omega⟩,.refl,jJ,.cons rfl (.cons rfl .nil)⟩
         ·refine bg.mk _ fQ ?_;exact⟨j+1,⟨⟨by omega,Hi (by rw[gy,gE];rfl)⟩,by omega⟩,.refl,jJ,.cons rfl (.cons rfl .nil)⟩
        ·refine⟨_,_,.refl,?_,rfl,rfl⟩;rw[bad (by rw[gy];rfl)]
       ·have BK:t.ns[i].aw.drop j=[]:=kr (by simp at h;omega);refine bg.mk _ (cL (i:=i) (by omega)) ?_;refine⟨i+1,⟨⟨by omega,?_⟩,by omega⟩,.refl,ew,.cons rfl .nil⟩;rw[iF,m6,BK];rfl
    ·have iF:kZ t.ns t.ns=bif kA t.ns t.ns[i].k t.ns[i].aw then kZ t.ns (t.ns.drop (i+1))else false:=by rw[fw,j8,kZ,eg];rfl
     refine di.inv (ι:=Nat) (λj=>{ bi:=[(1,.ref 1 0),(4,.ref 4 0),(12,.val (.slice t.a t.n t.c)),(13,.val (.int .i64 t.n)),(14,.val (.int .i64 i)),(27,.val (.slice t.ns[i].dB t.ns[i].aN t.ns[i].dp)),(28,.val (.int .i64 t.ns[i].aN)),(29,.val (.int .i64 j))],cl:=[(1,t.cells),(4,t.ns[i].cells)],cD:=I' }) (λj=>j<=t.ns[i].aN/\kA t.ns t.ns[i].k t.ns[i].aw=kA t.ns t.ns[i].k (t.ns[i].aw.drop j)) (λj=>t.ns[i].aN-j) ?_ ?_;·exact⟨0,⟨by simp,rfl⟩,.refl,jJ,.cons rfl (.cons rfl .nil)⟩
     ·rintro j⟨ai,m6⟩;refine a2.mk (λh=>?_) (λh=>?_)
      ·have eM:j<t.ns[i].aN:=by simpa using h
       have iD:j<t.ns[i].aw.length:=by omega
       obtain⟨gk,fu,fb⟩:=hK.a0.one eM iD;have j9:t.ns[i].aw.drop j=t.ns[i].aw[j]::t.ns[i].aw.drop (j+1):=eV iD;have ff:=mj af i cj _ (br iD);generalize jg:t.ns[i].aw[j]=ah1 at *;obtain⟨q,rfl⟩:=eH ff.1;have fe:q<t.ns.length:=by omega
       have oP:q<t.n:=by omega
       obtain⟨nI,sO,x2⟩:=av.a0.row ao.cP oP fe;have ms:∀ M,cF I' M ((nI.add (q*9)).add 0) 1 [.int .u8 t.ns[q].k]:=λM=>(x2 M).part (k:=0) (m:=1) (by decide);have u0:iG t.ns ((q:Nat):Int)=t.ns[q].k:=by simp[iG,bA,fe]
       have bad:(decide (t.ns[q].k=t.ns[i].k)||(decide (t.ns[q].k=0)&&decide (t.ns[i].k=4)))=true->kZ t.ns t.ns=false:=λag=>by rw[iF,m6,j9,kA,u0,ag];rfl
       have Hi:(decide (t.ns[q].k=t.ns[i].k)||(decide (t.ns[q].k=0)&&decide (t.ns[i].k=4)))=false->kA t.ns t.ns[i].k t.ns[i].aw=kA t.ns t.ns[i].k (t.ns[i].aw.drop (j+1)):=λag=>by rw[m6,j9,kA,u0,ag];rfl
       have fQ:=cL (i:=j) (by have:=hK.a0.cap;omega);refine bd.mk gk j fu rfl eM ?_;refine aM.mk _ (fb _) ?_;refine bd.mk nI q sO rfl oP ?_;refine aM.mk _ (ms _) ?_;refine ct.mk (λgy=>?_) (λgy=>?_)
       ·refine ct.mk (λgE=>?_) (λgE=>?_)
        ·refine a2.mk (λqC=>?_) (λqC=>?_)
         ·refine⟨_,_,.refl,?_,rfl,rfl⟩;rw[bad (by rw[gy,gE,qC];rfl)]
         ·refine bg.mk _ fQ ?_;exact⟨j+1,⟨⟨by omega,Hi (by rw[gy,gE,qC];rfl)⟩,by omega⟩,.refl,jJ,.cons rfl (.cons rfl .nil)⟩
        ·refine bg.mk _ fQ ?_;exact⟨j+1,⟨⟨by omega,Hi (by rw[gy,gE];rfl)⟩,by omega⟩,.refl,jJ,.cons rfl (.cons rfl .nil)⟩
       ·refine⟨_,_,.refl,?_,rfl,rfl⟩;rw[bad (by rw[gy];rfl)]
      ·have BK:t.ns[i].aw.drop j=[]:=kr (by simp at h;omega);refine bg.mk _ (cL (i:=i) (by omega)) ?_;refine⟨i+1,⟨⟨by omega,?_⟩,by omega⟩,.refl,ew,.cons rfl .nil⟩;rw[iF,m6,BK];rfl
   ·have cI:t.n<=i:=by simpa using h
    have hk:t.ns.drop i=[]:=kr (by omega);refine⟨_,_,.refl,?_,rfl,rfl⟩;rw[fw,hk];rfl
def rN(t:bS):Nat:=bif right t then t.n else 0
def mu(g:cv):Nat:=(g.ds.map λd=>rN d.t).sum
def W9{α:Type}(f:α->Nat)(m:Nat):∀ (l:List α),(∀ x∈l,f x<=m)->(l.map f).sum<=m*l.length
 |[],_=>by simp
 |x::l,h=>by have aa:=h x (by simp);have ab:=W9 f m l λy aE=>h y (by simp[aE]);simp only[b0,h4,dx,Nat.mul_add];omega
def PH(an:m1 I){g:cv}(au:g.ok I)(aB:g.n<=64)(av:∀ d∈g.ds,d.t.n<=1024):Spec Tryz.prog 35 [g.val] I [] (λv I' M'=>v=.int .i64 (mu g:Nat)/\I'=I/\M'=[]):=by
 refine cb [] a6 Tryz.func35 rfl rfl rfl ?_;intro B az;have fT:=au.n;refine di.inv (ι:=Nat) (λi=>{ bi:=[(3,.val (.int .i64 (((g.ds.take i).map λd=>rN d.t).sum:Nat))),(7,.val (.slice g.a g.n g.c)),(8,.val (.int .i64 g.n)),(9,.val (.int .i64 i))],cD:=I }) (λi=>i<=g.n) (λi=>g.n-i) ?_ ?_
 ·exact⟨0,by simp,.refl,ew,.nil⟩
 ·intro i hi;refine a2.mk (λh=>?_) (λh=>?_)
  ·have aX:i<g.n:=by simpa using h
   have cj:i<g.ds.length:=by omega
   obtain⟨aS,bH,bl⟩:=au.a0.row aP.cP aX cj;have gz:g.ds[i]∈g.ds:=br cj;have ar:((g.ds.take i).map λd=>rN d.t).sum<=1024*(g.ds.take i).length:=W9 _ 1024 _ λd ak=>by
    have:=av d (Kv ak);unfold rN;cases right d.t<;>simp
    omega
   have ay:=BM i g.ds;have fq:rN g.ds[i].t<=1024:=by
    have:=av _ gz;unfold rN;cases right g.ds[i].t<;>simp
    omega
   refine bd.mk aS i bH rfl aX ?_;refine aM.mk _ (bl _) ?_;refine be.mk [] [] _ (.refl _) (Wl an (au.ds _ gz).t) ?_;rintro v I' M' -⟨rfl,rfl,rfl⟩;have aG:(bif right g.ds[i].t then(g.ds[i].t.n:Int)else 0)=(rN g.ds[i].t:Nat):=by
    unfold rN;cases right g.ds[i].t<;>rfl
   rw[aG];refine bg.mk ((((g.ds.take (i+1)).map λd=>rN d.t).sum:Nat):Int) ?_ ?_;·rw[wrap_i64 ⟨by omega,by omega⟩,gg cj,cM,qv];simp
   refine bg.mk _ (cL (i:=i) (by omega)) ?_;exact⟨i+1,⟨by omega,by omega⟩,.refl,ew,.nil⟩
  ·have cI:g.n<=i:=by simpa using h
   refine⟨_,_,.refl,?_,rfl,rfl⟩;rw[fA (by omega)];rfl
def oQ(ax:List Int)(g:cv):Bool:=
 decide (64<g.n)||((!g.ds.all λd=>pD d.t)||(decide (1024<mu g)||decide (8192<(qB ax g.ds []).length)))
def ah2(bu:ga I ax){g:cv}(au:g.ok I):Spec Tryz.prog 67 [g.val] I [] (λv I' M'=>v=.bool (oQ ax g)/\(∀ b o,I b=some o->I' b=some o)/\M'=[]):=by
 refine cb [] a6 Tryz.func67 rfl rfl rfl ?_;intro B az;have fT:=au.n;refine a2.mk (λaa=>?_) (λaa=>?_)
 ·refine⟨_,_,.refl,?_,λ_ _ h=>h,rfl⟩;have:64<g.n:=by simp at aa;omega
  simp[oQ,this]
 ·have aB:g.n<=64:=by simp at aa;omega
  have db:oQ ax g=((!g.ds.all λd=>pD d.t)||(decide (1024<mu g)||decide (8192<(qB ax g.ds []).length))):=by
   have:¬ 64<g.n:=by omega
   simp[oQ,this]
  rw[db];refine di.inv (ι:=Nat) (λi=>{ bi:=[(1,.ref 1 0),(10,.val (.slice g.a g.n g.c)),(11,.val (.int .i64 g.n)),(12,.val (.int .i64 i))],cl:=[(1,[.slice g.a g.n g.c])],cD:=I }) (λi=>i<=g.n/\(g.ds.take i).all (λd=>pD d.t)=true) (λi=>g.n-i) ?_ ?_;·exact⟨0,⟨by simp,rfl⟩,.refl,ew,.cons rfl .nil⟩
  ·rintro i⟨hi,gR⟩;refine a2.mk (λh=>?_) (λh=>?_)
   ·have aX:i<g.n:=by simpa using h
    have cj:i<g.ds.length:=by omega
    obtain⟨aS,bH,bl⟩:=au.a0.row aP.cP aX cj;have gz:g.ds[i]∈g.ds:=br cj;refine bd.mk aS i bH rfl aX ?_;refine aM.mk _ (bl _) ?_;refine be.mk [] [] _ (.refl _) (ahc bu.c (au.ds _ gz).t) ?_;rintro v I' M' -⟨rfl,rfl,rfl⟩;refine a2.mk (λab=>?_) (λab=>?_)
    ·refine⟨_,_,.refl,?_,λ_ _ h=>h,rfl⟩;have aA:pD g.ds[i].t=false:=by simpa using ab
     have:(g.ds.all λd=>pD d.t)=false:=by rw[Kw];exact⟨_,gz,by simp[aA]⟩
     rw[this];rfl
    ·have aA:pD g.ds[i].t=true:=by simpa using ab
     refine bg.mk _ (cL (i:=i) (by omega)) ?_;refine⟨i+1,⟨⟨by omega,?_⟩,by omega⟩,.refl,ew,.cons rfl .nil⟩;rw[gg cj,GW,gR];simp[aA]
   ·have cI:g.n<=i:=by simpa using h
    rw[fA (by omega)]at gR;rw[gR];have zJ:∀ d∈g.ds,d.t.n<=1024:=λd ak=>by have:=fy.1 gR d ak;unfold pD at this;simp only[cz,hV]at this;exact this.1
    refine be.mk [] [] _ (.refl _) (PH bu.c au aB zJ) ?_;rintro v I' M' -⟨rfl,rfl,rfl⟩;refine ct.mk (λab=>?_) (λab=>?_)
    ·refine be.mk [] [] _ (.refl _) (ahZ bu au aB zJ) ?_;rintro v dI M' -⟨rfl,e4,rfl⟩;refine⟨_,_,.refl,?_,e4,rfl⟩;have oK:¬ 1024<mu g:=by simp at ab;omega
     simp[oK];omega
    ·refine⟨_,_,.refl,?_,λ_ _ h=>h,rfl⟩;have oK:1024<mu g:=by simp at ab;omega
     simp[oK]
def cu(name:ByteArray):List aP->Nat->Int
 |[],_=>-1| d::ds,i=>bif decide (d.name=name)then(i:Int)else cu name ds (i+1)
def KR{g:cv}(au:g.ok I)(name:ByteArray):Spec Tryz.prog 31 [g.val,.string name] I [] (λv I' M'=>v=.int .i64 (cu name g.ds 0)/\I'=I/\M'=[]):=by
 refine cb [] a6 Tryz.func31 rfl rfl rfl ?_;intro B az;have fT:=au.n;have jx:=au.a0.cap;refine di.inv (ι:=Nat) (λi=>{ bi:=[(1,.val (.string name)),(8,.val (.slice g.a g.n g.c)),(9,.val (.int .i64 g.n)),(10,.val (.int .i64 i))],cD:=I }) (λi=>i<=g.n/\cu name g.ds 0=cu name (g.ds.drop i) i) (λi=>g.n-i) ?_ ?_
 ·exact⟨0,⟨by simp,rfl⟩,.refl,ew,.nil⟩
 ·rintro i⟨hi,aA⟩;refine a2.mk (λh=>?_) (λh=>?_)
  ·have aX:i<g.n:=by simpa using h
   have cj:i<g.ds.length:=by omega
   obtain⟨aS,bH,bl⟩:=au.a0.row aP.cP aX cj;have j8:g.ds.drop i=g.ds[i]::g.ds.drop (i+1):=eV cj;refine bd.mk aS i bH rfl aX ?_;refine aM.mk _ (bl _) ?_;refine a2.mk (λab=>?_) (λab=>?_);·refine⟨_,_,.refl,?_,rfl,rfl⟩;rw[aA,j8,cu,ab];rfl
   ·refine bg.mk _ (cL (i:=i) (by omega)) ?_;refine⟨i+1,⟨⟨by omega,?_⟩,by omega⟩,.refl,ew,.nil⟩;rw[aA,j8,cu,ab];rfl
  ·have cI:g.n<=i:=by simpa using h
   refine⟨_,_,.refl,?_,rfl,rfl⟩;rw[aA,kr (by omega)];rfl
def drop_cons{L:List α}{x:α}{bj:List α}(h:L.drop k=x::bj):∃ ae:k<L.length,L[k]=x/\L.drop (k+1)=bj:=by
 have ae:k<L.length:=by apply Kz;intro bm;rw[kr bm]at h;cases h
 have ak:=eV ae;rw[h]at ak;obtain⟨aa,ab⟩:=List.cons.inj ak;exact⟨ae,aa.symm,ab.symm⟩
def tJ:Nat->List aP->List (List Value)
 |_,[]=>[]| i,d::ds=>d.t.ns.map (λn=>[.int .i64 i,n.val])++tJ (i+1) ds
def ah3(g:cv):Spec Tryz.prog 68 [g.val] I [] λr I' M'=>∃ b,r=.func (.func 120) #[] #[ptr b]/\I' b=some (.cells #[.slice g.a g.n g.c] 24 (0,0))/\(∀ b o,I b=some o->I' b=some o)/\M'=[]:=by refine cb [1] a6 Tryz.func68 rfl rfl rfl ?_;intro B az;refine bX.mk λg au BO=>?_;exact⟨_,_,.kN rfl (by simp) .refl,g,rfl,mo ..,hL au,rfl⟩
def ah4{g:cv}(au:g.ok I)(ag:I b=some (.cells #[.slice g.a g.n g.c] 24 (0,0))) :
  Iter Tryz.prog 120 [ptr b] I (tJ 0 g.ds):=by
 intro l R kS qx dn M0 lr iA;refine za [] a6 Tryz.func120 rfl rfl rfl ?_;intro B az;have fT:=au.n;have jx:=au.a0.cap;have bl:∀ (M:List aD),cF dn M ((⟨b,0,none⟩:Addr).add 0) 1 [.slice g.a g.n g.c]:=λM=>⟨rfl,_,_,_,.inl (lr _ _ ag),rfl,rfl⟩;refine aM.mk _ (bl _) ?_;refine di.inv (ι:=Nat×Nat×aJ×List aD) (λx=>{ bi:=[(0,.val (.func (.yield l) #[] #[])),(8,.val (.slice g.a g.n g.c)),(9,.val (.int .i64 g.n)),(10,.val (.int .i64 x.1))],cD:=x.2.2.1,c0:=x.2.2.2 }) (λx=>x.1<=g.n/\(∀ b o,I b=some o->x.2.2.1 b=some o)/\R x.2.1 x.2.2.1 x.2.2.2/\x.2.1<=(tJ 0 g.ds).length/\(tJ 0 g.ds).drop x.2.1=tJ x.1 (g.ds.drop x.1)) (λx=>g.n-x.1) ?_ ?_
 ·exact⟨(0,0,dn,M0),⟨by simp,lr,iA,by simp,rfl⟩,.refl,ew,.nil⟩
 ·rintro⟨i,k,I1,M1⟩⟨hi,cH,g4,cA,ha⟩;simp only at hi cH g4 cA ha;refine a2.mk (λh=>?_) (λh=>?_)
  ·have aX:i<g.n:=by simpa using h
   have cj:i<g.ds.length:=by omega
   have pI:=au.mono cH;obtain⟨aS,bH,PI⟩:=pI.a0.row aP.cP aX cj;have gz:g.ds[i]∈g.ds:=br cj;have hD:=(au.ds _ gz).t.n;have zK:=(au.ds _ gz).t.a0.cap;have j8:g.ds.drop i=g.ds[i]::g.ds.drop (i+1):=eV cj;refine bd.mk aS i bH rfl aX ?_;refine aM.mk _ (PI _) ?_;refine di.inv (ι:=Nat×Nat×aJ×List aD) (λx=>{ bi:=[(0,.val (.func (.yield l) #[] #[])),(3,.val (.int .i64 i)),(8,.val (.slice g.a g.n g.c)),(9,.val (.int .i64 g.n)),(10,.val (.int .i64 i)),(17,.val (.slice g.ds[i].t.a g.ds[i].t.n g.ds[i].t.c)),(18,.val (.int .i64 g.ds[i].t.n)),(19,.val (.int .i64 x.1))],cD:=x.2.2.1,c0:=x.2.2.2 }) (λx=>x.1<=g.ds[i].t.n/\(∀ b o,I b=some o->x.2.2.1 b=some o)/\R x.2.1 x.2.2.1 x.2.2.2/\x.2.1<=(tJ 0 g.ds).length/\(tJ 0 g.ds).drop x.2.1=(g.ds[i].t.ns.drop x.1).map (λn=>[.int .i64 i,n.val])++tJ (i+1) (g.ds.drop (i+1))) (λx=>g.ds[i].t.n-x.1) ?_ ?_;·refine⟨(0,k,I1,M1),⟨by simp,cH,g4,cA,?_⟩,.refl,jJ,.nil⟩;simp only;rw[ha,j8];rfl
   ·rintro⟨j,k,I1,M1⟩⟨ai,cH,g4,cA,ha⟩;simp only at ai cH g4 cA ha;refine a2.mk (λh=>?_) (λh=>?_)
    ·have eM:j<g.ds[i].t.n:=by simpa using h
     have iD:j<g.ds[i].t.ns.length:=by omega
     have pI:=au.mono cH;obtain⟨ls,lu,hZ⟩:=(pI.ds _ gz).t.a0.row ao.cP eM iD;have bF:g.ds[i].t.ns.drop j=g.ds[i].t.ns[j]::g.ds[i].t.ns.drop (j+1):=eV iD;rw[bF,b0,m4]at ha;obtain⟨ae,ah,qD⟩:=drop_cons ha;refine bd.mk ls j lu rfl eM ?_;refine aM.mk _ (hZ _) ?_;refine bz.yield rfl (by simp) rfl rfl ?_;have aE:=qx k ae I1 M1 cH g4;rw[ah]at aE;refine zm.mk M1 [] _ (by simp) aE ?_;rintro v dI dq e4 (⟨rfl,ll⟩ | ⟨rfl,ad⟩);·refine a2.mk (λh=>by simp at h) (λ_=>?_);refine bg.mk _ (cL (i:=j) (by omega)) ?_;exact⟨(j+1,k+1,dI,dq),⟨⟨by simp only;omega,λb o h=>e4 b o (cH b o h),ll,ae,qD⟩,by simp only;omega⟩,.perm (by simp) .refl,jJ,.nil⟩
     ·refine a2.mk (λ_=>?_) (λh=>by simp at h);exact⟨_,_,.perm (by simp) .refl,.inr ad⟩
    ·have cI:g.ds[i].t.n<=j:=by simpa using h
     rw[kr (show g.ds[i].t.ns.length<=j by omega),hy,iz]at ha;refine bg.mk _ (cL (i:=i) (by omega)) ?_;exact⟨(i+1,k,I1,M1),⟨⟨by simp only;omega,cH,g4,cA,ha⟩,by simp only;omega⟩,.refl,ew,.nil⟩
  ·have cI:g.n<=i:=by simpa using h
   refine⟨_,_,.refl,.inl ?_⟩;rw[kr (show g.ds.length<=i by omega)]at ha;have xZ:k=(tJ 0 g.ds).length:=by have:=DX.1 ha;omega
   rw[<-xZ];exact g4
def hN(ns:List ao):List ByteArray:=(ns.filter λd=>decide (d.k=3)).map (·.t)
def ah5(t:bS):Spec Tryz.prog 190 [t.val] I [] λr I' M'=>∃ b,r=.func (.func 229) #[] #[ptr b]/\I' b=some (.cells #[.slice t.a t.n t.c,.int .i64 t.bn] 31 (0,0))/\(∀ b o,I b=some o->I' b=some o)/\M'=[]:=by refine cb [1] a6 Tryz.func190 rfl rfl rfl ?_;intro B az;refine bX.mk λg au BO=>?_;exact⟨_,_,.kN rfl (by simp) .refl,g,rfl,mo ..,hL au,rfl⟩
def ah6(av:t.ok I)(ag:I b=some (.cells #[.slice t.a t.n t.c,.int .i64 t.bn] 31 (0,0))) :
  Iter Tryz.prog 229 [ptr b] I ((hN t.ns).map λs=>[.string s]):=by
 intro l R kS qx dn M0 lr iA;refine za [] a6 Tryz.func229 rfl rfl rfl ?_;intro B az;have hD:=av.n;have jx:=av.a0.cap;have bl:∀ (M:List aD),cF dn M ((⟨b,0,none⟩:Addr).add 0) 1 [.slice t.a t.n t.c]:=λM=>⟨rfl,_,_,_,.inl (lr _ _ ag),rfl,rfl⟩;refine aM.mk _ (bl _) ?_;refine di.inv (ι:=Nat×Nat×aJ×List aD) (λx=>{ bi:=[(0,.val (.func (.yield l) #[] #[])),(6,.val (.slice t.a t.n t.c)),(7,.val (.int .i64 t.n)),(8,.val (.int .i64 x.1))],cD:=x.2.2.1,c0:=x.2.2.2 }) (λx=>x.1<=t.n/\(∀ b o,I b=some o->x.2.2.1 b=some o)/\R x.2.1 x.2.2.1 x.2.2.2/\x.2.1<=((hN t.ns).map λs=>[Value.string s]).length/\((hN t.ns).map λs=>[Value.string s]).drop x.2.1=(hN (t.ns.drop x.1)).map λs=>[.string s]) (λx=>t.n-x.1) ?_ ?_
 ·exact⟨(0,0,dn,M0),⟨by simp,lr,iA,by simp,rfl⟩,.refl,ew,.nil⟩
 ·rintro⟨j,k,I1,M1⟩⟨ai,cH,g4,cA,ha⟩;simp only at ai cH g4 cA ha;refine a2.mk (λh=>?_) (λh=>?_)
  ·have eM:j<t.n:=by simpa using h
   have iD:j<t.ns.length:=by omega
   have BZ:=av.mono cH;obtain⟨ls,lu,hZ⟩:=BZ.a0.row ao.cP eM iD;have bF:t.ns.drop j=t.ns[j]::t.ns.drop (j+1):=eV iD;refine bd.mk ls j lu rfl eM ?_;refine aM.mk _ (hZ _) ?_;refine ct.mk (λaa=>?_) (λaa=>?_)
   ·have qz:hN (t.ns.drop j)=t.ns[j].t::hN (t.ns.drop (j+1)):=by rw[bF];simp only[hN,pu,aa,pk,b0]
    rw[qz,b0]at ha;obtain⟨ae,ah,qD⟩:=drop_cons ha;refine bz.yield rfl (by simp) rfl rfl ?_;have aE:=qx k ae I1 M1 cH g4;rw[ah]at aE;refine zm.mk M1 [] _ (by simp) aE ?_;rintro v dI dq e4 (⟨rfl,ll⟩ | ⟨rfl,ad⟩);·refine a2.mk (λh=>by simp at h) (λ_=>?_);refine bg.mk _ (cL (i:=j) (by omega)) ?_;exact⟨(j+1,k+1,dI,dq),⟨⟨by simp only;omega,λb o h=>e4 b o (cH b o h),ll,ae,qD⟩,by simp only;omega⟩,.perm (by simp) .refl,ew,.nil⟩
    ·refine a2.mk (λ_=>?_) (λh=>by simp at h);exact⟨_,_,.perm (by simp) .refl,.inr ad⟩
   ·have qz:hN (t.ns.drop j)=hN (t.ns.drop (j+1)):=by rw[bF];have tz:decide (t.ns[j].k=3)=false:=aa;simp only[hN,pu,tz];rfl
    rw[qz]at ha;refine bg.mk _ (cL (i:=j) (by omega)) ?_;exact⟨(j+1,k,I1,M1),⟨⟨by simp only;omega,cH,g4,cA,ha⟩,by simp only;omega⟩,.refl,ew,.nil⟩
  ·have cI:t.n<=j:=by simpa using h
   refine⟨_,_,.refl,.inl ?_⟩;rw[kr (show t.ns.length<=j by omega)]at ha;have xZ:k=((hN t.ns).map λs=>[Value.string s]).length:=by have:=DX.1 ha;omega
   rw[<-xZ];exact g4
section
variable{X:cU}{β:Nat->Nat}{a:Act}{w:World}{F:Fr}{C:dC}{I:aJ}{M:List aD}{o:Oper}{K:gi}
def cK.swap{n:Nat}{nC KS:Obj}{w':World}(h:cK X β a w F C I (⟨n,nC⟩::M))(ar:w'.heap.size=w.heap.size)(aB:w'.heap[n]?=some KS)(ag:∀ b,b≠n->w'.heap[b]?=w.heap[b]?)(aH:ot w w'):cK X β a w' F C I (⟨n,KS⟩::M):=by
 have aa:=h.V0 ar ag aH;have gx:(⟨n,nC⟩:aD)∈(⟨n,nC⟩:aD)::M:=by simp
 have bF:=h.holds.cd;simp only[b0,lL]at bF;have mem:∀ x,x∈(⟨n,KS⟩:aD)::M->x=⟨n,KS⟩\/x∈M:=λx ad=>ec.1 ad;exact {
  size:=aa.size
  defers:=by
   obtain⟨a0,aG,a7,cn⟩:=aa.defers;obtain⟨ah7,f1,f2,f3⟩:=h.defers;refine⟨a0,aG,a7,λr af=>{ cn r af with eW:=λx ad=>?_ }⟩;rcases mem x ad with rfl | ad
   ·have dr:a0=ah7:=by
     have:=aG.symm.trans f1;have KT:∀ l ev:List Nat,l.map xx=ev.map xx->l=ev:=by
      intro l
      induction l with
      |nil=>intro ev h;cases ev with
       |nil=>rfl| cons=>simp at h
      |cons y l aL=>intro ev h;cases ev with
       |nil=>simp at h
       |cons z ev=>
        simp only[b0,xU,xx,Deferred.mk.injEq]at h;have aE:y=z:=by simpa using h.1
        rw[aE,aL ev h.2]
     exact KT _ _ this
    subst dr;exact(f3 r af).eW ⟨n,nC⟩ gx
   ·exact(cn r af).eW x ad
  holds:={
   i:=aa.holds.i
   m:=λx ad=>by
    rcases mem x ad with rfl | ad;·exact aB
    ·exact aa.holds.m x ad
   d:=λx ad=>by
    rcases mem x ad with rfl | ad;·exact h.holds.d ⟨n,nC⟩ gx
    ·exact aa.holds.d x ad
   cd:=by simpa using bF }
  al:=h.al
  cf:=λs cs nx=>by
   have rh:=h.cf s cs nx;refine { aa.cf s cs nx with eW:=λx ad=>?_ };rcases mem x ad with rfl | ad;·exact rh.eW ⟨n,nC⟩ gx
   ·exact(aa.cf s cs nx).eW x ad
  inj:=h.inj
  ie:=h.ie
  hI:=h.hI
  own:=λx ad=>by
   rcases mem x ad with rfl | ad;·exact h.own ⟨n,nC⟩ gx
   ·exact aa.own x ad
  dH:=aa.dH
  out:=aa.out
  sz:=aa.sz
  fp:=aa.fp }
def oR(l:List (ByteArray×Int)):Nat->List MapEntry
 |i=>match l with
  |[]=>[]| p::l=>{ key:=.string p.1,val:=.int .i64 p.2,born:=i }::oR l (i+1)
def jC(l:List (ByteArray×Int)):Obj:=.map (oR l 0).toArray l.length
def ez(s:ByteArray):List (ByteArray×Int)->Option Int
 |[]=>none| p::l=>bif decide (s=p.1)then some p.2 else ez s l
def ah8(l:List (ByteArray×Int))(p:ByteArray×Int):∀ i,oR (l++[p]) i=oR l i++[{ key:=.string p.1,val:=.int .i64 p.2,born:=i+l.length }]:=by
 induction l with
 |nil=>intro i;simp[oR]| cons q l aL=>intro i;simp only[m4,oR,aL,dx,xU,true_and,List.append_cancel_left_eq,MapEntry.mk.injEq,and_true];omega
def bytes_beq(a b:ByteArray):(a == b)=decide (a=b):=by
 rw[sm];simp only[hV];constructor
 ·intro h
  first | exact eq_of_beq h | exact vL (eq_of_beq (a:=a.data) (b:=b.data) h)
 ·rintro rfl
  first | exact Gw _ | exact Gw a.data
def KU(s:ByteArray):∀ (l:List (ByteArray×Int)) (i j:Nat),∃ r,Instr.findNow .string (.string s) (oR l i) j=some r/\r.map (·.2)=(ez s l).map (Value.int .i64)
 |[],i,j=>⟨none,rfl,rfl⟩
 |p::l,i,j=>by
  obtain⟨r,aa,ab⟩:=KU s l (i+1) (j+1);unfold oR Instr.findNow;simp only[Instr.sameNow,bytes_beq];cases ag:decide (s=p.1)with
  |true=>exact⟨_,rfl,by simp[ez,ag]⟩| false=>exact⟨r,aa,by simp only[ez,ag,b'];exact ab⟩
def bz.makeMap(aO:cT X.P X.E){t:Nat}{r:Operand}(aH:o.op=.makeMap t (some r))(ak:∀ d,o.dst=some d->d<X.n)(av:X.E t=some c7)(dR:c7.bL=.map k e)
  {q:IntKind} {n:Int} (af:bE F r=.val (.int q n)) (h:∀ b,K (put o.dst (.val (.map (some b))) F) C I (⟨b,jC []⟩::M)):bz X o F C I M K:=by
 refine⟨λa w Q ⟨β,aV⟩=>?_⟩;obtain⟨d,fF,fk⟩:=(aO _ _ av).fo;have aa:d=.map k e:=by rw[dR]at fk;cases d<;>simp_all[fm]
 subst aa;have PJ:=dd aV.al af;refine iY (by rw[aH];simp) (v:=.map (some w.heap.size)) (w':=w.alloc (.map #[] 0)) ?_ ⟨_,_,_,_,⟨β,cK.put (x:=.val (.map (some w.heap.size))) (aV.nY (jC [])) ak rfl⟩,h _⟩;unfold execOp;simp only[aH,k9,PJ];simp[Instr.makeMap,run_underlying fF,asInt,ox]
def bz.lookup(aO:cT X.P X.E){t:Nat}(aH:o.op=.lookup t x y true)(ak:∀ d,o.dst=some d->d<X.n)(av:X.E t=some c7)(dR:c7.bL=.map k e)(ae:X.E k=some tx)(eR:tx.bL=.string)(bb:∀ w,(zeroValue e).run X.P w=.ok (.int .i64 0) w)(ad:bE F x=.val (.map (some g)))(aE:bE F y=.val (.string s))(a':(⟨g,jC l⟩:aD)∈M)
  (h:K (put o.dst (.val (.tuple #[.int .i64 ((ez s l).getD 0),.bool (ez s l).isSome])) F) C I M):bz X o F C I M K:=by
 refine⟨λa w Q ⟨β,aV⟩=>?_⟩;obtain⟨d,fF,fk⟩:=(aO _ _ av).fo;have aa:d=.map k e:=by rw[dR]at fk;cases d<;>simp_all[fm]
 subst aa;obtain⟨dc,sP,hK⟩:=(aO _ _ ae).fo;have ab:dc=.string:=by rw[eR]at hK;cases dc<;>simp_all[fm]
 subst ab;have au:w.heap[g]?=some (.map (oR l 0).toArray l.length):=aV.holds.m _ a';have ex:=dd aV.al ad;have oJ:=dd aV.al aE;obtain⟨r,vR,mv⟩:=KU s l 0 0;have an:(Instr.checkKey (oR l 0).toArray.isEmpty 10000 k (.string s)).run X.P w=.ok () w:=DY (k:=.string s) sP (by simp[MapKept.IsKey]) _ 9999;have u4:(Instr.findKey k (.string s) (oR l 0)).run X.P w=.ok r w:=DZ sP vR;have fa:(Instr.lookup t (.map (some g)) (.string s) true).run X.P w=.ok (.tuple #[.int .i64 ((ez s l).getD 0),.bool (ez s l).isSome]) w:=by
  unfold Instr.lookup;simp only[ck,run_underlying fF,bV,DW au,c3,an,u4];cases r with
  |none=>
   cases ay:ez s l with
   |none=>simp[bb]| some v=>rw[ay]at mv;simp at mv
  |some p=>
   cases ay:ez s l with
   |none=>rw[ay]at mv;simp at mv| some v=>rw[ay]at mv;simp only[k9,jY]at mv;simp[mv]
 refine vQ aV ak (by rw[aH];simp) ?_ h;unfold execOp;simp only[aH,ex,oJ,ck,fa,bV,c3]
def bz.W'(aO:cT X.P X.E){t:Nat}{z:Operand}(aH:o.op=.mapUpdate t x y z)(ak:o.dst=none)(av:X.E t=some c7)(dR:c7.bL=.map k e)(ae:X.E k=some tx)(eR:tx.bL=.string)
 {v:Int} (ad:bE F x=.val (.map (some g))) (aE:bE F y=.val (.string s)) (Bn:bE F z=.val (.int .i64 v)) (ay:ez s l=none)
  {Mr:List aD} (a':M.Perm (⟨g,jC l⟩::Mr)) (h:K F C I (⟨g,jC (l++[(s,v)])⟩::Mr)):bz X o F C I M K:=by
 refine⟨λa w Q ⟨β,iA⟩=>?_⟩;have aV:cK X β a w F C I (⟨g,jC l⟩::Mr):=iA.hW (.perm a' .refl);obtain⟨d,fF,fk⟩:=(aO _ _ av).fo;have aa:d=.map k e:=by rw[dR]at fk;cases d<;>simp_all[fm]
 subst aa;obtain⟨dc,sP,hK⟩:=(aO _ _ ae).fo;have ab:dc=.string:=by rw[eR]at hK;cases dc<;>simp_all[fm]
 subst ab;have au:w.heap[g]?=some (.map (oR l 0).toArray l.length):=aV.holds.m ⟨g,jC l⟩ (by simp);have ex:=dd aV.al ad;have oJ:=dd aV.al aE;have PK:=dd aV.al Bn;obtain⟨r,vR,mv⟩:=KU s l 0 0;have af:r=none:=by
  rw[ay]at mv;cases r with
  |none=>rfl| some _=>simp at mv
 subst af;have an:(Instr.checkKey false 10000 k (.string s)).run X.P w=.ok () w:=DY (k:=.string s) sP (by simp[MapKept.IsKey]) _ 9999;have u4:(Instr.findKey k (.string s) (oR l 0)).run X.P w=.ok none w:=DZ sP vR;have e7:jC (l++[(s,v)])=.map ((oR l 0).toArray.push { key:=.string s,val:=.int .i64 v,born:=l.length }) (l.length+1):=by unfold jC;rw[ah8];simp
 have fa:(Instr.mapUpdate t (.map (some g)) (.string s) (.int .i64 v)).run X.P w=.ok () { w with heap:=w.heap.setIfInBounds g (jC (l++[(s,v)])) }:=by unfold Instr.mapUpdate;simp only[ck,run_underlying fF,bV,DW au,an,u4,Pe _ au,e7]
 have g0:=MapKept.heap_set (o':=jC (l++[(s,v)])) au;refine Dz (by rw[aH];simp) (w':={ w with heap:=w.heap.setIfInBounds g (jC (l++[(s,v)])) }) ?_ ⟨F,C,I,_,⟨β,?_⟩,h⟩
 ·unfold execOp;simp only[aH,ex,oJ,PK,ck,fa,bV,c3]
 ·rw[ak];exact aV.swap (by simp) g0.1 g0.2 ⟨rfl,rfl⟩
end
end Go.V
