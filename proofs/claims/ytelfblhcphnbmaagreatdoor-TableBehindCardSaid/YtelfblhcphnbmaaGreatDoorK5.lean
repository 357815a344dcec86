/- Part 5 of what the proofs of this seat share: the executor, data in memory, walks.
-/
import Derived.Test.YtelfblhcphnbmaaGreatDoorK4
import Derived.Test.YtelfblhcphnbmaaGreatDoorK2
import Derived.Test.YtelfblhcphnbmaaGreatDoorK3
set_option linter.all false
set_option maxHeartbeats 8000000
namespace Go.V
open Go
def hn:=@Nat.sub_zero
def pd:=@List.length_reverse
def vX:=@Nat.sub_self
def Fz:=@List.reverse_cons
def JD:=@List.reverse_append
def JE:=@List.range_succ
variable{K:cF->aN->List aC->Prop}{x y:Operand}{t:dp}{e m c' n bt fQ z aB sU:Nat}{cP aE:dw}{xs:List Value}{I J I':aN}{M0 M post D:List aC}{d:a1}{l:List Nat}{hx dm:Option Addr}{nv rv rwv:Value}{L p parts rest kQ:List (Nat×Nat)}{kb:List (Nat×List Nat)}{os gP gl:bb}{xW zE zF zG:aC}
section
variable{X:b'}{F:Fr}{C:cG}{I:aN}{M:List aC}{o:Oper}
def tz.ZT(aI:cj X.P X.E){s:Operand}{t:Nat}(an:o.op=.call { callee:=.builtin .append,args:=#[s,x],argTypes:=#[t,t] })
 (az:X.E t=some cP) (da:cP.bn=.slice e) (he:X.E e=some aE)
  (os:bb) (aW:os.ok aE.size xs) (aq:bi F s=.val os.val)
  {ad:Addr} (ae:bi F x=.val (.slice (some ad) m c')) {news:List Value} (hm:0<m) (aw:ck I M ad (m*aE.size) news) (aa:ga news=true)
  {Mr:List aC} (a5:M.Perm (os.aV e++Mr)) (cU:os.n+m<=maxLen) (b9:(os.n+m)*aE.bytes<=140737488355328)
  (M':bb->List aC) (JF:∀ b5:bb,(b5.aV e++Mr).Perm (M' b5))
  (k:∀ b5:bb,b5.n=os.n+m->(∀ g,b5.a=some g->I g=none)->b5.ok aE.size (xs++news)->K (.val b5.val) I (M' b5)):tz X o F C I M K:=by
 refine⟨fun β a w Q jk=>?_⟩;have zH:news.length=m*aE.size:=by obtain⟨_,_,_,_,_,_,h⟩:=aw;exact h
 have fA:∀ w,dC I M w->(Builtin.firstCells aE.size m (.slice (some ad) m c')).run X.P w=.ok news.toArray w:=λw hw=>by
  obtain⟨bI,cs,T,aj,dK,ah,ay⟩:=aw;refine run_firstCells_some (P:=X.P) w aE.size m ad m c' news ay λj v ar=>?_;rw[dx _ bI,rQ (dK.heap hw)];rw[<-ah,jY]at ar;split at ar;·rw[oE]at ar;simpa using ar
  ·cases ar
 have aX:bY X β a w F C I (os.aV e++Mr):=jk.gS (.perm a5 .refl);obtain⟨inf,z,hi,eM,gd,hs,jB⟩:=(aI _ _ he).inf;obtain⟨k6,oU,jI⟩:=(aI _ _ az).ep;have qS:k6=.slice e:=by rw[da]at jI;cases k6<;>simp_all[ek]
 subst qS;have tI:z.cells.size=inf.size:=by rw[eM,<-(aI _ _ he).len,<-jB];simp
 have xX:=aW;rw[<-eM]at aW zH fA;obtain⟨g,c,cur,w',eu,aO,aP,br,eW,mj⟩:=Ns (P:=X.P) (w:=w) t t o.type e inf z oU oU (λk bc=>by cases bc) hi hs tI aW (λg aG=>aX.holds.m ⟨g,.cells os.cur.toArray e (0,0)⟩ (by simp[bb.aV,aG])) (x:=.slice (some ad) m c') hm zH (wN aa) (λ_=>rfl) (λw' HN=>fA w' (jk.holds.heap HN)) cU (by rw[gd];exact b9);rw[eM]at aO eW zH;have HO:I g=none:=by
  rcases mj with⟨aG,_⟩ | ⟨rfl,_⟩;·exact aX.holds.d ⟨g,.cells os.cur.toArray e (0,0)⟩ (by simp[bb.aV,aG])
  ·cases a':I w.heap.size with
   |none=>rfl| some lH=>have:=aX.holds.i _ _ a';simp at this
 have es:=cw aX.aj aq;have ex:=cw aX.aj ae;have FA:(⟨some g,os.n+m,c,cur⟩:bb).ok aE.size (xs++news):=by
  refine⟨?_,(λh=>by cases h),λc5 aG=>?_⟩;·rw[cD,xX.len,zH,iV]
  ·cases aG;exact⟨aO,aP,br,eW⟩
 refine g9 (by rw[an];simp) (v:=.slice (some ⟨g,0,none⟩) (os.n+m) c) (w':=w') ?_ ⟨_,.val (.slice (some ⟨g,0,none⟩) (os.n+m) c),I,M' ⟨some g,os.n+m,c,cur⟩,rfl,rfl,?_,k ⟨some g,os.n+m,c,cur⟩ rfl (λc5 aG=>by cases aG;exact HO) FA,rfl⟩
 ·unfold execOp;simp only[an,resolve,invoke,builtin,bH,ch,bx,r',eh,pT,es,ex,eu]
 ·refine bY.gS ?_ (.perm (JF _) .refl);rcases mj with⟨aG,rfl⟩ | ⟨rfl,rfl⟩
  ·have ag:os.aV e=[⟨g,.cells os.cur.toArray e (0,0)⟩]:=by simp[bb.aV,aG]
   rw[ag]at aX;exact aX.u2 (pre:=[]) (post:=Mr) rfl
  ·have ab:bY X β a w.drew F C I (os.aV e++Mr):=aX.world rfl;have ai:=ab.l' (.cells cur.toArray e (0,0));refine ai.gS (.sub ?_ .refl);exact List.Sublist.cons_cons _ (k2 _ _)
def tz.zz(aI:cj X.P X.E){s:Operand}{t:Nat}(an:o.op=.call { callee:=.builtin .append,args:=#[s,x],argTypes:=#[t,t] })
 (az:X.E t=some cP) (da:cP.bn=.slice e) (he:X.E e=some aE)
  (os:bb) (aW:os.ok aE.size xs) (aq:bi F s=.val os.val)
  {b6:Nat} {cs:List Value} (ae:bi F x=.val (.slice (some ⟨b6,0,none⟩) 1 c')) (ay:cs.length=aE.size) (aa:ga cs=true)
  (pre post:List aC) (a5:M=⟨b6,.cells cs.toArray e (0,0)⟩::(pre++(os.aV e++post))) (cU:os.n+1<=9223372036854775807) (b9:(os.n+1)*aE.bytes<=140737488355328)
  (k:∀ b5:bb,b5.n=os.n+1->(∀ g,b5.a=some g->I g=none)->b5.ok aE.size (xs++cs)->K (.val b5.val) I (⟨b6,.cells cs.toArray e (0,0)⟩::(pre++(b5.aV e++post)))):tz X o F C I M K:=by
 have aH:∀ b5:bb,(b5.aV e++(⟨b6,.cells cs.toArray e (0,0)⟩::(pre++post)):List aC).Perm (⟨b6,.cells cs.toArray e (0,0)⟩::(pre++(b5.aV e++post))):=λb5=>
  qf.trans (.cons _ (E9 _ _ _))
 refine .ZT aI an az da he os aW aq (m:=1) (news:=cs) ae (by decide) ?_ aa (Mr:=⟨b6,.cells cs.toArray e (0,0)⟩::(pre++post)) ?_ (by unfold maxLen;exact cU) b9 _ aH k
 ·rw[oR];refine⟨rfl,_,_,_,.inr ⟨⟨b6,.cells cs.toArray e (0,0)⟩,by rw[a5];exact .head _,rfl,rfl⟩,?_,ay⟩;simp only[yY];exact hN (by omega)
 ·rw[a5];exact(aH os).symm
end
open Go Go.Proofs
def JG{ds:List bP}{i:Nat}(hi:i<ds.length):cz (ds.take (i+1))=cz (ds.take i)+ds[i].t.ns.length:=by unfold cz;rw[jw hi,hq,Ie];simp
def JH(ds:List bP)(i:Nat):cz (ds.take i)<=cz ds:=by
 conv=>rhs;rw[<-w3 i ds]
 unfold cz;rw[hq,Ie];omega
def QQ:∀ (b:Nat) (ds:List bP) (i:Nat) (hi:i<ds.length) (c6:i<(gy b ds).length),(gy b ds)[i]=b+cz (ds.take i)+ds[i].t.root.toNat
 |b,d::ds,0,_,_=>by simp[gy,cz]
 |b,d::ds,i+1,hi,c6=>by have:=QQ (b+d.t.ns.length) ds i (by simpa using hi) (by simpa[gy]using c6);simp only[gy,D8,this,qN];simp[cz];omega
def ZU(m:Nat):rowOf hB.cells (m*4)=(List.replicate m hB).flatMap bE.cells:=by
 induction m with
 |zero=>rfl
 |succ w a8=>
  have e:(w+1)*4=w*4+4:=by omega
  have aA:rowOf hB.cells ((w+1)*4)=rowOf hB.cells (w*4)++hB.cells:=by
   unfold rowOf;rw[e,List.range_add,hq];congr 1;apply yX (by rfl);intro i aa ab;simp only[nV,qe];have ai:i<4:=by simpa using aa
   have aQ:(w*4+i)%hB.cells.length=i:=by show(w*4+i)%4=i;omega
   rw[aQ]
   match i,ai with
   |0,_=>rfl| 1,_=>rfl| 2,_=>rfl| 3,_=>rfl
  rw[aA,a8,List.replicate_succ'];simp
def QR(w:Nat):∀ n,((List.range n).flatMap λ_=>(List.range w).flatMap λ_=>hB.cells)=(List.replicate (n*w) hB).flatMap bE.cells
 |0=>by rw[A7];rfl
 |n+1=>by
  have aa:((List.range w).flatMap λ_=>hB.cells)=(List.replicate w hB).flatMap bE.cells:=by
   have e:(List.range w).map (λ_=>hB)=List.replicate w hB:=by rw[List.map_const',rc]
   rw[<-e,BY]
  rw[JE,mg,QR w n,qO,List.flatMap_nil,en,aa,<-mg,List.replicate_append_replicate,iV,oR]
def zI(ej w i:Nat):Value:=.slice (some ⟨ej,i*(w*4),none⟩) w w
def Ci(ej w n:Nat):List Value:=(List.range n).map (zI ej w)
def ZV(n w:Nat)(aw:n<=4096)(hw:w<=8192)(aa:1<=w):Spec Tryz.prog 61 [.int .i64 n,.int .i64 w] I M0 λv I' M'=>I'=I/\∃ hZ ej,v=.slice (some ⟨hZ,0,none⟩) n n /\
  M'=⟨hZ,.cells (Ci ej w n).toArray 108 (0,0)⟩::⟨ej,.cells ((List.replicate (n*w) hB).flatMap bE.cells).toArray 107 (0,0)⟩::M0:=by
 refine b8 [] aT Tryz.func61 rfl rfl rfl ?_;intro B au;have hle:∀ i,i<=n->i*w<=33554432:=λi hi=>by have:=Nat.mul_le_mul (jy hi aw) hw;omega
 have agp:=hle n (bS _);refine a6.mk ((n*w:Nat):Int) (ec (by simp) (by omega)) ?_;refine qE.mk (n*w) (n*w) rfl rfl (bS _) (by show 16*(n*w)<=_;omega) (by omega) ?_;refine cC.mk λej ZW agq=>?_;refine qE.mk n n rfl rfl (bS _) (by show 24*n<=_;omega) (by omega) ?_;refine cC.mk λhZ QS agr=>?_;refine dh.inv (ι:=Nat) (λi=>{ ca:=[(1,.val (.int .i64 w)),(5,.val (.slice (some ⟨ej,0,none⟩) (n*w) (n*w))),(6,.val (.slice (some ⟨hZ,0,none⟩) n n)),(15,.val (.int .i64 n)),(16,.val (.int .i64 i))],cl:=[],cQ:=I,dq:=⟨hZ,.cells ((List.range i).map (zI ej w)++List.replicate (n-i) (Value.slice none 0 0)).toArray 108 (0,0)⟩::⟨ej,.cells ((List.replicate (n*w) hB).flatMap bE.cells).toArray 107 (0,0)⟩::M0 }) (λi=>i<=n) (λi=>n-i) ?_ ?_
 ·refine⟨0,bk _,.zy ?_,iD,.nil⟩;have ax:rowOf [Value.slice none 0 0] (n*1)=List.replicate n (Value.slice none 0 0):=by rw[Eh,kA]
  have aA:=ZU (n*w);show(⟨hZ,.cells (rowOf [Value.slice none 0 0] (n*1)).toArray 108 (0,0)⟩:aC)::⟨ej,.cells (rowOf hB.cells (n*w*4)).toArray 107 (0,0)⟩::M0=_;rw[ax,aA];rfl
 intro i hi;refine aR.mk (λe=>?_) (λe=>?_)
 ·have aU:i<n:=by simpa using e
  have eM:=hle i hi;have gd:=hle (i+1) (by omega);have JI:(i+1)*w=i*w+w:=by rw[iV,oR]
  have ZX:(i+1)*w<=n*w:=qz _ aU;refine a6.mk ((i*w:Nat):Int) (ec (by simp) (by omega)) ?_;refine a6.mk _ (cY (i:=i) (by omega)) ?_;refine a6.mk (((i+1)*w:Nat):Int) (ec (by simp) (by omega)) ?_;refine a6.mk _ (cY (i:=i) (by omega)) ?_;refine a6.mk (((i+1)*w:Nat):Int) (ec (by simp) (by omega)) ?_;refine be.slice3 aT rfl (by simp) (e:=107) rfl rfl rfl (i*w) ((i+1)*w) ((i+1)*w) (ad:=some ⟨ej,0,none⟩) (n:=n*w) (c:=n*w) rfl rfl rfl rfl (by omega) (bS _) ZX ?_;refine bs.mk ⟨hZ,0,none⟩ i rfl rfl aU ?_;refine cS.pZ [] _ ((List.range i).map (zI ej w)++List.replicate (n-i) (Value.slice none 0 0)) _ rfl ?_ rfl ((List.range (i+1)).map (zI ej w)++List.replicate (n-(i+1)) (Value.slice none 0 0)) ?_ ?_;·rw[qg,cD,fl,rc,D9];show 0+i*1+1<=_;omega
  ·have ri:List.replicate (n-i) (Value.slice none 0 0)=.slice none 0 0::List.replicate (n-(i+1)) (Value.slice none 0 0):=by rw[show n-i=(n-(i+1))+1 from by omega,zr]
   have ah:(Value.slice (if(i+1)*w=i*w then some ⟨ej,0,none⟩else(some (⟨ej,0,none⟩:Addr)).map (·.add (i*w*4))) ((i+1)*w-i*w) ((i+1)*w-i*w))=zI ej w i:=by rw[b7 (by omega),JI,I0];unfold zI;rw[iz,dx _ rfl,dG,Nat.mul_assoc]
   rw[ri,JE,hq,fJ];refine(O2 (k:=0+i*1) (by rw[fl,rc];omega)).trans ?_;rw[ah];rfl
  refine a6.mk _ (cY (i:=i) (by omega)) ?_;exact⟨i+1,⟨by omega,by omega⟩,.refl,iD,.nil⟩
 ·have dE:n<=i:=by simpa using e
  obtain rfl:i=n:=by omega
  refine⟨_,_,.refl,rfl,hZ,ej,rfl,?_⟩;rw[vX,List.replicate_zero,en];rfl
def zJ{G F:Fr}{r:cF}(h:cB G y=cB F y)(bf:bi F y=r):bi G y=r:=by simp only[bi,cR,h];exact bf
def ZY{n:Int}(h:fits d n=true)(au:0<=d.k):d.t.size<=255:=by
 unfold fits at h;have z:(⟨#[]⟩:ByteArray).size=0:=rfl;cases aa:decide (10<=d.k)with
 |true=>rw[aa]at h;cases h
 |false=>
  rw[aa,aY]at h;cases ab:decide (n<vp d.k.toNat)||(decide (0<=qU d.k.toNat)&&decide (qU d.k.toNat<n))with
  |true=>rw[ab]at h;cases h
  |false=>
   rw[ab,aY]at h;cases ai:decide (d.k=1)with
   |true=>rw[ai,aZ]at h;simp only[bG,eC]at h;rw[h.1,z];omega
   |false=>
    rw[ai,aY]at h;cases aQ:decide (d.k=2)with
    |true=>rw[aQ,aZ]at h;simp only[bG,mK,nU,oP]at h;omega
    |false=>
     rw[aQ,aY]at h;cases bp:decide (d.k=3)||decide (d.k=9)with
     |true=>rw[bp,aZ]at h;simp only[iH,bG,eC]at h;omega
     |false=>
      rw[bp,aY]at h;cases bM:decide (d.k=6)with
      |true=>rw[bM,aZ]at h;simp only[bG,eC]at h;rw[h.2.2,z];omega| false=>rw[bM,aY]at h;simp only[bG,eC]at h;rw[h.2.1,z];omega
def ZZ{b T:Nat}(h:I b=some (.cells (l.map λ(k:Nat)=>Value.int .i64 (k:Int)).toArray T (0,0)))(ay:l.length<=1048576)(aw:l.length=n):dt I (some ⟨b,0,none⟩) n n 1 8 (l.map λ(k:Nat)=>Value.int .i64 (k:Int)):=by subst aw;refine⟨by simp,⟨bS _,by omega⟩,.inr ⟨_,rfl,rfl,_,T,(0,0),h,?_⟩⟩;simp only[yY];exact hN (by simp)
def uB(d:bP):Value:=.string d.name
def Z0{g:c1}(aG:g.ok I)(aw:g.n<=4096):Spec Tryz.prog 59 [g.val] I M0 λv I' M'=>I'=I/\∃ os:bb,v=os.val/\os.n=g.n/\os.ok 1 (g.ds.map uB)/\M'=os.aV 9++M0:=by
 refine b8 [] aT Tryz.func59 rfl rfl rfl ?_;intro B au;have ik:=aG.n;refine dh.inv (ι:=Nat×bb) (λx=>{ ca:=[(3,.val x.2.val),(7,.val (.slice g.a g.n g.c)),(8,.val (.int .i64 g.n)),(9,.val (.int .i64 x.1))],cQ:=I,dq:=x.2.aV 9++M0 }) (λx=>x.1<=g.n/\x.2.n=x.1/\x.2.ok 1 ((g.ds.take x.1).map uB)) (λx=>g.n-x.1) ?_ ?_
 ·exact⟨(0,sG),⟨bk _,rfl,xz 1⟩,.refl,ez,.nil⟩
 rintro⟨i,os⟩⟨hi,xY,dS⟩;simp only at hi xY dS;refine aR.mk (λh=>?_) (λh=>?_)
 ·have aU:i<g.n:=by simpa using h
  have cr:i<g.ds.length:=by omega
  obtain⟨ad,cg,bD⟩:=aG.a3.row bP.cV aU cr;refine bs.mk ad i cg rfl aU ?_;refine aM.mk _ (bD _) ?_;refine cC.mk λb6 gj Iu=>?_;refine be.zz aT rfl (by simp) (e:=9) rfl rfl rfl os dS rfl (cs:=[.string (g.ds[i]).name]) rfl rfl rfl [] M0 rfl (by omega) (by show(os.n+1)*16<=_;omega) ?_;intro gl sV jM gL;refine a6.mk _ (cY (i:=i) (by omega)) ?_;refine⟨(i+1,gl),⟨⟨aU,by simp only;omega,?_⟩,by simp only;omega⟩,.refl,ez,.nil⟩;simp only;rw[jw cr,hq];exact gL
 ·have dE:g.n<=i:=by simpa using h
  obtain rfl:i=g.n:=by omega
  rw[hN (by omega)]at dS;exact⟨_,_,.refl,rfl,os,rfl,xY,dS,rfl⟩
def Z1{ds:List bP}{c:Nat}(ao:dt I hx n c 1 16 (ds.map uB))(dc:ByteArray):Spec Tryz.prog 94 [.slice hx n c,.string dc] I M0 λv I' M'=>v=.int .i64 (dz dc ds 0)/\I'=I/\M'=M0:=by
 refine b8 [] aT Tryz.func94 rfl rfl rfl ?_;intro B au;have aw:ds.length=n:=by have:=ao.len;rw[fl]at this;omega
 have p0:=ao.cap.2;refine dh.inv (ι:=Nat) (λi=>{ ca:=[(0,.val (.slice hx n c)),(1,.val (.string dc)),(7,.val (.int .i64 n)),(8,.val (.int .i64 i))],cQ:=I,dq:=M0 }) (λi=>i<=n/\dz dc ds 0=dz dc (ds.drop i) i) (λi=>n-i) ?_ ?_
 ·exact⟨0,⟨bk _,rfl⟩,.refl,ez,.nil⟩
 rintro i⟨hi,aD⟩;refine aR.mk (λh=>?_) (λh=>?_)
 ·have aU:i<n:=by simpa using h
  have cr:i<ds.length:=by omega
  obtain⟨ad,cg,bD⟩:=ao.one (f:=uB) aU cr;have jL:ds.drop i=ds[i]::ds.drop (i+1):=fs cr;rw[jL,dz]at aD;refine bs.mk ad i cg rfl aU ?_;refine aM.mk _ (bD _) ?_;refine aR.mk (λab=>?_) (λab=>?_);·have e:(ds[i]).name=dc:=(c9 ab).symm;rw[e7 e,aZ]at aD;exact⟨_,_,.refl,by rw[aD],rfl,rfl⟩
  ·have e:¬ (ds[i]).name=dc:=λe=>dj ab e.symm;rw[b4 e,aY]at aD;refine a6.mk _ (cY (i:=i) (by omega)) ?_;exact⟨i+1,⟨⟨aU,aD⟩,by omega⟩,.refl,ez,.nil⟩
 ·have dE:n<=i:=by simpa using h
  refine⟨_,_,.refl,?_,rfl,rfl⟩;rw[aD,iU (by omega)];rfl
def l0(bt:Nat)(s:ByteArray)(nv rv xZ rwv:Value):aC:=⟨bt,.cells [.string s,nv,rv,xZ,rwv].toArray 100 (0,0)⟩
def x0{s:ByteArray}{xZ:Value}(a5:l0 bt s nv rv xZ rwv∈M){j:Nat}(ar:j<5):ck I M ((⟨bt,0,none⟩:Addr).add j) 1 [([.string s,nv,rv,xZ,rwv]:List Value).getD j undef]:=by
 have h:=dn (I:=I) (cs:=[.string s,nv,rv,xZ,rwv]) (k:=j) (n:=1) a5 (by show j+1<=5;omega);have:(([.string s,nv,rv,xZ,rwv]:List Value).drop j).take 1=[([.string s,nv,rv,xZ,rwv]:List Value).getD j undef]:=by
  match j,ar with
  |0,_=>rfl| 1,_=>rfl| 2,_=>rfl| 3,_=>rfl| 4,_=>rfl
 rwa [this]at h
def rn(b:Nat)(L:List Nat)(n:a1):a1:={ n with kC:=some ⟨b,0,none⟩,kn:=L.length,jj:=L.length,kids:=L.map λ(k:Nat)=>(k:Int) }
def Z2(b:Nat)(L:List Nat)(n:a1):(rn b L n).pn=⟨n.xR,L⟩:=by unfold a1.pn rn;congr 1;rw[vD];exact List.map_id'' (λx=>by simp) L
def Z3{b T:Nat}{L:List Nat}{n:a1}(h:n.ok I)(a':I b=some (.cells (L.map bJ).toArray T (0,0)))(ay:L.length<=1048576)(cI:∀ x∈L,x<=1048576):(rn b L n).ok I:=by
 refine { h with a3:=?_,kids:=λx ae=>?_ }
 ·show dt I (some ⟨b,0,none⟩) L.length L.length 1 8 ((L.map λ(k:Nat)=>(k:Int)).map (.int .i64 ·));rw[vD];exact ZZ (T:=T) a' ay rfl
 ·obtain⟨y,aL,rfl⟩:=dO.1 ae;have:=cI y aL;unfold k8;omega
structure QT(I:aN)(ds:List bP)(hx dm:Option Addr)(mF fQ:Nat)(base:Nat)(t:db):Prop where
 dc:dt I hx ds.length mF 1 16 (ds.map uB)
 rt:dt I dm ds.length fQ 1 8 ((gy 0 ds).map bJ)
 ns:∀ n∈t.ns,(∀ k∈n.kids,0<=k/\k.toNat<=4096)/\n.kids.length<=4096/\n.t.size<=4096
 Z4:∀ x∈gy 0 ds,x<=4096
 len:ds.length<=4096
 many:base+t.n<=4096
def JJ(ds:List bP)(base:Nat)(n:a1):oe:=⟨n.xR,nd ds base n⟩
def h0(p:Nat×List Nat):aC:=⟨p.1,.cells (p.2.map bJ).toArray 3 (0,0)⟩
def mG(kb:List (Nat×List Nat))(ns:List a1):List a1:=List.zipWith (λp n=>rn p.1 p.2 n) kb ns
structure Cj(ds:List bP)(xs:List a1)(t:db)(i:Nat)(os:bb)(kb:List (Nat×List Nat)):Prop where
 ii:i<=t.n
 n:os.n=xs.length+i
 ok:os.ok 9 ((xs++mG kb (t.ns.take i)).flatMap a1.cells)
 kb:kb.map (·.2)=(t.ns.take i).map (nd ds xs.length)
 find:∀ n∈t.ns.take i,n.k=3->0<=dz n.t ds 0
def Z5{ns:List a1}(h:kb.length=ns.length)(p:Nat×List Nat)(n:a1):mG (kb++[p]) (ns++[n])=mG kb ns++[rn p.1 p.2 n]:=by unfold mG;rw[List.zipWith_append h];rfl
def Cj.len{ds:List bP}{xs:List a1}{t:db}{i:Nat}(h:Cj ds xs t i os kb)(aw:t.ns.length=t.n):kb.length=(t.ns.take i).length:=by have:=congrArg List.length h.kb;simpa using this
def QU(x y:aC)(A:List aC)(kb:List (Nat×List Nat)){p:Nat×List Nat}(ae:x=h0 p:=by rfl):(x::y::(A++kb.map h0)).Perm (y::(A++(kb++[p]).map h0)):=by subst ae;rw[hq,<-fJ];exact(List.Perm.swap _ _ _).trans (.cons _ (gK (l₁:=[h0 p]) (l₂:=A++kb.map h0)))
set_option maxRecDepth 100000 in
def Z6{t:db}(az:t.ok I){ds:List bP}{mF:Nat}{xs:List a1}(h:QT I ds hx dm mF fQ xs.length t)(Ck:gP.ok 9 (xs.flatMap a1.cells))(bt:Nat)(s:ByteArray)(rwv:Value) :
  Spec Tryz.prog 60 [ptr bt,t.val] I (l0 bt s (.slice hx ds.length mF) (.slice dm ds.length fQ) gP.val rwv::(gP.aV 72++[])) λv I' M'=>I'=I/\∃ (i:Nat) (os:bb) (kb:List (Nat×List Nat)),Cj ds xs t i os kb /\
   M'=l0 bt s (.slice hx ds.length mF) (.slice dm ds.length fQ) os.val rwv::(os.aV 72++kb.map h0)/\((v=.bool true/\i=t.n)\/(v=.bool false/\∃ n∈t.ns,n.k=3/\dz n.t ds 0<0)):=by
 refine b8 [] aT Tryz.func60 rfl rfl rfl ?_;intro B au;have vL:=az.n;have ags:=h.many;have Z7:gP.n=xs.length:=by have:=Ck.len;rw[fo _ 9 a1.cV]at this;omega
 refine aM.mk _ (x0 (j:=3) (.head _) (by decide)) ?_;refine dh.inv (ι:=Nat×bb×List (Nat×List Nat)) (λx=>{ ca:=[(0,.val (ptr bt)),(4,.lit false),(5,.val (.int .i64 gP.n)),(18,.val (.slice t.a t.n t.c)),(19,.val (.int .i64 t.n)),(20,.val (.int .i64 x.1))],cl:=[],cQ:=I,dq:=l0 bt s (.slice hx ds.length mF) (.slice dm ds.length fQ) x.2.1.val rwv::(x.2.1.aV 72++x.2.2.map h0) }) (λx=>Cj ds xs t x.1 x.2.1 x.2.2) (λx=>t.n-x.1) ?_ ?_
 ·exact⟨(0,gP,[]),⟨bk _,Z7,by simpa[mG]using Ck,rfl,λn aw=>(by cases aw)⟩,.refl,jG,.nil⟩
 rintro⟨i,os,kb⟩ea;have hi:=ea.ii;have xY:=ea.n;have JK:=ea.ok;have FB:=ea.len vL;simp only at hi xY JK FB;refine aR.mk (λe=>?_) (λe=>?_)
 rotate_left
 ·have dE:t.n<=i:=by simpa using e
  obtain rfl:i=t.n:=by omega
  exact⟨_,_,.refl,rfl,t.n,os,kb,ea,rfl,.inl ⟨rfl,rfl⟩⟩
 have aU:i<t.n:=by simpa using e
 have cr:i<t.ns.length:=by omega
 obtain⟨ad,cg,bD⟩:=az.a3.row a1.cV aU cr;obtain⟨d,ak⟩:∃ d,t.ns[i]=d:=⟨_,rfl⟩;have hv:d∈t.ns:=by rw[<-ak];exact dR cr
 have nT:=az.ns d hv;have dK:=nT.kn;obtain⟨ei,fK,rj⟩:=h.ns d hv;rw[ak]at bD;have oT:t.ns.take (i+1)=t.ns.take i++[d]:=by rw[jw cr,ak]
 have BQ:∀ (b:Nat) (L:List Nat),((xs++mG kb (t.ns.take i)).flatMap a1.cells)++(rn b L d).cells=(xs++mG (kb++[(b,L)]) (t.ns.take (i+1))).flatMap a1.cells:=λb L=>by rw[oT,Z5 FB,<-fJ,mg];simp
 have next:∀ (b:Nat) (L:List Nat) (b5:bb),L=nd ds xs.length d->(d.k=3->0<=dz d.t ds 0)->b5.n=os.n+1->b5.ok 9 ((xs++mG kb (t.ns.take i)).flatMap a1.cells++(rn b L d).cells)->Cj ds xs t (i+1) b5 (kb++[(b,L)]):=λb L b5 cI aD aw aW=>by
  refine⟨aU,by omega,by rw[<-BQ];exact aW,?_,λn aw=>?_⟩;·rw[hq,ea.kb,oT,hq,cI];rfl
  ·rw[oT]at aw;rcases dA.1 aw with aw | aw
   ·exact ea.find n aw
   ·rw[iM.1 aw];exact aD
 refine bs.mk ad i cg rfl aU ?_;refine aM.mk _ (bD _) ?_;refine qE.mk d.kn d.kn rfl rfl (bS _) (by show 8*d.kn<=_;omega) (by omega) ?_;refine cC.mk λfi QV QW=>?_;refine dh.inv (ι:=Nat) (λj=>{ ca:=[(0,.val (ptr bt)),(4,.lit false),(5,.val (.int .i64 gP.n)),(7,.ref 7 0),(8,.val (.slice (some ⟨fi,0,none⟩) d.kn d.kn)),(18,.val (.slice t.a t.n t.c)),(19,.val (.int .i64 t.n)),(20,.val (.int .i64 i)),(29,.val (.slice d.kC d.kn d.jj)),(30,.val (.int .i64 d.kn)),(31,.val (.int .i64 j))],cl:=[(7,d.cells)],cQ:=I,dq:=⟨fi,.cells ((d.kids.take j).map (λk=>bJ (xs.length+k.toNat))++List.replicate (d.kn-j) (bJ 0)).toArray 3 (0,0)⟩::l0 bt s (.slice hx ds.length mF) (.slice dm ds.length fQ) os.val rwv::(os.aV 72++kb.map h0) }) (λj=>j<=d.kn) (λj=>d.kn-j) ?_ ?_
 ·refine⟨0,bk _,.zy ?_,MM,.cons rfl (.nil)⟩;have e:rowOf [bJ 0] (d.kn*1)=List.replicate d.kn (bJ 0):=by rw[Eh,kA]
  show(⟨fi,.cells (rowOf [bJ 0] (d.kn*1)).toArray 3 (0,0)⟩:aC)::_=_;rw[e];rfl
 intro j ar;refine aR.mk (λaA=>?_) (λaA=>?_)
 ·have Cl:j<d.kn:=by simpa using aA
  have JL:j<d.kids.length:=by omega
  obtain⟨ib,iX,gW⟩:=nT.a3.one (f:=λ(k:Int)=>Value.int .i64 k) Cl JL;have agt:=ei _ (dR JL);refine bs.mk ib j iX rfl Cl ?_;refine aM.mk _ (gW _) ?_;refine a6.mk ((xs.length+d.kids[j].toNat:Nat):Int) (ec (by omega) (by omega)) ?_;refine bs.mk ⟨fi,0,none⟩ j rfl rfl Cl ?_;refine cS.pZ [] _ ((d.kids.take j).map (λk=>bJ (xs.length+k.toNat))++List.replicate (d.kn-j) (bJ 0)) _ rfl ?_ rfl ((d.kids.take (j+1)).map (λk=>bJ (xs.length+k.toNat))++List.replicate (d.kn-(j+1)) (bJ 0)) ?_ ?_;·rw[qg,cD,fl,kz,D9];show 0+j*1+1<=_;omega
  ·have ri:List.replicate (d.kn-j) (bJ 0)=bJ 0::List.replicate (d.kn-(j+1)) (bJ 0):=by rw[show d.kn-j=(d.kn-(j+1))+1 from by omega,zr]
   rw[ri,jw JL,hq,fJ];exact O2 (k:=0+j*1) (by rw[fl,kz];omega)
  refine a6.mk _ (cY (i:=j) (by omega)) ?_;exact⟨j+1,⟨by omega,by omega⟩,.refl,MM,.cons rfl (.nil)⟩
 have dE:d.kn<=j:=by simpa using aA
 obtain rfl:j=d.kn:=by omega
 have vV:(d.kids.take d.kn).map (λk=>bJ (xs.length+k.toNat))++List.replicate (d.kn-d.kn) (bJ 0)=(d.kids.map λk=>xs.length+k.toNat).map bJ:=by rw[hN (by omega),vX];simp[Function.comp_def]
 rw[vV];refine aR.mk (λai=>?_) (λai=>?_)
 ·have ra:d.k=3:=c9 ai;refine cX.draw aT rfl rfl rfl ?_;refine aM.mk _ (x0 (j:=1) (.tail _ (.head _)) (by decide)) ?_;refine a7.whole _ (Z1 h.dc d.t) ?_;rintro v I' M' -⟨rfl,rfl,rfl⟩;refine aR.mk (λcp=>?_) (λcp=>?_)
  ·have QX:dz d.t ds 0<0:=c9 cp;exact⟨_,_,.sub (.cons _ (.refl _)) .refl,rfl,i,os,kb,ea,rfl,.inr ⟨rfl,d,hv,ra,QX⟩⟩
  have QX:¬ dz d.t ds 0<0:=dj cp;have ET:=Jb ds 0 (by omega:0<=dz d.t ds 0);obtain⟨q,aK⟩:∃ q:Nat,dz d.t ds 0=(q:Int):=⟨(dz d.t ds 0).toNat,by omega⟩;have fV:q<ds.length:=by omega
  have FC:q<(gy 0 ds).length:=by rw[B4];exact fV
  obtain⟨ac,Z8,hY⟩:=h.rt.one (f:=bJ) fV FC;have zK:[(gy 0 ds)[q]]=nd ds xs.length d:=by rw[nd,e7 ra,aZ,aK];simp[dT,FC]
  refine aM.mk _ (x0 (j:=2) (.tail _ (.head _)) (by decide)) ?_;refine bs.mk ac q Z8 aK fV ?_;refine aM.mk _ (hY _) ?_;refine cC.mk λCm agu agv=>?_;refine cX.draw aT rfl rfl rfl ?_;refine aM.mk _ (x0 (j:=3) (.tail _ (.tail _ (.head _))) (by decide)) ?_;refine cC.mk λb6 gj hk=>?_;intro G ka;refine tz.zz aT rfl (e:=72) rfl rfl rfl os JK (zJ (ka _ (by simp[Op.operands,Call.operands])) rfl) (zJ (ka _ (by simp[Op.operands,Call.operands])) rfl) (cs:=(rn Cm [(gy 0 ds)[q]] d).cells) rfl rfl ([h0 (Cm,[(gy 0 ds)[q]]),⟨fi,.cells ((d.kids.map λk=>xs.length+k.toNat).map bJ).toArray 3 (0,0)⟩,l0 bt s (.slice hx ds.length mF) (.slice dm ds.length fQ) os.val rwv]) (kb.map h0) rfl (by omega) (by show(os.n+1)*96<=_;omega) ?_;intro b5 aa ab aQ;refine cS.mk (⟨b6,_⟩::[h0 (Cm,[(gy 0 ds)[q]]),⟨fi,.cells ((d.kids.map λk=>xs.length+k.toNat).map bJ).toArray 3 (0,0)⟩]) (b5.aV 72++kb.map h0) _ _ rfl rfl (bq rfl) rfl ?_;refine a6.mk _ (cY (i:=i) (by omega)) ?_;refine⟨(i+1,b5,kb++[(Cm,[(gy 0 ds)[q]])]),⟨next _ _ _ zK (λ_=>by omega) aa aQ,by simp only;omega⟩,.sub (M1:=h0 (Cm,[(gy 0 ds)[q]])::l0 bt s (.slice hx ds.length mF) (.slice dm ds.length fQ) b5.val rwv::(b5.aV 72++kb.map h0)) (.cons _ (.cons_cons _ (.cons _ (.refl _)))) (.perm (QU _ _ _ _) .refl),jG,.nil⟩
 ·have ra:¬ d.k=3:=dj ai;have zK:(d.kids.map λk=>xs.length+k.toNat)=nd ds xs.length d:=by rw[nd,b4 ra,aY]
  have Z9:(d.kids.map λk=>xs.length+k.toNat).length=d.kn:=by rw[fl,dK]
  rw[<-Z9];refine cX.draw aT rfl rfl rfl ?_;refine aM.mk _ (x0 (j:=3) (.tail _ (.head _)) (by decide)) ?_;refine cC.mk λb6 gj hk=>?_;intro G ka;refine tz.zz aT rfl (e:=72) rfl rfl rfl os JK (zJ (ka _ (by simp[Op.operands,Call.operands])) rfl) (zJ (ka _ (by simp[Op.operands,Call.operands])) rfl) (cs:=(rn fi (d.kids.map λk=>xs.length+k.toNat) d).cells) rfl rfl ([h0 (fi,d.kids.map λk=>xs.length+k.toNat),l0 bt s (.slice hx ds.length mF) (.slice dm ds.length fQ) os.val rwv]) (kb.map h0) rfl (by omega) (by show(os.n+1)*96<=_;omega) ?_;intro b5 aa ab aQ;refine cS.mk (⟨b6,_⟩::[h0 (fi,d.kids.map λk=>xs.length+k.toNat)]) (b5.aV 72++kb.map h0) _ _ rfl rfl (bq rfl) rfl ?_;refine a6.mk _ (cY (i:=i) (by omega)) ?_;refine⟨(i+1,b5,kb++[(fi,d.kids.map λk=>xs.length+k.toNat)]),⟨next _ _ _ zK (λh=>absurd h ra) aa aQ,by simp only;omega⟩,.sub (M1:=h0 (fi,d.kids.map λk=>xs.length+k.toNat)::l0 bt s (.slice hx ds.length mF) (.slice dm ds.length fQ) b5.val rwv::(b5.aV 72++kb.map h0)) (.cons _ (.refl _)) (.perm (QU _ _ _ _) .refl),jG,.nil⟩
def bP.JM(d:bP):Value:=.agg #[.string d.name,.slice d.t.a d.t.n d.t.c,.int .i64 d.t.root]
def Cn:bP:=⟨⟨#[]⟩,⟨[],none,0,0,0⟩⟩
def ot(l:List bP)(m:Nat):List (List Value):=(List.range m).reverse.map λi:Nat=>[.int .i64 (i:Int),(l.getD i Cn).JM]
def Z'(l:List bP)(m:Nat):ot l (m+1)=[.int .i64 m,(l.getD m Cn).JM]::ot l m:=by unfold ot;rw[JE,JD,List.reverse_singleton,Fa,eh]
def JN(l:List bP)(m:Nat):(ot l m).length=m:=by simp[ot]
def aaa(l:List bP){k:Nat}(af:k<m):(ot l m)[k]'(by rw[JN];exact af)=[.int .i64 ((m-1-k:Nat):Int),(l.getD (m-1-k) Cn).JM]:=by simp only[ot,nV,List.getElem_reverse,rc,qe]
def aab(a:Option Addr)(n c:Nat):Spec Tryz.prog 97 [.slice a n c] I [] λr I' M'=>∃ b,r=.func (.func 133) #[] #[ptr b]/\I' b=some (.cells #[.slice a n c] 28 (0,0))/\(∀ b o,I b=some o->I' b=some o)/\M'=[]:=by refine b8 [1] aT Tryz.func97 rfl rfl rfl ?_;intro B au;refine cC.mk λg aG xf=>?_;exact⟨_,_,.rO rfl (by simp) .refl,g,rfl,vx ..,sq aG,rfl⟩
def aac{g:c1}(aG:g.ok I){b:Nat}(ag:I b=some (.cells #[.slice g.a g.n g.c] 28 (0,0))) :
  Iter Tryz.prog 133 [ptr b] I (ot g.ds g.n):=by
 intro y R qR vz cW M0 o0 jk;refine yR [] aT Tryz.func133 rfl rfl rfl ?_;intro B au;have p0:=aG.a3.cap;have uC:=aG.n;have bD:∀ (c3:aN) (M:List aC),(∀ b o,I b=some o->c3 b=some o)->ck c3 M ((⟨b,0,none⟩:Addr).add 0) 1 [.slice g.a g.n g.c]:=λc3 M cJ=>⟨rfl,_,_,_,.inl (cJ _ _ ag),rfl,rfl⟩;refine aM.mk _ (bD _ _ o0) ?_;refine a6.mk ((g.n:Int)-1) (by rw[wrap_i64 (by unfold k8;omega)]) ?_;refine dh.inv (ι:=Nat×Nat×aN×List aC) (λx=>{ ca:=[(0,.val (.func (.yield y) #[] #[])),(1,.val (ptr b)),(3,.val (.int .i64 ((x.1:Int)-1)))],cQ:=x.2.2.1,dq:=x.2.2.2 }) (λx=>x.1<=g.n/\(∀ b o,I b=some o->x.2.2.1 b=some o)/\R x.2.1 x.2.2.1 x.2.2.2/\x.2.1<=(ot g.ds g.n).length/\(ot g.ds g.n).drop x.2.1=ot g.ds x.1) (λx=>x.1) ?_ ?_
 ·exact⟨(g.n,0,cW,M0),⟨by simp,o0,jk,by simp,rfl⟩,.refl,gI,.nil⟩
 ·rintro⟨m,k,c3,M1⟩⟨hm,cJ,kG,fK,hf⟩;simp only at hm cJ kG fK hf;refine aR.mk (λh=>?_) (λh=>?_)
  ·have aU:(0:Int)<=(m:Int)-1:=c9 h;obtain⟨m,rfl⟩:∃ q,m=q+1:=⟨m-1,by omega⟩;have ax:((m+1:Nat):Int)-1=(m:Int):=by omega
   obtain⟨ad,cg,Iy⟩:=(aG.a3.mono cJ).row bP.cV (j:=m) (by omega) (by omega);rw[Z']at hf;obtain⟨af,ah,mw⟩:=drop_cons hf;refine aM.mk _ (bD _ _ cJ) ?_;refine bs.mk ad m cg ax (by omega) ?_;refine aM.mk _ (Iy _) ?_;refine be.yield rfl (by simp) rfl rfl ?_;have aL:=vz k af c3 M1 cJ kG;rw[ah]at aL;have aA:g.ds.getD m Cn=g.ds[m]:=by simp[dT,show m<g.ds.length by omega]
   rw[aA,<-ax]at aL;refine Ee.mk M1 [] _ (by simp) aL ?_;rintro v gh eP jM (⟨rfl,nX⟩ | ⟨rfl,ae⟩);·refine aR.mk (λh=>by simp at h) (λ_=>?_);refine a6.mk ((m:Int)-1) (by rw[wrap_i64 (by unfold k8;omega)];omega) ?_;exact⟨(m,k+1,gh,eP),⟨⟨by simp only;omega,λb o h=>jM b o (cJ b o h),nX,af,mw⟩,by simp only;omega⟩,.perm (by simp) .refl,gI,.nil⟩
   ·refine aR.mk (λ_=>?_) (λh=>by simp at h);exact⟨_,_,.perm (by simp) .refl,.inr ae⟩
  ·have dE:¬ (0:Int)<=(m:Int)-1:=dj h;obtain rfl:m=0:=by omega
   refine⟨_,_,.refl,.inl ?_⟩;have xj:k=(ot g.ds g.n).length:=by have:(ot g.ds g.n).drop k=[]:=hf.trans (by simp[ot]);have:=HC.1 this;omega
   rw[<-xj];exact kG
structure aad(ds:List bP)(gN nn hg cM m:Nat)(L:List Nat)(cN:List Value)(M:List aC):Prop where
 M:M=[⟨hg,.cells [.slice (some ⟨gN,0,none⟩) L.length nn].toArray 70 (0,0)⟩,⟨cM,.cells [.int .i64 ((cz (ds.take m):Nat):Int)].toArray 3 (0,0)⟩,cA gN cN]
 len:cN.length=nn
 at_:cN.take L.length=L.map bJ
 QC:L.length+cz (ds.take m)=nn
 mem:∀ x,x∈L ↔ cz (ds.take m)<=x/\x<nn
 a2:L.Nodup
set_option maxRecDepth 100000 in
def aae{g:c1}(aG:g.ok I){s:ByteArray}{na:Option Addr}{nn nc:Nat}(cx:I bt=some (.cells ([.string s,nv,rv,.slice na nn nc,rwv]:List Value).toArray 100 (0,0)))(Co:nn=cz g.ds)(ag:nn<=1048576) :
  Spec Tryz.prog 63 [ptr bt,g.val] I [] λv I' M'=>(∀ b o,I b=some o->I' b=some o)/\∃ (gN:Nat) (L:List Nat) (cN:List Value),v=.slice (some ⟨gN,0,none⟩) L.length nn/\cN.length=nn/\cN.take L.length=L.map bJ/\L.length=nn/\(∀ x,x∈L ↔ x<nn)/\L.Nodup/\M'=[cA gN cN]:=by
 refine b8 [5,6] aT Tryz.func63 rfl rfl rfl ?_;intro B au;have ik:=aG.n;have QY:∀ {I':aN} {M:List aC},(∀ b o,I b=some o->I' b=some o)->ck I' M ((⟨bt,0,none⟩:Addr).add 3) 1 [.slice na nn nc]:=λh=>by rw[dx _ rfl];exact⟨rfl,_,_,_,.inl (h _ _ cx),rfl,rfl⟩
 refine aM.mk _ (QY λ_ _ h=>h) ?_;refine qE.mk 0 nn rfl rfl (bk _) (by show 8*nn<=_;omega) (by omega) ?_;refine cC.mk λgN agw agx=>?_;refine cC.mk λhg Xk agy=>?_;refine cS.mk [] [⟨gN,_⟩] _ _ rfl rfl (bq rfl) rfl ?_;refine aM.mk _ (QY λ_ _ h=>h) ?_;refine cC.mk λcM OK aaf=>?_;refine cS.mk [] [⟨hg,_⟩,⟨gN,_⟩] _ _ rfl rfl (bq rfl) rfl ?_;refine a7.mk [] _ _ (.refl _) (aab g.a g.n g.c) ?_;rintro v c3 M1 cJ⟨b1,rfl,IC,-,rfl⟩;have iI:=aG.mono cJ;have B5:cz (g.ds.take g.n)=nn:=by rw[hN (by omega),Co]
 refine cX.range (M1:=[⟨hg,.cells [.slice (some ⟨gN,0,none⟩) 0 nn].toArray 70 (0,0)⟩,⟨cM,.cells [.int .i64 (nn:Nat)].toArray 3 (0,0)⟩,cA gN (rowOf [bJ 0] (nn*1))]) aT rfl rfl rfl (.perm (.swap _ _ _) .refl) (aac iI IC) (λvs h=>?_) (λk I' M'=>∃ (L:List Nat) (cN:List Value),(∀ b o,c3 b=some o->I' b=some o)/\aad g.ds gN nn hg cM (g.n-k) L cN M') (λex I' M'=>False) ⟨[],rowOf [bJ 0] (nn*1),λ_ _ h=>h,⟨?_,by simp[rowOf],rfl,by rw[hn,B5];simp,λx=>?_,wJ⟩⟩ ?_ ?_ (λex I' M' _ h=>h.elim)
 ·obtain⟨p,_,rfl⟩:=dO.1 h;rfl
 ·rw[hn,B5];rfl
 ·rw[hn,B5];simp
 ·rintro k af I' M' -⟨L,cN,hle,aX⟩l B au kB;obtain⟨rfl,gx,im,oc,qb,BP⟩:=aX;rw[JN]at af;have ah:=aaa g.ds af;rw[ah];obtain⟨m,hm⟩:∃ m,g.n-k=m+1:=⟨g.n-k-1,by omega⟩;have kg:g.n-1-k=m:=by omega
  have jU:g.n-(k+1)=m:=by omega
  have y6:m<g.ds.length:=by omega
  have HL:g.ds.getD m Cn=g.ds[m]:=by simp[dT,y6]
  have oT:=JG y6;have vL:=(aG.ds _ (dR y6)).t.n;have pK:=JH g.ds (m+1);rw[kg,HL];rw[hm]at oc qb;simp only[hm];generalize g.ds[m]=d at oT vL;have vH:∀ {M:List aC} {e:Nat},(⟨cM,.cells [.int .i64 (e:Int)].toArray 3 (0,0)⟩:aC)∈M->ck I' M ⟨cM,0,none⟩ 1 [.int .i64 (e:Int)]:=λa5=>⟨rfl,_,_,_,.inr ⟨_,a5,rfl,rfl⟩,rfl,rfl⟩;have aag:∀ {M:List aC} {v:Value},(⟨hg,.cells [v].toArray 70 (0,0)⟩:aC)∈M->ck I' M ⟨hg,0,none⟩ 1 [v]:=λa5=>⟨rfl,_,_,_,.inr ⟨_,a5,rfl,rfl⟩,rfl,rfl⟩;refine aM.mk _ (vH (e:=cz (g.ds.take (m+1))) (.tail _ (.head _))) ?_;refine a6.mk ((cz (g.ds.take m):Nat):Int) (ec (by omega) (by omega)) ?_;refine dh.inv (ι:=Nat×List Value) (λx=>{ ca:=[(5,.val (ptr hg)),(6,.val (ptr cM)),(9,.val (.int .i64 (cz (g.ds.take m):Nat))),(10,.val (.int .i64 ((cz (g.ds.take m)+x.1:Nat):Int)))],cl:=[],cQ:=I',dq:=[⟨hg,.cells [.slice (some ⟨gN,0,none⟩) (L++List.range' (cz (g.ds.take m)) x.1).length nn].toArray 70 (0,0)⟩,⟨cM,.cells [.int .i64 ((cz (g.ds.take (m+1)):Nat):Int)].toArray 3 (0,0)⟩,cA gN x.2] }) (λx=>x.1<=d.t.n/\x.2.length=nn/\x.2.take (L++List.range' (cz (g.ds.take m)) x.1).length=(L++List.range' (cz (g.ds.take m)) x.1).map bJ) (λx=>d.t.n-x.1) ?_ ?_;·exact⟨(0,cN),⟨bk _,gx,by simpa using im⟩,.zy (by simp),ez,.nil⟩
  rintro⟨x,c⟩⟨ae,eo,ie⟩;simp only at ae eo ie;have rT:(L++List.range' (cz (g.ds.take m)) x).length=L.length+x:=by rw[cD,List.length_range']
  refine aM.mk _ (vH (e:=cz (g.ds.take (m+1))) (.tail _ (.head _))) ?_;refine aR.mk (λe=>?_) (λe=>?_)
  ·have aU:x<d.t.n:=by have bc:((cz (g.ds.take m)+x:Nat):Int)<((cz (g.ds.take (m+1)):Nat):Int):=c9 e;omega
   have fw:List.range' (cz (g.ds.take m)) (x+1)=List.range' (cz (g.ds.take m)) x++[cz (g.ds.take m)+x]:=by rw[List.range'_concat];simp
   have vF:(L++List.range' (cz (g.ds.take m)) (x+1)).length=(L++List.range' (cz (g.ds.take m)) x).length+1:=by rw[fw,<-fJ,cD];rfl
   obtain⟨k',mm,BO⟩:=Jv (L:=L++List.range' (cz (g.ds.take m)) x) ie (by omega) (cz (g.ds.take m)+x);refine aM.mk _ (aag (.head _)) ?_;refine cC.mk λb6 gj hk=>?_;refine be.iu aT rfl (by simp) (e:=3) rfl rfl rfl (g:=gN) (n:=(L++List.range' (cz (g.ds.take m)) x).length) (c:=nn) (cur:=c) rfl (show c.length=nn*1 by omega) (ad:=⟨b6,0,none⟩) (m:=1) (c':=1) rfl (news:=[bJ (cz (g.ds.take m)+x)]) ⟨rfl,_,_,_,.inr ⟨_,.head _,rfl,rfl⟩,rfl,rfl⟩ rfl (by omega) [_,_,_] [] rfl ?_;refine cS.mk [_] [_,_] _ _ rfl rfl (bq rfl) rfl ?_;refine a6.mk ((cz (g.ds.take m)+(x+1):Nat):Int) (ec (by omega) (by omega)) ?_;refine⟨(x+1,bo c ((L++List.range' (cz (g.ds.take m)) x).length*1) [bJ (cz (g.ds.take m)+x)]),⟨⟨aU,k'.trans eo,?_⟩,by simp only;omega⟩,.sub (.cons _ (.refl _)) (.zy ?_),ez,.nil⟩;·simp only;rw[fw,<-fJ];exact mm
   ·simp only;rw[vF];rfl
  ·have dE:d.t.n<=x:=by have bc:¬ ((cz (g.ds.take m)+x:Nat):Int)<((cz (g.ds.take (m+1)):Nat):Int):=dj e;omega
   obtain rfl:x=d.t.n:=by omega
   refine cS.mk [_] [_] _ _ rfl rfl (bq rfl) rfl ?_;refine⟨_,_,.refl,L++List.range' (cz (g.ds.take m)) d.t.n,c,hle,⟨?_,eo,ie,?_,λy=>?_,?_⟩⟩;·rw[jU];rfl
   ·rw[jU,rT];omega
   ·rw[jU,dA,qb,List.mem_range'_1];omega
   ·refine yF.2 ⟨BP,List.nodup_range',λa av b ag ij=>?_⟩;rw[qb]at av;rw[List.mem_range'_1]at ag;omega
 ·rintro I' M' -⟨L,cN,hle,aX⟩;rw[JN,vX]at aX;obtain⟨rfl,gx,im,oc,qb,BP⟩:=aX;have ES:cz (g.ds.take 0)=0:=rfl;rw[ES]at oc qb;refine aM.mk _ ⟨rfl,_,_,_,.inr ⟨_,.head _,rfl,rfl⟩,rfl,rfl⟩ ?_;refine⟨_,_,.sub (.cons _ (.cons _ (.refl _))) .refl,λb o h=>hle _ _ (cJ _ _ h),gN,L,cN,rfl,gx,im,by omega,λx=>by rw[qb];omega,BP,rfl⟩
def qn(J:aN)(os:bb)(e:Nat):aN:=match os.a with
 |some g=>ins J g (.cells os.cur.toArray e (0,0))| none=>J
def FD{bF:List Nat}(aD:∀ g,os.a=some g->g ∉ bF):h6 bF J (os.aV e++post) (qn J os e) post:=by
 obtain⟨a,n,c,cur⟩:=os;cases a with
 |none=>exact .refl| some g=>exact .rO rfl (aD g rfl) .refl
def FE(h:∀ x∈os.aV e++M,J x.num=none):∀ b o,J b=some o->qn J os e b=some o:=by
 obtain⟨a,n,c,cur⟩:=os;cases a with
 |none=>exact λ_ _ h=>h
 |some g=>exact sq (h ⟨g,_⟩ (.head _))
def FF{size b:Nat}(h:os.ok size xs)(ag:os.n*b<=140737488355328):dt (qn J os e) (os.a.map λg=>⟨g,0,none⟩) os.n os.c size b xs:=by
 obtain⟨a,n,c,cur⟩:=os;cases a with
 |none=>obtain⟨aa,ab⟩:=h.nil rfl;exact⟨h.len,⟨by simp only at aa ab |-;omega,ag⟩,.inl aa⟩
 |some g=>obtain⟨aa,ab,ai,aQ⟩:=h.cap g rfl;exact⟨h.len,⟨ab,ag⟩,.inr ⟨⟨g,0,none⟩,rfl,rfl,cur.toArray,e,(0,0),vx ..,by simpa using aQ⟩⟩
def zL(I:aN):List (Nat×List Nat)->aN
 |[]=>I| p::L=>zL (ins I p.1 (.cells (p.2.map bJ).toArray 3 (0,0))) L
def QZ{bF:List Nat}{M:List aC}:∀ {I:aN} (kb:List (Nat×List Nat)),(∀ p∈kb,p.1 ∉ bF)->h6 bF I (kb.map h0++M) (zL I kb) M
 |I,[],_=>.refl| I,p::L,h=>.rO rfl (h p (.head _)) (QZ L λq aK=>h q (.tail _ aK))
def Q0:∀ {I:aN} (kb:List (Nat×List Nat)),(∀ p∈kb,I p.1=none)->(kb.map (·.1)).Nodup->(∀ b o,I b=some o->zL I kb b=some o)/\∀ p∈kb,zL I kb p.1=some (.cells (p.2.map bJ).toArray 3 (0,0))
 |I,[],_,_=>⟨λ_ _ h=>h,λp aH=>by cases aH⟩
 |I,p::L,h,aw=>by
  rw[eh,kW]at aw;have a':∀ q∈L,(ins I p.1 (.cells (p.2.map bJ).toArray 3 (0,0))) q.1=none:=λq aK=>by unfold ins;rw[fv λe=>aw.1 (dO.2 ⟨q,aK,e⟩)];exact h q (.tail _ aK)
  obtain⟨aa,ab⟩:=Q0 L a' aw.2;refine⟨λb o ag=>aa b o (sq (h p (.head _)) b o ag),λq aK=>?_⟩;rcases dv.1 aK with rfl | aK;·exact aa _ _ (vx ..)
  ·exact ab q aK
def vY(x:oe):oe:=⟨x.d.xR,x.asks⟩
def fY(g:c1)(s:ByteArray):bu:=⟨(kM g.ds).map vY,s,0⟩
def Q1{g:c1}(s:ByteArray){k:Nat}(af:k<(kM g.ds).length):(fY g s).at_ k=vY (kM g.ds)[k]:=by simp[bu.at_,fY,dT,af]
def FG(ds:List bP):(kM ds).length=cz ds:=by simp[kM,Fo]
def Q2{g:c1}(hm:nf g)(ei:∀ d∈g.ds,∀ n∈d.t.ns,0<=n.k){s:ByteArray}(aq:s.size<=4096):(∀ k,sS (fY g s) k)/\∀ k,k<cz g.ds->sR (fY g s) (cz g.ds) k:=by
 have aW:=Je hm ei (s:=s) (at_:=0) (bk _) aq;have hlen:(lX g s 0).ns.length=cz g.ds:=FG g.ds;have p6:∀ k (af:k<cz g.ds),∃ a:oe,EZ (lX g s 0) a/\(fY g s).at_ k=vY a:=λk af=>by
  have iJ:k<(kM g.ds).length:=by rw[FG];exact af
  exact⟨_,aW.ns _ (dR iJ),Q1 s iJ⟩
 refine⟨λk=>?_,λk af=>?_⟩
 ·by_cases af:k<cz g.ds
  ·obtain⟨a,av,e⟩:=p6 k af;rw[show sS (fY g s) k ↔ sS (fY g s) k from Iff.rfl];refine⟨by rw[e];exact av.k.1,λaa=>?_,by rw[e];exact av.k.2,λbM=>?_⟩
   ·rw[e]at aa |-;have:=av.one aa
    match ae:a.asks,this with
    |[q],_=>exact⟨q,rfl⟩
   ·rw[e]at bM |-;have:=av.la bM;show a.d.hi=-1\/(0<=a.d.hi/\a.d.hi<=99);omega
  ·have e:(fY g s).at_ k=⟨EW,[]⟩:=by
    have:(kM g.ds).length<=k:=by rw[FG];omega
    simp[bu.at_,fY,dT,this]
   refine⟨by rw[e];exact Int.le_refl 0,λaa=>?_,by rw[e];show(0:Int)<10;omega,λbM=>?_⟩;·rw[e]at aa;have ab:(0:Int)=3\/6<=(0:Int):=aa;omega
   ·rw[e]at bM;have ab:(0:Int)=6:=bM;omega
 ·obtain⟨a,av,e⟩:=p6 k af;refine⟨by rw[e];exact av.k.1,λaa=>?_,λq aK=>?_,λbM=>?_⟩
  ·rw[e]at aa |-;have ab:=av.one aa;show a.asks.getD 0 0<_;have aA:a.asks.getD 0 0=a.asks[0]:=by simp[dT,ab]
   rw[aA,<-hlen];exact av.asks _ (dR (by omega))
  ·rw[e]at aK;rw[<-hlen];exact av.asks q aK
  ·rw[e]at bM |-;exact(av.la bM).2.1
def JO(c:bg):bE:=⟨c.n,c.aB,bif Nat.beq c.ap 3 then 2 else bif Nat.beq c.ap 2 then 1 else 0,0⟩
def aah{a:Nat}{c:bg}(h:hU z a c):(JO c).ce=c:=by
 rcases h with rfl | rfl | ⟨h,-⟩
 ·rfl
 ·rfl
 ·obtain⟨n,aB,ap⟩:=c;simp only at h;subst h;rfl
open Classical in
noncomputable def sW(P:bu)(N:Nat)(k a:Nat):bE:=if k<N/\a<=P.s.size then hB else JO (bA P k a)
def FH{P:bu}{N k a:Nat}(af:k<N)(av:a<=P.s.size):sW P N k a=hB:=cv ⟨af,av⟩
def aai(P:bu)(N:Nat):hj P N (sW P N):=by
 have fr:∀ k a,¬ (k<N/\a<=P.s.size)->(sW P N k a).ce=bA P k a:=λk a h=>by unfold sW;rw[b7 h];exact aah (rh P k a)
 refine⟨λk a=>?_,λk a h=>?_,λk a af av _ _ h=>?_,λk a af av=>?_,fr⟩
 ·unfold sW;split
  ·exact bk _
  ·unfold JO;cases Nat.beq (bA P k a).ap 3<;>cases Nat.beq (bA P k a).ap 2<;>simp
 ·by_cases e:k<N/\a<=P.s.size
  ·rw[FH e.1 e.2]at h;exact absurd rfl h
  ·exact(fr k a e).symm
 ·rw[FH af av]at h;exact absurd rfl h
 ·rw[FH af av];exact⟨bk _,bk _,bk _⟩
structure ln(I:aN)(g:c1)(s:ByteArray)(t:dp)(T:Nat->Nat->bE):Prop where
 ok:t.ok I T
 inv:hj t.P t.nn T
 P:t.P=fY g s
 dN:t.s=s
 all:∀ k b,(T k b).ce=bA (fY g s) k b
 n0:t.n0=t.nn
 nn:t.nn=cz g.ds
 rv:∃ dm fQ,t.rv=.slice dm g.n fQ/\dt I dm g.n fQ 1 8 ((gy 0 g.ds).map bJ)
 nv:∃ hx mF,t.nv=.slice hx g.n mF/\dt I hx g.n mF 1 16 (g.ds.map uB)
def dp.ok.mono{T:Nat->Nat->bE}(h:t.ok I T)(a':∀ b o,I b=some o->I' b=some o):t.ok I' T:=
 { h with ap:=a' _ _ h.ap,ns:=h.ns.mono a',km:=λy aL=>(h.km y aL).mono a',rw:=h.rw.mono a',cE:=λk af au=>(let ⟨cs,e9,aj,aa,ab⟩:=h.cE k af au;⟨cs,e9,aj,a' _ _ aa,ab⟩) }
def ln.mono{g:c1}{s:ByteArray}{T:Nat->Nat->bE}(h:ln I g s t T)(a':∀ b o,I b=some o->I' b=some o):ln I' g s t T:=by obtain⟨dm,fQ,ax,aA⟩:=h.rv;obtain⟨hx,mF,bj,cp⟩:=h.nv;exact { h with ok:=h.ok.mono a',rv:=⟨dm,fQ,ax,aA.mono a'⟩,nv:=⟨hx,mF,bj,cp.mono a'⟩ }
def dp.ok.lp{T:Nat->Nat->bE}(h:t.ok I T)(a':∀ b o,I b=some o->I' b=some o)(ag:I' t.ej=some (.cells (t.cs T).toArray 107 (0,0))):({ t with n0:=t.nn }:dp).ok I' T:=by
 have hm:=h.mono a';refine⟨hm.ap,hm.ns,hm.km,hm.Qw,hm.Qx,hm.rw,hm.dW,λk af au=>?_,λk af au=>?_,hm.sz,hm.many⟩
 ·by_cases ei:k<t.n0
  ·exact hm.cE k af ei
  ·refine⟨_,_,_,by rw[hm.new k af (by omega)];exact ag,?_⟩;rw[hm.new k af (by omega)];show((t.cs T).toArray.toList.drop ((k-t.n0)*(t.w*4))).take (t.w*4)=_;unfold dp.cs;rw[xc _ (t.w*4) (λj=>xS T _ t.w) _ (k-t.n0) (by rw[rc];simp only at au;omega),qe,su (by omega)];rfl
 ·have aa:k<t.rows.length:=af;have ab:=hm.Ju;have ai:t.nn<=k:=au;omega
def Q3{J:aN}:∀ {kb:List (Nat×List Nat)} {ns:List a1},(∀ p∈kb,J p.1=some (.cells (p.2.map bJ).toArray 3 (0,0))/\p.2.length<=1048576/\∀ x∈p.2,x<=1048576)->(∀ n∈ns,n.ok J)->∀ y∈mG kb ns,y.ok J/\(∃ p∈kb,y.kids=p.2.map λ(k:Nat)=>(k:Int))/\∃ n∈ns,y.t=n.t
 |[],ns,_,_,y,aL=>by simp[mG]at aL
 |p::kb,[],_,_,y,aL=>by simp[mG]at aL
 |p::kb,n::ns,h,aw,y,aL=>by
  have e:mG (p::kb) (n::ns)=rn p.1 p.2 n::mG kb ns:=rfl;rw[e]at aL;rcases dv.1 aL with rfl | aL;·obtain⟨aa,ab,ai⟩:=h p (.head _);exact⟨Z3 (aw n (.head _)) aa ab ai,⟨p,.head _,rfl⟩,n,.head _,rfl⟩
  ·obtain⟨i1,⟨q,i2,i3⟩,m,i4,i5⟩:=Q3 (λq aK=>h q (.tail _ aK)) (λm hm=>aw m (.tail _ hm)) y aL;exact⟨i1,⟨q,.tail _ i2,i3⟩,m,.tail _ i4,i5⟩
def Q4:∀ {kb:List (Nat×List Nat)} {ns:List a1},kb.length=ns.length->(mG kb ns).map a1.pn=List.zipWith (λp n=>⟨n.xR,p.2⟩) kb ns
 |[],[],_=>rfl| p::kb,n::ns,h=>by show(rn p.1 p.2 n).pn::(mG kb ns).map a1.pn=_;rw[Z2,Q4 (by simpa using h)];rfl
def Q5{ds:List bP}{base:Nat}:∀ {kb:List (Nat×List Nat)} {ns:List a1},kb.map (·.2)=ns.map (nd ds base)->List.zipWith (λ(p:Nat×List Nat) (n:a1)=>(⟨n.xR,p.2⟩:oe)) kb ns=ns.map (JJ ds base)
 |[],[],_=>rfl| p::kb,n::ns,h=>by rw[eh,eh,sw]at h;rw[List.zipWith_cons_cons,eh,Q5 h.2,h.1];rfl
def sX(ds:List bP)(i:Nat):List oe:=(pb 0 (ds.take i)).map λp=>vY ⟨p.2,nd ds p.1 p.2⟩
def Q6:∀ (b:Nat) (A B:List bP),pb b (A++B)=pb b A++pb (b+cz A) B
 |b,[],B=>by simp[pb,cz]
 |b,d::A,B=>by
  have e:cz (d::A)=d.t.ns.length+cz A:=by simp[cz]
  rw[sb,pb,pb,Q6 _ A B,fJ,e,oF]
def aaj{ds:List bP}{i:Nat}(hi:i<ds.length):sX ds (i+1)=sX ds i++ds[i].t.ns.map (JJ ds (cz (ds.take i))):=by unfold sX;rw[jw hi,Q6,hq,dG];congr 1;simp[pb,JJ,vY]
def aak(ds:List bP):sX ds ds.length=(kM ds).map vY:=by unfold sX kM;rw[List.take_length,vD];rfl
def aal(ds:List bP)(i:Nat):(sX ds i).length=cz (ds.take i):=by simp[sX,Fo]
def Q7{α β:Type}{l:List α}{f g:α->List β}(h:∀ x∈l,f x=g x):l.flatMap f=l.flatMap g:=by
 induction l with
 |nil=>rfl| cons a l a8=>rw[qO,qO,h a (.head _),a8 λx ae=>h x (.tail _ ae)]
def aam{x:Nat}(h:x∈l):x<=l.sum:=by
 induction l with
 |nil=>cases h
 |cons a l a8=>
  rw[sc];rcases dv.1 h with rfl | h;·omega
  ·have:=a8 h;omega
def aan(au:t.n0=0):t.cs (sW t.P t.nn)=(List.replicate (t.nn*t.w) hB).flatMap bE.cells:=by rw[<-QR];unfold dp.cs kP;rw[au,hn];refine Q7 λj ar=>Q7 λa av=>?_;rw[dG,FH (l9.1 ar)];have ab:a<t.s.size+1:=l9.1 av;show a<=t.s.size;omega
def aao(I:aN)(deb:List Int)(g:c1)(s:ByteArray)(v:Value)(I':aN)(M':List aC):Prop:=
 (∀ b o,I b=some o->I' b=some o)/\M'=[]/\((jN deb g≠0/\v=.tuple #[.pointer none,.int .i64 (jN deb g)])\/(jN deb g=0/\4096<s.size/\v=.tuple #[.pointer none,.int .i64 40]) \/ (jN deb g=0/\s.size<=4096/\∃ (t:dp) (T:Nat->Nat->bE),v=.tuple #[ptr t.bt,.int .i64 0]/\ln I' g s t T))
structure aap(I:aN)(g:c1)(gm gz:bb)(i:Nat)(eT:bb)(xs:List a1)(J:aN):Prop where
 ii:i<=g.n
 le:∀ b o,I b=some o->J b=some o
 dc:dt J (gm.a.map λg=>⟨g,0,none⟩) gm.n gm.c 1 16 (g.ds.map uB)
 rt:dt J (gz.a.map λg=>⟨g,0,none⟩) gz.n gz.c 1 8 ((gy 0 g.ds).map bJ)
 ok:eT.ok 9 (xs.flatMap a1.cells)
 pn:xs.map a1.pn=sX g.ds i
 xs:∀ y∈xs,y.ok J/\y.t.size<=4096/\∀ x∈y.kids,0<=x
set_option maxRecDepth 100000 in
def FI{deb:List Int}(bO:ih I deb){g:c1}(aG:g.ok I)(aw:g.n<=4096)(s:ByteArray):Spec Tryz.prog 26 [g.val,.string s] I [] (aao I deb g s):=by
 refine U9 [25] aT Tryz.func26 rfl rfl rfl ?_;intro B au;have ik:=aG.n;refine a7.whole _ (Xi bO aG) ?_;rintro v cW M' -⟨rfl,o0,rfl⟩;have Jp:=aG.mono o0;refine aR.mk (λe=>?_) (λe=>?_)
 ·have bc:jN deb g≠0:=by simpa using e
  intro _;exact⟨_,_,.refl,o0,rfl,.inl ⟨bc,rfl⟩⟩
 have qo:jN deb g=0:=by simpa using e
 refine aR.mk (λaA=>?_) (λaA=>?_)
 ·have dy:4096<s.size:=by have:=c9 aA;omega
  intro _;exact⟨_,_,.refl,o0,rfl,.inr (.inl ⟨qo,dy,rfl⟩)⟩
 have aq:s.size<=4096:=by have:=dj aA;omega
 have hm:nf g:=Jc qo λd ak=>(aG.ds d ak).t.n;have B5:=hm.PQ;have zH:=B4 0 g.ds;have ei:∀ d∈g.ds,∀ n∈d.t.ns,0<=n.k:=λd ak n aw=>((aG.ds d ak).t.ns n aw).k.1;obtain⟨uz,b3⟩:=Q2 hm ei aq;refine a7.whole _ (Z0 (M0:=[]) Jp aw) ?_;rintro v c3 M1 -⟨rfl,gm,rfl,Q8,aaq,rfl⟩;refine cC.mk λbt aar agz=>?_;have agA:sG.aV 3=[]:=rfl;refine dh.Hl (ι:=Nat×bb×aN) (λx=>{ ca:=[(1,.val (.string s)),(2,.ref 2 0),(7,.val (ptr bt)),(8,.val (.int .i64 (cz (g.ds.take x.1):Nat))),(27,.val (.slice g.a g.n g.c)),(28,.val (.int .i64 g.n)),(29,.val (.int .i64 x.1))],cl:=[(2,[.slice g.a g.n g.c])],cQ:=x.2.2,dq:=l0 bt s gm.val x.2.1.val (.slice none 0 0) (.slice none 0 0)::(x.2.1.aV 3++[]) }) (λx=>x.1<=g.n/\(∀ b o,I b=some o->x.2.2 b=some o)/\dt x.2.2 (gm.a.map λg=>⟨g,0,none⟩) gm.n gm.c 1 16 (g.ds.map uB)/\x.2.1.n=x.1/\x.2.1.ok 1 (((gy 0 g.ds).take x.1).map bJ)) (λx=>g.n-x.1) ?_ ?_
 ·intro j1;have aas:=FE (J:=c3) (os:=gm) (e:=9) (M:=[]) λx ae=>j1.d x (.tail _ ae);exact⟨(0,sG,qn c3 gm 9),⟨bk _,λb o h=>aas _ _ (o0 _ _ h),FF aaq (by omega),rfl,xz 1⟩,.perm (M1:=gm.aV 9++[l0 bt s gm.val (.slice none 0 0) (.slice none 0 0) (.slice none 0 0)]) (by rw[en];exact(gK (l₁:=[_]))) (FD λg _=>by simp),j8,.cons rfl (.nil)⟩
 rintro⟨i,gz,J⟩⟨hi,FJ,Cp,mT,FK⟩;simp only at hi FJ Cp mT FK;have aat:=aG.mono FJ;refine aR.mk (λbj=>?_) (λbj=>?_)
 ·have aU:i<g.n:=by simpa using bj
  have cr:i<g.ds.length:=by omega
  obtain⟨ad,cg,bD⟩:=aat.a3.row bP.cV aU cr;have hv:g.ds[i]∈g.ds:=dR cr;have vL:=(aG.ds _ hv).t.n;have Ej:=(hm.r _ hv).root;have oT:=JG cr;have hle:=JH g.ds (i+1);have Q9:=QQ 0 g.ds i cr (by omega);refine bs.mk ad i cg rfl aU ?_;refine aM.mk _ (bD _) ?_;refine cX.draw aT rfl rfl rfl ?_;refine aM.mk _ (x0 (j:=2) (.head _) (by decide)) ?_;refine a6.mk (((gy 0 g.ds)[i]:Nat):Int) (ec (show((cz (g.ds.take i):Nat):Int)+(g.ds[i]).t.root=_ by omega) (by omega)) ?_;refine cC.mk λb6 gj hk=>?_;intro G ka;refine tz.zz aT rfl (e:=3) rfl rfl rfl gz FK (zJ (ka _ (by simp[Op.operands,Call.operands])) rfl) (zJ (ka _ (by simp[Op.operands,Call.operands])) rfl) (cs:=[bJ (gy 0 g.ds)[i]]) rfl rfl [l0 bt s gm.val gz.val (.slice none 0 0) (.slice none 0 0)] [] rfl (by omega) (by show(gz.n+1)*8<=_;omega) ?_;intro b5 aa ab aQ;refine cS.mk [⟨b6,_⟩] (b5.aV 3++[]) _ _ rfl rfl (bq rfl) rfl ?_;refine a6.mk ((cz (g.ds.take (i+1)):Nat):Int) (ec (show((cz (g.ds.take i):Nat):Int)+((g.ds[i]).t.n:Int)=_ by omega) (by omega)) ?_;refine a6.mk _ (cY (i:=i) (by omega)) ?_;intro _;refine⟨(i+1,b5,J),⟨⟨by omega,FJ,Cp,by simp only;omega,?_⟩,by simp only;omega⟩,.sub (.cons _ (.refl _)) .refl,j8,.cons rfl (.nil)⟩;simp only;rw[jw (by omega),hq];exact aQ
 have dE:g.n<=i:=by simpa using bj
 obtain rfl:i=g.n:=by omega
 rw[hN (by omega)]at FK;refine dh.Hl (ι:=Nat×bb×List a1×aN) (λx=>{ ca:=[(1,.val (.string s)),(2,.ref 2 0),(7,.val (ptr bt)),(55,.val (.slice g.a g.n g.c)),(56,.val (.int .i64 g.n)),(57,.val (.int .i64 x.1))],cl:=[(2,[.slice g.a g.n g.c])],cQ:=x.2.2.2,dq:=l0 bt s gm.val gz.val x.2.1.val (.slice none 0 0)::(x.2.1.aV 72++[]) }) (λx=>aap I g gm gz x.1 x.2.1 x.2.2.1 x.2.2.2) (λx=>g.n-x.1) ?_ ?_
 ·intro j1;have Q':=FE (J:=J) (os:=gz) (e:=3) (M:=[]) λx ae=>j1.d x (.tail _ ae);exact⟨(0,sG,[],qn J gz 3),⟨bk _,λb o h=>Q' _ _ (FJ _ _ h),Cp.mono Q',FF FK (by omega),xz 9,rfl,λy aL=>(by cases aL)⟩,.perm (M1:=gz.aV 3++[l0 bt s gm.val gz.val (.slice none 0 0) (.slice none 0 0)]) (by rw[en];exact(gK (l₁:=[_]))) (FD λg _=>by simp),jG,.cons rfl (.nil)⟩
 rintro⟨i,eT,xs,K⟩dY;have hi:=dY.ii;have FL:=dY.le;simp only at hi FL;have JP:=aG.mono FL;have lM:xs.length=cz (g.ds.take i):=by have:=congrArg List.length dY.pn;rw[aal,fl]at this;exact this
 have uD:eT.n=xs.length:=by have aa:eT.ok 9 (xs.flatMap a1.cells):=dY.ok;have:=aa.len;rw[fo _ 9 a1.cV]at this;omega
 have tT:gm.n=g.ds.length:=by omega
 have mD:gz.n=g.ds.length:=by omega
 refine aR.mk (λcp=>?_) (λcp=>?_)
 ·have aU:i<g.n:=by simpa using cp
  have cr:i<g.ds.length:=by omega
  obtain⟨ad,cg,bD⟩:=JP.a3.row bP.cV aU cr;have hv:g.ds[i]∈g.ds:=dR cr;have jI:=(JP.ds _ hv).t;have vL:=jI.n;have qp:=hm.r _ hv;have oT:=JG cr;have hle:=JH g.ds (i+1);have aau:=aaj cr;have aav:=hm.find _ hv;generalize g.ds[i]=d at *;have ss:QT K g.ds (gm.a.map λg=>⟨g,0,none⟩) (gz.a.map λg=>⟨g,0,none⟩) gm.c gz.c xs.length d.t:=by
   refine⟨by rw[<-tT];exact dY.dc,by rw[<-mD];exact dY.rt,λn aw=>?_,λx ae=>?_,by omega,by omega⟩;·obtain⟨j,ar,zM⟩:=vC aw;have n4:=qp.kids j ar;have aD:=qp.fits j ar;rw[zM]at n4 aD;have az:=ZY aD (jI.ns n aw).k.1;have fK:n.kids.length<=j:=Ja j _ (qp.diff.sublist (Jd aw)) n4;exact⟨λk af=>by have:=n4 k af;omega,by omega,by omega⟩
   ·have:=Fp 0 g.ds (λd ak=>(hm.r d ak).root) x ae;omega
  have bI:=Z6 jI ss dY.ok bt s (.slice none 0 0);rw[<-tT]at bI;have eX:Value.slice (gz.a.map λg=>⟨g,0,none⟩) gm.n gz.c=gz.val:=by unfold bb.val;rw[mD,tT]
  rw[eX]at bI;refine bs.mk ad i cg rfl aU ?_;refine aM.mk _ (bD _) ?_;refine a7.whole _ bI ?_;rintro v I' M' -⟨rfl,j,b5,kb,ea,rfl,ah⟩;rcases ah with⟨rfl,rfl⟩ | ⟨rfl,n,aw,Ra,agB⟩
  rotate_left
  ·exact absurd (aav n aw Ra) (by omega)
  refine aR.mk (λe=>by cases e) (λ_=>?_);refine a6.mk _ (cY (i:=i) (by omega)) ?_;intro j1;have aaw:(l0 bt s gm.val gz.val b5.val (.slice none 0 0)::(b5.aV 72++kb.map h0)).Perm (kb.map h0++(l0 bt s gm.val gz.val b5.val (.slice none 0 0)::(b5.aV 72++[]))):=by rw[en,<-sb];exact gK
  have FB:=ea.len vL;obtain⟨pK,Q9⟩:=Q0 (I:=I') kb (λp aH=>j1.d (h0 p) (.tail _ (yD _ (dO.2 ⟨p,aH,rfl⟩)))) (by
   have aa:=j1.a2;have ab:((kb.map h0).map (·.num)).Sublist ((l0 bt s gm.val gz.val b5.val (.slice none 0 0)::(b5.aV 72++kb.map h0)).map (·.num)):=((k2 _ _).cons _).map _;have ai:=aa.sublist ab;rw[vD]at ai;exact ai)
  have Rb:∀ p∈kb,p.2.length<=4096/\∀ x∈p.2,x<=4096:=λp aH=>by
   have aa:p.2∈kb.map (·.2):=dO.2 ⟨p,aH,rfl⟩;rw[ea.kb]at aa;obtain⟨n,aw,e⟩:=dO.1 aa;have D4:=Ev aw;obtain⟨dH,di,hQ⟩:=ss.ns n D4;rw[<-e,nd];cases decide (n.k=3)with
   |true=>
    rw[aZ];refine⟨by show 1<=4096;omega,λx ae=>?_⟩;rw[iM.1 ae,dT];cases aK:(gy 0 g.ds)[(dz n.t g.ds 0).toNat]? with
    |none=>exact bk _| some z=>exact ss.Z4 z (wH aK)
   |false=>rw[aY];refine⟨by rw[fl];omega,λx ae=>?_⟩;obtain⟨k,af,rfl⟩:=dO.1 ae;obtain⟨j,ar,zM⟩:=vC D4;have n4:=qp.kids j ar;rw[zM]at n4;have:=n4 k af;omega
  have aax:=Q3 (J:=zL I' kb) (kb:=kb) (ns:=d.t.ns.take d.t.n) (λp aH=>⟨Q9 p aH,by have:=(Rb p aH).1;omega,λx ae=>by have:=(Rb p aH).2 x ae;omega⟩) (λn aw=>(jI.ns n (Ev aw)).mono pK);refine⟨(i+1,b5,xs++mG kb (d.t.ns.take d.t.n),zL I' kb),⟨⟨aU,λb o h=>pK _ _ (FL _ _ h),dY.dc.mono pK,dY.rt.mono pK,ea.ok,?_,λy aL=>?_⟩,by simp only;omega⟩,.perm aaw (QZ kb λp _=>by simp),jG,.cons rfl (.nil)⟩;·simp only;have aay:xs.map a1.pn=sX g.ds i:=dY.pn;have q6:d.t.ns.take d.t.n=d.t.ns:=hN (by omega);rw[hq,Q4 FB,Q5 ea.kb,aau,aay,lM,q6]
  ·rcases dA.1 aL with aL | aL
   ·obtain⟨qd,zn,JQ⟩:=dY.xs y aL;exact⟨qd.mono pK,zn,JQ⟩
   ·obtain⟨qd,⟨p,zn,JQ⟩,n,aaz,aaA⟩:=aax y aL;refine⟨qd,by rw[aaA];exact(ss.ns n (Ev aaz)).2.2,λx ae=>?_⟩;rw[JQ]at ae;obtain⟨q,_,rfl⟩:=dO.1 ae;omega
 have OU:g.n<=i:=by simpa using cp
 obtain rfl:i=g.n:=by omega
 have agC:xs.length=cz g.ds:=by rw[lM,hN (by omega)]
 have Rc:xs.map a1.pn=(kM g.ds).map vY:=by have aa:xs.map a1.pn=sX g.ds g.n:=dY.pn;rw[aa,<-ik,aak]
 have Co:eT.n=cz g.ds:=by omega
 have mO:0<cz g.ds:=by
  obtain⟨d,ak⟩:=List.exists_mem_of_length_pos (show 0<g.ds.length by have:=hm.n;omega);have ao:=(hm.r d ak).root;have aa:d.t.ns.length<=cz g.ds:=by unfold cz;exact aam (dO.2 ⟨d,ak,rfl⟩)
  omega
 have aaB:eT.ok 9 (xs.flatMap a1.cells):=dY.ok;have Cp:dt K (gm.a.map λg=>⟨g,0,none⟩) gm.n gm.c 1 16 (g.ds.map uB):=dY.dc;have aaC:dt K (gz.a.map λg=>⟨g,0,none⟩) gz.n gz.c 1 8 ((gy 0 g.ds).map bJ):=dY.rt;have pe:∀ y∈xs,y.ok K/\y.t.size<=4096/\∀ x∈y.kids,0<=x:=dY.xs;clear dY;refine aM.mk _ (x0 (j:=3) (.head _) (by decide)) ?_;refine a6.mk ((s.size+1:Nat):Int) (ec (by simp) (by omega)) ?_;refine a7.whole _ (ZV eT.n (s.size+1) (by omega) (by omega) (by omega)) ?_;rintro v I' M' -⟨rfl,hZ,ej,rfl,rfl⟩;refine cS.mk [_,_] (eT.aV 72++[]) _ _ rfl rfl (bq rfl) rfl ?_;refine .DB λj1=>?_;have FM:=j1.d;have QS:I' hZ=none:=FM _ (.head _);have ZW:I' ej=none:=FM _ (.tail _ (.head _));have aaD:I' bt=none:=FM _ (.tail _ (.tail _ (.head _)));have xY:∀ x∈eT.aV 72++([]:List aC),I' x.num=none:=λx ae=>FM x (.tail _ (.tail _ (.tail _ ae)));have zN:(hZ::ej::bt::(eT.aV 72++([]:List aC)).map (λx:aC=>x.num)).Nodup:=j1.a2;obtain⟨fN,zN⟩:=kW.1 zN;obtain⟨hP,zN⟩:=kW.1 zN;obtain⟨vP,zN⟩:=kW.1 zN;obtain⟨sY,JR⟩:∃ sY:Obj,sY=.cells ([.string s,gm.val,gz.val,eT.val,.slice (some ⟨hZ,0,none⟩) eT.n eT.n]:List Value).toArray 100 (0,0):=⟨_,rfl⟩;obtain⟨pf,Rd⟩:∃ pf:Obj,pf=.cells (Ci ej (s.size+1) eT.n).toArray 108 (0,0):=⟨_,rfl⟩;have aaE:∀ b o,I' b=some o->ins I' hZ pf b=some o:=sq QS;have mW:ins I' hZ pf bt=none:=by unfold ins;rw[fv λe=>fN (by rw[<-e];exact .tail _ (.head _))];exact aaD
 have Re:∀ b o,ins I' hZ pf b=some o->ins (ins I' hZ pf) bt sY b=some o:=sq mW;have JS:=FE (J:=ins (ins I' hZ pf) bt sY) (os:=eT) (e:=72) (M:=[]) λx ae=>by have y5:x.num∈(eT.aV 72++([]:List aC)).map (λx:aC=>x.num):=dO.2 ⟨x,ae,rfl⟩;unfold ins;rw[fv λe=>vP (by rw[<-e];exact y5),fv λe=>fN (by rw[<-e];exact .tail _ (.tail _ y5))];exact xY x ae
 have hle:∀ b o,I' b=some o->qn (ins (ins I' hZ pf) bt sY) eT 72 b=some o:=λb o h=>JS _ _ (Re _ _ (aaE _ _ h));have cx:qn (ins (ins I' hZ pf) bt sY) eT 72 bt=some sY:=JS _ _ (vx ..);have aaF:qn (ins (ins I' hZ pf) bt sY) eT 72 hZ=some pf:=JS _ _ (Re _ _ (vx ..));have aaG:=FF (J:=ins (ins I' hZ pf) bt sY) (e:=72) (b:=96) aaB (by omega);have vV:=aae (JP.mono hle) (bt:=bt) (s:=s) (nv:=gm.val) (rv:=gz.val) (rwv:=.slice (some ⟨hZ,0,none⟩) eT.n eT.n) (na:=eT.a.map λg=>⟨g,0,none⟩) (nn:=eT.n) (nc:=eT.c) (by rw[cx,JR];rfl) Co (by omega);refine a7.Az (qn (ins (ins I' hZ pf) bt sY) eT 72) [] [⟨ej,.cells ((List.replicate (eT.n*(s.size+1)) hB).flatMap bE.cells).toArray 107 (0,0)⟩] _ ?_ vV ?_
 ·subst Rd;subst JR;refine .rO rfl (by simp) (.perm (.swap _ _ _) (.rO rfl (by simp) (.perm (M1:=eT.aV 72++[⟨ej,.cells ((List.replicate (eT.n*(s.size+1)) hB).flatMap bE.cells).toArray 107 (0,0)⟩]) ?_ (FD λg _=>by simp))));rw[en];exact gK (l₁:=[_])
 rintro v iG oS iY -⟨-,gN,L,cN,rfl,lV,gx,im,oc,qb,rfl⟩;have uE:∀ b o,I' b=some o->iG b=some o:=λb o h=>iY _ _ (hle _ _ h);obtain⟨t0,rp⟩:∃ t0:dp,t0=⟨bt,s,gm.val,gz.val,xs,eT.a.map λg=>⟨g,0,none⟩,eT.n,eT.c,some ⟨hZ,0,none⟩,eT.n,(List.range eT.n).map λk=>⟨ej,k*((s.size+1)*4),none⟩,0,ej⟩:=⟨_,rfl⟩;have pg:t0.P=fY g s:=by rw[rp];show(⟨xs.map a1.pn,s,0⟩:bu)=_;rw[Rc];rfl
 have jF:=aan (t:=t0) (by rw[rp]);have IQ:t0.aV (sW t0.P t0.nn)=⟨ej,.cells ((List.replicate (eT.n*(s.size+1)) hB).flatMap bE.cells).toArray 107 (0,0)⟩:=by unfold dp.aV;rw[jF,rp];rfl
 have hc:∀ y∈xs,∀ x∈y.kids,x.toNat<eT.n:=λy aL x ae=>by
  have aa:y.pn∈(kM g.ds).map vY:=by rw[<-Rc];exact dO.2 ⟨y,aL,rfl⟩
  obtain⟨a,av,qh⟩:=dO.1 aa;have ab:=(Je hm ei (s:=s) (at_:=0) (bk _) aq).ns a av;have ai:x.toNat∈a.asks:=by have eX:a.asks=y.kids.map Int.toNat:=congrArg oe.asks qh;rw[eX];exact dO.2 ⟨x,ae,rfl⟩
  have aQ:=ab.asks _ ai;have bp:(lX g s 0).ns.length=cz g.ds:=FG g.ds;omega
 have xX:t0.ok iG (sW t0.P t0.nn):=by
  rw[rp];refine⟨?_,aaG.mono iY,λy aL=>(pe y aL).1.mono uE,λy aL=>(pe y aL).2.1,λy aL x ae=>⟨(pe y aL).2.2 x ae,hc y aL x ae⟩,?_,λa av=>?_,λk af au=>absurd au (Nat.not_lt_zero _),λk af _=>?_,aq,by show eT.n<=4096;omega⟩;·rw[iY _ _ cx,JR];rfl
  ·refine⟨by simp,⟨bS _,by show eT.n*24<=_;omega⟩,.inr ⟨⟨hZ,0,none⟩,rfl,rfl,_,_,_,(iY _ _ aaF).trans (congrArg some Rd),?_⟩⟩;show((Ci ej (s.size+1) eT.n).drop 0).take (eT.n*1)=_;rw[yY,hN (by simp[Ci]),Ci,vD];rfl
  ·obtain⟨k,_,rfl⟩:=dO.1 av;rfl
  ·simp only[nV,qe,hn];rfl
 have agD:t0.n0=0:=by rw[rp]
 have Rf:t0.nn=eT.n:=by rw[rp]
 have Rg:t0.bt=bt:=by rw[rp]
 have JT:t0.ej=ej:=by rw[rp]
 have da:t0.s=s:=by rw[rp]
 have aaH:t0.rv=gz.val:=by rw[rp]
 have aaI:t0.nv=gm.val:=by rw[rp]
 have ET:QK iG t0 (sW t0.P t0.nn) L:=by
  refine⟨xX,aai _ _,λk af=>?_,λk=>by rw[pg];exact uz k,by omega,λk af=>⟨by omega,?_⟩,λk _ af=>?_,λk af=>by omega⟩;·rw[pg,Rf,Co];exact b3 k (by omega)
  ·have:=(oc k).1 af;omega
  ·exact(oc k).2 (by omega)
 have rS:=ZK ET (gN:=gN) (nN:=eT.n) (cN:=cN) lV gx (by omega) (by omega) (low:=0) (bk _);rw[Rg]at rS;refine a7.mk [t0.aV (sW t0.P t0.nn),cA gN cN] [] _ (by rw[IQ];exact .swap _ _ _) rS ?_;rintro v lG mU -⟨rfl,T,f1,f2,f3,rfl⟩;intro aaJ;have JU:lG ej=none:=by have:=aaJ.d (t0.aV T) (.head _);rw[<-JT];exact this
 have nm:t0.ok lG T:=xX.qk λk af b=>by omega
 refine⟨ins lG ej (.cells (t0.cs T).toArray 107 (0,0)),[],.rO (by rw[<-JT];rfl) (by simp) .refl,λb o h=>sq JU _ _ (uE _ _ (FL _ _ h)),rfl,.inr (.inr ⟨qo,aq,{ t0 with n0:=t0.nn },T,by show _=Value.tuple #[ptr t0.bt,.int .i64 0];rw[Rg],?_⟩)⟩;have Rh:∀ b o,I' b=some o->ins lG ej (.cells (t0.cs T).toArray 107 (0,0)) b=some o:=λb o h=>sq JU _ _ (uE _ _ h);refine⟨nm.lp (sq JU) (by rw[JT];exact vx ..),f1,pg,da,λk b=>by rw[<-pg];exact f2 k b (bk _),rfl,Rf.trans Co,⟨gz.a.map λg=>⟨g,0,none⟩,gz.c,?_,?_⟩,⟨gm.a.map λg=>⟨g,0,none⟩,gm.c,?_,?_⟩⟩
 ·show t0.rv=_;rw[aaH,bb.val,mT]
 ·rw[<-mT];exact aaC.mono Rh
 ·show t0.nv=_;rw[aaI,bb.val,Q8]
 ·rw[<-Q8];exact Cp.mono Rh
def gB(x:Nat×Nat):List Value:=[.int .i64 x.1,.int .i64 x.2]
def sZ(x:Nat×Nat):(gB x).length=2:=rfl
structure aaK(A eN:List (Nat×Nat))(gP:bb)(x:Nat×bb×List (Nat×Nat)):Prop where
 i:2*x.1<=eN.length+1
 ok:x.2.1.ok 2 ((A++x.2.2).flatMap gB)
 len:x.2.2.length=eN.length
 at_:∀ k,k<eN.length->x.2.2[k]?=if k<x.1\/eN.length<=k+x.1 then eN[eN.length-1-k]? else eN[k]?
 a:x.2.1.a=gP.a
 v:x.2.1.val=gP.val
structure Ri(m:cH)(L parts:List (Nat×Nat))(rest:List (Nat×Nat))(aB:Nat)(os:bb):Prop where
 lo:m.base<=aB
 hi:aB<=m.s.size
 ok:∃ kQ,os.ok 2 ((L++kQ).flatMap gB)/\kQ++rest=parts
def Ri.next{m:cH}(dJ:m.base<=aB)(aF:aB<=sU/\sU<=m.s.size)(aW:gl.ok 2 (((L++kQ)++p).flatMap gB))(eG:kQ++(p++rest)=parts):Ri m L parts rest sU gl:=
 ⟨by omega,aF.2,kQ++p,by rw[<-fJ];exact aW,by rw[fJ];exact eG⟩
structure ou(I:aN)(t:dp)(T:Nat->Nat->bE):Prop where
 ok:t.ok I T
 inv:hj t.P t.nn T
 all:∀ k b,(T k b).ce=bA t.P k b
 n0:t.n0=t.nn
 a2:∀ k,k<t.nn->sR t.P t.nn k
 na:∀ k,sS t.P k
 hV:oh t.P
def ou.kn{T:Nat->Nat->bE}(h:ou I t T){k a:Nat}(av:a<=t.s.size):dk t.P k a=ja (T k a).ce:=by unfold dk;rw[pc (show a<=t.P.s.size from av),h.all]
def ou.ap{T:Nat->Nat->bE}(h:ou I t T){k a:Nat}(av:a<=t.s.size):((T k a).ap=2/\(dk t.P k a).ap=3/\(dk t.P k a).aB=(T k a).aB/\(dk t.P k a).n=min (T k a).n 65537)\/((T k a).ap≠2/\(dk t.P k a).ap≠3):=by
 rw[h.kn av];rcases om (h.inv.ap k a)with⟨e,bc⟩ | ⟨e,bc⟩ | ⟨e,bc⟩
 ·right
  rw[e,bc];exact⟨by decide,by decide⟩
 ·right
  rw[e,bc];exact⟨by decide,by decide⟩
 ·left
  rw[bc];exact⟨e,rfl,rfl,rfl⟩
def Cq(b bt:Nat):aC:=⟨b,.cells [ptr bt].toArray 48 (0,0)⟩
def JV(b aB:Nat):aC:=⟨b,.cells [.int .i64 aB].toArray 3 (0,0)⟩
def FN(b:Nat)(v:Value):aC:=⟨b,.cells [v].toArray 191 (0,0)⟩
def s0(X:aC)(bt df fi eb aB:Nat)(os:bb):List aC:=X::Cq df bt::JV fi aB::FN eb os.val::os.aV 190
set_option maxRecDepth 100000 in
def FO{T:Nat->Nat->bE}(h:ou I t T)(X:aC){df fi eb k:Nat}(dS:os.ok 2 (L.flatMap gB))(af:k<t.nn)(ab:aB<=t.s.size)(cI:(T k aB).ap=2->L.length<=1048576) :
  Spec Tryz.prog 165 [.int .i64 k,ptr df,ptr fi,ptr eb] I (s0 X t.bt df fi eb aB os) λv I' M'=>I'=I /\
   (((dk t.P k aB).ap≠3/\v=.bool false/\M'=s0 X t.bt df fi eb aB os) \/
    ((dk t.P k aB).ap=3/\v=.bool true/\∃ b5:bb,b5.ok 2 ((L++bif Nat.beq (dk t.P k aB).n 0 then []else [(k,aB)]).flatMap gB)/\M'=s0 X t.bt df fi eb (dk t.P k aB).aB b5)):=by
 refine b8 [] aT Tryz.func165 rfl rfl rfl ?_;intro B au;have aW:=h.ok;have cc:=aW.sz;have cx:=h.ap (k:=k) ab;obtain⟨lV,gx,im⟩:=h.inv.rg k aB af ab;have gx:(T k aB).aB<=t.s.size:=gx;have uC:os.n=L.length:=by have:=dS.len;rw[fo _ 2 sZ]at this;omega
 obtain⟨dm,hX,r,ao,fI,-,hY⟩:=aW.row af;have ef:t.n0<t.nn->∀ M:List aC,t.aV T∈M:=λe=>absurd e (by have:=h.n0;omega);refine cX.draw aT rfl rfl rfl ?_;refine aM.mk _ (dn (k:=0) (n:=1) (cs:=[ptr t.bt]) (T:=48) (b:=df) (.tail _ (.head _)) (by simp)) ?_;refine aM.mk _ (aW.e1 (j:=4) (by decide)) ?_;refine bs.mk dm k hX rfl af ?_;refine aM.mk _ (fI _) ?_;refine aM.mk _ (dn (k:=0) (n:=1) (cs:=[.int .i64 aB]) (T:=3) (b:=fi) (.tail _ (.tail _ (.head _))) (by simp)) ?_;refine bs.mk r aB rfl rfl (by show aB<t.s.size+1;omega) ?_;refine aM.mk _ (hY _ (λe=>ef e _) aB ab) ?_;generalize T k aB=c at *;refine cC.mk λcM OK aaf=>?_;refine cS.mk [] _ _ _ rfl rfl (bq rfl) rfl ?_;have jc:∀ {M:List aC} j,j+1<=4->(⟨cM,.cells c.cells.toArray 107 (0,0)⟩:aC)∈M->ck I M ((⟨cM,0,none⟩:Addr).add j) 1 ((c.cells.drop j).take 1):=λj ar a5=>dn a5 ar;refine aM.mk _ (jc 2 (by decide) (.head _)) ?_;refine aR.mk (λe=>?_) (λe=>?_)
 ·have bc:c.ap≠2:=λaA=>by rw[aA]at e;cases e
  rcases cx with cx | cx;·exact absurd cx.1 bc
  exact⟨_,_,.sub (.cons _ (.refl _)) .refl,rfl,.inl ⟨cx.2,rfl,rfl⟩⟩
 have ma:c.ap=2:=by have aA:(!decide ((c.ap:Int)=2))=false:=e;simp only[Bx,eC]at aA;omega
 rcases cx with⟨-,aO,aP,br⟩ | cx
 rotate_left
 ·exact absurd ma cx.1
 refine aM.mk _ (jc 0 (by decide) (.head _)) ?_;refine aR.mk (λe=>?_) (λe=>?_)
 ·have kf:c.n≠0:=by have:(0:Int)<(c.n:Int):=c9 e;omega
  have st:Nat.beq (dk t.P k aB).n 0=false:=by rw[sv];exact λe=>by have:=bV e;omega
  have JW:=cI ma;refine aM.mk _ (dn (k:=0) (n:=1) (cs:=[os.val]) (T:=191) (b:=eb) (.tail _ (.tail _ (.tail _ (.tail _ (.head _))))) (by simp)) ?_;refine aM.mk _ (dn (k:=0) (n:=1) (cs:=[.int .i64 aB]) (T:=3) (b:=fi) (.tail _ (.tail _ (.tail _ (.head _)))) (by simp)) ?_;refine cC.mk λb6 gj hk=>?_;refine be.QP aT rfl (by simp) (e:=190) rfl rfl rfl os dS rfl (cs:=gB (k,aB)) rfl rfl rfl [⟨cM,.cells c.cells.toArray 107 (0,0)⟩,X,Cq df t.bt,JV fi aB,FN eb os.val] rfl (by omega) (by show(os.n+1)*16<=_;omega) ?_;rintro ph o5-sf;refine cS.mk [⟨cM,.cells c.cells.toArray 107 (0,0)⟩,X,Cq df t.bt,JV fi aB] (ph.aV 190) [os.val].toArray 191 rfl rfl (bq rfl) rfl ?_;refine aM.mk _ (jc 1 (by decide) (.head _)) ?_;refine a6.mk (c.aB:Int) (ec rfl (by omega)) ?_;refine cS.mk [⟨cM,.cells c.cells.toArray 107 (0,0)⟩,X,Cq df t.bt] (FN eb ph.val::ph.aV 190) [.int .i64 aB].toArray 3 rfl rfl (bq rfl) rfl ?_;refine⟨_,s0 X t.bt df fi eb c.aB ph,.sub (.cons _ (.refl _)) .refl,rfl,.inr ⟨aO,rfl,ph,?_,by rw[aP]⟩⟩;rw[st,aY,mg];simpa using sf
 ·have kf:c.n=0:=by have:¬ (0:Int)<(c.n:Int):=dj e;omega
  refine aM.mk _ (jc 1 (by decide) (.head _)) ?_;refine a6.mk (c.aB:Int) (ec rfl (by omega)) ?_;refine cS.mk [⟨cM,.cells c.cells.toArray 107 (0,0)⟩,X,Cq df t.bt] (FN eb os.val::os.aV 190) [.int .i64 aB].toArray 3 rfl rfl (bq rfl) rfl ?_;refine⟨_,s0 X t.bt df fi eb c.aB os,.sub (.cons _ (.refl _)) .refl,rfl,.inr ⟨aO,rfl,os,?_,by rw[aP]⟩⟩;rw[br,kf,show Nat.beq (min 0 65537) 0=true from rfl,aZ,en];exact dS
def JX(df fi eb:Nat):Value:=.func (.func 165) #[] #[ptr df,ptr fi,ptr eb]
structure x1(z:Nat)(L parts:List (Nat×Nat))(rest:List (Nat×Nat))(aB:Nat)(os:bb):Prop where
 hi:aB<=z
 ok:∃ kQ,os.ok 2 ((L++kQ).flatMap gB)/\kQ++rest=parts
def x1.next(aF:sU<=z)(aW:gl.ok 2 (((L++kQ)++p).flatMap gB))(eG:kQ++(p++rest)=parts):x1 z L parts rest sU gl:=
 ⟨aF,kQ++p,by rw[<-fJ];exact aW,by rw[fJ];exact eG⟩
def JY:(xW::zE::zF::zG::D).Perm (zE::zG::xW::zF::D):=by have aa:([xW,zE,zF,zG]:List aC).Perm [zE,zG,xW,zF]:=(by decide:[0,1,2,3].Perm [1,3,0,2]).map λi=>[xW,zE,zF,zG].getD i xW;exact aa.append_right D
def FP:List.Sublist D (zE::zG::xW::zF::D):=.cons _ (.cons _ (.cons _ (.cons _ (.refl _))))
set_option maxRecDepth 100000 in
def Rj{T:Nat->Nat->bE}(h:ou I t T)(dS:os.ok 2 (L.flatMap gB)){k a:Nat}(af:k<t.nn)(ab:a<=t.s.size)(aH:hz t.P (dk t.P) k a parts)(ag:L.length+parts.length<=1048576) :
  Spec Tryz.prog 134 [ptr t.bt,os.val,.agg #[.int .i64 k,.int .i64 a]] I (os.aV 190) λv I' M'=>I'=I/\∃ b5:bb,v=b5.val/\b5.ok 2 ((L++parts).flatMap gB)/\M'=b5.aV 190:=by
 refine b8 [3,4,8] aT Tryz.func134 rfl rfl rfl ?_;intro B au;have aW:=h.ok;have cc:=aW.sz;obtain⟨y,aL,jb,hW,rj,hc,ad,cg,bD⟩:=aW.at_ af;have dK:=hW.kn;have agE:y.kn<=140737488355328:=by have:=hW.a3.cap.2;omega
 obtain⟨fW,JZ⟩:∃ fW,fW=y.kids.map Int.toNat:=⟨_,rfl⟩;have JW:fW.length=y.kids.length:=by rw[JZ,fl]
 have ask:∀ j (ar:j<fW.length),fW[j]<t.nn/\∃ rq,y.kC=some rq/\∀ M,ck I M (rq.add (j*1)) 1 [Value.int .i64 ((fW[j]:Nat):Int)]:=λj ar=>by
  have h8:j<y.kids.length:=by omega
  obtain⟨rq,aO,aP⟩:=hW.a3.one (f:=λ(k:Int)=>Value.int .i64 k) (j:=j) (by omega) h8;have ae:=hc _ (dR h8);have e:fW[j]=y.kids[j].toNat:=by simp only[JZ,nV]
  rw[e];refine⟨ae.2,rq,aO,λM=>?_⟩;have e:((y.kids[j].toNat:Nat):Int)=y.kids[j]:=by omega
  rw[e];exact aP M
 have j6:=(h.na k).one;unfold hz at aH;rw[jb]at aH j6;have zK:y.pn.asks=fW:=JZ.symm;have Rk:t.P.base=0:=rfl;rw[Rk,zK]at aH;rw[zK]at j6;refine cC.mk λdf ll agF=>?_;refine cC.mk λeb agG J0=>?_;refine cX.draw aT rfl rfl rfl ?_;refine aM.mk _ (dn (k:=0) (n:=1) (cs:=[ptr t.bt]) (T:=48) (b:=df) (.tail _ (.head _)) (by simp)) ?_;refine aM.mk _ (aW.e1 (j:=3) (by decide)) ?_;refine bs.mk ad k cg rfl af ?_;refine aM.mk _ (bD _) ?_;refine cC.mk λuF agH agI=>?_;refine cS.mk [] _ _ _ rfl rfl (bq rfl) rfl ?_;refine cC.mk λfi QV QW=>?_;refine cS.mk [] _ [.int .i64 0].toArray 3 rfl rfl (bq rfl) rfl ?_;have dP:∀ {M:List aC} j,j+1<=9->(⟨uF,.cells y.cells.toArray 72 (0,0)⟩:aC)∈M->ck I M ((⟨uF,0,none⟩:Addr).add j) 1 ((y.cells.drop j).take 1):=λj ar a5=>dn a5 ar;refine aM.mk _ (dP 0 (by decide) (.tail _ (.head _))) ?_;have Rl:∀ {q aB:Nat},aB<=t.s.size->(dk t.P q aB).ap=3->aB<=(dk t.P q aB).aB/\(dk t.P q aB).aB<=t.s.size:=fun {q aB} fD ai=>by have:=(Qq (P:=t.P) rfl q aB).m ai;rw[Rk,dG]at this;exact⟨this.1,this.2.1⟩
 have fin:∀ {aB:Nat} {os:bb},x1 t.s.size L parts [] aB os->os.ok 2 ((L++parts).flatMap gB):=λhw=>by obtain⟨kQ,dH,di⟩:=hw.ok;rw[en]at di;rwa [di]at dH
 have agJ:∀ {os:bb} {aB:Nat},(⟨uF,.cells y.cells.toArray 72 (0,0)⟩:aC)∈s0 ⟨uF,.cells y.cells.toArray 72 (0,0)⟩ t.bt df fi eb aB os:=.head _;have aQ:∀ {os:bb} {aB:Nat},ck I (s0 ⟨uF,.cells y.cells.toArray 72 (0,0)⟩ t.bt df fi eb aB os) ((⟨eb,0,none⟩:Addr).add 0) 1 (([os.val].drop 0).take 1):=fun {os aB}=>dn (T:=191) (cs:=[os.val]) (.tail _ (.tail _ (.tail _ (.head _)))) (bS _);have agK:∀ j:Int,y.pn.d.k=j ↔ y.k=j:=λj=>Iff.rfl;refine aR.mk (λgM=>?_) (λgM=>?_)
 ·have bM:y.pn.d.k=6:=c9 gM;rw[cv bM]at aH;obtain⟨q,aK⟩:=j6 (.inr (by omega));have Rm:y.kids.length=1:=by rw[<-JW,aK];rfl
  obtain⟨kf,rq,zO,uG⟩:=ask 0 (by omega);have bT:fW[0]'(by omega)=q:=by simp only[aK];rfl
  rw[bT]at kf uG;have zh:hy (dk t.P) 0 q y.hi 0 a parts:=by rw[aK]at aH;exact aH
  refine dh.inv (ι:=Nat×Nat×bb) (λz=>{ ca:=[(4,.val (ptr eb)),(7,.val (ptr uF)),(9,.val (JX df fi eb)),(10,.val (.int .i64 z.1))],cQ:=I,dq:=s0 ⟨uF,.cells y.cells.toArray 72 (0,0)⟩ t.bt df fi eb z.2.1 z.2.2 }) (λz=>z.1<=1000001/\∃ rest,hy (dk t.P) 0 q y.hi z.1 z.2.1 rest/\x1 t.s.size L parts rest z.2.1 z.2.2) (λz=>1000002-z.1) ?_ ?_;·exact⟨(0,a,os),⟨by simp,parts,zh,ab,[],by rw[en];exact dS,rfl⟩,.perm JY .refl,ez,.nil⟩
  rintro⟨n,aB,ph⟩⟨az,rest,eR,hw⟩;simp only at az eR hw;have jC:=hw.hi;obtain⟨kQ,sf,eG⟩:=hw.ok;have tT:(L++kQ).length<=1048576:=by have:=congrArg List.length eG;rw[cD]at this |-;omega
  cases eR with
  |stop aq=>
   refine aM.mk _ (dP 7 (by decide) (.head _)) ?_;refine bC.mk (λe=>?_) (λ_=>?_);·have aA:(!decide ((n:Int)=y.hi))=true:=e;rw[aq]at aA;simp at aA
   refine aM.mk _ aQ ?_;exact⟨_,_,.sub FP .refl,rfl,ph,rfl,fin hw,rfl⟩
  |fail aq mX=>
   have mX:(dk t.P q aB).ap=2:=mX;refine aM.mk _ (dP 7 (by decide) (.head _)) ?_;refine bC.mk (λ_=>?_) (λe=>?_)
   rotate_left
   ·have aA:(!decide ((n:Int)=y.hi))=false:=e;simp only[Bx,eC]at aA;exact absurd aA aq
   refine aM.mk _ (dP 8 (by decide) (.head _)) ?_;refine bs.mk rq 0 zO rfl (by omega) ?_;refine aM.mk _ (uG _) ?_;refine a7.whole _ (FO h _ sf kf jC (λ_=>tT)) ?_;rintro v I' M' -⟨rfl,⟨ai,rfl,rfl⟩|⟨ai,-⟩⟩;·refine aR.mk (λe=>by cases e) (λ_=>?_);refine aM.mk _ aQ ?_;exact⟨_,_,.sub FP .refl,rfl,ph,rfl,fin hw,rfl⟩
   ·rw[mX]at ai;cases ai
  | @more _ _ l aar aq g0 r=>
   have g0:(dk t.P q aB).ap=3:=g0;have r:hy (dk t.P) 0 q y.hi (n+1) (dk t.P q aB).aB l:=r;have eo:=Rl jC g0;refine aM.mk _ (dP 7 (by decide) (.head _)) ?_;refine bC.mk (λ_=>?_) (λe=>?_)
   rotate_left
   ·have aA:(!decide ((n:Int)=y.hi))=false:=e;simp only[Bx,eC]at aA;exact absurd aA aq
   refine aM.mk _ (dP 8 (by decide) (.head _)) ?_;refine bs.mk rq 0 zO rfl (by omega) ?_;refine aM.mk _ (uG _) ?_;refine a7.whole _ (FO h _ sf kf jC (λ_=>tT)) ?_;rintro v I' M' -⟨rfl,⟨ai,-⟩|⟨ai,rfl,gl,gL,rfl⟩⟩;·exact absurd g0 ai
   ·refine aR.mk (λ_=>?_) (λe=>by cases e);refine a6.mk _ (cY (i:=n) (by omega)) ?_;exact⟨(n+1,_,gl),⟨⟨by simp only;omega,l,r,x1.next eo.2 gL eG⟩,by simp only;omega⟩,.refl,ez,.nil⟩
 have E3:¬ y.pn.d.k=6:=dj gM;rw[b7 E3]at aH;refine aR.mk (λeX=>?_) (λeX=>?_)
 ·have bp:y.pn.d.k=5:=c9 eX;rw[cv bp]at aH;obtain⟨sT,qj⟩:=aH;refine aM.mk _ (dP 8 (by decide) (.tail _ (.head _))) ?_;refine dh.inv (ι:=Nat) (λj=>{ ca:=[(4,.val (ptr eb)),(9,.val (JX df fi eb)),(58,.val (.slice y.kC y.kn y.jj)),(59,.val (.int .i64 y.kn)),(60,.val (.int .i64 j))],cQ:=I,dq:=s0 ⟨uF,.cells y.cells.toArray 72 (0,0)⟩ t.bt df fi eb a os }) (λj=>j<=fW.length/\o9 (dk t.P) 0 (fW.drop j) a/\parts=jo (dk t.P) 0 (fW.drop j) a) (λj=>fW.length-j) ?_ ?_
  ·exact⟨0,⟨bk _,sT,qj⟩,.perm JY .refl,iD,.nil⟩
  rintro j⟨ar,n2,lI⟩;refine aR.mk (λe=>?_) (λe=>?_)
  rotate_left
  ·have dE:¬ (j:Int)<(y.kn:Int):=dj e;rw[iU (by omega)]at n2;exact n2.elim
  have aU:(j:Int)<(y.kn:Int):=c9 e;have fp:j<fW.length:=by omega
  obtain⟨lS,rq,zO,uG⟩:=ask j fp;rw[fs fp]at n2 lI;generalize fW[j]=q at lS uG n2 lI;refine bs.mk rq j zO rfl (by omega) ?_;refine aM.mk _ (uG _) ?_;refine a7.whole _ (FO h _ dS lS ab (λ_=>by omega)) ?_;rintro v I' M' -⟨rfl,⟨ai,rfl,rfl⟩|⟨ai,rfl,gl,gL,rfl⟩⟩
  ·refine aR.mk (λe=>by cases e) (λ_=>?_);refine a6.mk _ (cY (i:=j) (by omega)) ?_;have ll:Nat.beq (dk t.P q (a-0)).ap 3=false:=by rw[sv];exact λe=>ai (bV e)
   refine⟨j+1,⟨⟨by omega,?_,?_⟩,by omega⟩,.refl,iD,.nil⟩
   ·rcases n2 with e | e
    ·exact absurd e ai
    ·exact e.2
   ·rw[lI];simp only[jo,ll,aY]
  ·refine aR.mk (λ_=>?_) (λe=>by cases e);have he:parts=bif Nat.beq (dk t.P q a).n 0 then []else [(q,a)]:=by
    have ll:Nat.beq (dk t.P q (a-0)).ap 3=true:=by rw[show(dk t.P q (a-0)).ap=3 from ai];rfl
    rw[lI];simp only[jo,ll,aZ];rfl
   refine aM.mk _ aQ ?_;exact⟨_,_,.sub FP .refl,rfl,gl,rfl,by rw[he];exact gL,rfl⟩
 have aaL:¬ y.pn.d.k=5:=dj eX;rw[b7 aaL]at aH;obtain⟨sT,qj⟩:=aH;refine aM.mk _ (dP 8 (by decide) (.tail _ (.head _))) ?_;refine dh.inv (ι:=Nat×Nat×bb) (λz=>{ ca:=[(4,.val (ptr eb)),(9,.val (JX df fi eb)),(29,.val (.slice y.kC y.kn y.jj)),(30,.val (.int .i64 y.kn)),(31,.val (.int .i64 z.1))],cQ:=I,dq:=s0 ⟨uF,.cells y.cells.toArray 72 (0,0)⟩ t.bt df fi eb z.2.1 z.2.2 }) (λz=>z.1<=fW.length/\allM (dk t.P) 0 (fW.drop z.1) z.2.1/\x1 t.s.size L parts (iq (dk t.P) 0 (fW.drop z.1) z.2.1) z.2.1 z.2.2) (λz=>fW.length-z.1) ?_ ?_
 ·exact⟨(0,a,os),⟨bk _,sT,ab,[],by rw[en];exact dS,qj.symm⟩,.perm JY .refl,iD,.nil⟩
 rintro⟨j,aB,ph⟩⟨ar,n2,hw⟩;simp only at ar n2 hw;refine aR.mk (λe=>?_) (λe=>?_)
 rotate_left
 ·have dE:¬ (j:Int)<(y.kn:Int):=dj e;rw[iU (by omega)]at hw;refine aM.mk _ aQ ?_;exact⟨_,_,.sub FP .refl,rfl,ph,rfl,fin hw,rfl⟩
 have aU:(j:Int)<(y.kn:Int):=c9 e;have fp:j<fW.length:=by omega
 obtain⟨lS,rq,zO,uG⟩:=ask j fp;rw[fs fp]at n2 hw;generalize fW[j]=q at lS uG n2 hw;obtain⟨g0,lI⟩:=n2;have g0:(dk t.P q aB).ap=3:=g0;have jC:=hw.hi;obtain⟨kQ,sf,eG⟩:=hw.ok;have tT:(L++kQ).length<=1048576:=by have:=congrArg List.length eG;rw[cD]at this |-;omega
 have eo:=Rl jC g0;refine bs.mk rq j zO rfl (by omega) ?_;refine aM.mk _ (uG _) ?_;refine a7.whole _ (FO h _ sf lS jC (λ_=>tT)) ?_;rintro v I' M' -⟨rfl,⟨ai,-⟩|⟨ai,rfl,gl,gL,rfl⟩⟩
 ·exact absurd g0 ai
 refine a6.mk _ (cY (i:=j) (by omega)) ?_;refine⟨(j+1,_,gl),⟨⟨by simp only;omega,lI,x1.next eo.2 gL ?_⟩,by simp only;omega⟩,.refl,iD,.nil⟩;rw[<-eG];have ll:Nat.beq (dk t.P q (aB-0)).ap 3=true:=by rw[show(dk t.P q (aB-0)).ap=3 from ai];rfl
 simp only[iq,ll,aZ];show kQ++((bif Nat.beq (dk t.P q aB).n 0 then []else [(q,aB)])++iq (dk t.P) 0 (fW.drop (j+1)) (dk t.P q aB).aB)=kQ++bif Nat.beq (dk t.P q aB).n 0 then iq (dk t.P) 0 (fW.drop (j+1)) (dk t.P q aB).aB else(q,aB)::iq (dk t.P) 0 (fW.drop (j+1)) (dk t.P q aB).aB;cases Nat.beq (dk t.P q aB).n 0<;>rfl
def bN.cells(c:bN):List Value:=[.string c.name,.int .i64 c.lo,.int .i64 c.hi]
def bN.cV(c:bN):c.cells.length=3:=rfl
structure Rn(m:cH)(kn:Nat->Nat->bg)(x:Nat×Nat):Prop where
 k:x.1<m.ns.n
 lo:m.base<=x.2
 hi:x.2<=m.s.size
 ap:(kn x.1 (x.2-m.base)).ap=3
def x2(m:cH)(kn:Nat->Nat->bg)(x:Nat×Nat):Prop:=Rn m kn x/\(kn x.1 (x.2-m.base)).n≠0
section
variable{m:cH}{kn:Nat->Nat->bg}
def Ro(h:∀ k p,i' m.hV (m.base+p) (kn k p)){q:Nat}(dJ:m.base<=aB)(ai:(kn q (aB-m.base)).ap=3):m.base<=(kn q (aB-m.base)).aB/\(kn q (aB-m.base)).aB<=m.s.size:=by have:=(h q (aB-m.base)).m ai;rw[su dJ]at this;exact⟨by omega,this.2.1⟩
def Rp(h:∀ k p,i' m.hV (m.base+p) (kn k p)):∀ (L:List Nat) (a:Nat),(∀ x∈L,x<m.ns.n)->m.base<=a->a<=m.s.size->allM kn m.base L a->∀ x∈iq kn m.base L a,x2 m kn x
 |[],a,_,_,_,_,x,ae=>by cases ae
 |k::L,a,cI,aa,ab,⟨ai,aQ⟩,x,ae=>by
  have aw:=Ro h aa ai;have a8:=Rp h L _ (λx ae=>cI x (.tail _ ae)) aw.1 aw.2 aQ;simp only[iq,ai]at ae;rw[show Nat.beq 3 3=true from rfl,aZ]at ae;cases au:Nat.beq (kn k (a-m.base)).n 0 with
  |true=>rw[au]at ae;exact a8 x ae
  |false=>
   rw[au]at ae;rcases dv.1 ae with rfl | ae;·exact⟨⟨cI k (.head _),aa,ab,ai⟩,λe=>by rw[e]at au;cases au⟩
   ·exact a8 x ae
def Rq:∀ (L:List Nat) (a:Nat),(∀ x∈L,x<m.ns.n)->m.base<=a->a<=m.s.size->∀ x∈jo kn m.base L a,x2 m kn x
 |[],a,_,_,_,x,ae=>by cases ae
 |k::L,a,cI,aa,ab,x,ae=>by
  simp only[jo]at ae;cases ai:Nat.beq (kn k (a-m.base)).ap 3 with
  |false=>rw[ai]at ae;exact Rq L a (λx ae=>cI x (.tail _ ae)) aa ab x ae
  |true=>
   rw[ai,aZ]at ae;cases au:Nat.beq (kn k (a-m.base)).n 0 with
   |true=>rw[au]at ae;cases ae| false=>rw[au,aY,iM]at ae;subst ae;exact⟨⟨cI k (.head _),aa,ab,bV ai⟩,λe=>by simp only at e;rw[e]at au;cases au⟩
def hy.ok(h:∀ k p,i' m.hV (m.base+p) (kn k p)){k:Nat}(af:k<m.ns.n){hi:Int}{t a:Nat}{l:List (Nat×Nat)}(hw:hy kn m.base k hi t a l):m.base<=a->a<=m.s.size->∀ x∈l,x2 m kn x:=by
 induction hw with
 |stop=>exact λ_ _ x ae=>by cases ae
 |fail=>exact λ_ _ x ae=>by cases ae
 | @more t a l ag aq ai r a8=>
  intro aa ab x ae;have aw:=Ro h aa ai;rcases dA.1 ae with ae | ae
  ·cases au:Nat.beq (kn k (a-m.base)).n 0 with
   |true=>rw[au]at ae;cases ae| false=>rw[au,aY,iM]at ae;subst ae;exact⟨⟨af,aa,ab,ai⟩,λe=>by simp only at e;rw[e]at au;cases au⟩
  ·exact a8 aw.1 aw.2 x ae
def aaM(h:∀ k p,i' m.hV (m.base+p) (kn k p))(AW:m.ns.xs.length=m.ns.n)(pg:oh m.hV){k a:Nat}(af:k<m.ns.n)(aa:m.base<=a)(ab:a<=m.s.size){l:List (Nat×Nat)}(aH:hz m.hV kn k a l):∀ x∈l,x2 m kn x:=by
 have Jz:m.hV.ns.length=m.ns.n:=by simp[cH.hV,AW]
 have an:=bu.E0 pg (k:=k) (by omega);have ay:∀ x∈(m.hV.at_ k).asks,x<m.ns.n:=λx ae=>by rw[<-Jz];exact an.asks x ae
 unfold hz at aH;by_cases bM:(m.hV.at_ k).d.k=6
 ·rw[cv bM]at aH;have Rm:=an.one (by omega);have aG:(m.hV.at_ k).asks.getD 0 0<m.ns.n:=by
   have e:(m.hV.at_ k).asks.getD 0 0=(m.hV.at_ k).asks[0]:=by simp[dT,Rm]
   rw[e];exact ay _ (dR (by omega))
  exact hy.ok h aG aH aa ab
 ·rw[b7 bM]at aH;by_cases bp:(m.hV.at_ k).d.k=5
  ·rw[cv bp]at aH;rw[aH.2];exact Rq _ _ ay aa ab
  ·rw[b7 bp]at aH;rw[aH.2];exact Rp h _ _ ay aa ab aH.1
def J1(aG:rb m.hV kn):∀ (L:List (Nat×Nat)),(∀ x∈L,x2 m kn x)->∃ n l,eY m.hV kn n L l/\L.length<=l.length
 |[],_=>⟨0,[],.nil,bS _⟩
 |(k,a)::L,h=>by
  obtain⟨n,l,aa,ab⟩:=J1 aG L λx ae=>h x (.tail _ ae);obtain⟨⟨dr,c4,fy,kF⟩,Ca⟩:=h (k,a) (.head _);obtain⟨fq,cd,hA,fh,-⟩:=aG k (a-m.base) kF;have e:m.hV.base+(a-m.base)=a:=by show m.base+(a-m.base)=a;simp only at c4;omega
  rw[e]at hA;refine⟨fq+n,cd++l,hA.app aa,?_⟩;have:0<cd.length:=by unfold jq at fh;simp only at Ca;omega
  rw[cD,du];omega
end
def Rr{v ov:Value}(h:ov=v):tw (.val v) (.val ov):=by rw[h];exact .refl
structure J2(m:cH)(kn:Nat->Nat->bg)(l:List bN)(n:Nat)(L:List (Nat×Nat))(os dZ:bb):Prop where
 os:os.ok 2 (L.reverse.flatMap gB)
 dW:∀ x∈L,Rn m kn x
 aaN:L.length<=1\/∀ x∈L,x2 m kn x
 g:∃ mA jQ,eY m.hV kn n L jQ/\mA++jQ=l/\dZ.ok 3 (mA.flatMap bN.cells)
def J2.len{m:cH}{kn:Nat->Nat->bg}{l:List bN}{dZ:bb}(h:J2 m kn l n L os dZ)(aG:rb m.hV kn)(ay:l.length<=65536):L.length<=65537:=by
 rcases h.aaN with aa | aa
 ·omega
 ·obtain⟨mA,jQ,aO,aP,-⟩:=h.g;obtain⟨fq,cd,hA,fh⟩:=J1 aG L aa;have e:=aO.xH hA;subst e;have:=congrArg List.length aP;rw[cD]at this;omega
set_option maxRecDepth 100000 in
def Rs{pre:List aC}{A eN:List (Nat×Nat)}(Ck:gP.ok 2 ((A++eN).flatMap gB))(ag:gP.n<=1099511627776){ad:Option Addr}{Rt Ru:Nat}(hle:Rt=eN.length)(bl:0<eN.length->∃ g,gP.a=some g/\ad=some ⟨g,A.length*2,none⟩) :
  Spec Tryz.prog 135 [.slice ad Rt Ru] I (pre++(gP.aV 190++post)) λv I' M'=>I'=I/\∃ b5:bb,b5.val=gP.val/\b5.ok 2 ((A++eN.reverse).flatMap gB)/\M'=pre++(b5.aV 190++post):=by
 subst hle;refine b8 [] aT Tryz.func135 rfl rfl rfl ?_;intro B au;have uC:A.length+eN.length=gP.n:=by have:=Ck.len;rw[fo _ 2 sZ,cD]at this;omega
 refine a6.mk ((eN.length:Int)-1) (ec rfl (by omega)) ?_;refine dh.inv (ι:=Nat×bb×List (Nat×Nat)) (λx=>{ ca:=[(0,.val (.slice ad eN.length Ru)),(2,.val (.int .i64 x.1)),(3,.val (.int .i64 ((eN.length:Int)-1-x.1)))],cl:=[],cQ:=I,dq:=pre++(x.2.1.aV 190++post) }) (λx=>aaK A eN gP x) (λx=>eN.length-x.1) ?_ ?_
 ·refine⟨(0,gP,eN),⟨by simp,Ck,rfl,λk af=>?_,rfl,rfl⟩,.refl,.cons .refl (.cons .refl (.cons ?_ .nil)),.nil⟩
  ·simp only;rw[b7 (by omega)]
  ·simp only[Int.ofNat_zero,Int.sub_zero];exact .refl
 rintro⟨i,os,l⟩⟨hi,dS,hlen,p6,Cr,vZ⟩;simp only at hi dS hlen p6 Cr vZ;refine aR.mk (λh=>?_) (λh=>?_)
 rotate_left
 ·have dE:¬ (i:Int)<(eN.length:Int)-1-i:=dj h;refine⟨_,_,.refl,rfl,os,vZ,?_,rfl⟩;have e:l=eN.reverse:=by
   refine Eb λk=>?_;by_cases af:k<eN.length
   ·rw[p6 k af,List.getElem?_reverse af];split
    ·rfl
    ·congr 1;omega
   ·rw[wF (by omega),wF (by rw[pd];omega)]
  rw[<-e];exact dS
 have aU:(i:Int)<(eN.length:Int)-1-i:=c9 h;obtain⟨j,ar⟩:∃ j:Nat,(eN.length:Int)-1-i=(j:Int):=⟨eN.length-1-i,by omega⟩;have eI:i<l.length:=by omega
 have fp:j<l.length:=by omega
 obtain⟨g,zP,rfl⟩:=bl (by omega);have FQ:=Cr.trans zP;have row:∀ {os:bb} {l:List (Nat×Nat)} (h:os.ok 2 ((A++l).flatMap gB)) (av:os.a=some g) (q:Nat) (aK:q<l.length) {M:List aC},(∀ x∈os.aV 190,x∈M)->ck I M ((⟨g,A.length*2,none⟩:Addr).add (q*2)) 2 (gB l[q]):=fun {os l} h av q aK {M} a5=>by
  have:=bb.at_ (I:=I) (M:=M) (e:=190) sZ (by decide) h a5 av (i:=A.length+q) (by rw[cD];omega);rw[dx _ rfl,<-iV];have e:(A++l)[A.length+q]'(by rw[cD];omega)=l[q]:=by rw[IZ (by omega)];congr 1;omega
  rwa [e]at this
 have Rv:∀ {os:bb} {l:List (Nat×Nat)} (h:os.ok 2 ((A++l).flatMap gB)) (av:os.a=some g) (q:Nat) (aK:q<l.length) (x:Nat×Nat) {K:List aC->Prop},(∀ b5:bb,b5.val=os.val->b5.a=os.a->b5.ok 2 ((A++l.set q x).flatMap gB)->K (pre++(b5.aV 190++post))) ->
   cS (pre++(os.aV 190++post)) ((⟨g,A.length*2,none⟩:Addr).add (q*2)) (gB x) K:=fun {os l} h av q aK x {K} k=>by
  rw[dx _ rfl];refine bb.put gB 2 sZ h (i:=A.length+q) (by rw[cD];omega) 0 (vs:=gB x) (bS 2) rfl x ?_ pre post rfl av (by simp only;omega) ?_;·show bo (gB _) 0 (gB x)=gB x;rfl
  ·intro b5 ax aA bj cp;rw[List.set_append_right _ _ (by omega),I0]at cp;exact k b5 ax aA cp
 refine cX.draw aT rfl rfl rfl ?_;refine bs.mk ⟨g,A.length*2,none⟩ j rfl ar (by omega) ?_;refine aM.mk _ (row dS FQ j fp λz bd=>yD _ (yE _ bd)) ?_;refine bs.mk ⟨g,A.length*2,none⟩ i rfl rfl (by omega) ?_;refine aM.mk _ (row dS FQ i eI λz bd=>yD _ (yE _ bd)) ?_;refine bs.mk ⟨g,A.length*2,none⟩ i rfl rfl (by omega) ?_;refine Rv dS FQ i eI l[j] ?_;intro gl rU Cs gL;refine bs.mk ⟨g,A.length*2,none⟩ j rfl ar (by omega) ?_;refine Rv gL (Cs.trans FQ) j (by rw[vS];exact fp) l[i] ?_;intro x3 qa Rw sg;refine a6.mk _ (cY (i:=i) (by omega)) ?_;refine a6.mk ((eN.length:Int)-1-((i+1:Nat):Int)) (by rw[wrap_i64 ⟨by omega,by omega⟩];omega) ?_;refine⟨(i+1,x3,(l.set i l[j]).set j l[i]),⟨⟨by simp only;omega,sg,by simp only[vS];exact hlen,λk af=>?_,(Rw.trans Cs).trans Cr,(qa.trans rU).trans vZ⟩,by simp only;omega⟩,.refl,gI,.nil⟩;have zM:l[j]?=eN[j]?:=by rw[p6 j (by omega),b7 (by omega)]
 have aE:l[i]?=eN[i]?:=by rw[p6 i (by omega),b7 (by omega)]
 have aaO:l[j]=eN[j]'(by omega):=by rw[iT fp,iT (by omega)]at zM;exact m0 zM
 have aaP:l[i]=eN[i]'(by omega):=by rw[iT eI,iT (by omega)]at aE;exact m0 aE
 simp only;rw[r8,r8];by_cases ax:j=k
 ·subst ax;rw[cv rfl,cv (by rw[vS];exact fp),cv (by omega),aaP,<-iT];congr 1;omega
 ·rw[b7 ax];by_cases aA:i=k
  ·subst aA;rw[cv rfl,cv eI,cv (by omega),aaO,<-iT];congr 1;omega
  ·rw[b7 aA,p6 k af];by_cases bj:k<i\/eN.length<=k+i
   ·rw[cv bj,cv (by omega)]
   ·rw[b7 bj,b7 (by omega)]
def dp.s3(t:dp):cH:=⟨0,0,t.s,0,0,⟨t.km.map λy=>⟨y.xR,none,0,0,y.kids.map Int.toNat⟩,none,t.nn,0⟩⟩
def dp.aaQ(t:dp):t.s3.hV=t.P:=by unfold cH.hV dp.s3 dp.P;simp only[vD];rfl
set_option maxRecDepth 100000 in
def aaR{T:Nat->Nat->bE}(h:ou I t T){k a:Nat}(af:k<t.nn)(ab:a<=t.s.size)(ai:(dk t.P k a).ap=3){l:List bN}(nI:eY t.P (dk t.P) n [(k,a)] l)(ay:l.length<=65536) :
  Spec Tryz.prog 99 [ptr t.bt,.int .i64 k,.int .i64 a] I [] λv I' M'=>I'=I/\∃ dZ:bb,v=dZ.val/\dZ.ok 3 (l.flatMap bN.cells)/\M'=dZ.aV 59:=by
 refine b8 [] aT Tryz.func99 rfl rfl rfl ?_;intro B au;have aW:=h.ok;have cc:=aW.sz;have x4:=t.aaQ;have Ct:t.s3.ns.xs.length=t.s3.ns.n:=by show(t.km.map _).length=t.nn;rw[fl];exact aW.nn
 have m8:∀ k p,i' t.s3.hV (t.s3.base+p) (dk t.P k p):=λk p=>by rw[x4];exact Qq rfl k p
 have pg:oh t.s3.hV:=by rw[x4];exact h.hV
 have aG:rb t.s3.hV (dk t.P):=by rw[x4];exact Qp rfl cc h.na
 have ef:t.n0<t.nn->∀ M:List aC,t.aV T∈M:=λe=>absurd e (by have:=h.n0;omega);refine cC.mk λaaS hr agL=>?_;refine dh.inv (ι:=Nat×List (Nat×Nat)×bb×bb) (λy=>{ ca:=[(0,.val (ptr t.bt)),(7,.val y.2.2.2.val),(8,.val y.2.2.1.val)],cQ:=I,dq:=y.2.2.1.aV 190++y.2.2.2.aV 59 }) (λy=>J2 t.s3 (dk t.P) l y.1 y.2.1 y.2.2.1 y.2.2.2) (λy=>y.1) ?_ ?_
 ·refine⟨(n,[(k,a)],⟨some aaS,1,1,gB (k,a)⟩,⟨none,0,0,[]⟩),⟨⟨rfl,λe=>(by cases e),λg aG=>⟨rfl,bS _,by unfold maxLen;exact bq rfl,rfl⟩⟩,λx ae=>?_,.inl (bS _),[],l,by rw[x4];exact nI,rfl,⟨rfl,λ_=>⟨rfl,rfl⟩,λg h=>(by cases h)⟩⟩,.refl,gI,.nil⟩;rw[iM.1 ae];exact⟨af,bk _,ab,ai⟩
 rintro⟨n,L,os,dZ⟩a';have hlen:=a'.len aG ay;obtain⟨dS,bI,J3,mA,jQ,ic,uH,pi⟩:=a';simp only at dS bI J3 ic pi hlen;have uD:os.n=L.length:=by have:=dS.len;rw[fo _ 2 sZ,pd]at this;omega
 cases L with
 |nil=>
  refine aR.mk (λe=>?_) (λ_=>?_);·have:(0:Int)<(os.n:Int):=c9 e;simp at uD;omega
  cases ic;rw[en]at uH;subst uH;exact⟨_,_,.sub (M1:=dZ.aV 59) (k2 _ _) .refl,rfl,dZ,rfl,pi,rfl⟩
 |cons y rest=>
  obtain⟨k,a⟩:=y;refine aR.mk (λ_=>?_) (λe=>?_)
  rotate_left
  ·have:¬ (0:Int)<(os.n:Int):=dj e;simp at uD;omega
  obtain⟨s1,s2,gv,xV⟩:=bI (k,a) (.head _);have s1:k<t.nn:=s1;have gv:a<=t.s.size:=gv;have xV:(dk t.P k a).ap=3:=xV;have agM:os.n=rest.length+1:=by simpa using uD
  have zH:rest.length<=65536:=by simp at hlen;omega
  obtain⟨FR,zP⟩:∃ g,os.a=some g:=by
   cases av:os.a with
   |none=>have:=(dS.nil av).1;omega| some g=>exact⟨g,rfl⟩
  obtain⟨dH,di,hQ,jl⟩:=dS.cap FR zP;rw[Fz]at dS jl;have J4:bb.ok ⟨os.a,rest.length,os.c,os.cur⟩ 2 (rest.reverse.flatMap gB):=by
   refine⟨by rw[fo _ 2 sZ,pd],λe=>(by simp only at e;rw[zP]at e;cases e),λc5 _=>⟨dH,by simp only;omega,hQ,?_⟩⟩;simp only;have ax:((rest.reverse++[(k,a)]).flatMap gB).take (rest.length*2)=rest.reverse.flatMap gB:=by rw[mg,A5 (by rw[fo _ 2 sZ,pd];exact bS _)];exact hN (by rw[fo _ 2 sZ,pd];exact bS _)
   rw[<-ax,<-jl,tG];congr 1;omega
  have aaT:os.a.map (λg=>(⟨g,0,none⟩:Addr))=some ⟨FR,0,none⟩:=by rw[zP];rfl
  have aaU:∀ {M:List aC},(∀ x∈os.aV 190,x∈M)->ck I M ((⟨FR,0,none⟩:Addr).add (rest.length*2)) 2 (gB (k,a)):=fun {M} a5=>by have:=bb.at_ (I:=I) (M:=M) (e:=190) sZ (by decide) dS a5 zP (i:=rest.length) (by simp);rw[dx _ rfl,dG];simpa using this
  have cx:=h.ap (k:=k) gv;rcases cx with⟨t1,-,t3,t4⟩ | cx
  rotate_left
  ·exact absurd xV cx.2
  obtain⟨lV,gx,im⟩:=h.inv.rg k a s1 gv;have gx:(T k a).aB<=t.s.size:=gx;obtain⟨dm,hX,r,ao,fI,-,hY⟩:=aW.row s1;obtain⟨x,ae,jb,Rx,rj,hc,ad,cg,aaV⟩:=aW.at_ s1;refine a6.mk (rest.length:Int) (ec (show(os.n:Int)-1=(rest.length:Int) by omega) (by omega)) ?_;refine bs.mk ⟨FR,0,none⟩ rest.length aaT rfl (show rest.length<os.n by omega) ?_;refine aM.mk _ (aaU λx ae=>yE _ ae) ?_;refine a6.mk (rest.length:Int) (ec (show(os.n:Int)-1=(rest.length:Int) by omega) (by omega)) ?_;refine h5.mk 0 rest.length rfl rfl (bk _) (show rest.length<=os.c by omega) ?_;refine cX.draw aT rfl rfl rfl ?_;refine aM.mk _ (aW.e1 (j:=4) (by decide)) ?_;refine bs.mk dm k hX rfl s1 ?_;refine aM.mk _ (fI _) ?_;refine bs.mk r a rfl rfl (by show a<t.s.size+1;omega) ?_;refine aM.mk _ (hY _ (λe=>ef e _) a gv) ?_;refine cC.mk λmE Qz QA=>?_;refine cS.mk [] _ _ _ rfl rfl (bq rfl) rfl ?_;have oX:∀ {M:List aC} j,j+1<=4->(⟨mE,.cells (T k a).cells.toArray 107 (0,0)⟩:aC)∈M->ck I M ((⟨mE,0,none⟩:Addr).add j) 1 (((T k a).cells.drop j).take 1):=λj ar a5=>dn a5 ar;refine aM.mk _ (oX 0 (by decide) (.head _)) ?_;refine aR.mk (λe=>?_) (λe=>?_)
  ·have B':(T k a).n=0:=by have:((T k a).n:Int)=0:=c9 e;omega
   have bd:(dk t.P k a).n=0:=by rw[t4,B'];rfl
   cases ic with
   | @node n _ _ parts _ jQ _ aaW=>exact absurd bd aaW
   | @zero n _ _ _ _ _ _ Cu=>
    refine⟨(n,rest,⟨os.a,rest.length,os.c,os.cur⟩,dZ),⟨⟨J4,λx ae=>bI x (.tail _ ae),?_,mA,jQ,Cu,uH,pi⟩,by simp only;omega⟩,.sub (.cons _ (.refl _)) .refl,gI,.nil⟩;rcases J3 with e | e
    ·left
     simp at e;simp[e]
    ·exact .inr λx ae=>e x (.tail _ ae)
  have bd:(dk t.P k a).n≠0:=by have:¬ ((T k a).n:Int)=0:=dj e;omega
  cases ic with
  | @zero n _ _ _ _ _ iC r=>exact absurd iC bd| @node fq _ _ parts _ jQ _ _ aH Cu=>
  have lf:=aaM m8 Ct pg (k:=k) (a:=a) s1 (bk _) gv aH;have mT:∀ x∈rest,x2 t.s3 (dk t.P) x:=by
   rcases J3 with e | e
   ·have:rest=[]:=by
     cases rest with
     |nil=>rfl| cons _ _=>simp at e
    rw[this];exact λx ae=>by cases ae
   ·exact λx ae=>e x (.tail _ ae)
  have uI:rest.reverse.length+parts.length<=1048576:=by
   obtain⟨agN,agO,hA,fh⟩:=J1 aG (parts++rest) (λx ae=>by
    rcases dA.1 ae with ae | ae;·exact lf x ae
    ·exact mT x ae)
   have e:=Cu.xH hA;subst e;have aA:=congrArg List.length uH;rw[cD,cD]at aA;rw[cD]at fh;rw[pd];omega
  rw[x4]at aH;refine cX.draw aT rfl rfl rfl ?_;refine aM.mk _ (aW.e1 (j:=3) (by decide)) ?_;refine bs.mk ad k cg rfl s1 ?_;refine aM.mk _ (aaV _) ?_;refine cC.mk λs4 agP agQ=>?_;refine cS.mk [] _ _ _ rfl rfl (bq rfl) rfl ?_;have Cv:∀ {M:List aC} j,j+1<=9->(⟨s4,.cells x.cells.toArray 72 (0,0)⟩:aC)∈M->ck I M ((⟨s4,0,none⟩:Addr).add j) 1 ((x.cells.drop j).take 1):=λj ar a5=>dn a5 ar;refine aM.mk _ (Cv 0 (by decide) (.head _)) ?_;have Ry:∀ (D:List aC),(⟨s4,.cells x.cells.toArray 72 (0,0)⟩::⟨mE,.cells (T k a).cells.toArray 107 (0,0)⟩::((⟨os.a,rest.length,os.c,os.cur⟩:bb).aV 190++D)).Perm ((⟨os.a,rest.length,os.c,os.cur⟩:bb).aV 190++(⟨s4,.cells x.cells.toArray 72 (0,0)⟩::⟨mE,.cells (T k a).cells.toArray 107 (0,0)⟩::D)):=λD=>
   E9 [_,_] _ _
  have Rz:∀ (A D:List aC),List.Sublist (A++D) ([]++(A++(⟨s4,.cells x.cells.toArray 72 (0,0)⟩::⟨mE,.cells (T k a).cells.toArray 107 (0,0)⟩::D))++[]):=λA D=>by rw[en,nW];exact List.Sublist.append (.refl _) (.cons _ (.cons _ (.refl _)))
  have RA:∀ {gl:bb},gl.ok 2 ((rest.reverse++parts).flatMap gB)->gl.n=rest.length+parts.length:=fun {gl} gL=>by have:=gL.len;rw[fo _ 2 sZ,cD,pd]at this;omega
  refine aR.mk (λv0=>?_) (λv0=>?_)
  ·have c8:x.k=9:=c9 v0;have p0:lW t.P (dk t.P) k a=[⟨x.t,a,(T k a).aB⟩]:=by unfold lW;rw[jb,e7 (show x.pn.d.k=9 from c8),aZ];show [(⟨x.t,a,(dk t.P k a).aB⟩:bN)]=_;rw[t3]
   rw[x4,p0]at uH;have agR:dZ.n=mA.length:=by have:=pi.len;rw[fo _ 3 bN.cV]at this;omega
   have w9:mA.length<=65536:=by have:=congrArg List.length uH;rw[cD]at this;omega
   refine aM.mk _ (Cv 5 (by decide) (.head _)) ?_;refine aM.mk _ (oX 1 (by decide) (.tail _ (.head _))) ?_;refine a6.mk ((T k a).aB:Int) (ec rfl (by omega)) ?_;refine cC.mk λb6 gj hk=>?_;refine be.QP aT rfl (by simp) (e:=59) rfl rfl rfl dZ pi rfl (cs:=bN.cells ⟨x.t,a,(T k a).aB⟩) rfl rfl rfl (⟨s4,.cells x.cells.toArray 72 (0,0)⟩::⟨mE,.cells (T k a).cells.toArray 107 (0,0)⟩::(⟨os.a,rest.length,os.c,os.cur⟩:bb).aV 190) rfl (by omega) (by show(dZ.n+1)*32<=_;omega) ?_;rintro J5 agS-aaX;refine a7.mk ((⟨os.a,rest.length,os.c,os.cur⟩:bb).aV 190) (⟨s4,.cells x.cells.toArray 72 (0,0)⟩::⟨mE,.cells (T k a).cells.toArray 107 (0,0)⟩::J5.aV 59) _ (Ry _) (Rj h J4 s1 gv aH uI) ?_;rintro v I' M' -⟨rfl,gl,rfl,gL,rfl⟩;have sV:=RA gL;refine h5.mk rest.length gl.n rfl rfl (by omega) (bS _) ?_;refine a7.mk ([]++(gl.aV 190++(⟨s4,.cells x.cells.toArray 72 (0,0)⟩::⟨mE,.cells (T k a).cells.toArray 107 (0,0)⟩::J5.aV 59))) [] _ (by rw[en];exact .refl _) (Rs (pre:=[]) (A:=rest.reverse) gL (by omega) (show gl.n-rest.length=parts.length by omega) (λmO=>?_)) ?_
   ·cases av:gl.a with
    |none=>have:=(gL.nil av).1;omega| some aP=>have J6:=(gL.cap aP av).2.1;refine⟨aP,rfl,?_⟩;rw[b7 (by omega),pd];show some ((⟨aP,0,none⟩:Addr).add (rest.length*2))=_;rw[dx _ rfl,dG]
   rintro v I' M' -⟨rfl,x3,qa,sg,rfl⟩;refine⟨(fq,parts++rest,x3,J5),⟨⟨?_,?_,.inr ?_,mA++[⟨x.t,a,(T k a).aB⟩],jQ,Cu,by rw[fJ];exact uH,by rw[mg];simpa using aaX⟩,by simp only;omega⟩,.sub (Rz _ _) .refl,.cons .refl (.cons .refl (.cons (Rr qa) .nil)),.nil⟩;·rw[JD];exact sg
   ·intro x ae;rcases dA.1 ae with ae | ae
    ·exact(lf x ae).1
    ·exact bI x (.tail _ ae)
   ·intro x ae;rcases dA.1 ae with ae | ae
    ·exact lf x ae
    ·exact mT x ae
  ·have c8:¬ x.k=9:=dj v0;have p0:lW t.P (dk t.P) k a=[]:=by unfold lW;rw[jb,b4 (show ¬ x.pn.d.k=9 from c8),aY]
   rw[x4,p0,nW]at uH;refine a7.mk ((⟨os.a,rest.length,os.c,os.cur⟩:bb).aV 190) (⟨s4,.cells x.cells.toArray 72 (0,0)⟩::⟨mE,.cells (T k a).cells.toArray 107 (0,0)⟩::dZ.aV 59) _ (Ry _) (Rj h J4 s1 gv aH uI) ?_;rintro v I' M' -⟨rfl,gl,rfl,gL,rfl⟩;have sV:=RA gL;refine h5.mk rest.length gl.n rfl rfl (by omega) (bS _) ?_;refine a7.mk ([]++(gl.aV 190++(⟨s4,.cells x.cells.toArray 72 (0,0)⟩::⟨mE,.cells (T k a).cells.toArray 107 (0,0)⟩::dZ.aV 59))) [] _ (by rw[en];exact .refl _) (Rs (pre:=[]) (A:=rest.reverse) gL (by omega) (show gl.n-rest.length=parts.length by omega) (λmO=>?_)) ?_
   ·cases av:gl.a with
    |none=>have:=(gL.nil av).1;omega| some aP=>have J6:=(gL.cap aP av).2.1;refine⟨aP,rfl,?_⟩;rw[b7 (by omega),pd];show some ((⟨aP,0,none⟩:Addr).add (rest.length*2))=_;rw[dx _ rfl,dG]
   rintro v I' M' -⟨rfl,x3,qa,sg,rfl⟩;refine⟨(fq,parts++rest,x3,dZ),⟨⟨?_,?_,.inr ?_,mA,jQ,Cu,uH,pi⟩,by simp only;omega⟩,.sub (Rz _ _) .refl,.cons .refl (.cons .refl (.cons (Rr qa) .nil)),.nil⟩;·rw[JD];exact sg
   ·intro x ae;rcases dA.1 ae with ae | ae
    ·exact(lf x ae).1
    ·exact bI x (.tail _ ae)
   ·intro x ae;rcases dA.1 ae with ae | ae
    ·exact lf x ae
    ·exact mT x ae
def np(o:lY)(v:Value):Value:=.agg #[.bool o.ok,.int .i64 o.aB,v]
def pj:lY:=⟨false,0,[]⟩
def RB:Spec Tryz.prog 79 [] I M λv I' M'=>v=np pj (.slice none 0 0)/\I'=I/\M'=M:=by refine b8 [] aT Tryz.func79 rfl rfl rfl ?_;intro B au;exact⟨_,_,.refl,rfl,rfl,rfl⟩
def aaY(aB:Nat):Spec Tryz.prog 98 [.int .i64 aB] I M λv I' M'=>v=np ⟨true,aB,[]⟩ (.slice none 0 0)/\I'=I/\M'=M:=by refine b8 [] aT Tryz.func98 rfl rfl rfl ?_;intro B au;exact⟨_,_,.refl,rfl,rfl,rfl⟩
def fk.FT{P:Program}{E:Env}(aI:cj P E){t:Nat}(az:E t=some cP)(da:cP.bn=.pointer e){p:Option Addr}{V:Value->Prop}{other:Prop}
  (h:V (.bool p.isNone)):fk P .eql t x y (.val (.pointer p)) (.val (.pointer none)) V other:=by
 obtain⟨d,ev,eQ⟩:=(aI _ _ az).ep;have ab:d=.pointer e:=by rw[da]at eQ;cases d<;>simp_all[ek]
 subst ab;refine .mk _ _ _ rfl rfl (λw=>?_) h;have ax:(eqGuard .eql t x y (.pointer p) (.pointer none)).run P w=.ok () w:=by unfold eqGuard;rfl
 have aA:(Op.equal t (.pointer p) (.pointer none)).run P w=.ok p.isNone w:=by
  have key:∀ d,(Op.equalIn (d+1) t (.pointer p) (.pointer none)).run P w=.ok p.isNone w:=λd=>by cases p<;>simp[Op.equalIn,run_underlying ev]
  exact key 9999
 simp only[bH,ax,bx,binOp];simp[aA]
def aaZ{g:c1}(hm:nf g)(ei:∀ d∈g.ds,∀ n∈d.t.ns,0<=n.k){s:ByteArray}(aq:s.size<=4096):oh (fY g s):=by
 have aW:=Je hm ei (s:=s) (at_:=0) (bk _) aq;have ay:(fY g s).ns.length=(lX g s 0).ns.length:=by simp[fY,lX]
 refine⟨λa av=>?_,bk _,aq⟩;obtain⟨b,ag,rfl⟩:=dO.1 av;have h:=aW.ns b ag;exact⟨h.k,λx ae=>by rw[ay];exact h.asks x ae,h.many,h.one,h.la,h.len⟩
def ln.Cw{g:c1}{s:ByteArray}{T:Nat->Nat->bE}(h:ln I g s t T)(hm:nf g)(ei:∀ d∈g.ds,∀ n∈d.t.ns,0<=n.k)(aq:s.size<=4096):ou I t T:=by obtain⟨uz,b3⟩:=Q2 hm ei aq;refine⟨h.ok,h.inv,λk b=>by rw[h.P];exact h.all k b,h.n0,λk af=>?_,λk=>by rw[h.P];exact uz k,by rw[h.P];exact aaZ hm ei aq⟩;rw[h.P,h.nn];exact b3 k (by rw[<-h.nn];exact af)
inductive qq(P:bu)(k a:Nat)(o:lY)(e:Int):Prop
 |none(h:(bA P k a).ap=0)(an:o=pj)(he:e=5)| fail (h:(bA P k a).ap=2) (an:o=pj) (he:e=0)| many (h:(bA P k a).ap=3) (aw:65536<(bA P k a).n) (an:o=pj) (he:e=40)| is (h:(bA P k a).ap=3) (aw:(bA P k a).n<=65536) (he:e=0) (aW:o.ok=true) (fD:o.aB=(bA P k a).aB) (ay:o.fO.length=(bA P k a).n) (aG:∃ N,eY P (dk P) N [(k,a)] o.fO) (dY:g1 a (bA P k a).aB o.fO)
def J7{P:bu}{c:bE}{k a:Nat}(ab:c.ap<=2)(h:c.ce=bA P k a):(c.ap=0/\(bA P k a).ap=0)\/(c.ap=1/\(bA P k a).ap=2)\/(c.ap=2/\(bA P k a).ap=3/\(bA P k a).n=c.n/\(bA P k a).aB=c.aB):=by
 rw[<-h];rcases om ab with⟨e,bc⟩ | ⟨e,bc⟩ | ⟨e,bc⟩
 ·exact .inl ⟨e,by rw[bc];rfl⟩
 ·exact .inr (.inl ⟨e,by rw[bc];rfl⟩)
 ·exact .inr (.inr ⟨e,by rw[bc];exact⟨rfl,rfl,rfl⟩⟩)
def aa0{P:bu}(ag:P.base=0)(bd:P.s.size<=4096)(aw:∀ k,sS P k){k a:Nat}(av:a<=P.s.size)(ai:(bA P k a).ap=3):∃ n l,eY P (dk P) n [(k,a)] l/\jq l (min (bA P k a).n 65537)/\g1 a (bA P k a).aB l:=by have e:dk P k a=ja (bA P k a):=pc av;obtain⟨n,l,hA,fh,ir⟩:=Qp ag bd aw k a (by rw[e];exact ai);rw[ag,dG]at hA ir;rw[e]at fh ir;exact⟨n,l,hA,fh,ir⟩
section
variable{I:aN}{t:dp}{T:Nat->Nat->bE}
def aa1(h:ou I t T){k a:Nat}(af:k<t.nn)(av:a<=t.s.size):Spec Tryz.prog 65 [ptr t.bt,.int .i64 k,.int .i64 a] I [] λv I' M'=>I'=I/\∃ (dZ:bb) (o:lY) (e:Int),qq t.P k a o e/\v=.tuple #[np o dZ.val,.int .i64 e]/\dZ.ok 3 (o.fO.flatMap bN.cells)/\M'=dZ.aV 59:=by
 refine b8 [] aT Tryz.func65 rfl rfl rfl ?_;intro B au;have aW:=h.ok;have cc:=aW.sz;have ef:t.n0<t.nn->∀ M:List aC,t.aV T∈M:=λe=>absurd e (by have:=h.n0;omega);obtain⟨dm,hX,r,ao,fI,-,hY⟩:=aW.row af;obtain⟨lV,gx,im⟩:=h.inv.rg k a af av;have gx:(T k a).aB<=t.s.size:=gx;have cx:=J7 (h.inv.ap k a) (h.all k a);have dK:dk t.P k a=ja (bA t.P k a):=pc (show a<=t.P.s.size from av);refine aM.mk _ (aW.e1 (j:=4) (by decide)) ?_;refine bs.mk dm k hX rfl af ?_;refine aM.mk _ (fI _) ?_;refine bs.mk r a rfl rfl (by show a<t.s.size+1;omega) ?_;refine aM.mk _ (hY _ (λe=>ef e _) a av) ?_;generalize T k a=c at *;refine aR.mk (λe=>?_) (λe=>?_)
 ·have bc:c.ap=0:=by have:=c9 e;omega
  rcases cx with cx | cx | cx;·exact⟨_,_,.refl,rfl,sG,pj,5,.none cx.2 rfl rfl,rfl,xz 3,rfl⟩
  ·omega
  ·omega
 have bT:c.ap≠0:=by have:=dj e;omega
 refine aR.mk (λe=>?_) (λe=>?_)
 ·have bc:c.ap=1:=by have:=c9 e;omega
  rcases cx with cx | cx | cx;·omega
  ·refine a7.whole _ RB ?_;rintro v I' M' -⟨rfl,rfl,rfl⟩;exact⟨_,_,.refl,rfl,sG,pj,0,.fail cx.2 rfl rfl,rfl,xz 3,rfl⟩
  ·omega
 have ax:c.ap≠1:=by have:=dj e;omega
 rcases cx with cx | cx | cx
 ·omega
 ·omega
 obtain⟨-,br,eW,mj⟩:=cx;refine aR.mk (λe=>?_) (λe=>?_)
 ·have bc:65536<c.n:=by have:=c9 e;omega
  exact⟨_,_,.refl,rfl,sG,pj,40,.many br (by omega) rfl rfl,rfl,xz 3,rfl⟩
 have bc:c.n<=65536:=by have:=dj e;omega
 obtain⟨n,l,hA,fh,ir⟩:=aa0 rfl (show t.P.s.size<=4096 from cc) h.na (show a<=t.P.s.size from av) br;have rT:l.length=c.n:=by have:=fh.1 (by omega);omega
 refine a6.mk (c.aB:Int) (ec rfl (by omega)) ?_;refine a7.whole _ (aaY c.aB) ?_;rintro v I' M' -⟨rfl,rfl,rfl⟩;refine a7.whole _ (aaR h af av (by rw[dK];exact br) hA (by omega)) ?_;rintro v I' M' -⟨rfl,dZ,rfl,pi,rfl⟩;exact⟨_,_,.refl,rfl,dZ,⟨true,c.aB,l⟩,0,.is br (by omega) rfl rfl mj.symm (by rw[eW];exact rT) ⟨n,hA⟩ ir,rfl,pi,rfl⟩
def l1(n z:Nat)(eZ a:Int):Bool:=decide (0<=eZ)&&(decide (eZ<(n:Int))&&(decide (0<=a)&&decide (a<=(z:Int))))
def RC(h:ou I t T)(qs:t.rv=.slice dm n fQ)(eZ a:Int):Spec Tryz.prog 64 [ptr t.bt,.int .i64 eZ,.int .i64 a] I M0 λv I' M'=>v=.bool (l1 n t.s.size eZ a)/\I'=I/\M'=M0:=by
 refine b8 [] aT Tryz.func64 rfl rfl rfl ?_;intro B au;have aW:=h.ok;have iB:t.bK.getD 2 undef=.slice dm n fQ:=qs;have ab:∀ M,ck I M ((⟨t.bt,0,none⟩:Addr).add 2) 1 [.slice dm n fQ]:=λM=>by have:=aW.e1 (M:=M) (j:=2) (by decide);rwa [iB]at this
 refine bC.mk (λaO=>?_) (λaO=>?_)
 ·have aO:decide (0<=eZ)=true:=aO;refine aM.mk _ (ab _) ?_;refine bC.mk (λaP=>?_) (λaP=>?_)
  ·have aP:decide (eZ<(n:Int))=true:=aP;refine bC.mk (λbr=>?_) (λbr=>?_)
   ·have br:decide (0<=a)=true:=br;refine aM.mk _ (aW.e1 (j:=0) (by decide)) ?_;exact⟨_,_,.refl,by rw[l1,aO,aP,br];rfl,rfl,rfl⟩
   ·have br:decide (0<=a)=false:=br;exact⟨_,_,.refl,by rw[l1,aO,aP,br];rfl,rfl,rfl⟩
  ·have aP:decide (eZ<(n:Int))=false:=aP;exact⟨_,_,.refl,by rw[l1,aO,aP];rfl,rfl,rfl⟩
 ·have aO:decide (0<=eZ)=false:=aO;exact⟨_,_,.refl,by rw[l1,aO];rfl,rfl,rfl⟩
def RD{eZ a:Int}(h:l1 n z eZ a=true):∃ i j:Nat,eZ=i/\a=j/\i<n/\j<=z:=by simp only[l1,bG,eC]at h;exact⟨eZ.toNat,a.toNat,by omega,by omega,by omega,by omega⟩
end
section
variable{I:aN}{g:c1}{s:ByteArray}{t:dp}{T:Nat->Nat->bE}
def ln.root(h:ln I g s t T)(hm:nf g){i:Nat}(hi:i<g.n)(ik:g.ds.length=g.n):∃ dm fQ,t.rv=.slice dm g.n fQ/\iK g i<t.nn/\∃ ad,dm=some ad/\∀ M,ck I M (ad.add (i*1)) 1 [.int .i64 (iK g i)]:=by
 obtain⟨dm,fQ,aa,ab⟩:=h.rv;have ay:i<(gy 0 g.ds).length:=by rw[B4];omega
 have e:iK g i=(gy 0 g.ds)[i]:=by simp[iK,dT,ay]
 obtain⟨ad,dH,di⟩:=ab.one (f:=bJ) hi ay;refine⟨dm,fQ,aa,?_,ad,dH,λM=>by rw[e];exact di M⟩;have:=Fp 0 g.ds (λd ak=>(hm.r d ak).root) _ (dR ay);rw[e,h.nn];omega
inductive zQ(g:c1)(s:ByteArray)(eZ a:Int)(o:lY)(e:Int):Prop
 |no(h:l1 g.n s.size eZ a=false)(an:o=pj)(he:e=1)| is (i j:Nat) (hi:eZ=i) (ar:a=j) (gi:i<g.n) (lS:j<=s.size) (h:qq (fY g s) (iK g i) j o e)
def RE(h:ln I g s t T)(hm:nf g)(jV:ou I t T)(ik:g.ds.length=g.n)(eZ a:Int):Spec Tryz.prog 27 [ptr t.bt,.int .i64 eZ,.int .i64 a] I [] λv I' M'=>I'=I/\∃ (dZ:bb) (o:lY) (e:Int),zQ g s eZ a o e/\v=.tuple #[np o dZ.val,.int .i64 e]/\dZ.ok 3 (o.fO.flatMap bN.cells)/\M'=dZ.aV 59:=by
 refine b8 [] aT Tryz.func27 rfl rfl rfl ?_;intro B au;obtain⟨dm,fQ,qs,-⟩:=h.rv;refine fk.FT aT rfl rfl ?_;refine aR.mk (λe=>by cases e) (λ_=>?_);have s5:=RC jV qs eZ a (M0:=[]);rw[h.dN]at s5;refine a7.whole _ s5 ?_;rintro v I' M' -⟨rfl,rfl,rfl⟩;refine aR.mk (λe=>?_) (λe=>?_)
 ·have bc:l1 g.n s.size eZ a=false:=by simpa using e
  exact⟨_,_,.refl,rfl,sG,pj,1,.no bc rfl rfl,rfl,xz 3,rfl⟩
 have bc:l1 g.n s.size eZ a=true:=by simpa using e
 obtain⟨i,j,rfl,rfl,hi,ar⟩:=RD bc;obtain⟨RF,RG,v3,qp,ad,cg,bD⟩:=h.root hm hi ik;rw[qs]at v3;cases v3;have iB:t.bK.getD 2 undef=.slice dm g.n fQ:=qs;have ab:∀ M,ck I' M ((⟨t.bt,0,none⟩:Addr).add 2) 1 [.slice dm g.n fQ]:=λM=>by have:=jV.ok.e1 (M:=M) (j:=2) (by decide);rwa [iB]at this
 refine aM.mk _ (ab _) ?_;refine bs.mk ad i cg rfl hi ?_;refine aM.mk _ (bD _) ?_;refine a7.whole _ (aa1 jV qp (by rw[h.dN];exact ar)) ?_;rintro v gh eP -⟨rfl,dZ,o,aA,mu,rfl,pi,rfl⟩;rw[h.P]at mu;exact⟨_,_,.refl,rfl,dZ,o,aA,.is i j rfl rfl hi ar mu,rfl,pi,rfl⟩
inductive RH(g:c1)(s:ByteArray)(eZ a:Int)(n:Nat)(e:Int):Prop
 |no(h:l1 g.n s.size eZ a=false)(aw:n=0)(he:e=1)| none (i j:Nat) (hi:eZ=i) (ar:a=j) (gi:i<g.n) (lS:j<=s.size) (h:(bA (fY g s) (iK g i) j).ap=0) (aw:n=0) (he:e=5)| fail (i j:Nat) (hi:eZ=i) (ar:a=j) (gi:i<g.n) (lS:j<=s.size) (h:(bA (fY g s) (iK g i) j).ap=2) (aw:n=0) (he:e=0)| is (i j:Nat) (hi:eZ=i) (ar:a=j) (gi:i<g.n) (lS:j<=s.size) (h:(bA (fY g s) (iK g i) j).ap=3) (aw:n=(bA (fY g s) (iK g i) j).n) (he:e=0)
def aa2(h:ln I g s t T)(hm:nf g)(jV:ou I t T)(ik:g.ds.length=g.n)(eZ a:Int):Spec Tryz.prog 28 [ptr t.bt,.int .i64 eZ,.int .i64 a] I M0 λv I' M'=>I'=I/\M'=M0/\∃ (n:Nat) (e:Int),RH g s eZ a n e/\v=.tuple #[.int .i64 n,.int .i64 e]:=by
 refine b8 [] aT Tryz.func28 rfl rfl rfl ?_;intro B au;obtain⟨dm,fQ,qs,-⟩:=h.rv;refine fk.FT aT rfl rfl ?_;refine aR.mk (λe=>by cases e) (λ_=>?_);have s5:=RC jV qs eZ a (M0:=M0);rw[h.dN]at s5;refine a7.whole _ s5 ?_;rintro v I' M' -⟨rfl,rfl,rfl⟩;refine aR.mk (λe=>?_) (λe=>?_)
 ·have bc:l1 g.n s.size eZ a=false:=by simpa using e
  exact⟨_,_,.refl,rfl,rfl,0,1,.no bc rfl rfl,rfl⟩
 have bc:l1 g.n s.size eZ a=true:=by simpa using e
 obtain⟨i,j,rfl,rfl,hi,ar⟩:=RD bc;obtain⟨RF,RG,v3,qp,ad,cg,bD⟩:=h.root hm hi ik;rw[qs]at v3;cases v3;have aW:=jV.ok;have h8:j<=t.s.size:=by rw[h.dN];exact ar
 have ef:t.n0<t.nn->∀ M:List aC,t.aV T∈M:=λe=>absurd e (by have:=jV.n0;omega);have iB:t.bK.getD 2 undef=.slice dm g.n fQ:=qs;have ab:∀ M,ck I' M ((⟨t.bt,0,none⟩:Addr).add 2) 1 [.slice dm g.n fQ]:=λM=>by have:=aW.e1 (M:=M) (j:=2) (by decide);rwa [iB]at this
 obtain⟨J8,J9,r,ao,fI,-,hY⟩:=aW.row qp;have cx:=J7 (jV.inv.ap (iK g i) j) (h.all (iK g i) j);refine cX.draw aT rfl rfl rfl ?_;refine aM.mk _ (aW.e1 (j:=4) (by decide)) ?_;refine aM.mk _ (ab _) ?_;refine bs.mk ad i cg rfl hi ?_;refine aM.mk _ (bD _) ?_;refine bs.mk J8 (iK g i) J9 rfl qp ?_;refine aM.mk _ (fI _) ?_;refine bs.mk r j rfl rfl (by show j<t.s.size+1;omega) ?_;refine aM.mk _ (hY _ (λe=>ef e _) j h8) ?_;generalize T (iK g i) j=c at *;refine cC.mk λfi QV QW=>?_;refine cS.mk [] _ _ _ rfl rfl (bq rfl) rfl ?_;have eK:∀ {M:List aC} j,j+1<=4->(⟨fi,.cells c.cells.toArray 107 (0,0)⟩:aC)∈M->ck I' M ((⟨fi,0,none⟩:Addr).add j) 1 ((c.cells.drop j).take 1):=λj ar a5=>dn a5 ar;refine aM.mk _ (eK 2 (by decide) (.head _)) ?_;refine aR.mk (λe=>?_) (λe=>?_)
 ·have bc:c.ap=0:=by have:=c9 e;omega
  rcases cx with cx | cx | cx;·exact⟨_,_,.sub (.cons _ (.refl _)) .refl,rfl,rfl,0,5,.none i j rfl rfl hi ar cx.2 rfl rfl,rfl⟩
  ·omega
  ·omega
 have bT:c.ap≠0:=by have:=dj e;omega
 refine aR.mk (λe=>?_) (λe=>?_)
 ·have bc:c.ap=1:=by have:=c9 e;omega
  rcases cx with cx | cx | cx;·omega
  ·exact⟨_,_,.sub (.cons _ (.refl _)) .refl,rfl,rfl,0,0,.fail i j rfl rfl hi ar cx.2 rfl rfl,rfl⟩
  ·omega
 have ax:c.ap≠1:=by have:=dj e;omega
 rcases cx with cx | cx | cx
 ·omega
 ·omega
 refine aM.mk _ (eK 0 (by decide) (.head _)) ?_;exact⟨_,_,.sub (.cons _ (.refl _)) .refl,rfl,rfl,c.n,0,.is i j rfl rfl hi ar cx.2.1 cx.2.2.1.symm rfl,rfl⟩
end
def x5{a b:Int}(h:a=b):tw (.val (.int .i64 a)) (.val (.int .i64 b)):=by subst h;exact .refl
def kR(f:Nat->Bool):Nat->Nat
 |0=>0| n+1=>kR f n+(bif f n then 1 else 0)
def FU(f:Nat->Bool):∀ n,kR f n<=n
 |0=>bS _
 |n+1=>by
  have:=FU f n;unfold kR;cases f n<;>simp<;>omega
def kp(f:Nat->Nat):Nat->Nat
 |0=>0| n+1=>kp f n+f n
def J'{f:Nat->Nat}{C:Nat}:∀ n,(∀ i,i<n->f i<=C)->kp f n<=n*C
 |0,_=>by simp[kp]
 |n+1,h=>by have aa:=J' n λi hi=>h i (by omega);have ab:=h n (by omega);rw[kp,iV,oR];omega
noncomputable def h1(g:c1)(s:ByteArray)(i a:Nat):Bool:=!Nat.beq (bA (fY g s) (iK g i) a).ap 0
noncomputable def kS(g:c1)(s:ByteArray)(i:Nat):Nat:=kR (h1 g s i) (s.size+1)
noncomputable def RI(g:c1)(s:ByteArray):Nat:=kp (kS g s) g.n
def RJ(g:c1)(s:ByteArray)(i:Nat):kS g s i<=s.size+1:=FU _ _
section
variable{I:aN}{g:c1}{s:ByteArray}{t:dp}{T:Nat->Nat->bE}
def aa3(h:ln I g s t T)(hm:nf g)(jV:ou I t T)(ik:g.ds.length=g.n)(aw:g.n<=4096):Spec Tryz.prog 30 [ptr t.bt] I M0 λv I' M'=>v=.int .i64 (RI g s)/\I'=I/\M'=M0:=by
 refine b8 [] aT Tryz.func30 rfl rfl rfl ?_;intro B au;obtain⟨dm,fQ,qs,k0⟩:=h.rv;have aW:=jV.ok;have cc:=aW.sz;have da:=h.dN;have Cx:s.size<=4096:=by rw[<-da];exact cc
 have ef:t.n0<t.nn->∀ M:List aC,t.aV T∈M:=λe=>absurd e (by have:=jV.n0;omega);have iB:t.bK.getD 2 undef=.slice dm g.n fQ:=qs;have ab:∀ M,ck I M ((⟨t.bt,0,none⟩:Addr).add 2) 1 [.slice dm g.n fQ]:=λM=>by have:=aW.e1 (M:=M) (j:=2) (by decide);rwa [iB]at this
 refine fk.FT aT rfl rfl ?_;refine aR.mk (λe=>by cases e) (λ_=>?_);refine aM.mk _ (ab _) ?_;refine dh.inv (ι:=Nat) (λi=>{ ca:=[(0,.val (ptr t.bt)),(3,.val (.int .i64 (kp (kS g s) i))),(13,.val (.slice dm g.n fQ)),(14,.val (.int .i64 g.n)),(15,.val (.int .i64 i))],cl:=[],cQ:=I,dq:=M0 }) (λi=>i<=g.n) (λi=>g.n-i) ?_ ?_
 ·exact⟨0,bk _,.refl,iD,.nil⟩
 intro i hi;have aa4:=J' (f:=kS g s) (C:=4097) i λj _=>by have:=RJ g s j;omega
 refine aR.mk (λe=>?_) (λe=>?_)
 rotate_left
 ·have dE:g.n<=i:=by simpa using e
  obtain rfl:i=g.n:=by omega
  exact⟨_,_,.refl,rfl,rfl,rfl⟩
 have aU:i<g.n:=by simpa using e
 obtain⟨RF,RG,v3,qp,ad,cg,bD⟩:=h.root hm aU ik;rw[qs]at v3;cases v3;obtain⟨J8,J9,r,ao,fI,-,hY⟩:=aW.row qp;refine bs.mk ad i cg rfl aU ?_;refine aM.mk _ (bD _) ?_;refine aM.mk _ (aW.e1 (j:=4) (by decide)) ?_;refine bs.mk J8 (iK g i) J9 rfl qp ?_;refine aM.mk _ (fI _) ?_;refine dh.inv (ι:=Nat) (λj=>{ ca:=[(0,.val (ptr t.bt)),(3,.val (.int .i64 ((kp (kS g s) i+kR (h1 g s i) j:Nat):Int))),(13,.val (.slice dm g.n fQ)),(14,.val (.int .i64 g.n)),(15,.val (.int .i64 i)),(25,.val (.slice (some r) t.w t.w)),(26,.val (.int .i64 t.w)),(27,.val (.int .i64 j))],cl:=[],cQ:=I,dq:=M0 }) (λj=>j<=t.w) (λj=>t.w-j) ?_ ?_
 ·exact⟨0,bk _,.refl,rY,.nil⟩
 intro j ar;have gT:=FU (h1 g s i) j;have hw:t.w=s.size+1:=by show t.s.size+1=_;rw[da]
 refine aR.mk (λaA=>?_) (λaA=>?_)
 rotate_left
 ·have dE:t.w<=j:=by simpa using aA
  obtain rfl:j=t.w:=by omega
  refine a6.mk _ (cY (i:=i) (by omega)) ?_;refine⟨i+1,⟨by omega,by omega⟩,.refl,.cons .refl (.cons (x5 ?_) (gI)),.nil⟩;rw[kp,kS,hw]
 have Cl:j<t.w:=by simpa using aA
 have x6:j<=t.s.size:=by have:t.w=t.s.size+1:=rfl;omega
 have cx:=J7 (jV.inv.ap (iK g i) j) (h.all (iK g i) j);refine bs.mk r j rfl rfl Cl ?_;refine aM.mk _ (hY _ (λe=>ef e _) j x6) ?_;have v5:kR (h1 g s i) (j+1)=kR (h1 g s i) j+(bif !Nat.beq (T (iK g i) j).ap 0 then 1 else 0):=by
  rw[kR];congr 1;have bj:h1 g s i j=!Nat.beq (T (iK g i) j).ap 0:=by
   unfold h1;rcases cx with⟨dH,di⟩ | ⟨dH,di⟩ | ⟨dH,di,-⟩<;>rw[dH,di]<;>rfl
  rw[bj]
 generalize T (iK g i) j=c at *;refine aR.mk (λbj=>?_) (λbj=>?_)
 ·have cp:Nat.beq c.ap 0=false:=by have:=zB (j:=0) (b:=true) bj;simpa using this
  rw[cp]at v5;refine a6.mk ((kp (kS g s) i+kR (h1 g s i) (j+1):Nat):Int) (ec (by rw[v5];simp only[Aw,aZ];omega) (by rw[v5];simp only[Aw,aZ];omega)) ?_;refine a6.mk _ (cY (i:=j) (by omega)) ?_;exact⟨j+1,⟨by omega,by omega⟩,.refl,rY,.nil⟩
 ·have cp:Nat.beq c.ap 0=true:=by have:=zB (j:=0) (b:=false) bj;simpa using this
  rw[cp]at v5;refine a6.mk _ (cY (i:=j) (by omega)) ?_;refine⟨j+1,⟨by omega,by omega⟩,.refl,.cons .refl (.cons (x5 ?_) (jG)),.nil⟩;rw[v5];rfl
end
def x7(d:a1)(Fj:List (List a1)):List a1:=Yn d (Fj.map Yr)
structure RK(t:db):Prop where
 n:t.n<2500
 ns:∀ a2∈t.ns,IM a2
def o8.ok{I:aN}{t:db}(h:o8 I t)(aq:RK t):t.ok I:=
 ⟨h.a3.xB (by have:=aq.n;omega),λa2 b3=>(h.ns a2 b3).ok (aq.ns a2 b3),h.root⟩
def o8.mono{t:db}(h:o8 I t)(a':∀ b o,I b=some o->I' b=some o):o8 I' t:=⟨h.a3.mono a',λa2 b3=>(h.ns a2 b3).mono a',h.root⟩
def aa5(g:c1)(dL:List db)(i:Nat):List db:=dL++(g.ds.take i).map bP.t
structure g3(g:c1)(dL:List db)(x:Nat×Nat×bb):Prop where
 i:x.2.1<=g.n
 n:x.1<=6000
 agT:5*x.2.1<=x.1
 os:x.2.2.ok 2 ((aa5 g dL x.2.1).flatMap db.cells)
 small:x.1<2500->∀ j (h:j<g.ds.length),j<x.2.1->g.ds[j].name.size<2500
structure v7(L:List db)(n0:Nat)(x:Nat×Nat):Prop where
 i:x.2<=L.length
 n:x.1<=6000
 ge:n0<=x.1
 small:x.1<2500->x.2<=x.1/\∀ j (h:j<L.length),j<x.2->RK L[j]
structure FV(d:a1):Prop where
 kn:d.kn<400
 t:d.t.size<8020
structure Cy(t:db):Prop where
 n:t.n<400
 ns:∀ a2∈t.ns,FV a2
structure Ka(d:bP):Prop where
 name:d.name.size<8020
 t:Cy d.t
structure Kb(g:c1):Prop where
 n:g.n<400
 ds:∀ d∈g.ds,Ka d
def sJ.zR(h:sJ I d)(aq:FV d):d.ok I:=
 ⟨h.k,h.fT,h.s1,h.s2,h.gv,h.dN,h.lo,h.hi,h.a3.xB (by have:=aq.kn;omega),h.kids⟩
def o8.zR{t:db}(h:o8 I t)(aq:Cy t):t.ok I:=
 ⟨h.a3.xB (by have:=aq.n;omega),λa2 b3=>(h.ns a2 b3).zR (aq.ns a2 b3),h.root⟩
def od.zR{g:c1}(h:od I g)(aq:Kb g):g.ok I:=
 ⟨h.a3.xB (by have:=aq.n;omega),λd ak=>⟨by have:=(aq.ds d ak).name;omega,(h.ds d ak).t.zR (aq.ds d ak).t⟩⟩
def RL{a b:Int}(h:a=b):tw (.val (.int .i64 a)) (.val (.int .i64 b)):=by subst h;exact .refl
structure aa6(t:db)(x:Nat×Nat):Prop where
 j:x.2<=t.n
 n:x.1<=2000
 len:x.1<300->t.n<400
 small:x.1<300->∀ i (h:i<t.ns.length),i<x.2->FV t.ns[i]
structure RM(g:c1)(x:Nat×Nat):Prop where
 k:x.2<=g.n
 n:x.1<=2000
 small:x.1<300->x.2<=x.1/\∀ i (h:i<g.ds.length),i<x.2->Ka g.ds[i]
structure aa7(g:c1)(t:db)(k:Nat)(x:Nat×Nat):Prop where
 j:x.2<=t.n
 n:x.1<=2000
 small:x.1<300->t.n<400/\k+1<=x.1/\(∀ i (h:i<g.ds.length),i<k->Ka g.ds[i])/\(∀ h:k<g.ds.length,g.ds[k].name.size<8020)/\∀ i (h:i<t.ns.length),i<x.2->FV t.ns[i]
set_option maxRecDepth 100000 in
def RN{g:c1}(aG:od I g){t:db}(az:o8 I t)(s:ByteArray) :
  Spec Tryz.prog 24 [g.val,t.val,.string s] I [] λv I' M'=>(∃ r,v=.bool r/\(r=false->Kb g/\Cy t/\s.size<=40))/\I'=I/\M'=[]:=by
 refine b8 [] aT Tryz.func24 rfl rfl rfl ?_;intro B au;have ik:=aG.n;have vL:=az.n;have Iz:=az.a3.len;refine dh.inv (ι:=Nat×Nat) (λx=>{ ca:=[(2,.val (.string s)),(3,.ref 3 0),(4,.ref 4 0),(7,.val (.int .i64 x.1)),(8,.val (.int .i64 x.2))],cl:=[(3,[.slice g.a g.n g.c]),(4,t.cells)],cQ:=I }) (aa6 t) (λx=>t.n-x.2) ?_ ?_
 ·refine⟨(min 300 t.n,0),⟨bk _,by simp only;omega,λh=>by simp only at h;omega,λ_ i _ h=>by simp at h⟩,.refl,.cons .refl (.cons .refl (.cons .refl (.cons ?_ (.cons .refl .nil)))),.cons rfl (.cons rfl (.nil))⟩;refine RL ?_;omega
 rintro⟨n,j⟩⟨ar,aw,ay,Kc⟩;simp only at ar aw ay Kc;refine bC.mk (λh=>aR.mk (λab=>?body) (λab=>?ax)) (λh=>?aA)
 case body=>
  have aU:j<t.n:=by simpa using h
  have sV:n<300:=by have:=c9 ab;omega
  have cr:j<t.ns.length:=by omega
  obtain⟨rr,uI,zS⟩:=az.a3.row a1.cV aU cr;have b3:=az.ns _ (dR cr);have da:=b3.dN;have im:∀ M,ck I M ((rr.add (j*9)).add 8) 1 [.slice t.ns[j].kC t.ns[j].kn t.ns[j].jj]:=λM=>(zS M).part (k:=8) (m:=1) (by decide);have oc:∀ M,ck I M ((rr.add (j*9)).add 5) 1 [.string t.ns[j].t]:=λM=>(zS M).part (k:=5) (m:=1) (by decide);generalize Kd:t.ns[j]=a2 at b3 da im oc;refine cX.draw aT rfl rfl rfl ?_;refine bs.mk rr j uI rfl aU ?_;refine aM.mk _ (im _) ?_;refine a6.mk ((n+min 300 a2.kn:Nat):Int) (ec (by omega) (by omega)) ?_;refine bs.mk rr j uI rfl aU ?_;refine aM.mk _ (oc _) ?_;refine oH.mk (by decide) ?_;refine a6.mk ((a2.t.size/20:Nat):Int) (ec (by rw[E' (by omega)];omega) (by omega)) ?_;refine a6.mk ((n+min 300 a2.kn+min 300 (a2.t.size/20):Nat):Int) (ec (by omega) (by omega)) ?_;refine a6.mk _ (cY (i:=j) (by omega)) ?_;refine⟨(_,j+1),⟨⟨by simp only;omega,by simp only;omega,λdP=>by simp only at dP;exact ay (by omega),λdP i hi gd=>?_⟩,by simp only;omega⟩,.refl,iD,.cons rfl (.cons rfl (.nil))⟩;simp only at dP gd;by_cases e:i=j;·subst e;rw[Kd];exact⟨by omega,by omega⟩
  ·exact Kc (by omega) i hi (by omega)
 case' ax=>have ae:n<300->j=t.n:=λa4=>by have:=dj ab;omega
 case' aA=>have ae:n<300->j=t.n:=λa4=>by have:¬ (j:Int)<(t.n:Int):=dj h;omega
 all_goals
  clear h;have bO:n<300->Cy t:=λa4=>⟨ay a4,λa2 b3=>by
   obtain⟨y,aL,rfl⟩:=vC b3;exact Kc a4 y aL (by have:=ae a4;omega)⟩
  refine dh.inv (ι:=(Nat×Nat)×Nat) (λx=>{ ca:=[(2,.val (.string s)),(3,.ref 3 0),(7,.val (.int .i64 x.1.1)),(9,.val (.int .i64 x.2)),(10,.val (.int .i64 x.1.2))],cl:=[(3,[.slice g.a g.n g.c])],cQ:=I }) (λx=>(RM g x.1/\n<=x.1.1)/\1<=x.2/\x.2<=9000) (λx=>g.n-x.1.2) ?_ ?_;·exact⟨((n,0),1),⟨⟨⟨bk _,aw,λ_=>⟨bk _,λi _ h=>by simp at h⟩⟩,bS _⟩,bS _,by simp only;omega⟩,.refl,iD,.cons rfl (.nil)⟩
  rintro⟨⟨m,k⟩,aa8⟩⟨⟨⟨af,hm,Ke⟩,dE⟩,q6,RO⟩;simp only at af hm Ke dE q6 RO;have fin:(m<300->k=g.n)->m<300->Kb g/\Cy t:=λaa x8=>by obtain⟨s1,s2⟩:=Ke x8;have ai:=aa x8;refine⟨⟨by omega,λd ak=>?_⟩,bO (by omega)⟩;obtain⟨y,aL,rfl⟩:=vC ak;exact s2 y aL (by omega)
  refine bC.mk (λai=>aR.mk (λaQ=>?_) (λaQ=>?_)) (λai=>?_)
  ·have fK:k<g.n:=by simpa using ai
   have kg:m<300:=by have bd:((m:Nat):Int)<300:=c9 aQ;omega
   obtain⟨s1,s2⟩:=Ke kg;have oY:k<g.ds.length:=by omega
   obtain⟨ad,cg,bD⟩:=aG.a3.row bP.cV fK oY;have ak:=aG.ds _ (dR oY);have AI:=ak.name;have gr:=ak.t;have aa9:=gr.n;have lV:∀ M,ck I M ((ad.add (k*3)).add 0) 1 [.string g.ds[k].name]:=λM=>(bD M).part (k:=0) (m:=1) (by decide);have gx:∀ M,ck I M ((ad.add (k*3)).add 1) 2 g.ds[k].t.cells:=λM=>(bD M).part (k:=1) (m:=2) (by decide);have El:∀ (q:Nat),q<8020->g.ds[k].name.size=q->∀ h:k<g.ds.length,g.ds[k].name.size<8020:=λq aK e h=>by rw[e];exact aK
   generalize eG:g.ds[k].name=dc at AI lV El;generalize aba:g.ds[k].t=u at gr aa9 gx;refine bs.mk ad k cg rfl fK ?_;refine aM.mk _ (gx _) ?_;refine cX.draw aT rfl rfl rfl ?_;refine a6.mk ((m+5:Nat):Int) (ec (show(m:Int)+5=_ by omega) (by omega)) ?_;refine a6.mk ((m+5+min 300 u.n:Nat):Int) (ec (by omega) (by omega)) ?_;refine bs.mk ad k cg rfl fK ?_;refine aM.mk _ (lV _) ?_;refine oH.mk (by decide) ?_;refine a6.mk ((dc.size/20:Nat):Int) (ec (by rw[E' (by omega)];omega) (by omega)) ?_;refine a6.mk ((m+5+min 300 u.n+min 300 (dc.size/20):Nat):Int) (ec (by omega) (by omega)) ?_;refine dh.inv (ι:=(Nat×Nat)×Nat) (λx=>{ ca:=[(2,.val (.string s)),(3,.ref 3 0),(7,.val (.int .i64 x.1.1)),(9,.val (.int .i64 x.2)),(10,.val (.int .i64 k)),(11,.ref 11 0),(12,.val (.int .i64 x.1.2))],cl:=[(3,[.slice g.a g.n g.c]),(11,u.cells)],cQ:=I }) (λx=>(aa7 g u k x.1/\n<=x.1.1)/\1<=x.2/\x.2<=9000) (λx=>u.n-x.1.2) ?_ ?_;·exact⟨((_,0),aa8),⟨⟨⟨bk _,by simp only;omega,λh=>by simp only at h;exact⟨by omega,by simp only;omega,s2,λh=>El dc.size (by omega) rfl h,λi _ h=>by simp at h⟩⟩,by simp only;omega⟩,q6,RO⟩,.refl,j8,.cons rfl (.cons rfl (.nil))⟩
   rintro⟨⟨p,q⟩,oa⟩⟨⟨⟨aK,aH,Kf⟩,Cz⟩,FW,FX⟩;simp only at aK aH Cz Kf FW FX;have out:(p<300->q=u.n)->RM g (p,k+1):=λaa=>by
    refine⟨by simp only;omega,aH,λab=>?_⟩;simp only at ab;obtain⟨rs,ow,v8,Kg,Kh⟩:=Kf ab;have agU:=aa ab;refine⟨ow,λi hi gd=>?_⟩;by_cases e:i=k
    ·subst e;refine⟨Kg hi,?_⟩;rw[aba];exact⟨rs,λa2 b3=>by
      obtain⟨y,aL,rfl⟩:=vC b3;exact Kh y aL (by omega)⟩
    ·exact v8 i hi (by simp only at gd;omega)
   refine bC.mk (λbp=>aR.mk (λbM=>?_) (λbM=>?_)) (λbp=>?_)
   ·have fV:q<u.n:=by simpa using bp
    have qj:p<300:=by have bd:((p:Nat):Int)<300:=c9 bM;omega
    obtain⟨rs,ow,v8,Kg,Kh⟩:=Kf qj;have lQ:q<u.ns.length:=by omega
    obtain⟨rr,uI,zS⟩:=gr.a3.row a1.cV fV lQ;have b3:=gr.ns _ (dR lQ);have da:=b3.dN;have im:∀ M,ck I M ((rr.add (q*9)).add 8) 1 [.slice u.ns[q].kC u.ns[q].kn u.ns[q].jj]:=λM=>(zS M).part (k:=8) (m:=1) (by decide);have oc:∀ M,ck I M ((rr.add (q*9)).add 5) 1 [.string u.ns[q].t]:=λM=>(zS M).part (k:=5) (m:=1) (by decide);have qb:∀ M,ck I M ((rr.add (q*9)).add 6) 1 [.int .i64 u.ns[q].lo]:=λM=>(zS M).part (k:=6) (m:=1) (by decide);generalize Kd:u.ns[q]=a2 at b3 da im oc qb;refine cX.draw aT rfl rfl rfl ?_;refine bs.mk rr q uI rfl fV ?_;refine aM.mk _ (im _) ?_;refine a6.mk ((p+min 300 a2.kn:Nat):Int) (ec (show(p:Int)+min 300 (a2.kn:Int)=_ by omega) (by omega)) ?_;refine bs.mk rr q uI rfl fV ?_;refine aM.mk _ (oc _) ?_;refine oH.mk (by decide) ?_;refine a6.mk ((a2.t.size/20:Nat):Int) (ec (by rw[E' (by omega)];omega) (by omega)) ?_;refine a6.mk ((p+min 300 a2.kn+min 300 (a2.t.size/20):Nat):Int) (ec (by omega) (by omega)) ?_;refine bs.mk rr q uI rfl fV ?_;refine aM.mk _ (qb _) ?_;obtain⟨z,Iw,abb,abc⟩:∃ z:Nat,max (1:Int) (min 9000 a2.lo)=(z:Int)/\1<=z/\z<=9000:=⟨(max (1:Int) (min 9000 a2.lo)).toNat,by omega,by omega,by omega⟩;have hmul:oa*z<=81000000:=by have:=Nat.mul_le_mul FX abc;omega
    have mO:1<=oa*z:=Nat.mul_pos FW abb;refine a6.mk ((oa*z:Nat):Int) (ec (show(oa:Int)*max 1 (min 9000 a2.lo)=_ by rw[Iw];simp) (by omega)) ?_;refine a6.mk _ (cY (i:=q) (by omega)) ?_;have tJ:min (9000:Int) ((oa*z:Nat):Int)=((min 9000 (oa*z):Nat):Int):=by omega
    refine⟨((_,q+1),min 9000 (oa*z)),⟨⟨⟨⟨by simp only;omega,by simp only;omega,λdP=>?_⟩,by simp only;omega⟩,by simp only;omega,by simp only;omega⟩,by simp only;omega⟩,.refl,.cons .refl (.cons .refl (.cons .refl (.cons (RL tJ) (gI)))),.cons rfl (.cons rfl (.nil))⟩;simp only at dP |-;refine⟨rs,by omega,v8,Kg,λi hi gd=>?_⟩;by_cases e:i=q;·subst e;rw[Kd];exact⟨by omega,by omega⟩
    ·exact Kh i hi (by omega)
   ·have qj:300<=p:=by have bd:¬ ((p:Nat):Int)<300:=dj bM;omega
    refine a6.mk _ (cY (i:=k) (by omega)) ?_;exact⟨((p,k+1),oa),⟨⟨⟨out λh=>by omega,Cz⟩,FW,FX⟩,by simp only;omega⟩,.refl,iD,.cons rfl (.nil)⟩
   ·have fV:u.n<=q:=by simpa using bp
    refine a6.mk _ (cY (i:=k) (by omega)) ?_;exact⟨((p,k+1),oa),⟨⟨⟨out λh=>by omega,Cz⟩,FW,FX⟩,by simp only;omega⟩,.refl,iD,.cons rfl (.nil)⟩
  ·have kg:300<=m:=by have bd:¬ ((m:Nat):Int)<300:=dj aQ;omega
   refine bC.mk (λaO=>?_) (λaO=>?_)
   ·have aO:decide ((300:Int)<=(m:Int))=false:=aO;have jU:m<300:=by have:=dj aO;omega
    refine bC.mk (λaP=>?_) (λaP=>?_)
    ·have aP:decide ((40:Int)<(s.size:Int))=false:=aP;have CA:s.size<=40:=by have:=dj aP;omega
     exact⟨_,_,.refl,⟨_,rfl,λ_=>⟨(fin (λh=>by omega) jU).1,(fin (λh=>by omega) jU).2,CA⟩⟩,rfl,rfl⟩
    ·exact⟨_,_,.refl,⟨true,rfl,λh=>by cases h⟩,rfl,rfl⟩
   ·exact⟨_,_,.refl,⟨true,rfl,λh=>by cases h⟩,rfl,rfl⟩
  ·have OU:g.n<=k:=by simpa using ai
   refine bC.mk (λaO=>?_) (λaO=>?_)
   ·have aO:decide ((300:Int)<=(m:Int))=false:=aO;have jU:m<300:=by have:=dj aO;omega
    refine bC.mk (λaP=>?_) (λaP=>?_)
    ·have aP:decide ((40:Int)<(s.size:Int))=false:=aP;have CA:s.size<=40:=by have:=dj aP;omega
     exact⟨_,_,.refl,⟨_,rfl,λ_=>⟨(fin (λh=>by omega) jU).1,(fin (λh=>by omega) jU).2,CA⟩⟩,rfl,rfl⟩
    ·exact⟨_,_,.refl,⟨true,rfl,λh=>by cases h⟩,rfl,rfl⟩
   ·exact⟨_,_,.refl,⟨true,rfl,λh=>by cases h⟩,rfl,rfl⟩
def RP(size:Nat):(⟨none,0,0,[]⟩:bb).ok size []:=⟨by simp,λ_=>⟨rfl,rfl⟩,λg h=>by cases h⟩
noncomputable section
inductive a0(α:Type) where
 |nil| node (x:Option α) (l r:a0 α)
def bB{α:Type}(b:Bool)(x y:α):α:=@Bool.rec (λ_=>α) y x b
def bz{α R:Type}(o:Option α)(x:R)(f:α->R):R:=@Option.rec α (λ_=>R) x f o
section
variable{α R:Type}
def a0.get(t:a0 α):Nat->Option α:=@a0.rec α (λ_=>Nat->Option α) (λ_=>none) (λx _ _ abd abe k=>bB (Nat.beq k 0) x (bB (Nat.beq (Nat.mod k 2) 1) (abd (Nat.div k 2)) (abe (Nat.sub (Nat.div k 2) 1)))) t
def a0.kT(v:Option α)(t:a0 α):Nat->(a0 α->R)->R:=@a0.rec α (λ_=>Nat->(a0 α->R)->R) (λk K=>bB (Nat.beq k 0) (K (.node v .nil .nil)) (K .nil)) (λx l r sl abf k K=>bB (Nat.beq k 0) (K (.node v l r)) (bB (Nat.beq (Nat.mod k 2) 1) (sl (Nat.div k 2) λl=>K (.node x l r)) (abf (Nat.sub (Nat.div k 2) 1) λr=>K (.node x l r)))) t
def a0.zT(t:a0 α)(off n:Nat):(List α->Option R)->Option R:=@Nat.rec (λ_=>Nat->(List α->Option R)->Option R) (λ_ K=>K []) (λ_ a8 off K=>bz (t.get off) none λv=>a8 (Nat.add off 1) λl=>K (v::l)) n off
def a0.uJ(l:List α)(t:a0 α)(off:Nat)(K:a0 α->R):R:=@List.rec α (λ_=>a0 α->Nat->R) (λt _=>K t) (λv _ a8 t off=>t.kT (some v) off λt=>a8 t (Nat.add off 1)) l t off
def a0.bare:Nat->a0 α
 |0=>.nil| n+1=>.node none (a0.bare n) (a0.bare n)
end
inductive al where
 |b(x:Bool) | i (k:IntKind) (n:Int) | s (l:List UInt8)| pn | p (id off:Nat) | g (n off:Nat)| sn | sl (id off n c:Nat) | sx (id off e n:Nat) | gs (g off n c:Nat) | so| mn | m (id:Nat)| f (g:Nat) (l r:List al) | y (id:Nat) | fn| ni | CB (t:Nat) (v:al)| t (l:List al) | a (l:List al)
def al.cells:al->List al
 | .a l=>l| v=>[v]
def al.one:al->Bool
 | .a _ | .t _=>false| _=>true
def CC:Value->Option al
 | .bool x=>some (.b x)| .int k n=>some (.i k n)| .string q=>some (.s q.data.toList)| .pointer none=>some .pn| .slice none 0 0=>some .sn| .map none=>some .mn| .nilFunc=>some .fn| .nilIface=>some .ni| _=>none
def uK:List Value->Option (List al)
 |[]=>some []
 |v::vs=>match CC v,uK vs with
  |some x,some l=>some (x::l)| _,_=>none
def zU:Value->Option al
 | .agg cs=>match uK cs.toList with
  |some l=>some (.a l)| none=>none
 |v=>CC v
def al.nat:al->Option Nat
 | .i _ (.ofNat n)=>some n| _=>none
inductive ew where
 |cells(cs:a0 al)(T d':Nat)| map (es:List (al×al))| loop (busy:Bool) (n:Nat) (aj:a0 al) (ps:List Nat) (dV body:Code)| done (c:Code) (n:Nat) (aj:a0 al) (ps:List Nat) (dV body:Code)
structure a9 where
 t:a0 ew
 n:Nat
def l2:Int->Int->Bool
 | .ofNat a,.ofNat b=>Nat.beq a b| .negSucc a,.negSucc b=>Nat.beq a b| _,_=>false
def x9:Int->Int->Bool
 | .ofNat a,.ofNat b=>Nat.ble a b| .negSucc a,.negSucc b=>Nat.ble b a| .negSucc _,.ofNat _=>true| .ofNat _,.negSucc _=>false
def yK(a b:Int):Bool:=!x9 b a
def Ki(op:BinOp)(x y:Int):Option Bool:=match op with
 | .eql=>some (l2 x y)| .neq=>some (!l2 x y)| .lss=>some (yK x y)| .leq=>some (x9 x y)| .gtr=>some (yK y x)| .geq=>some (x9 y x)| _=>none
def FY:IntKind->Nat
 | .i8=>127 | .i16=>32767 | .i32=>2147483647 | .i64=>9223372036854775807| .u8=>255 | .u16=>65535 | .u32=>4294967295 | .u64=>18446744073709551615
def s6(k:IntKind):Int->Int
 | .ofNat n=>bif Nat.ble n (FY k)then .ofNat n else k.wrap (.ofNat n)| n=>k.wrap n
def RQ:Int->Int->Int
 | .ofNat a,.ofNat b=>.ofNat (Nat.add a b)| a,b=>a+b
def Kj:Int->Int->Int
 | .ofNat a,.ofNat b=>bif Nat.ble b a then .ofNat (Nat.sub a b)else(.ofNat a:Int) - .ofNat b| a,b=>a-b
def RR:Int->Int->Int
 | .ofNat a,.ofNat b=>.ofNat (Nat.mul a b)| a,b=>a*b
def RS:Int->Int->Int
 | .ofNat a,.ofNat b=>.ofNat (Nat.div a b)| a,b=>a.tdiv b
def RT:Int->Int->Int
 | .ofNat a,.ofNat b=>.ofNat (Nat.mod a b)| a,b=>a.tmod b
def RU:Int->Nat->Int
 | .ofNat a,j=>.ofNat (Nat.mul a (Nat.pow 2 j))| a,j=>a*2^j
def RV:Int->Nat->Int
 | .ofNat a,j=>.ofNat (Nat.div a (Nat.pow 2 j))| a,j=>a.fdiv (2^j)
def zV(op:BinOp)(k:IntKind)(x y:Int):Option Int:=
 match k,x,y with
 | .u64,.ofNat a,.ofNat b=>
  bif Nat.ble a 18446744073709551615&&Nat.ble b 18446744073709551615 then
   (match op with
   | .and=>some (.ofNat (Nat.land a b))| .or=>some (.ofNat (Nat.lor a b))| .xor=>some (.ofNat (Nat.xor a b))| .andNot=>some (.ofNat (Nat.land a (Nat.sub 18446744073709551615 b)))| _=>none)
  else none
 |_,_,_=>qD op k x y
def Kk(a b:UInt8):Bool:=Nat.beq a.toNat b.toNat
def nq:List UInt8->List UInt8->Bool
 |[],[]=>true| a::l,b::m=>bif Kk a b then nq l m else false| _,_=>false
def zW:al->al->Option Bool
 | .b x,.b w=>some (x == w)| .i k x,.i l w=>bB (IntKind.j4 k l) (some (l2 x w)) none| .s x,.s w=>some (nq x w)| _,_=>none
def RW:List al->List al->Option Bool
 |[],[]=>some true
 |x::l,w::m=>match zW x w with
  |some true=>RW l m
  |some false=>(match RW l m with
   |some _=>some false| none=>none)
  |none=>none
 |_,_=>none
def agV:al->al->Option Bool
 | .pn,.pn=>some true| .pn,.p _ _=>some false| .p _ _,.pn=>some false| .pn,.g _ _=>some false| .g _ _,.pn=>some false| _,_=>none
def Kl(op:BinOp)(k cb:IntKind)(a b:Int):Option al:=match op with
 | .shl=>(match b with
  | .ofNat j=>some (.i k (s6 k (RU a (bB (Nat.ble j k.bits) j k.bits))))| _=>none)
 | .shr=>(match b with
  | .ofNat j=>some (.i k (RV a (bB (Nat.ble j k.bits) j k.bits)))| _=>none)
 | .add=>bB (IntKind.j4 k cb) (some (.i k (s6 k (RQ a b)))) none| .sub=>bB (IntKind.j4 k cb) (some (.i k (s6 k (Kj a b)))) none| .mul=>bB (IntKind.j4 k cb) (some (.i k (s6 k (RR a b)))) none| .quo=>bB (IntKind.j4 k cb) (bB (l2 b 0) none (some (.i k (s6 k (RS a b))))) none| .rem=>bB (IntKind.j4 k cb) (bB (l2 b 0) none (some (.i k (RT a b)))) none| .and=>bB (IntKind.j4 k cb) (bz (zV .and k a b) none λr=>some (.i k r)) none| .or=>bB (IntKind.j4 k cb) (bz (zV .or k a b) none λr=>some (.i k r)) none| .xor=>bB (IntKind.j4 k cb) (bz (zV .xor k a b) none λr=>some (.i k r)) none| .andNot=>bB (IntKind.j4 k cb) (bz (zV .andNot k a b) none λr=>some (.i k r)) none| op=>bB (IntKind.j4 k cb) (bz (Ki op a b) none λr=>some (.b r)) none
def Km(op:BinOp)(a b:List UInt8):Option al:=match op with
 | .eql=>some (.b (nq a b))| .neq=>some (.b (bB (nq a b) false true))| .add=>bB (Nat.ble (Nat.add a.length b.length) 9223372036854775807) (some (.s (a++b))) none| _=>none
def Kn(op:BinOp)(cP:Option dw)(a b:Bool):Option al:=match cP with
 |some { bn:=.bool,.. }=>
  (match op with
  | .eql=>some (.b (a == b))| .neq=>some (.b (!(a == b)))| _=>none)
 |_=>none
def zX(agg:Bool)(l:List al):Option al:=bif agg then some (.a l)else match l with
 |[v]=>some v| _=>none
def x':Nat->List al->Option (List al)
 |0,_=>some []| _+1,[]=>none
 |n+1,v::l=>match x' n l with
  |some r=>some (v::r)| none=>none
def ya{α:Type}:List α->Nat->List α
 |[],_=>[]| v::l,n=>bif Nat.beq n 0 then v::l else ya l (Nat.sub n 1)
def uL(E:Env)(t o:Nat)(l:List al):Option al:=bz (E t) none λi=>bB (Nat.beq i.size 0) none <| bz (x' i.size (ya l o)) none λr=>zX i.bn.agg r
def zY(F:Nat->al->al->Option Bool)(E:Env)(l m:List al):List (Nat×Nat)->Option Bool
 |[]=>some true|(t,o)::r=>bz (uL E t o l) none λx=>bz (uL E t o m) none λy=>bz (F t x y) none λb=>bB b (zY F E l m r) (some false)
def Ko(P:Program)(t:Nat):Bool:=match P.underlying t with
 |some (.struct bK)=>!P.stoodInHeld t&&bK.toList.all λf=>decide (f.name ≠ "_")
 |_=>false
def ru(P:Program)(E:Env):Nat->Nat->al->al->Option Bool
 |0,_,_,_=>none
 |d+1,t,x,y=>bz (E t) none λi=>match i.bn,x,y with
  | .bool,.b a,.b b=>some (a == b)| .int _,.i k a,.i cb b=>bB (IntKind.j4 k cb) (some (l2 a b)) none| .string,.s a,.s b=>some (nq a b)| .struct bK,.a l,.a m=>bB (Ko P t) (zY (ru P E d) E l m bK) none| .array n e,.a l,.a m=>bz (E e) none λaE=>zY (ru P E d) E l m ((List.range n).map λi=>(e,i*aE.size))
  |_,_,_=>none
def CD(P:Program)(E:Env)(op:BinOp)(t:Nat)(l m:List al):Option al:=bB (P.eqGuardType P.depth t) none (bz (ru P E 8 t (.a l) (.a m)) none λb=>match op with
 | .eql=>some (.b b)| .neq=>some (.b (!b))| _=>none)
def Kp:al->Option Bool
 | .sn=>some true| .sl .. | .sx .. | .gs .. | .so=>some false| _=>none
def Kq:al->Option Bool
 | .pn=>some true| .p .. | .g ..=>some false| _=>none
def FZ(op:BinOp)(b:Bool):Option al:=match op with
 | .eql=>some (.b b)| .neq=>some (.b (!b))| _=>none
def Kr(P:Program)(E:Env)(op:BinOp)(t:Nat)(x y:al):Option al:=
 match x,y with
 | .i k a,.i cb b=>Kl op k cb a b| .s a,.s b=>Km op a b| .b a,.b b=>Kn op (E t) a b| .a l,.a m=>CD P E op t l m
 |x,.sn=>bz (E t) none λi=>(match i.bn with
  | .slice _=>bz (Kp x) none λb=>FZ op b
  |_=>none)
 |x,.pn=>bz (E t) none λi=>(match i.bn with
  | .pointer _=>bz (Kq x) none λb=>FZ op b
  |_=>none)
 |_,_=>none
def s7{α:Type}:List α->Nat->Option α
 |[],_=>none| v::l,n=>bif Nat.beq n 0 then some v else s7 l (Nat.sub n 1)
def uM:List al->Nat->List al->Option (List al)
 |cs,0,[]=>some cs
 |_::cs,0,v::vs=>match uM cs 0 vs with
  |some r=>some (v::r)| none=>none
 |c::cs,n+1,vs=>match uM cs n vs with
  |some r=>some (c::r)| none=>none
 |[],_,_=>none
def v9(place:Nat->Option (Nat×Nat)):List al->List (Nat×al)->Option (List al)
 |cells,[]=>some cells
 |cells,(i,v)::rest=>match place i with
  |none=>none
  |some (off,size)=>bif Nat.beq v.cells.length size then(match uM cells off v.cells with
   |some cs=>v9 place cs rest| none=>none)else none
def cq(aj:a0 al):Operand->Option al
 | .tmp t=>aj.get t| .const v=>zU v| .global g=>some (.g g 0)| .func f=>some (.f f [] [])
def lq(aj:a0 al):List Operand->Option (List al)
 |[]=>some []
 |x::xs=>match cq aj x,lq aj xs with
  |some v,some l=>some (v::l)| _,_=>none
def zZ(aj:a0 al):List (Nat×Operand)->Option (List (Nat×al))
 |[]=>some []
 |(i,x)::xs=>match cq aj x,zZ aj xs with
  |some v,some l=>some ((i,v)::l)| _,_=>none
abbrev GT:=Nat->Option (a0 al)
def s8{R:Type}(G:GT)(m:a0 ew)(x:al)(n:Nat)(K:List al->Option R):Option R:=match x with
 | .p id off=>(match m.get id with
  |some (.cells cs _ d')=>bif Nat.ble (Nat.add off n) d' then cs.zT off n K else none| _=>none)
 | .g g off=>(match G g with
  |some cs=>cs.zT off n K| none=>none)
 |_=>none
def CE(x:al)(n:Nat):Option al:=match x with
 | .p id off=>some (.p id (Nat.add off n))| .g g off=>some (.g g (Nat.add off n))| _=>none
def F0(x:al)(j sz:Nat):Option al:=match x with
 | .sl id off n _=>bif Nat.blt j n then some (.p id (Nat.add off (Nat.mul j sz)))else none| .sx id off _ n=>bif Nat.blt j n then some (.p id (Nat.add off (Nat.mul j sz)))else none| .gs g off n _=>bif Nat.blt j n then some (.g g (Nat.add off (Nat.mul j sz)))else none| _=>none
def s9:al->Option Nat
 | .sn | .so=>some 0| .sl _ _ n _ | .sx _ _ _ n | .gs _ _ n _=>some n| _=>none
def pk(v:al):Option Nat:=match v with
 | .s l=>some l.length| v=>s9 v
def Ks(x:al)(sz l:Nat)(h:Option Nat):Option al:=match x with
 | .sn=>bif Nat.beq l 0&&Nat.beq (h.getD 0) 0 then some .sn else none
 | .sl id off n c=>let h:=h.getD n
  bif Nat.ble l h&&Nat.ble h c then bif Nat.beq c l then some (.sl id off (Nat.sub h l) 0)else some (.sl id (Nat.add off (Nat.mul l sz)) (Nat.sub h l) (Nat.sub c l))else none
 | .sx id off e n=>let h:=h.getD n
  bif Nat.ble l h&&Nat.ble h n then(bif Nat.beq l 0||Nat.blt l n then some (.sx id (Nat.add off (Nat.mul l sz)) (Nat.add e l) (Nat.sub h l))else some .so)else none
 |_=>none
def yb(o:Option (Option al)):Option (Option Nat):=match o with
 |none=>some none
 |some (some v)=>(match v.nat with
  |some n=>some (some n)| none=>none)
 |some none=>none
def Kt(l:List UInt8)(lo hi:Nat):List UInt8:=(ya l lo).take (Nat.sub hi lo)
def RX(c a b:Option al):Option al:=match c,a,b with
 |some (.b c),some u,some v=>some (bB c u v)| _,_,_=>none
def RY(op:UnOp)(x:Option al):Option al:=match op,x with
 | .not,some (.b b)=>some (.b (bB b false true))| .neg,some (.i k n)=>some (.i k (s6 k (0-n)))| _,_=>none
def RZ(P:Program)(E:Env)(op:BinOp)(t:Nat)(x y:Option al):Option al:=bz x none λx=>bz y none λy=>Kr P E op t x y
def R0(G:GT)(m:a0 ew)(i:Option dw)(x:Option al):Option al:=bz i none λi=>bz x none λx=>s8 G m x i.size λl=>zX i.bn.agg l
def R1(x:Option al):Option al:=match x with
 |some (.p id off)=>some (.p id off)| some (.g g off)=>some (.g g off)| _=>none
def F1(E:Env)(t i:Nat):Option (Nat×dw):=match E t with
 |some { bn:=.struct bK,.. }=>(match s7 bK i with
  |some (j3,off)=>(match E j3 with
   |some ft=>some (off,ft)| none=>none)
  |none=>none)
 |_=>none
def R2(r:Option (Nat×dw))(x:Option al):Option al:=bz r none λr=>bz x none λx=>bB (Nat.beq r.2.size 0) none (CE x r.1)
def F2(aE:dw)(cs:List al)(off:Nat):Option al:=bB (Nat.beq aE.size 0) none <| bz (x' aE.size (ya cs off)) none λl=>zX aE.bn.agg l
def R3(r:Option (Nat×dw))(x:Option al):Option al:=match r,x with
 |some (off,ft),some (.a cs)=>F2 ft cs off| _,_=>none
def Ku(E:Env)(t:Nat):Option (Option Nat×dw):=match E t with
 |some { bn:=.slice e,.. }=>(match E e with
  |some aE=>some (none,aE)| none=>none)
 |some { bn:=.array n e,.. }=>(match E e with
  |some aE=>some (some n,aE)| none=>none)
 |_=>none
def R4(r:Option (Option Nat×dw))(x i:Option al):Option al:=bz r none λr=>bz x none λx=>bz i none λi=>bz i.nat none λj=>
 bz r.1 (F0 x j r.2.size) λn=>bB (Nat.blt j n) (CE x (Nat.mul j r.2.size)) none
def Kv(l:List UInt8)(j:Nat):Option al:=bz (s7 l j) none λb=>some (.i .u8 (.ofNat b.toNat))
def R5(cs:List al)(j n:Nat)(aE:dw):Option al:=bB (Nat.beq (Nat.mul n aE.size) cs.length&&Nat.blt j n) (F2 aE cs (Nat.mul j aE.size)) none
def CF(E:Env)(t:Nat)(x i:Option al):Option al:=match E t,x,i with
 |some { bn:=.string,.. },some (.s l),some i=>bz i.nat none λj=>Kv l j
 |some { bn:=.array n e,.. },some (.a cs),some i=>bz (E e) none λaE=>bz i.nat none λj=>R5 cs j n aE
 |_,_,_=>none
def CG(o:Option (List al)):Option al:=bz o none λl=>some (.a l)
def R6(E:Env)(t:Nat)(ps:Option (List (Nat×al))):Option al:=match E t,ps with
 |some i,some vs=>bz (uK i.zero) none λz=>(match i.bn with
  | .struct bK=>bB (yH E bK) (CG (v9 (places E bK) z vs)) none| .array _ e=>bz (E e) none λaE=>CG (v9 (λj=>some (j*aE.size,aE.size)) z vs)
  |_=>none)
 |_,_=>none
def R7(f:Fn)(bK cs:Option (List al)):Option al:=match f,bK,cs with
 | .func g,some bK,some cs=>some (.f g bK cs)| _,_,_=>none
def Kw(aE:dw)(x:al)(lo hi:Option Nat):Option al:=match lo,hi with
 |none,none=>(match x with
  | .sn | .sl .. | .sx .. | .so=>some x| _=>none)
 |lo,hi=>Ks x aE.size (lo.getD 0) hi
def Kx(l:List UInt8)(lo hi:Option Nat):Option al:=match lo,hi with
 |none,none=>some (.s l)| lo,hi=>bB (Nat.ble (lo.getD 0) (hi.getD l.length)&&Nat.ble (hi.getD l.length) l.length) (some (.s (Kt l (lo.getD 0) (hi.getD l.length)))) none
def CH(E:Env)(t:Nat)(x:Option al)(lo hi:Option (Option Nat)):Option al:=match E t,x,lo,hi with
 |some { bn:=.slice e,.. },some x,some lo,some hi=>bz (E e) none λaE=>Kw aE x lo hi
 |some { bn:=.string,.. },some (.s l),some lo,some hi=>Kx l lo hi| _,_,_,_=>none
def R8(x:Option al)(i:Nat):Option al:=match x with
 |some (.t vs)=>s7 vs i| _=>none
def R9(E:Env)(s d:Nat)(x:Option al):Option al:=match E s,E d,x with
 |some _,some { bn:=.int k,.. },some (.i _ n)=>some (.i k (s6 k n))| _,_,_=>none
def F3(o:Option Nat):Option al:=bz o none λn=>some (.i .i64 (.ofNat n))
def R'(E:Env)(dN:List Nat)(l:Option (List al)):Option al:=match dN,l with
 |[t],some [v]=>(match E t,v with
  |some { bn:=.slice _,.. },v=>F3 (s9 v)| some { bn:=.string,.. },.s l=>F3 (some l.length)| some { bn:=.array n _,.. },_=>F3 (some n)| _,_=>none)
 |_,_=>none
def Sa(l:Option (List al)):Option al:=match l with
 |some [.i k a,.i _ b]=>some (.i k (bB (x9 a b) b a))| _=>none
def Sb(l:Option (List al)):Option al:=match l with
 |some [.i k a,.i _ b]=>some (.i k (bB (x9 a b) a b))| _=>none
def Sc(E:Env)(dN:List Nat)(l:Option (List al)):Option al:=match dN,l with
 |[t],some [.sl _ _ _ c]=>(match E t with
  |some { bn:=.slice _,.. }=>some (.i .i64 (.ofNat c))| _=>none)
 |_,_=>none
def Sd(l:Option (List al)):Option al:=match l with
 |some [.sn]=>some .pn| some [.sl id off n c]=>bB (Nat.beq c 0) none (some (.p id off))| some [.sx id off e n]=>bB (Nat.beq n 0) none (some (.p id off))| _=>none
def Ky(E:Env)(b:Builtin)(dN:List Nat)(l:Option (List al)):Option al:=match b with
 | .len=>R' E dN l| .max=>Sa l| .min=>Sb l| .cap=>Sc E dN l| .unsafeSliceData=>Sd l| _=>none
def Kz(P:Program)(E:Env)(G:GT)(m:a0 ew)(op:Op)(aj:a0 al):Option al:=
 match op with
 | .move x=>cq aj x| .assign x=>cq aj x| .pick c a b=>RX (cq aj c) (cq aj a) (cq aj b)| .unOp op _ x=>RY op (cq aj x)| .binOp op t x y _=>RZ P E op t (cq aj x) (cq aj y)| .load t x=>R0 G m (E t) (cq aj x)| .nilCheck x=>R1 (cq aj x)| .fieldAddr t x i=>R2 (F1 E t i) (cq aj x)| .field t x i=>R3 (F1 E t i) (cq aj x)| .indexAddr t x i=>R4 (Ku E t) (cq aj x) (cq aj i)| .index t x i=>CF E t (cq aj x) (cq aj i)| .build t parts=>R6 E t (zZ aj parts.toList)| .makeFunc f first captured=>R7 f (lq aj first.toList) (lq aj captured.toList)
 | .slice t x lo hi none=>CH E t (cq aj x) (yb (lo.map (cq aj))) (yb (hi.map (cq aj)))| .extract x i=>R8 (cq aj x) i| .convert s d x=>R9 E s d (cq aj x)| .call { callee:=.builtin b,args,argTypes }=>Ky E b argTypes.toList (lq aj args.toList)| _=>none
def KA(E:Env)(t:Nat)(x hi mx:Option al):Option al:=match E t,x,hi,mx with
 |some { bn:=.slice e,.. },some (.sl id off n c),some (.i _ (.ofNat h)),some (.i _ (.ofNat k))=>bz (E e) none λaE=>
  bB (Nat.ble h k&&(Nat.ble k c&&Nat.blt 0 k)) (some (.sl id off h k)) none
 |some { bn:=.slice e,.. },some (.sx id off aA n),some (.i _ (.ofNat h)),some (.i _ (.ofNat k))=>bz (E e) none λaE=>
  bB (Nat.ble h k&&(Nat.ble k n&&Nat.blt 0 k)) (some (.sl id off h k)) none
 |_,_,_,_=>none
def KB(E:Env)(t:Nat)(x lo hi mx:Option al):Option al:=match E t,x,lo,hi,mx with
 |some { bn:=.slice e,.. },some (.sl id off n c),some (.i _ (.ofNat l)),some (.i _ (.ofNat h)),some (.i _ (.ofNat k))=>bz (E e) none λaE=>
  bB (Nat.ble l h&&(Nat.ble h k&&(Nat.ble k c&&Nat.blt l k))) (some (.sl id (Nat.add off (Nat.mul l aE.size)) (Nat.sub h l) (Nat.sub k l))) none
 |_,_,_,_,_=>none
def KD(x:Option al):Option al:=match x with
 |some (.i .u64 n)=>some (.i .u64 (hd n))| _=>none
def ry(P:Program)(E:Env)(G:GT)(m:a0 ew)(op:Op)(aj:a0 al):Option al:=
 match op with
 | .unOp .xor t x=>KD (cq aj x)| .slice t x (some lo) (some hi) (some mx)=>KB E t (cq aj x) (cq aj lo) (cq aj hi) (cq aj mx)| .slice t x none (some hi) (some mx)=>KA E t (cq aj x) (cq aj hi) (cq aj mx)| op=>Kz P E G m op aj
def ox{R:Type}(n:Nat)(K:Nat->R):R:=Nat.casesOn (Nat.add n 1) (K 0) K
def Se{R:Type}(n:Int)(K:Int->R):R:=match n with
 | .ofNat n=>ox n λn=>K (.ofNat n)
 | .negSucc n=>ox n λn=>K (.negSucc n)
def Sf{R:Type}(b:Bool)(K:Bool->R):R:=bB b (K true) (K false)
def KE{R:Type}(v:al)(K:al->R):R:=match v with
 | .b x=>Sf x λx=>K (.b x)
 | .i k n=>Se n λn=>K (.i k n)
 | .p id off=>ox off λoff=>K (.p id off)
 | .g id off=>ox off λoff=>K (.g id off)
 | .sl id off n c=>ox off λoff=>ox n λn=>ox c λc=>K (.sl id off n c)
 | .sx id off e n=>ox off λoff=>ox e λe=>ox n λn=>K (.sx id off e n)
 |v=>K v
def yc{R:Type}(m:a9)(e:ew)(K:Nat->a9->R):R:=ox m.n λn=>m.t.kT (some e) n λt=>K n ⟨t,Nat.add n 1⟩
def rz{R:Type}(m:a9)(l:List al)(T:Nat)(K:Nat->a9->R):R:=a0.uJ l .nil 0 λcs=>yc m (.cells cs T l.length) K
def uN{R:Type}(m:a9)(x:al)(l:List al)(K:a9->Option R):Option R:=match x with
 | .p id off=>(match m.t.get id with
  |some (.cells cs T d')=>bif Nat.ble (Nat.add off l.length) d'&&l.all al.one then a0.uJ l cs off λcs=>m.t.kT (some (.cells cs T d')) id λt=>K ⟨t,m.n⟩else none
  |_=>none)
 |_=>none
def yd:Nat->List al->List al
 |0,_=>[]| n+1,z=>z++yd n z
def z0(i:Option dw):Bool:=match i with
 |some { bn:=.int .u8,.. }=>true| _=>false
def s'(u:Option dw)(aE:dw)(x:al):Bool:=match u,x with
 |some { bn:=.slice _,.. },.sn=>true| some { bn:=.slice _,.. },.so=>true| some { bn:=.slice _,.. },.sl ..=>true| some { bn:=.slice _,.. },.sx ..=>true| some { bn:=.string,.. },.s _=>Nat.beq aE.size 1| _,_=>false
def z1(G:GT)(m:a0 ew)(x:al)(sz:Nat){R:Type}(K:List al->Option R):Option R:=match x with
 | .sn | .so=>K []| .sl id off n _ | .sx id off _ n=>s8 G m (.p id off) (Nat.mul n sz) K| .s l=>K (l.map λb=>.i .u8 (.ofNat b.toNat))| _=>none
def KF(G:GT)(m:a9)(id off n c:Nat)(l:List al)(k sz T:Nat):Option (al×a9):=
 bB (Nat.ble (Nat.add n k) c) (uN m (.p id (Nat.add off (Nat.mul n sz))) l λm=>some (.sl id off (Nat.add n k) c,m)) (s8 G m.t (.p id off) (Nat.mul n sz) λcE=>rz m (cE++l) T λid m=>some (.sx id 0 0 (Nat.add n k),m))
def KG(m:a9)(id:Nat)(n:Nat)(cs:a0 al)(d':Nat)(l:List al)(k sz T:Nat):Option (al×a9):=
 bB (Nat.ble (Nat.mul n sz) d') (m.t.kT none id λt=>a0.uJ l cs (Nat.mul n sz) λcs=>yc ⟨t,m.n⟩ (.cells cs T (Nat.mul (Nat.add n k) sz)) λid m=>some (.sx id 0 0 (Nat.add n k),m)) none
def CI(G:GT)(m:a9)(s:al)(l:List al)(k sz bytes T:Nat):Option (al×a9):=match s with
 | .sn=>bB (Nat.ble (Nat.mul k bytes) 140737488355328&&Nat.ble k 9223372036854775807) (rz m l T λid m=>some (.sx id 0 0 k,m)) none| .sl id off n c=>bB (Nat.ble (Nat.mul (Nat.add n k) bytes) 140737488355328&&Nat.ble (Nat.add n k) 9223372036854775807) (KF G m id off n c l k sz T) none
 | .sx id off e n=>(match m.t.get id with
  |some (.cells cs kw d')=>bB ((Nat.beq off 0&&Nat.beq e 0)&&(Nat.beq kw T&&(Nat.ble (Nat.mul (Nat.add n k) bytes) 140737488355328&&Nat.ble (Nat.add n k) 9223372036854775807))) (KG m id n cs d' l k sz T) none| _=>none)
 |_=>none
def z2:List al->Option (List UInt8)
 |[]=>some []
 | .i .u8 (.ofNat n)::l=>bif Nat.ble n 255 then(match z2 l with
  |some r=>some (UInt8.ofNat n::r)| none=>none)else none
 |_=>none
def CJ:al->List (al×al)->Option (Option al)
 |_,[]=>some none
 |k,(x,v)::l=>match zW k x with
  |some true=>some (some v)| some false=>CJ k l| none=>none
def CK(k v:al):List (al×al)->Option (List (al×al))
 |[]=>some [(k,v)]
 |(x,u)::l=>match zW k x with
  |some true=>some ((k,v)::l)
  |some false=>(match CK k v l with
   |some r=>some ((x,u)::r)| none=>none)
  |none=>none
abbrev js:=Nat->List al->a9->Option (al×a9)
structure e2 where
 P:Program
 E:Env
 G:GT
 pr:js
def Sg(i:Option dw)(t:Nat)(x:Option al):Option (List al×Nat×Nat×(Nat->al)):=bz i none λi=>bz x none λv=>bB (Nat.beq v.cells.length i.size) (some (v.cells,t,1,λid=>.p id 0)) none
def Sh(i:Option dw)(t:Nat):Option (List al×Nat×Nat×(Nat->al)):=bz i none λi=>bz (uK i.zero) none λz=>some (z,t,1,λid=>.p id 0)
def Si(E:Env)(t len:Nat)(ps:Option (List (Nat×al))):Option (List al×Nat×Nat×(Nat->al)):=match E t,ps with
 |some { bn:=.slice e,.. },some vs=>bz (E e) none λaE=>bz (uK aE.zero) none λz=>
  bB (Nat.ble (Nat.mul len aE.size) 16777216&&Nat.blt 0 (Nat.mul len aE.size)) (bz (v9 (λj=>some (j*aE.size,aE.size)) (yd len z) vs) none λcs=>some (cs,e,len,λid=>.sl id 0 len len)) (bB (Nat.beq len 0&&vs.isEmpty) (some ([],e,0,λid=>.sl id 0 0 0)) none)
 |_,_=>none
def Sj(E:Env)(t:Nat)(l c:Option al):Option (List al×Nat×Nat×(Nat->al)):=match E t,l,c with
 |some { bn:=.slice e,.. },some l,some c=>bz (E e) none λaE=>bz l.nat none λn=>bz c.nat none λk=>bz (uK aE.zero) none λz=>
  bB (Nat.ble n k&&(Nat.ble (Nat.mul aE.bytes k) 140737488355328&&Nat.ble k 9223372036854775807)) (some (yd k z,e,k,λid=>.sl id 0 n k)) none
 |_,_,_=>none
def ye(E:Env)(o:Oper)(aj:a0 al):Option (List al×Nat×Nat×(Nat->al)):=
 match o.op with
 | .box t x=>Sg (E t) t (cq aj x)| .alloc t=>Sh (E t) t| .buildSlice t len parts=>Si E t len (zZ aj parts.toList)| .makeSlice t l c=>Sj E t (cq aj l) (cq aj c)| _=>none
def F4(i:Option dw)(m:a9)(x y:Option al):Option (al×a9):=bz i none λi=>bz x none λx=>bz y none λv=>bB (Nat.beq v.cells.length i.size) (uN m x v.cells λm=>some (.t [],m)) none
def F5(i:Option dw)(m:a9):Option (al×a9):=match i with
 |some { bn:=.map k e,.. }=>yc m (.map []) λid m=>some (.m id,m)
 |_=>none
def F6(i:Option dw)(v:al):Bool:=match i,v with
 |some { bn:=.int k,.. },.i cb _=>IntKind.j4 k cb| some { bn:=.string,.. },.s _=>true| _,_=>false
def Sk(ok:Bool)(z:al)(r:Option al):al:=bB ok (bz r (.t [z,.b false]) λv=>.t [v,.b true]) (bz r z λv=>v)
def KH(P:Program)(E:Env)(t:Nat)(m:a9)(x y:Option al)(ok:Bool):Option (al×a9):=match E t,x,y with
 |some { bn:=.map k e,.. },some (.m id),some y=>bB (F6 (E k) y) (match m.t.get id with
  |some (.map es)=>bz (CJ y es) none λr=>bz (P.info? e) none λinf=>bz inf.zero none λz=>bz (zU z) none λz=>some (Sk ok z r,m)
  |_=>none) none
 |_,_,_=>none
def CL(E:Env)(t:Nat)(m:a9)(x y z:Option al):Option (al×a9):=match E t,x,y,z with
 |some { bn:=.map k e,.. },some (.m id),some y,some v=>bB (F6 (E k) y) (match m.t.get id with
  |some (.map es)=>bz (CK y v es) none λes=>m.t.kT (some (.map es)) id λt=>some (.t [],⟨t,m.n⟩)
  |_=>none) none
 |_,_,_,_=>none
def F7(G:GT)(m:a9)(id off n:Nat):Option (al×a9):=s8 G m.t (.p id off) n λl=>bz (z2 l) none λl=>some (.s l,m)
def F8(Y:e2)(m:a9)(s d:Nat)(x:Option al):Option (al×a9):=match Y.E s,Y.E d,x with
 |some { bn:=.slice e,.. },some { bn:=.string,.. },some (.sl id off n _)=>bB (z0 (Y.E e)) (F7 Y.G m id off n) none| some { bn:=.slice e,.. },some { bn:=.string,.. },some (.sx id off _ n)=>bB (z0 (Y.E e)) (F7 Y.G m id off n) none| some { bn:=.slice e,.. },some { bn:=.string,.. },some .sn=>bB (z0 (Y.E e)) (some (.s [],m)) none| _,_,_=>none
def z3:al->Bool
 | .sn | .so | .sx ..=>true| .sl _ _ n c=>Nat.ble n c| _=>false
def KI(Y:e2)(m:a9)(dN:List Nat)(l:Option (List al)):Option (al×a9):=match dN,l with
 |[t,u],some [s,x]=>(match Y.E t with
  |some { bn:=.slice e,.. }=>bz (Y.E e) none λaE=>bB (s' (Y.E u) aE x) (z1 Y.G m.t x aE.size λl=>bz (pk x) none λk=>
    bB (Nat.beq k 0) (bB (z3 s) (some (s,m)) none) (bB (l.all al.one) (CI Y.G m s l k aE.size aE.bytes e) none)) none
  |_=>none)
 |_,_=>none
def KJ(Y:e2)(m:a9)(dN:List Nat)(l:Option (List al)):Option (al×a9):=match dN,l with
 |[t,u],some [.sl id off n c,.s q]=>(match Y.E t with
  |some { bn:=.slice e,.. }=>bz (Y.E e) none λaE=>bB (Nat.beq aE.size 1&&Nat.ble q.length n) (uN m (.p id off) (q.map λb=>.i .u8 (.ofNat b.toNat)) λm=>some (.i .i64 (.ofNat q.length),m)) none
  |_=>none)
 |_,_=>none
def KK(Y:e2)(m:a9)(dN:List Nat)(l:Option (List al)):Option (al×a9):=match dN,l with
 |[qQ,it],some [.pn,.i .i64 (.ofNat 0)]=>some (.s [],m)
 |[qQ,it],some [.p id 0,.i .i64 (.ofNat n)]=>(match Y.E qQ,m.t.get id with
  |some { bn:=.pointer e,.. },some (.cells cs T d')=>bz (Y.E e) none λaE=>
   bB (Nat.beq aE.size 1&&(Nat.beq T e&&Nat.blt 0 n)) (s8 Y.G m.t (.p id 0) n λl=>bz (z2 l) none λl=>bB (Nat.ble n 9223372036854775807) (m.t.kT none id λt=>some (.s l,⟨t,m.n⟩)) none) none
  |_,_=>none)
 |_,_=>none
def Sl(Y:e2)(m:a9)(b:Builtin)(dN:List Nat)(l:Option (List al)):Option (al×a9):=match b with
 | .append=>KI Y m dN l| .copy=>KJ Y m dN l| .unsafeString=>KK Y m dN l| _=>none
def KL(Y:e2)(m:a9)(o:Oper)(aj:a0 al):Option (al×a9):=
 match o.op with
 | .store t x y=>bz o.dst (F4 (Y.E t) m (cq aj x) (cq aj y)) λ_=>none
 | .makeMap t none=>F5 (Y.E t) m
 | .makeMap t (some x)=>(match cq aj x with
  |some (.i _ _)=>F5 (Y.E t) m| _=>none)
 | .lookup t x y ok=>KH Y.P Y.E t m (cq aj x) (cq aj y) ok| .mapUpdate t x y z=>bz o.dst (CL Y.E t m (cq aj x) (cq aj y) (cq aj z)) λ_=>none
 | .insert t x y z=>bz o.dst (CL Y.E t m (cq aj x) (cq aj y) (cq aj z)) λ_=>none
 | .convert s d x=>F8 Y m s d (cq aj x)| .call { callee:=.builtin b,args,argTypes }=>Sl Y m b argTypes.toList (lq aj args.toList)| _=>none
def jd(E:Env)(op:Op):Nat:=match op with
 | .move _ | .assign _ | .pick .. | .binOp .. | .load .. | .nilCheck _ | .fieldAddr .. | .field .. | .indexAddr .. | .index .. | .build .. | .makeFunc .. | .extract .. | .unOp .. | .slice ..=>0| .alloc _ | .box .. | .buildSlice .. | .makeSlice ..=>1
 | .convert s d _=>(match E d with
  |some { bn:=.int _,.. }=>0| _=>2)
 | .call { callee:=.builtin .len,argTypes,.. }=>(match argTypes.toList with
  |[t]=>(match E t with
   |some { bn:=.map ..,.. }=>2| _=>0)
  |_=>2)
 | .call { callee:=.builtin .cap,.. }=>0| .call { callee:=.builtin .max,.. }=>0| .call { callee:=.builtin .min,.. }=>0| .call { callee:=.builtin .unsafeSliceData,.. }=>0| _=>2
def mH{R:Type}(dst:Option Nat)(aj:a0 al)(v:al)(K:a0 al->Option R):Option R:=bz dst (K aj) λd=>KE v λv=>aj.kT (some v) d K
def Sm{R:Type}(call:al->List al->a9->Option (al×a9))(dst:Option Nat)(f:Option al)(l:Option (List al))(aj:a0 al)(m:a9)(K:a0 al->a9->Option R):Option R:=
 bz f none λf=>bz l none λl=>bz (call f l m) none λr=>bB (Nat.ble m.n r.2.n) (mH dst aj r.1 λaj=>K aj r.2) none
def Sn{R:Type}(dst:Option Nat)(r:Option (List al×Nat×Nat×(Nat->al)))(aj:a0 al)(m:a9)(K:a0 al->a9->Option R):Option R:=
 bz dst none λd=>bz r none λr=>rz m r.1 r.2.1 λid m=>mH (some d) aj (r.2.2.2 id) λaj=>K aj m
def So{R:Type}(dst:Option Nat)(v:Option al)(aj:a0 al)(m:a9)(K:a0 al->a9->Option R):Option R:=
 bz v none λv=>mH dst aj v λaj=>K aj m
def Sp{R:Type}(dst:Option Nat)(n:Nat)(r:Option (al×a9))(aj:a0 al)(K:a0 al->a9->Option R):Option R:=
 bz r none λr=>bB (Nat.ble n r.2.n) (mH dst aj r.1 λaj=>K aj r.2) none
def Sq{R:Type}(Y:e2)(k:Nat)(o:Oper)(aj:a0 al)(m:a9)(K:a0 al->a9->Option R):Option R:=match k with
 |0=>So o.dst (ry Y.P Y.E Y.G m.t o.op aj) aj m K| 1=>Sn o.dst (ye Y.E o aj) aj m K| _=>Sp o.dst m.n (KL Y m o aj) aj K
def v'{R:Type}(Y:e2)(call:al->List al->a9->Option (al×a9))(o:Oper)(aj:a0 al)(m:a9)(K:a0 al->a9->Option R):Option R:=
 match o.op with
 | .call { callee:=.value f,args,.. }=>Sm call o.dst (cq aj f) (lq aj args.toList) aj m K| op=>Sq Y (jd Y.E op) o aj m K
def yf{R:Type}(o:Oper)(aj:a0 al)(K:a0 al->Option R):Option R:=match o.dst with
 |none=>K aj| some d=>aj.kT (some (.t [])) d K
def rA(ops:List Oper)(o:Oper)(aj:a0 al):Option Bool:=match o.guard with
 |none=>some true
 |some (j,b)=>match(s7 ops j).bind (·.dst)with
  |none=>none
  |some d=>match aj.get d with
   |some (.b c)=>some (c == b)| some (.t _)=>some false| _=>none
def z4(Y:e2)(call:al->List al->a9->Option (al×a9))(ops:List Oper)(l:List Oper):a0 al->a9->Option (a0 al×a9):=
 @List.rec Oper (λ_=>a0 al->a9->Option (a0 al×a9)) (λaj m=>some (aj,m)) (λo _ a8 aj m=>bz (rA ops o aj) none λw=>bB w (v' Y call o aj m a8) (yf o aj λaj=>a8 aj m)) l
def yg(E:Env)(ops:List Oper)(i:Nat):Nat:=bz (s7 ops i) 2 λo=>jd E o.op
def uO(E:Env)(ops:List Oper):List Nat:=(List.range ops.length).filter λi=>Nat.beq (yg E ops i) 2
def z5(es fg:List Nat)(i:Nat):Nat:=(es.filter λe=>(fg.getD i 0).testBit e).length
def xU(es fg:List Nat)(i:Nat):Nat:=(es.filter λe=>!(fg.getD e 0).testBit i).length
def Sr(E:Env)(ops:List Oper)(es fg:List Nat)(j:Nat):List (Nat×Nat):=((List.range ops.length).filter λi=>!Nat.beq (yg E ops i) 2&&Nat.beq (z5 es fg i) j).map λi=>(i,yg E ops i)
def Ss(E:Env)(ops:List Oper)(es fg:List Nat):List Nat->Nat->List (Nat×Nat)
 |[],j=>Sr E ops es fg j| e::l,j=>Sr E ops es fg j++(e,2)::Ss E ops es fg l (j+1)
def CM(E:Env)(ops:List Oper):List (Nat×Nat):=Ss E ops (uO E ops) (iQ ops) (uO E ops) 0
def ta(ops:List Oper):List (Nat×Nat)->Nat->Bool
 |[],k=>Nat.beq k (2^ops.length-1)
 |(i,_)::l,k=>!k.testBit i&&(match ops[i]? with
  |some o=>AT o k&&ta ops l (k ||| 2^i)| none=>false)
def F9(fg:List Nat):List Nat->Bool
 |[]=>true| x::l=>l.all (λy=>(fg.getD y 0).testBit x)&&F9 fg l
def St(E:Env)(ops:List Oper):Bool:=DU ops&&(ta ops (CM E ops) 0&&(F9 (iQ ops) (uO E ops)&&(((CM E ops).filter λr=>Nat.beq r.2 2).map (·.1) == uO E ops)))
mutual
def z6:al->al->Bool
 | .b x,.b w=>x == w| .i k x,.i l w=>IntKind.j4 k l&&l2 x w| .s x,.s w=>nq x w| .pn,.pn=>true| .p i x,.p j w=>Nat.beq i j&&Nat.beq x w| .g i x,.g j w=>Nat.beq i j&&Nat.beq x w| .sn,.sn=>true| .sl i x n c,.sl j w m d=>Nat.beq i j&&(Nat.beq x w&&(Nat.beq n m&&Nat.beq c d))| .sx i x n c,.sx j w m d=>Nat.beq i j&&(Nat.beq x w&&(Nat.beq n m&&Nat.beq c d))| .gs i x n c,.gs j w m d=>Nat.beq i j&&(Nat.beq x w&&(Nat.beq n m&&Nat.beq c d))| .mn,.mn=>true| .m i,.m j=>Nat.beq i j| .f g l r,.f h m s=>Nat.beq g h&&(tb l m&&tb r s)| .y i,.y j=>Nat.beq i j| .fn,.fn=>true| .ni,.ni=>true| .t l,.t m=>tb l m| .a l,.a m=>tb l m| _,_=>false
def tb:List al->List al->Bool
 |[],[]=>true| x::l,w::m=>z6 x w&&tb l m| _,_=>false
end
inductive nr where
 |made(i id:Nat)(l:List al)(T:Nat)| load (i:Nat) (o:Oper) (aj:a0 al) (v:al)
def l3(Y:e2)(call:al->List al->a9->Option (al×a9))(ops:List Oper):List (Nat×Nat)->a0 al->a9->List a9->List nr->Option (a0 al×a9×List a9×List nr)
 |[],aj,m,S,A=>some (aj,m,m::S,A)|(i,k)::rest,aj,m,S,A=>bz (s7 ops i) none λo=>bz (rA ops o aj) none λw=>bB (Nat.beq (jd Y.E o.op) k) (bB w (bB (Nat.beq k 0) (bz (ry Y.P Y.E Y.G m.t o.op aj) none λv=>mH o.dst aj v λb2=>l3 Y call ops rest b2 m S (bB (mP o.op) (.load i o aj v::A) A)) (bB (Nat.beq k 1) (bz o.dst none λd=>bz (ye Y.E o aj) none λr=>rz m r.1 r.2.1 λid m=>mH (some d) aj (r.2.2.2 id) λaj=>l3 Y call ops rest aj m S (.made i id r.1 r.2.1::A)) (v' Y call o aj m λaj m'=>l3 Y call ops rest aj m' (m::S) A))) (yf o aj λaj=>l3 Y call ops rest aj m (bB (Nat.beq k 2) (m::S) S) A)) none
def z7(S:List a9)(lo hi:Nat)(p:a9->Bool):Bool:=((S.drop lo).take (hi+1-lo)).all p
def KM(Y:e2)(o:Oper)(aj:a0 al)(v:al)(m:a9):Bool:=match ry Y.P Y.E Y.G m.t o.op aj with
 |some u=>z6 u v| none=>false
def KN(id:Nat)(l:List al)(T:Nat)(m:a9):Bool:=Nat.blt id m.n&&(match m.t.get id with
 |some (.cells cs kw d')=>Nat.beq kw T&&(Nat.beq d' l.length&&(match cs.zT 0 l.length (λcd=>some cd)with
  |some cd=>tb l cd| none=>false))
 |_=>false)
def KO(Y:e2)(es fg:List Nat)(S:List a9):nr->Bool
 | .made i id l T=>z7 S (z5 es fg i) (xU es fg i) (KN id l T)| .load i o aj v=>z7 S (z5 es fg i) (xU es fg i) (KM Y o aj v)
def KP(Y:e2)(call:al->List al->a9->Option (al×a9))(ops:List Oper)(aj:a0 al)(m:a9):Option (a0 al×a9):=
 bB (St Y.E ops) (match l3 Y call ops (CM Y.E ops) aj m [] []with
  |none=>none| some (aj,m,S,A)=>bB (A.all (KO Y (uO Y.E ops) (iQ ops) S.reverse)) (some (aj,m)) none) none
def z8{R:Type}:List Nat->List al->a0 al->(a0 al->Option R)->Option R
 |[],[],aj,K=>K aj| t::ps,v::vs,aj,K=>aj.kT (some v) t λaj=>z8 ps vs aj K
 |_,_,_,_=>none
def wa(Y:e2)(aj:a0 al)(m:a0 ew):List ResultVar->Option (List al)
 |[]=>some []
 | .tmp t::l=>(match aj.get t,wa Y aj m l with
  |some v,some vs=>some (v::vs)| _,_=>none)
 | .cell t ty::l=>(match aj.get t,Y.E ty,wa Y aj m l with
  |some x,some i,some vs=>(match s8 Y.G m x i.size λl=>zX i.bn.agg l with
   |some v=>some (v::vs)| none=>none)
  |_,_,_=>none)
abbrev mI:=qJ×a0 al×a9
abbrev qt:=Bool->Nat->Code->a0 al->a9->Option mI
def Su:List al->al
 |[v]=>v| vs=>.t vs
def F'(Y:e2)(aj:a0 al)(m:a9)(a3:List ResultVar):Option (al×a9):=bz (wa Y aj m.t a3) none λvs=>some (Su vs,m)
def Sv(Y:e2)(r:Option mI)(a3:List ResultVar):Option (al×a9):=match r with
 |some (.normal,aj,m)=>F' Y aj m a3| some (.ret,aj,m)=>F' Y aj m a3| _=>none
def Ga(Y:e2)(rec:qt)(g:Nat)(args:List al)(m:a9):Option (al×a9):=
 bz (Y.P.funcs[g]?) none λfn=>bz fn.body none λc=>bB (Nat.ble args.length fn.ntmps) (a0.uJ args (a0.bare 12) 0 λaj=>Sv Y (rec true fn.ntmps c aj m) fn.results.toList) none
def po(Y:e2)(rec:qt)(g:Nat)(args:List al)(m:a9):Option (al×a9):=bz (Y.pr g args m) (Ga Y rec g args m) some
def KQ(l:Nat)(e:Option ew)(jump:Option Code)(m:a9):Option (al×a9):=match e with
 |some (.loop true n kq ps dV body)=>m.t.kT (some (bz jump (.loop false n kq ps dV body) λc=>.done c n kq ps dV body)) l λt=>some (.b jump.isNone,⟨t,m.n⟩)
 |_=>none
def Sw(l:Nat)(r:Option mI):Option (al×a9):=bz r none λr=>KQ l (r.2.2.t.get l) (y1 r.1) r.2.2
def KR(rec:qt)(l n:Nat)(body:Code)(e:Option ew)(aj:a0 al)(m:a9):Option (al×a9):=match e with
 |some (.loop false fq kq ps dV KS)=>m.t.kT (some (.loop true fq kq ps dV KS)) l λt=>Sw l (rec false n body aj ⟨t,m.n⟩)
 |_=>none
def Sx(rec:qt)(l n:Nat)(body:Code)(r:Option mI):Option (al×a9):=match r with
 |some (.normal,aj,m)=>KR rec l n body (m.t.get l) aj m| _=>none
def KT(rec:qt)(l:Nat)(args:List al)(m:a9):Option (al×a9):=match m.t.get l with
 |some (.loop false n kq ps dV body)=>z8 ps args kq λaj=>Sx rec l n body (rec false n dV aj m)
 |_=>none
def Gb(Y:e2)(rec:qt)(f:al)(args:List al)(m:a9):Option (al×a9):=match f with
 | .f g l r=>po Y rec g (l++(args++r)) m| .y l=>KT rec l args m| _=>none
def KU:Code->Option qJ
 | .exit id=>some (.exit id)| .goto l=>some (.goto l)| .ret=>some .ret| _=>none
def CN(r:Option mI)(k:a0 al->a9->Option mI):Option mI:=match r with
 |some (.normal,aj,m)=>k aj m| r=>r
def Sy(id:Nat)(r:Option mI):Option mI:=match r with
 |some (.exit j,aj,m)=>bB (Nat.beq j id) (some (.normal,aj,m)) (some (.exit j,aj,m))| r=>r
def Gc(r:Option (a0 al×a9)):Option mI:=bz r none λr=>some (.normal,r.1,r.2)
def Sz(v:Option al)(x y:Option mI):Option mI:=match v with
 |some (.b b)=>bB b x y| _=>none
def CO(rec:qt)(gn:Bool)(n:Nat)(c:Code)(k:Nat):Code->a0 al->a9->Option mI:=@Nat.rec (λ_=>Code->a0 al->a9->Option mI) (λ_ _ _=>none)
 (λ_ a8 x aj m=>match rec gn n x aj m with
  |some (.goto l,aj,m)=>bz (findLabel c l) none λrest=>a8 rest aj m
  |r=>r) k
def SA(l:Nat)(aj:a0 al)(r:Option (al×a9)):Option mI:=bz r none λr=>match r.2.t.get l with
 |some (.loop false ..)=>r.2.t.kT none l λt=>some (.normal,aj,⟨t,r.2.n⟩)
 |some (.done c ..)=>bz (KU c) none λex=>r.2.t.kT none l λt=>some (ex,aj,⟨t,r.2.n⟩)
 |_=>none
def KV(Y:e2)(rec:qt)(gn:Bool)(n:Nat)(v:Option al)(ps:List Nat)(dV body:Code)(aj:a0 al)(m:a9):Option mI:=match gn,v with
 |true,some (.f g [] r)=>yc m (.loop false n aj ps dV body) λl m=>SA l aj (Ga Y rec g (.y l::r) m)
 |_,_=>none
def KW(Y:e2)(f:Nat)(rec:qt):qt:=λgn n c aj m=>match c with
 | .skip=>some (.normal,aj,m)| .label _=>some (.normal,aj,m)| .ret=>some (.ret,aj,m)| .exit id=>some (.exit id,aj,m)| .goto l=>some (.goto l,aj,m)| .seq x y=>CN (rec gn n x aj m) (rec gn n y)| .block id c=>Sy id (rec gn n c aj m)| .cond c x y=>Sz (cq aj c) (rec gn n x aj m) (rec gn n y aj m)| .loop c=>CN (rec gn n c aj m) (rec gn n (.loop c))| .region _ ops false=>Gc (z4 Y (Gb Y rec) ops.toList ops.toList aj m)| .region _ ops true=>Gc (KP Y (Gb Y rec) ops.toList aj m)| .scope c=>CO rec gn n c f c aj m| .rangeFunc x ps dV body=>KV Y rec gn n (cq aj x) ps.toList dV body aj m| .refuse _=>none
def hC(Y:e2)(f:Nat):qt:=@Nat.rec (λ_=>qt) (λ_ _ _ _ _=>none) (λf a8=>KW Y f a8) f
end
end Go.V
