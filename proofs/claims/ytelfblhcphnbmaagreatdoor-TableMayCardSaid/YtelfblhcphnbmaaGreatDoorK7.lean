/- Part 7 of what the proofs of this seat share: the executor, data in memory, walks.
-/
import Derived.Test.YtelfblhcphnbmaaGreatDoorK6
import Derived.Test.YtelfblhcphnbmaaGreatDoorK2
import Derived.Test.YtelfblhcphnbmaaGreatDoorK3
import Derived.Test.YtelfblhcphnbmaaGreatDoorK5
import Derived.Test.YtelfblhcphnbmaaGreatDoorK4
set_option linter.all false
set_option maxHeartbeats 8000000
namespace Go.V
open Go
def lu:=@Nat.add_sub_add_right
def Lu:=@ByteArray.data_append
variable{E:Env}{ops:List Oper}{e:Int}{i f g c b n n0 k fq c' t j by_:Nat}{o o':lY}{D D0:bh}{x:Operand}{v:al}{aj b2:a0 al}{m m':a9}{Q:Value->aN->List aC->Prop}{P:Program}{Y:e2}{args:List al}{us vs cur:List Value}{I cW I' J:aN}{M M0 M':List aC}{ex:qJ}{X:b'}{a bw:Option Addr}{w w':World}{ps:List Nat}{dV body:Code}{L:List (Nat×Nat)}{l os:List bN}{g5:Loc}{G:GT}{pr:js}{arr:Array Value}{R α:Type}{s:ByteArray}
section
variable{X:b'}{G:GT}{pr:js}{D0:bh}{n0:Nat}{a:Act}{w:World}
def Lv{fg:List Nat}:∀ {es:List Nat},F9 fg es=true->∀ (p q:Nat) (x y:Nat),p<q->es[p]?=some x->es[q]?=some y->(fg.getD y 0).testBit x=true
 |[],_,p,q,x,y,_,ae,_=>by simp at ae
 |e::es,h,p,q,x,y,oM,ae,aL=>by
  simp only[F9,bG]at h;cases q with
  |zero=>omega
  |succ q=>
   have u7:es[q]?=some y:=by simpa using aL
   cases p with
   |zero=>simp at ae;subst ae;exact gR.1 h.1 y (wH u7)| succ p=>exact Lv h.2 p q x y (by omega) (by simpa using ae) u7
def acK{e:Nat}:e∈uO E ops ↔ e<ops.length/\yg E ops e=2:=by
 unfold uO;rw[Au,l9];constructor
 ·rintro⟨aa,ab⟩;exact⟨aa,bV ab⟩
 ·rintro⟨aa,ab⟩;exact⟨aa,by rw[ab];rfl⟩
def Tf{o:Oper}(h:ops[i]?=some o):yg E ops i=jd E o.op:=by unfold yg;rw[wi,h];rfl
def eB.same{x:cF}{u:al}(h:eB D x u)(aq:z6 u v=true):eB D x v:=by
 rcases h with⟨y,rfl,h⟩ | ⟨q,rfl,rfl⟩
 ·exact .val (Tc aq h)
 ·have:v=.b q:=by
   cases v<;>simp only[z6,iL]at aq
   rw[eq_of_beq aq]
  exact .inr ⟨q,this,rfl⟩
def acL(aI:cj X.P X.E)(h7:∀ d,d<X.n->X.e6.contains d=true){call:al->List al->a9->Option (al×a9)}(kd:C6 (cO X G pr) call){id:Nat}{Da:Array Oper}(hl:X.P.follows .mixedOrders=true)(aw:yP X.n Da=true)
 {e':a0 al} {eU:a9} (h:KP (cO X G pr) call Da.toList aj m=some (e',eU)) {Q:Exit->Act->World->Prop} (qI:∀ a w,jf X G pr D0 n0 e' eU a w->Q .normal a w) (aq:jf X G pr D0 n0 aj m a w) :
  (Code.region id Da true).wpIn (fb X) 0 X.P Q a w:=by
 refine wpIn_region_any hl ?_;generalize r2:Da.toList=ops at h;have acM:Da=ops.toArray:=by apply fa;simpa using r2
 subst acM;have eG:∀ o∈ops,∀ d,o.dst=some d->d<X.n:=by simpa using DK aw
 unfold KP at h;obtain⟨hY,h⟩:=e3 h;unfold St at hY;simp only[bG]at hY;obtain⟨acN,iv,Tg,vV⟩:=hY;have cn:r3 ops:=M7 acN;have Th:((CM X.E ops).filter λr=>Nat.beq r.2 2).map (·.1)=uO X.E ops:=by simpa using vV
 clear vV;generalize k7:uO X.E ops=es at *;have Lw:∀ e,e∈es ↔ e<ops.length/\yg X.E ops e=2:=λe=>by rw[<-k7];exact acK
 generalize ag0:CM X.E ops=row at *;cases mD:l3 (cO X G pr) call ops row aj m [] []with
 |none=>rw[mD]at h;cases h| some acO=>
 obtain⟨acP,acQ,iZ,kV⟩:=acO;rw[mD]at h;have bf:bB (kV.all (KO (cO X G pr) es (iQ ops) iZ.reverse)) (some (acP,acQ)) none=some (e',eU):=h;clear h;obtain⟨Ti,bf⟩:=e3 bf;cases bf;obtain⟨vs,S,A,GC,Tj,acR,-⟩:=C9 aI h7 eG kd row mD;rw[en]at Tj;subst Tj;rw[List.reverse_reverse]at Ti;have Tk:∀ y∈A,KO (cO X G pr) es (iQ ops) S y=true:=λy aL=>gR.1 Ti y (acR y aL);have mT:(row.map (·.1)).Nodup:=acF iv;obtain⟨ag1,ag2,ag3,ag4,ag5,ag6,ag7,hb,h',lF,hO,acS,ag8,acT,acU,ag9⟩:=ju.split row (rest:=[]) (by rw[en];exact GC);have acV:(row.filter λr=>Nat.beq r.2 2).length=es.length:=by rw[<-Th,fl]
 cases acS;rw[en]at hb;subst hb;have Ag:(vs.map (·.1)).Nodup:=by rw[h'];exact mT
 have acW:=GC.Gz;have acX:∀ (pre:List (Nat×Nat)) (rest:List (Nat×Nat)),row=pre++rest->w0 ops (λi=>i∈pre.map (·.1)):=λpre rest kr j e ar he=>by
  obtain⟨⟨x,c⟩,ae,Ls⟩:=dO.1 ar;have Lt:x=j:=Ls;subst Lt;obtain⟨k',mm,ax⟩:=rB ae;rcases(GA iv k' x c (mm++rest) (by rw[kr,ax];simp)).2.2.2 e he with h | h;·simp at h
  ·show e∈pre.map (·.1);rw[ax,hq];exact dA.2 (.inl h)
 let J:=Af X G pr D0 n0 ops es aj vs S A
 have key:=acB (X:=X) (ops:=ops) (Q:=Q) cn.lt J ?step ?fin ops.length (Array.replicate ops.length false) a { w with drawn:=w.drawn+1 } (by simp) (by unfold todo;exact jy (Dr _ _) (by simp)) ?cl ?start
 case cl=>
  intro j e ar;exfalso;by_cases hi:j<ops.length<;>simp[l8,hi]at ar
 case start=>
  obtain⟨D,F,C,I,M,⟨β,aX⟩,ct,jW,ae,kf⟩:=aq;obtain⟨m2,tf,acY,aG⟩:=GC.head;have cI:∀ i,¬ (Array.replicate ops.length false).getD i false=true:=λi=>by
   by_cases hi:i<ops.length<;>simp[l8,hi]
  refine⟨D,F,C,I,M,0,m2,⟨β,aX.world rfl⟩,λq e _=>⟨λh=>(cI e h).elim,λh=>by omega⟩,bk _,by rw[acY];rfl,jW.grow aG,λi v t hi=>(cI i hi).elim,λt v _ aG=>ct t v aG,λi c l T n3 _=>?_,ae⟩;have:=(acW.2 i c l T n3).1;cases Db:D c with
  |none=>rfl| some b=>have:=jW.hD _ _ Db;omega
 case fin=>
  rintro a w⟨D,F,C,I,M,j,oB,aX,th,ar,rG,jW,yp,yq,dY,ae⟩;have fp:j=es.length:=by
   refine Nat.le_antisymm ar ?_;by_cases au:es.length=0;·omega
   ·have aU:es.length-1<es.length:=by omega
    have aa:=(th (es.length-1) es[es.length-1] (iT aU)).1 ((Lw _).1 (dR aU)).1;omega
  have acZ:oB=eU:=by rw[fp,lF,oO (by omega),hO,acV]at rG;simpa using rG.symm
  subst acZ;refine qI a w ⟨D,F,C,I,M,aX,λt v aG=>?_,jW,ae,?_⟩
  ·rcases acU t v aG with⟨i,aa,ab⟩ | ⟨aa,ab⟩
   ·obtain⟨eO,gf,_⟩:=AY ab;exact yp i v t (h3.1 gf).1 aa ab
   ·refine yq t v (λi hi=>?_) ab;rcases Lr iv i hi with ai | ai
    ·simp at ai
    ·exact aa i ai
  ·obtain⟨ba,de,C',I',M',_,_,_,_,kf⟩:=aq;exact jy kf acT
 case step=>
  rintro L a w q o⟨D,F,C,I,M,j,oB,⟨β,aX⟩,th,ar,rG,jW,yp,yq,dY,ae⟩eo JW aK nS GD;have fV:q<ops.length:=(h3.1 aK).1;have nT:=eG o (wH aK);obtain⟨⟨c7,k⟩,FC,Lx⟩:=dO.1 ((Lr iv q fV).resolve_left (by simp));have ac0:c7=q:=Lx;subst ac0;obtain⟨pre,post,bI⟩:=rB FC;obtain⟨-,-,Tl,ac1⟩:=GA iv pre c7 k post bI;have ac2:∀ e,j' ops c7 e->e∈pre.map (·.1):=λe he=>(ac1 e he).resolve_left (by simp);have Ly:=acX pre ((c7,k)::post) bI;have Tm:=GC;rw[bI]at Tm;obtain⟨te,uT,eg,cy,rF,tf,tg,ax,aA,bj,cp,eX,gM,kl,kN,v0⟩:=ju.split pre Tm;have aha:=eX.Gz;have H:∀ t∈looks ops o,∀ v,eg.get t=some v->eB D (F t) v:=λt az v ah=>by
   rcases kN t v ah with⟨i,aa,ab⟩ | ⟨aa,ab⟩
   ·obtain⟨eO,gf,mR⟩:=AY ab;have Tn:i∈pre.map (·.1):=by rw[<-aA];exact dO.2 ⟨_,aa,rfl⟩
    have bl:i≠c7:=λe=>Tl (e ▸ Tn);rcases cn.ord i c7 eO o t bl gf aK mR az with ag | ag;·exact yp i v t (ag.mem eo GD) (by rw[ax];exact dA.2 (.inl aa)) ab
    ·exact(Tl (ag.mem Ly λe he=>Ly i e Tn he)).elim
   ·refine yq t v (λi hi jI=>?_) ab;obtain⟨eO,gf,mR⟩:=AY jI;have bl:i≠c7:=λe=>nS (e ▸ hi);rcases cn.ord i c7 eO o t bl gf aK mR az with ag | ag
    ·exact aa i (ag.mem Ly ac2) jI
    ·exact nS (ag.mem eo λe he=>eo i e hi he)
  have pu:g4 D F eg o.op.operands.toList:=acH H;have dJ:z5 es (iQ ops) c7<=j:=filter_le λp e aH ag=>by exact(th p e aH).1 ((vg ag).mem eo GD)
  have er:j<=xU es (iQ ops) c7:=le_filter ar λp e aH Cz=>by
   cases ag:((iQ ops).getD e 0).testBit c7 with
   |false=>rfl| true=>have ac3:L e:=(th p e Cz).2 aH;exact(nS ((vg ag).mem eo λd ak=>eo e d ac3 ak)).elim
  have To:jd X.E o.op≠2->∀ p e,es[p]?=some e->((L e\/e=c7) ↔ p<j):=λaf p e aH=>by
   have bl:e≠c7:=λhe=>af (by
    have:=((Lw e).1 (wH aH)).2;rw[he,Tf aK]at this;exact this)
   exact⟨λa4=>(th p e aH).1 (a4.resolve_right bl),λa4=>.inl ((th p e aH).2 a4)⟩
  have Lz:jd X.E o.op=2->es[j]?=some c7/\j+1<=es.length/\∀ p e,es[p]?=some e->((L e\/e=c7) ↔ p<j+1):=λaf=>by
   have Lx:c7∈es:=(Lw c7).2 ⟨fV,by rw[Tf aK];exact af⟩;obtain⟨ti,gY⟩:=Gd Lx;have ahb:=(h3.1 gY).1;have aa:¬ ti<j:=λa4=>nS ((th ti c7 gY).2 a4);have ab:¬ j<ti:=λa4=>by
    have fp:j<es.length:=by omega
    have LA:=Lv Tg j ti es[j] c7 a4 (iT fp) gY;have:=(th j es[j] (iT fp)).1 ((vg LA).mem eo GD);omega
   have ai:ti=j:=by omega
   subst ai;refine⟨gY,by omega,λp e aH=>⟨λa4=>?_,λa4=>?_⟩⟩
   ·rcases a4 with a4 | rfl
    ·have:=(th p e aH).1 a4;omega
    ·refine yC λaw=>?_;have LA:=Lv Tg ti p e e (by omega) gY aH;exact nS ((vg LA).mem eo GD)
   ·by_cases nM:p<ti
    ·exact .inl ((th p e aH).2 nM)
    ·have:p=ti:=by omega
     subst this;rw[gY]at aH;exact .inr (l5 aH).symm
  have plain:∀ {v:al} {de:Fr} {C':cG} {bw:Act} {w':World},(c7,v)∈vs->jd X.E o.op≠2->(∀ l T c,nr.made c7 c l T ∉ A\/True)->Rel X bw w' de C' I M->rE o.dst v D F de->J (λj=>L j\/j=c7) bw w':=fun {v de C' bw w'} ah af _ r7 aH=>by obtain⟨f1,f2⟩:=Af.aj cn aK nS Ag ah (bh.le_refl D) aH yp yq;exact⟨D,de,C',I,M,j,oB,r7,To af,ar,rG,jW,f1,f2,λi c l T hm ef=>dY i c l T hm λhi=>ef (.inl hi),ae⟩
  have Dc:∀ {v:al} {rest:List (Nat×al)},uT=(c7,v)::rest->(c7,v)∈vs:=fun {v rest} he=>by rw[ax,he];exact dA.2 (.inr (by simp))
  have ac4:n0<=cy.n:=by obtain⟨ba,de,C',I',M',_,_,_,_,kf⟩:=aq;exact jy kf kl
  have Tp:∀ {k:Nat},k=2->row=pre++(c7,k)::post->jd X.E o.op=2->rF.length=j:=fun {k} tN ac5 af=>by
   obtain⟨LB,fp,_⟩:=Lz af;have ac6:es=(pre.filter λr=>Nat.beq r.2 2).map (·.1)++c7::((post.filter λr=>Nat.beq r.2 2).map (·.1)):=by rw[<-Th,ac5,KY,hq,Dv];subst tN;simp
   have b3:es.Nodup:=by rw[<-k7];exact List.nodup_range.sublist List.filter_sublist
   have aa:es[rF.length]?=some c7:=by rw[ac6,oO (by rw[fl,cp];exact bS _),fl,cp,vX];rfl
   have w9:=(h3.1 aa).1;exact(List.getElem?_inj w9 b3).1 (by rw[aa,LB])
  cases eX with
  | @q i o' rest kq uU v b2 pJ LC LD hh ls an af yr ah aH t=>
   have uV:o'=o:=l5 (an.symm.trans aK);subst uV;have hw:=GB yr aX.aj H;refine⟨λ_=>?_,λaD=>by rw[hw]at aD;cases aD⟩;obtain⟨u,hu,ac7⟩:∃ u,ry X.P X.E G oB.t o'.op eg=some u/\∀ x,eB D x u->eB D x v:=by
    cases ay:mP o'.op with
    |false=>exact⟨v,by rw[acI ay (m2:=cy.t)];exact ah,λ_ h=>h⟩
    |true=>
     have gq:nr.load c7 o' eg v∈A:=gM _ (by rw[ay];simp);have aa:=Tk _ gq;have ab:=Tb (show z7 S (z5 es (iQ ops) c7) (xU es (iQ ops) c7) (KM (cO X G pr) o' eg v)=true from aa) dJ er rG;unfold KM at ab;split at ab;·rename_i u hu;exact⟨u,hu,λx ae=>ae.same ab⟩
     ·cases ab
   refine pz (λbw w'=>?_) (yN aI nT ⟨β,aX⟩ (S8 (K:=λde C' I' M'=>I'=I/\M'=M/\rE o'.dst v D F de) aI nT af hu pu jW λx ae=>⟨rfl,rfl,.put F (ac7 x ae)⟩));rintro⟨de,C',I',M',fw,rfl,rfl,Lp⟩;exact plain (Dc rfl) (by rw[af];decide) (λ_ _ _=>.inr trivial) fw Lp
  | @a i o' d rest kq uU m' l T c mk b2 pJ LC LD hh ls an af yr ak ah ac8 aH t=>
   have uV:o'=o:=l5 (an.symm.trans aK);subst uV;have hw:=GB yr aX.aj H;refine⟨λ_=>?_,λaD=>by rw[hw]at aD;cases aD⟩;have gq:nr.made c7 cy.n l T∈A:=gM _ (by simp);have aa:=Tk _ gq;have ab:=Tb (show z7 S (z5 es (iQ ops) c7) (xU es (iQ ops) c7) (KN cy.n l T)=true from aa) dJ er rG;unfold KN at ab;rw[bG]at ab;obtain⟨tj,ab⟩:=ab;have ac9:cy.n<oB.n:=bq tj;split at ab
   ·rename_i cs kw d' mN;simp only[bG]at ab;obtain⟨bO,wo,ab⟩:=ab;have AF:=bV bO;subst AF;have S2:=bV wo;subst S2;split at ab
    ·rename_i cd nK;obtain⟨jQ,ee,eH,kK⟩:=a0.Aa cs l.length 0 _ _ nK;have vF:jQ=cd:=l5 kK;subst vF;have Db:D cy.n=none:=dY c7 cy.n l kw gq nS;refine pz (λbw w'=>?_) (yN aI nT ⟨β,aX⟩ (SM (K:=λde C' I' M'=>∃ b us u,I'=I/\M'=⟨b,.cells us.toArray kw (0,0)⟩::M/\I b=none/\(∀ x∈M,x.num≠b)/\bm D l us/\(∀ i,X.E kw=some i->us.length=c*i.size)/\c<=maxLen /\ (∀ (ba:bh) id,ba id=some ⟨b,0,c⟩->aJ ba (mk id) u)/\wm o'.dst u F de) aI h7 nT ah (by rw[ak];rfl) pu λb us u de C' aO aP br eW mj EO LF=>⟨b,us,u,rfl,rfl,aO,aP,br,eW,mj,EO,LF⟩));rintro⟨de,C',I',M',fw,b,us,u,rfl,rfl,aO,aP,br,eW,mj,EO,LF⟩;have hle:D.le (D.set cy.n ⟨b,0,c⟩):=bh.wk _ Db;have GF:rE o'.dst (mk cy.n) (D.set cy.n ⟨b,0,c⟩) F de:=LF.v (EO _ _ (bh.oy _ _ _));obtain⟨f1,f2⟩:=Af.aj cn aK nS Ag (Dc rfl) hle GF yp yq;have n5:=Ae ab br;have jH:∀ id,id≠cy.n->(D.set cy.n ⟨b,0,c⟩) id=D id:=λid jt=>by unfold bh.set;rw[b7 jt]
     have C5:∀ id e fe,oB.t.get id=some e->D id=some fe->fe.b≠b:=λid e fe hi gF uy=>by obtain⟨x,qw,qx⟩:=jW.aV hi gF;exact aP x qw (qx.trans uy)
     refine⟨D.set cy.n ⟨b,0,c⟩,de,C',I',_,j,oB,fw,To (by rw[af];decide),ar,rG,?_,f1,f2,?_,λi hi=>?_⟩
     ·refine⟨λid e fe hi gF=>?_,λid gC e bc cU b9 hi c6 aa ab uy=>?_,λid fe gF=>?_,jW.nu⟩
      ·by_cases jt:id=cy.n
       ·subst jt;rw[bh.oy]at gF;cases gF;rw[mN]at hi;cases hi;refine .cells us.toArray rfl (by simp) (by simp[br.len]) (λi v hi ah=>?_) (λi hi=>by simpa using eW i hi) mj;have j5:jQ[i]?=some v:=by have:=eH i hi;rw[dG,ah]at this;exact this.symm
        obtain⟨x,qw,qx⟩:=n5.get j5;exact⟨x,by simpa using qw,qx.mono hle⟩
       ·rw[jH id jt]at gF;exact(jW.gQ id e fe hi gF).mono hle λx ae _=>lr _ ae
      ·by_cases jt:id=cy.n
       ·by_cases Dd:gC=cy.n
        ·rw[jt,Dd]
        ·rw[jH gC Dd]at ab;rw[jt,bh.oy]at aa;cases aa;exact(C5 gC bc b9 c6 ab uy.symm).elim
       ·rw[jH id jt]at aa;by_cases Dd:gC=cy.n
        ·rw[Dd,bh.oy]at ab;cases ab;exact(C5 id e cU hi aa uy).elim
        ·rw[jH gC Dd]at ab;exact jW.inj id gC e bc cU b9 hi c6 aa ab uy
      ·by_cases jt:id=cy.n
       ·rw[jt];exact ac9
       ·rw[jH id jt]at gF;exact jW.hD _ _ gF
     ·intro i c' cd xr n3 ef;have J6:c'≠cy.n:=λe=>by
       rcases v0 i c' cd xr n3 with h | h
       ·rcases dv.1 h with h | h
        ·cases h;exact ef (.inr rfl)
        ·have:=(t.Gz.2 i c' cd xr h).1;have:=ac8.1;omega
       ·omega
      rw[jH c' J6];exact dY i c' cd xr n3 λhi=>ef (.inl hi)
     ·rw[jH i (by omega)];exact ae i hi
    ·cases ab
   ·cases ab
  | @e i o' rest kq uU m' v b2 pJ LC LD hh ls an af yr C7 aH t=>
   have uV:o'=o:=l5 (an.symm.trans aK);subst uV;have hw:=GB yr aX.aj H;refine⟨λ_=>?_,λaD=>by rw[hw]at aD;cases aD⟩;obtain⟨LB,fp,LG⟩:=Lz af;have De:=Tp rfl bI af;have LH:oB=cy:=by rw[bj,oO (by omega),De,vX]at rG;simpa using rG.symm
   subst LH;obtain⟨m2,ada,LI,LJ⟩:=t.head;refine pz (λbw w'=>?_) (yN aI nT ⟨β,aX⟩ (C7.2 D F C I M (λde C' I' M'=>∃ ba,D.ext ba oB.n/\rE o'.dst v ba F de/\cm (cO X G pr) ba m' I' M') pu jW λba de C' I' M' aO aP br=>⟨ba,aO,aP,br⟩));rintro⟨de,C',I',M',fw,ba,aO,aP,br⟩;have hle:=jW.le aO;obtain⟨f1,f2⟩:=Af.aj cn aK nS Ag (Dc rfl) hle aP yp yq;refine⟨ba,de,C',I',M',j+1,m2,fw,LG,fp,?_,br.grow LJ,f1,f2,λi c l T n3 ef=>?_,bh.S' ae aO ac4⟩;·rw[bj,oO (by omega),De,show j+1-j=0+1 by omega,Dq,LI];rfl
   ·rcases v0 i c l T n3 with h | h
    ·have:=(t.Gz.2 i c l T h).1;cases Db:ba c with
     |none=>rfl| some b=>have:=br.hD _ _ Db;omega
    ·rw[aO c h];exact dY i c l T n3 λhi=>ef (.inl hi)
  | @skip i cb o' rest kq uU b2 pJ LC LD hh ls an af yr aH t=>
   have uV:o'=o:=l5 (an.symm.trans aK);subst uV;have hw:=GB yr aX.aj H;refine⟨λaD=>(by rw[hw]at aD;cases aD),λ_=>?_⟩;have r7:Rel X (a.put o'.dst undef) w (put o'.dst (.val undef) F) C I M:=⟨β,aX.put (x:=.val undef) nT rfl⟩;have GF:rE o'.dst (.t []) D F (put o'.dst (.val undef) F):=.put F (.val .undef);by_cases tN:k=2
   ·subst tN;obtain⟨LB,fp,LG⟩:=Lz af;have De:=Tp rfl bI af;have LH:oB=cy:=by rw[bj,oO (by omega),De,vX]at rG;simpa using rG.symm
    subst LH;obtain⟨m2,ada,LI,LJ⟩:=t.head;obtain⟨f1,f2⟩:=Af.aj cn aK nS Ag (Dc rfl) (bh.le_refl D) GF yp yq;refine⟨D,_,C,I,M,j+1,m2,r7,LG,fp,?_,jW.grow LJ,f1,f2,λi c l T n3 ef=>dY i c l T n3 λhi=>ef (.inl hi),ae⟩;rw[bj,oO (by omega),De,show j+1-j=0+1 by omega];show(oB::hh)[0+1]?=some m2;rw[Dq,LI];rfl
   ·exact plain (Dc rfl) (by rw[af];exact tN) (λ_ _ _=>.inr trivial) r7 GF
 simpa using key
end
def ys{n:Nat}:∀ {c:Code},fZ n c=true->codeOk n c=true
 | .seq x y,h=>by simp only[fZ,codeOk,bG]at h |-;exact⟨ys h.1,ys h.2⟩
 | .block _ c,h=>by simp only[fZ,codeOk]at h |-;exact ys h
 | .cond _ x y,h=>by simp only[fZ,codeOk,bG]at h |-;exact⟨ys h.1,ys h.2⟩
 | .loop c,h=>by simp only[fZ,codeOk]at h |-;exact ys h
 | .region _ ops _,h=>h| .scope c,h=>rfl| .rangeFunc ..,h=>rfl| .skip,h | .exit _,h | .label _,h | .goto _,h | .ret,h | .refuse _,h=>rfl
def LK{n:Nat}:∀ {c:Code} {l:Nat} {r:Code},fZ n c=true->findLabel c l=some r->fZ n r=true
 | .seq x y,l,r,h,ay=>by
  simp only[fZ,bG]at h;simp only[findLabel]at ay;split at ay;·rename_i rest ao;cases ay;simp only[fZ,bG];exact⟨LK h.1 ao,h.2⟩
  ·exact LK h.2 ay
 | .label cd,l,r,h,ay=>by
  simp only[findLabel]at ay;split at ay;·cases ay;rfl
  ·cases ay
 | .skip,_,_,_,ay | .exit _,_,_,_,ay | .goto _,_,_,_,ay | .ret,_,_,_,ay | .refuse _,_,_,_,ay | .block _ _,_,_,_,ay | .cond _ _ _,_,_,_,ay | .loop _,_,_,_,ay | .scope _,_,_,_,ay | .region _ _ _,_,_,_,ay | .rangeFunc _ _ _ _,_,_,_,ay=>by simp[findLabel]at ay
def tk(P:Program):Prop:=∀ (g:Nat) (fn:Func) (c:Code),P.funcs[g]?=some fn->fn.body=some c->fZ fn.ntmps c=true/\(fn.name == "runtime.NumGoroutine")=false
def adb(P:Program):Bool:=P.funcs.toList.all λfn=>match fn.body with
 |some c=>fZ fn.ntmps c && !(fn.name == "runtime.NumGoroutine")
 |none=>true
def ade(h:adb P=true):tk P:=λg fn c aD ag=>by have aa:=gR.1 h fn (by rw[<-Array.mem_def];exact Array.mem_of_getElem? aD);simp only[ag,bG,mK]at aa;exact aa
def uW(Y:e2):Prop:=∀ g vs m v m',Y.pr g vs m=some (v,m')->∀ (D:bh) (I:aN) (M:List aC) (us:List Value),bm D vs us->cm Y D m I M->Spec Y.P g us I M λr I' M'=>∃ ba,D.ext ba m.n/\aJ ba v r/\cm Y ba m' I' M'
def wA:qJ->Exit
 | .normal=>.normal| .exit id=>.exit id| .goto l=>.goto l| .ret=>.ret
def hE(Y:e2)(n B:Nat)(au:World)(cW:aN)(bF:List Nat)(ro:Option Nat):b':=⟨Y.P,Y.E,List.range n,n,B,au,cW,bF,ro⟩
def hE.e6{Y:e2}{n B:Nat}{au:World}{cW:aN}{bF:List Nat}{ro:Option Nat}:∀ d,d<(hE Y n B au cW bF ro).n->(hE Y n B au cW bF ro).e6.contains d=true:=λd ak=>by have ff:d<n:=ak;show(List.range n).contains d=true;simpa using ff
def yt(Y:e2)(f:Nat):Prop:=∀ gn n c aj m ex b2 m',hC Y f gn n c aj m=some (ex,b2,m')->fZ n c=true->∀ B au cW bF ro D0 n0 a w,(gn=true->ro=none)->jf (hE Y n B au cW bF ro) Y.G Y.pr D0 n0 aj m a w -> c.wpIn (fb (hE Y n B au cW bF ro)) 0 Y.P (λe a w=>e=wA ex/\jf (hE Y n B au cW bF ro) Y.G Y.pr D0 n0 b2 m' a w) a w
def LL{α:Type}:∀ (n k:Nat),(a0.bare n:a0 α).get k=none
 |0,k=>rfl
 |n+1,k=>by
  rw[a0.bare,a0.CP];cases Nat.beq k 0 with
  |true=>rfl
  |false=>
   cases Nat.beq (k%2) 1 with
   |true=>exact LL n _| false=>exact LL n _
section
variable{X:b'}{G:GT}{pr:js}{D:bh}{m:a9}{F:Fr}{aj:a0 al}{C:cG}{I:aN}{M:List aC}
def LM(ct:nw D F aj)(hm:cm (cO X G pr) D m I M):∀ {a3:List ResultVar} {vs:List al} {K:List Value->Prop},wa (cO X G pr) aj m.t a3=some vs->(∀ us,bm D vs us->K us)->mc X F C I M a3 K
 |[],vs,K,h,af=>by simp only[wa]at h;cases h;exact af [] .nil
 | .tmp t::l,vs,K,h,af=>by
  simp only[wa]at h;split at h;·rename_i v pJ aa ab;cases h;obtain⟨u,ax,aO⟩:=(show eB D (cB F (.tmp t)) v from ct t v aa).cR;unfold mc;rw[ax];exact LM ct hm ab λus ey=>af _ (.cons aO ey)
  ·cases h
 | .cell t ty::l,vs,K,h,af=>by
  simp only[wa]at h;split at h
  ·rename_i x i pJ aa ab ai;split at h
   ·rename_i v ah;cases h;have uQ:∀ q,x≠.b q:=λq e=>by subst e;cases ah
    obtain⟨u,ax,aO⟩:=eB.tc (ct t x aa:eB D (cB F (.tmp t)) x) uQ;obtain⟨ad,cd,Ah,rfl,bD,ay,aH⟩:=wj hm aO ah;have mX:X.E ty=some i:=ab;have cL:cB F (.tmp t)=.val (.pointer (some ad)):=ax;unfold mc;rw[cL,mX];exact⟨Ah,bD,LM ct hm ai λus ey=>af _ (.cons (Gn aH ay) ey)⟩
   ·cases h
  ·cases h
end
def Tq(aI:cj Y.P Y.E)(ct:tk Y.P)(kr:uW Y)(aF:yt Y f){fn:Func}{c:Code}(aD:Y.P.funcs[g]?=some fn)(ag:fn.body=some c)(hle:args.length<=fn.ntmps)(qH:∀ t w,aj.get t=some w->args[t]?=some w){cy:a9}(hex:ex=.normal\/ex=.ret)(h:hC Y f true fn.ntmps c aj m=some (ex,b2,cy)){vs:List al}(ao:wa Y b2 cy.t fn.results.toList=some vs)
  (ah:v=Su vs) (hu:bm D args us) (hm:cm Y D m I M):rN Y.P g us I M λr I' M'=>∃ ba,D.ext ba m.n/\aJ ba v r/\cm Y ba cy I' M':=by
 obtain⟨aW,AI⟩:=ct g fn c aD ag;refine Hn (List.range fn.ntmps) aI aD ag AI ?_ λB au a w aX=>?_
 ·rw[bG];exact⟨ys aW,ud (by rw[hu.len];exact hle)⟩
 ·have adf:nw D (tx us) aj:=λt w hw=>by obtain⟨x,aa,ab⟩:=hu.get (qH t w hw);refine .inl ⟨x,?_,ab⟩;simp only[tx,aa]
  have cx:jf (hE Y fn.ntmps B au I (M.map (·.num)) none) Y.G Y.pr D m.n aj m a w:=⟨D,_,_,I,M,aX,adf,hm,bh.l7,bS _⟩;refine wpIn_mono (aF _ _ _ _ _ _ _ _ h aW B au I (M.map (·.num)) none D m.n a w (λ_=>rfl) cx) ?_;rintro e bw w'⟨rfl,ba,de,C',I',M',r7,Ms,oN,ae,aw⟩;have BM:∀ yo,yo=.normal\/yo=.ret->rX (hE Y fn.ntmps B au I (M.map (·.num)) none) fn.results.toList (λr I' M'=>∃ ba,D.ext ba m.n/\aJ ba v r/\cm Y ba cy I' M') yo de C' I' M':=λyo he=>by
   have adg:=LM (X:=hE Y fn.ntmps B au I (M.map (·.num)) none) (G:=Y.G) (pr:=Y.pr) (C:=C') Ms oN ao (K:=λvs=>match vs with
    |[ov]=>rW (M.map (·.num)) I' M' ((λr I' M'=>∃ ba,D.ext ba m.n/\aJ ba v r/\cm Y ba cy I' M') ov)
    |vs=>rW (M.map (·.num)) I' M' ((λr I' M'=>∃ ba,D.ext ba m.n/\aJ ba v r/\cm Y ba cy I' M') (.tuple vs.toArray))) λAh ey=>by
     clear ao
     match vs,Ah,ey,ah with
     |[],Ah,ey,ah=>rw[ey.kU];refine⟨I',M',.refl,ba,ae,?_,oN⟩;rw[ah];exact .Gm .nil| [v1],Ah,ey,ah=>obtain⟨x,xs,aa,ab,rfl⟩:=ey.ix;rw[ab.kU];refine⟨I',M',.refl,ba,ae,?_,oN⟩;rw[ah];exact aa
     |v1::v2::vs,Ah,ey,ah=>obtain⟨x,xs,aa,ab,rfl⟩:=ey.ix;obtain⟨y,km,ai,aQ,rfl⟩:=ab.ix;refine⟨I',M',.refl,ba,ae,?_,oN⟩;rw[ah];exact .Gm ey
   rcases he with rfl | rfl<;>exact adg
  rcases hex with rfl | rfl;·exact⟨de,C',I',M',r7,BM _ (.inl rfl)⟩
  ·exact⟨de,C',I',M',r7,BM _ (.inr rfl)⟩
def Spec.uX{args:List Value}{p q:Value->aN->List aC->Prop}(h:Spec P f args I M p)(af:∀ v I' M',p v I' M'->q v I' M'):Spec P f args I M q:=by
 rcases h with⟨aa,ab⟩ | h
 ·refine .inl ⟨aa,λw hw=>?_⟩;refine(ab w hw).mono ?_;rintro e w'⟨v,I',M',ax,aA,bj,cp⟩;exact⟨v,I',M',ax,af _ _ _ aA,bj,cp⟩
 ·refine .inr λw hw=>?_;obtain⟨v,w',I',M',ax,aA,bj,cp⟩:=h w hw;exact⟨v,w',I',M',ax,af _ _ _ aA,bj,cp⟩
section
variable{Y:e2}{D:bh}{m m':a9}{I:aN}{M:List aC}
def Tr(aI:cj Y.P Y.E)(ct:tk Y.P)(kr:uW Y)(aF:yt Y f)(h:Ga Y (hC Y f) g args m=some (v,m'))(hu:bm D args us)(hm:cm Y D m I M) :
  rN Y.P g us I M λr I' M'=>∃ ba,D.ext ba m.n/\aJ ba v r/\cm Y ba m' I' M':=by
 unfold Ga at h;obtain⟨fn,aD,aa⟩:=bX h;obtain⟨c,ag,ab⟩:=bX aa;obtain⟨hle,ai⟩:=e3 ab;obtain⟨aj,aO,aP⟩:=a0.uP args (a0.bare 12) 0;rw[aO]at ai;have qH:∀ t w,aj.get t=some w->args[t]?=some w:=λt w hw=>by
  rcases aP t w hw with⟨_,h⟩ | ⟨_,h⟩;·simpa using h
  ·rw[LL]at h;cases h
 unfold Sv at ai;split at ai
 ·rename_i b2 cy ae;unfold F' at ai;obtain⟨vs,ao,aQ⟩:=bX ai;cases aQ;exact Tq aI ct kr aF aD ag (bq hle) qH (.inl rfl) ae ao rfl hu hm
 ·rename_i b2 cy ae;unfold F' at ai;obtain⟨vs,ao,aQ⟩:=bX ai;cases aQ;exact Tq aI ct kr aF aD ag (bq hle) qH (.inr rfl) ae ao rfl hu hm
 ·cases ai
def Ts(aI:cj Y.P Y.E)(ct:tk Y.P)(kr:uW Y)(aF:yt Y f)(h:po Y (hC Y f) g args m=some (v,m'))(hu:bm D args us)(hm:cm Y D m I M) :
  Spec Y.P g us I M λr I' M'=>∃ ba,D.ext ba m.n/\aJ ba v r/\cm Y ba m' I' M':=by
 unfold po at h;cases aH:Y.pr g args m with
 |none=>rw[aH]at h;exact .inl (Tr aI ct kr aF h hu hm)| some p=>rw[aH]at h;have bf:some p=some (v,m'):=h;cases bf;exact kr g args m v m' aH D I M us hu hm
def bY.kept{β:Nat->Nat}{a:Act}{W:World}{F:Fr}{C:cG}(h:bY X β a w F C I' M')(aa:X.au=W)(ab:X.B=W.heap.size)(ai:X.cW=cW)(aQ:X.bF=M0.map (·.num)):Kept cW M0 W I' M' w where
 le:=by rw[<-ai];exact h.gb
 rM b o ag:=by
  rcases h.fH b o ag with bp | bp;·exact .inl (by rw[<-ai];exact bp)
  ·exact .inr (by rw[<-ab];exact bp)
 tq x ae:=by
  rcases h.own x ae with bp | bp;·rw[aQ]at bp;obtain⟨y,aL,e⟩:=dO.1 bp;exact .inl ⟨y,aL,e⟩
  ·exact .inr (by rw[<-ab];exact bp)
 cE b ag aw:=by rw[<-aa];refine h.cE b (by rw[ab];exact ag) λhm=>?_;rw[aQ]at hm;obtain⟨y,aL,e⟩:=dO.1 hm;exact aw y aL e
 out:=by rw[<-aa];exact h.out
 sz:=by rw[<-ab];exact h.sz
def Tt{R:Type}:∀ {ps:List Nat} {args:List al} {kq:a0 al} {K:a0 al->Option R} {r:R} {us:List Value} {tmps:Array Value},z8 ps args kq K=some r->bm D args us->(∀ t∈ps,t<tmps.size)->(∀ t v,kq.get t=some v->aJ D v (tmps.getD t undef)) -> ∃ eg,K eg=some r/\us.length=ps.length/\((ps.zip us).foldl (λ(tmps:Array Value) (p:Nat×Value)=>tmps.setIfInBounds p.1 p.2) tmps).size=tmps.size /\ ∀ t v,eg.get t=some v->aJ D v (((ps.zip us).foldl (λ(tmps:Array Value) (p:Nat×Value)=>tmps.setIfInBounds p.1 p.2) tmps).getD t undef)
 |[],[],kq,K,r,us,tmps,h,hu,aH,au=>by have:=hu.kU;subst this;exact⟨kq,h,rfl,rfl,au⟩
 |[],_::_,kq,K,r,us,tmps,h,hu,aH,au=>by simp[z8]at h
 |_::_,[],kq,K,r,us,tmps,h,hu,aH,au=>by simp[z8]at h
 |t0::ps,qy::args,kq,K,r,us,tmps,h,hu,aH,au=>by
  obtain⟨x,xs,aO,aP,rfl⟩:=hu.ix;simp only[z8]at h;obtain⟨eg,aa,ab⟩:=a0.l4 (some qy) kq t0;rw[aa]at h;have aU:=aH t0 (by simp);obtain⟨px,ai,aQ,bp,bM⟩:=Tt (tmps:=tmps.setIfInBounds t0 x) h aP (λt az=>by simpa using aH t (by simp[az])) λt v az=>by
   rw[l8,yB];rcases ab t v az with⟨rfl,e⟩ | ⟨bl,aG⟩;·have:=(l5 e);subst this;simp only[pE,aU];exact aO
   ·rw[b7 (pD bl),<-l8];exact au t v aG
  exact⟨px,ai,by simp[aQ],by simpa using bp,bM⟩
def je.GG{a:Loc}{b:Bool}(h:je D E M a (.loop b n aj ps dV body)):∃ L,(⟨a.b,.loop L⟩:aC)∈M/\CR D b n aj ps dV body L:=by
 cases h with
 |loop L aa ab=>exact⟨L,aa,ab⟩
def je.adh{a:Loc}{c:Code}(h:je D E M a (.done c n aj ps dV body)):∃ L,(⟨a.b,.loop L⟩:aC)∈M/\L.state=.done/\L.pending=some c:=by
 cases h with
 |done L aa ab ai=>exact⟨L,aa,ab,ai⟩
def CR.mono{ba:bh}(cn:D.le ba){b:Bool}{L:Loop}(h:CR D b n aj ps dV body L):CR ba b n aj ps dV body L:={ h with aj:=λt v az=>(h.aj t v az).mono cn }
def cm.swap(h:cm Y D m I M){dU:a0 ew}{l:Nat}{bT ax:ew}{o o':Obj}{Mr:List aC}(aG:m.t.get l=some bT)(av:D l=some g5)(a5:M.Perm (⟨g5.b,o⟩::Mr))(az:∀ id e,dU.get id=some e->(id=l/\some ax=some e)\/(id≠l/\m.t.get id=some e))
  (he:je D Y.E (⟨g5.b,o'⟩::Mr) g5 ax):cm Y D ⟨dU,m.n⟩ I (⟨g5.b,o'⟩::Mr):=by
 refine h.step (λid e hi=>(az id e hi).imp (λq=>⟨q.1,l5 q.2⟩) λq=>q) av (bh.le_refl D) (λ_ _=>rfl) h.hD (λ_ _ h=>h) (λid e bw bl hi ny x ae aw=>?_) he λid e bw bl hi ny ag=>bl (h.inj _ _ _ _ _ _ hi aG ny av ag);rcases dv.1 (a5.mem_iff.1 ae)with rfl | ae
 ·exact(bl (h.inj _ _ _ _ _ _ hi aG ny av aw.symm)).elim
 ·exact lr _ ae
end
section
variable{Y:e2}{D:bh}{m m':a9}{I:aN}{M:List aC}
def adi(aF:yt Y f){l:Nat}(h:KT (hC Y f) l args m=some (v,m'))(ay:D l=some g5)(hu:bm D args us)(hm:cm Y D m I M) :
  A9 Y.P g5.b us I M λr I' M'=>∃ ba,D.ext ba m.n/\aJ ba v r/\cm Y ba m' I' M':=by
 unfold KT at h;split at h
 ·rename_i n kq ps dV body aG;obtain⟨L,a5,cI⟩:=(hm.gQ _ _ _ aG ay).GG;intro W gr;have Bd:W.heap[g5.b]?=some (.loop L):=gr.m _ a5;have cx:L.state=.ready:=cI.ap;have r2:∀ t∈ps,t<L.tmps.size:=λt az=>by rw[cI.sz];exact cI.op t (by rw[cI.ps];exact az)
  obtain⟨eg,aa,hlen,cc,Tu⟩:=Tt (tmps:=L.tmps) h hu r2 cI.aj;have lf:L.params.size=ps.length:=by rw[<-cI.ps];simp
  refine⟨_,_,_,_,run_yield Bd (by rw[lf];simpa using hlen),?_⟩;have HG:(L.params.zip us.toArray).foldl (λtmps (x:Nat×Value)=>match x with | (t,a)=>tmps.setIfInBounds t a) L.tmps=(ps.zip us).foldl (λ(tmps:Array Value) (p:Nat×Value)=>tmps.setIfInBounds p.1 p.2) L.tmps:=by rw[<-G2,<-cI.ps];simp
  rw[HG];generalize bO:(ps.zip us).foldl (λ(tmps:Array Value) (p:Nat×Value)=>tmps.setIfInBounds p.1 p.2) L.tmps=T at Tu cc;rw[cI.dV,cI.body];have Cr:fZ n dV=true:=by rw[<-cI.dV];exact cI.xk
  have Lm:fZ n body=true:=by rw[<-cI.body];exact cI.lH
  refine roundIn_of_wpIn (F:=Fence.wide) (n:=0) trivial ?_;let sh:b':=hE Y n W.heap.size W I (M.map (·.num)) (some g5.b)
  have AS:bY sh (λ_=>0) { tmps:=T,defers:=[] } W (λt=>.val (T.getD t undef)) (λ_=>none) I M:={
   size:=cc.trans cI.sz
   defers:=⟨[],rfl,wJ,λr ao=>by cases ao⟩
   holds:=gr
   aj:=λt=>rfl
   bL:=λs cs aq=>by cases aq
   inj:=λs b0 aa=>by simp at aa
   gb:=λb o ag=>ag
   fH:=λb o ag=>.inl ag
   own:=λx ae=>.inl (dO.2 ⟨x,ae,rfl⟩)
   cE:=λb ag aD=>rfl
   out:=.refl _
   sz:=bS _ }
  unfold Sx at aa;split at aa
  ·rename_i px m2 adj;have gH:jf sh Y.G Y.pr D m.n eg m { tmps:=T,defers:=[] } W:=⟨D,_,_,I,M,⟨_,AS⟩,λt v ah=>.val (Tu t v ah),hm,bh.l7,bS _⟩;refine wpIn_mono (aF _ _ _ _ _ _ _ _ adj Cr _ _ _ _ _ D m.n _ _ (λe=>by cases e) gH) ?_;rintro e cf hb⟨rfl,GH,Tv,Tw,gh,eP,⟨Tx,nX⟩,adk,kg,qx,sV⟩;have vF:GH l=some g5:=by rw[qx l (hm.hD _ _ ay)];exact ay
   have ab:KR (hC Y f) l n body (m2.t.get l) px m2=some (v,m'):=aa;unfold KR at ab;split at ab
   ·rename_i fq adl adm adn KS ic;obtain⟨v7,Ty,tl⟩:=(kg.gQ _ _ _ ic vF).GG;obtain⟨pre,post,bI⟩:=rB Ty;have iv:eP.Perm (⟨g5.b,.loop v7⟩::(pre++post)):=by rw[bI];exact qf
    have Tz:hb.heap[g5.b]?=some (.loop v7):=nX.holds.m _ Ty;have ado:=(jx.1 Tz).1;refine⟨_,run_beginRound Tz tl.ap,?_⟩;obtain⟨t3,ai,aQ⟩:=a0.l4 (some (ew.loop true fq adl adm adn KS)) m2.t l;rw[ai]at ab;have adp:bY sh Tx cf (hb.putObj g5.b (.loop { v7 with state:=.busy })) Tv Tw gh (⟨g5.b,.loop { v7 with state:=.busy }⟩::(pre++post)):=
     (nX.gS (.perm iv .refl)).swap (by simp) (yW ado) (λb ag=>kt ag) (DD _ _ _)
    have jU:cm Y GH ⟨t3,m2.n⟩ gh (⟨g5.b,.loop { v7 with state:=.busy }⟩::(pre++post)):=kg.swap ic vF iv aQ (.loop { v7 with state:=.busy } (by simp) ⟨rfl,tl.mS,tl.sz,tl.aj,tl.ps,tl.dV,tl.body,tl.xk,tl.lH,tl.op⟩);unfold Sw at ab;obtain⟨⟨ex,ahc,Df⟩,adq,bp⟩:=bX ab;have sk:jf sh Y.G Y.pr D m.n px ⟨t3,m2.n⟩ cf (hb.putObj g5.b (.loop { v7 with state:=.busy })):=⟨GH,Tv,Tw,gh,_,⟨Tx,adp⟩,adk,jU,qx,sV⟩;refine wpIn_mono (aF _ _ _ _ _ _ _ _ adq Lm _ _ _ _ _ D m.n _ _ (λe=>by cases e) sk) ?_;rintro e e4 hO⟨rfl,LN,adr,ads,lG,mU,⟨adt,GI⟩,ahd,x8,TA,TB⟩;have TC:LN l=some g5:=by rw[TA l (hm.hD _ _ ay)];exact ay
    have bM:KQ l (Df.t.get l) (y1 ex) Df=some (v,m'):=bp;unfold KQ at bM;split at bM
    ·rename_i E1 TD TE TF TG vK;obtain⟨LO,J0,wB⟩:=(x8.gQ _ _ _ vK TC).GG;obtain⟨TH,TI,adu⟩:=rB J0;have TJ:mU.Perm (⟨g5.b,.loop LO⟩::(TH++TI)):=by rw[adu];exact qf
     have TK:hO.heap[g5.b]?=some (.loop LO):=GI.holds.m _ J0;have adv:=(jx.1 TK).1;obtain⟨t5,dP,eK⟩:=a0.l4 (some (bz (y1 ex) (ew.loop false E1 TD TE TF TG) λc=>ew.done c E1 TD TE TF TG)) Df.t l;rw[dP]at bM;cases bM;have fin:∀ jump,y1 ex=jump->∃ ov w',(Instr.endRound g5.b jump).run Y.P hO=.ok ov w'/\∃ r I' M',Ending.returned ov=.returned r/\(∃ ba,D.ext ba m.n/\aJ ba (.b (y1 ex).isNone) r/\cm Y ba ⟨t5,Df.n⟩ I' M')/\dC I' M' w'/\Kept I M W I' M' w':=by
      rintro jump ar;let GJ:Loop:={ LO with state:=if jump.isNone then .ready else .done,pending:=jump }
      have TL:bY sh adt e4 (hO.putObj g5.b (.loop GJ)) adr ads lG (⟨g5.b,.loop GJ⟩::(TH++TI)):=
       (GI.gS (.perm TJ .refl)).swap (by simp) (yW adv) (λb ag=>kt ag) (DD _ _ _)
      refine⟨_,_,run_endRound jump TK,_,lG,_,rfl,⟨LN,TA,?_,x8.swap vK TC TJ eK ?_⟩,TL.holds,TL.kept rfl rfl rfl rfl⟩;·rw[ar];simp[aJ]
      ·rw[ar];cases jump with
       |none=>exact .loop GJ (by simp) ⟨rfl,rfl,wB.sz,wB.aj,wB.ps,wB.dV,wB.body,wB.xk,wB.lH,wB.op⟩| some c=>exact .done GJ (by simp) rfl rfl
     cases ex with
     |normal=>exact fin none rfl| exit id=>exact fin _ rfl| goto t=>exact fin _ rfl| ret=>exact fin _ rfl
    ·cases bM
   ·cases ab
  ·cases aa
 ·cases h
end
section
variable{Y:e2}
def adw(aI:cj Y.P Y.E)(ct:tk Y.P)(kr:uW Y)(aF:yt Y f):C6 Y (Gb Y (hC Y f)):=λacz l m v m' h D I M u us u9 ey hm=>by
 unfold Gb at h;split at h
 ·rename_i g bK cs;simp only[aJ]at u9;obtain⟨vs,ws,aa,ab,rfl⟩:=u9;refine .inl ⟨g,_,_,rfl,?_⟩;have:=Ts aI ct kr aF h (aa.append (ey.append ab)) hm;simpa using this
 ·rename_i q;simp only[aJ]at u9;obtain⟨g5,aa,rfl⟩:=u9;exact .inr ⟨g5.b,rfl,adi aF h aa ey hm⟩
 ·cases h
def jf.world{a:Act}(h:jf X G pr D0 n0 aj m a w):∃ D F β,(∀ t,dD β (F t) (a.tmps.getD t undef))/\nw D F aj:=by obtain⟨D,F,C,I,M,⟨β,aX⟩,ct,_⟩:=h;exact⟨D,F,β,aX.aj,ct⟩
def jf.eval{a:Act}(h:jf X G pr D0 n0 aj m a w){b:Bool}(ae:cq aj x=some (.b b)):a.eval x=.bool b:=by obtain⟨D,F,β,aa,ab⟩:=h.world;obtain⟨u,ax,aO⟩:=(ab.op [x]).bi (x:=x) (by simp) ae;rw[cw aa ax,aO.bool]
def eB.ok{D:bh}{β:Nat->Nat}{x:cF}{v:al}{u:Value}(h:eB D x v)(ae:dD β x u):aJ D v u:=by
 rcases h with⟨y,rfl,h⟩ | ⟨q,rfl,rfl⟩
 ·have:u=y:=ae;subst this;exact h
 ·have:u=.bool q:=ae;subst this;simp[aJ]
def adx(aI:cj Y.P Y.E)(ct:tk Y.P)(kr:uW Y)(aF:yt Y f){gn:Bool}{ps:Array Tmp}(h:KV Y (hC Y f) gn n (cq aj x) ps.toList dV body aj m=some (ex,b2,m'))(aW:fZ n (.rangeFunc x ps dV body)=true){B:Nat}{au:World}{bF:List Nat}{ro:Option Nat}{a:Act}(jE:gn=true->ro=none)(aq:jf (hE Y n B au cW bF ro) Y.G Y.pr D0 n0 aj m a w) :
  (Code.rangeFunc x ps dV body).wpIn (fb (hE Y n B au cW bF ro)) 0 Y.P (λe a w=>e=wA ex/\jf (hE Y n B au cW bF ro) Y.G Y.pr D0 n0 b2 m' a w) a w:=by
 unfold KV at h;split at h
 ·rename_i g cap ae;have HI:=jE rfl;subst HI;obtain⟨D,F,C,I,M,⟨β,aX⟩,LP,hm,et,kf⟩:=aq;obtain⟨u,ax,aO⟩:=(LP.op [x]).bi (x:=x) (by simp) ae;simp only[aJ]at aO;obtain⟨vs,ws,aa,ab,rfl⟩:=aO;have gG:=aa.kU;subst gG;simp only[fZ,bG]at aW;obtain⟨t1,ai,aQ⟩:=CX h;refine wpIn_rangeFunc λfn _=>?_;let fz:Loop:={ state:=.ready,pending:=none,fn:=fn,tmps:=a.tmps,params:=ps,assign:=dV,body:=body,defers:=w.heap.size }
  let l:=w.heap.size+1
  let h':World:=(w.alloc (.deferred (some []))).alloc (.loop fz)
  have w8:=aX.Nm.l' (.loop fz);have ay:(w.alloc (.deferred (some []))).heap.size=l:=by simp[l]
  rw[ay]at w8;have ady:∀ q∈M,q.num≠l:=λq aK e=>by have:=aX.holds.lt aK;omega
  have TM:cm Y (D.set m.n ⟨l,0,0⟩) ⟨t1,m.n+1⟩ I (⟨l,.loop fz⟩::M):=hm.new (a:=⟨l,0,0⟩) ai ady (.loop fz (by simp) ⟨rfl,rfl,aX.size,λt v az=>((LP t v az).ok (aX.aj t)).mono (bh.wk _ hm.fresh),rfl,rfl,rfl,aW.1,aW.2.1,λt az=>bq (gR.1 aW.2.2 t az)⟩);unfold SA at aQ;obtain⟨⟨v,m2⟩,kd,bp⟩:=bX aQ;have TN:=bh.wk (D:=D) ⟨l,0,0⟩ hm.fresh;have kj:bm (D.set m.n ⟨l,0,0⟩) (.y m.n::cap) (.func (.yield l) #[] #[]::ws):=.cons (by simp only[aJ];exact⟨_,bh.oy _ _ _,rfl⟩) (ab.mono TN);obtain⟨mN,wV⟩:=Tr aI ct kr aF kd kj TM;have adz:=wV h' w8.holds;have aA:=cw aX.aj ax;refine⟨l,[ts w.heap.size],h',{ target:=.fn (.func g) ws.toArray,args:=#[.func (.yield l) #[] #[]] },h',g,(.func (.yield l) #[] #[]::ws).toArray,h',?_,?_,λ_ _=>trivial,?_,(λh=>by cases h),?_⟩;·show(Instr.enterLoop fn a.tmps ps dV body none).run Y.P w=_;exact run_enterLoop_outer fn a.tmps ps dV body
  ·show(Deferred.ofValue (a.eval x) (#[Operand.const (.func (.yield l) #[] #[])].map a.eval)).run Y.P h'=_;rw[aA];simp[Deferred.ofValue,Act.eval]
  ·simp only[invoke];rw[show #[Value.func (.yield l) #[] #[]]++ws.toArray=(.func (.yield l) #[] #[]::ws).toArray from by apply fa;simp];exact mN _ _
  ·refine(He (X:=hE Y n B au cW bF none) adz _).mono ?_;rintro e lF⟨r,iG,oS,rfl,⟨Ai,Aj,qa,jU⟩,TO,Dg⟩;have vo:=w8.after (Mr:=[]) (by simp) TO Dg;rw[en]at vo;have xa:Ai m.n=some ⟨l,0,0⟩:=by rw[Aj m.n (Du _)];exact bh.oy _ _ _
   have uE:=TM.le Aj;have adA:nw Ai F aj:=λt v az=>(LP t v az).mono (bh.le_trans TN uE);have adB:D0.ext Ai n0:=λi hi=>by
    have eM:i<m.n+1:=by
     have:i<m.n:=by omega
     omega
    rw[Aj i eM];show(if i=m.n then _ else D i)=D0 i;rw[b7 (by omega)];exact et i hi
   have fin:∀ (L:Loop) (t4:a0 ew) (j:Option Code),(⟨l,.loop L⟩:aC)∈oS->L.state≠.busy->L.pending=j->(∃ bT,m2.t.get m.n=some bT)->(∀ id e,t4.get id=some e->(id=m.n/\(none:Option ew)=some e)\/(id≠m.n/\m2.t.get id=some e))->n0<=m2.n ->
     ∃ hO,(Instr.endLoop l).run Y.P lF=.ok j hO/\jf (hE Y n B au cW bF none) Y.G Y.pr D0 n0 aj ⟨t4,m2.n⟩ { a with defers:=[ts w.heap.size]++a.defers } hO:=by
    rintro L t4 j cI ag aH⟨bT,adC⟩IK TB;have adD:lF.heap[l]?=some (.loop L):=TO.m _ cI;obtain⟨pre,post,bI⟩:=rB cI;have iv:oS.Perm (⟨l,.loop L⟩::(pre++post)):=by rw[bI];exact qf
    have kh:∀ i dX,t4.get i=some dX->i≠m.n/\m2.t.get i=some dX:=λi dX hi=>by
     rcases IK i dX hi with⟨_,eK⟩ | eK;·cases eK
     ·exact eK
    have GI:=(vo.gS (.perm iv .refl)).Bb (o':=.loop { L with state:=.exhausted });refine⟨_,(by rw[<-aH];exact run_endLoop adD ag),Ai,F,C,iG,pre++post,⟨β,GI⟩,adA,⟨λi dX b hi gF=>?_,λi fj dX wx b fe hi c6=>jU.inj i fj dX wx b fe (kh i dX hi).2 (kh fj wx c6).2,jU.hD,jU.nu⟩,adB,TB⟩;refine(jU.gQ i dX b (kh i dX hi).2 gF).mono (bh.le_refl Ai) λq aK aw=>?_;rcases dv.1 (iv.mem_iff.1 aK)with rfl | aK;·exact((kh i dX hi).1 (jU.inj _ _ _ _ _ _ (kh i dX hi).2 adC gF xa aw.symm)).elim
    ·exact aK
   have sV:∀ {bT:ew},m2.t.get m.n=some bT->n0<=m2.n:=λ_=>by have:=jU.hD _ _ xa;omega
   have bM:(match m2.t.get m.n with
    |some (.loop false ..)=>m2.t.kT none m.n λt=>some (qJ.normal,aj,(⟨t,m2.n⟩:a9))
    |some (.done c ..)=>bz (KU c) none λex=>m2.t.kT none m.n λt=>some (ex,aj,⟨t,m2.n⟩)
    |_=>none)=some (ex,b2,m'):=bp
   split at bM;·rename_i vP adE adF adG adH n5;obtain⟨L,cI,TP⟩:=(jU.gQ _ _ _ n5 xa).GG;obtain⟨t4,dP,eK⟩:=a0.l4 (none:Option ew) m2.t m.n;rw[dP]at bM;cases bM;obtain⟨hO,c8,oX⟩:=fin L t4 none cI (by rw[TP.ap];simp) TP.mS ⟨_,n5⟩ eK (sV n5);exact⟨none,hO,c8,rfl,oX⟩
   ·rename_i c vP adE adF adG adH n5;obtain⟨L,cI,cx,adI⟩:=(jU.gQ _ _ _ n5 xa).adh;obtain⟨yo,hex,bM⟩:=bX bM;obtain⟨t4,dP,eK⟩:=a0.l4 (none:Option ew) m2.t m.n;rw[dP]at bM;cases bM;obtain⟨hO,c8,oX⟩:=fin L t4 (some c) cI (by rw[cx];simp) adI ⟨_,n5⟩ eK (sV n5);refine⟨some c,hO,c8,?_⟩;unfold KU at hex;split at hex
    ·cases hex;exact wpIn_exit ⟨rfl,oX⟩
    ·cases hex;exact wpIn_goto ⟨rfl,oX⟩
    ·cases hex;exact wpIn_ret ⟨rfl,oX⟩
    ·cases hex
   ·cases bM
 ·cases h
end
section
variable{Y:e2}
def TQ{next:Act->World->Prop}{Q:Exit->Act->World->Prop}{a:Act}(h:Q (wA ex) a w)(bl:ex≠.normal):Exit.then next Q (wA ex) a w:=by cases ex<;>first | exact(bl rfl).elim | exact h
def adJ(aI:cj Y.P Y.E)(ct:tk Y.P)(kr:uW Y)(hl:Y.P.follows .mixedOrders=true):∀ f k,k<=f->yt Y k:=by
 intro f
 induction f with
 |zero=>
  intro k af gn n c aj m ex b2 m' h;have:k=0:=by omega
  subst this;cases h
 |succ f a8=>
  intro k af;by_cases adK:k<=f;·exact a8 k adK
  have zb:k=f+1:=by omega
  subst zb;have aF:=a8 f (bS _);have kd:=adw aI ct kr aF;intro gn n c aj m ex b2 m' h aW B au cW bF ro D0 n0 a w jE aq;have aa:KW Y f (hC Y f) gn n c aj m=some (ex,b2,m'):=h;have h7:=@hE.e6 Y n B au cW bF ro;unfold KW at aa;cases c with
  |skip=>cases aa;exact wpIn_skip ⟨rfl,aq⟩| label l=>cases aa;exact wpIn_label ⟨rfl,aq⟩| ret=>cases aa;exact wpIn_ret ⟨rfl,aq⟩| exit id=>cases aa;exact wpIn_exit ⟨rfl,aq⟩| goto l=>cases aa;exact wpIn_goto ⟨rfl,aq⟩| refuse s=>cases aa
  |seq x y=>
   simp only[fZ,bG]at aW;simp only[CN]at aa;split at aa;·rename_i eg cy ae;refine wpIn_seq (wpIn_mono (aF _ _ _ _ _ _ _ _ ae aW.1 B au cW bF ro D0 n0 a w jE aq) ?_);rintro e cf hb⟨rfl,gH⟩;exact aF _ _ _ _ _ _ _ _ aa aW.2 B au cW bF ro D0 n0 cf hb jE gH
   ·rename_i ef;refine wpIn_seq (wpIn_mono (aF _ _ _ _ _ _ _ _ aa aW.1 B au cW bF ro D0 n0 a w jE aq) ?_);rintro e cf hb⟨rfl,gH⟩;exact TQ ⟨rfl,gH⟩ λe=>ef b2 m' (by rw[aa,e])
  |block id c=>
   simp only[fZ]at aW;simp only[Sy]at aa;split at aa
   ·rename_i j eg cy ae;refine wpIn_block (wpIn_mono (aF _ _ _ _ _ _ _ _ ae aW B au cW bF ro D0 n0 a w jE aq) ?_);rintro e cf hb⟨rfl,gH⟩;simp only[wA,Exit.inBlock];by_cases ar:j=id
    ·subst ar;rw[nG]at aa;have ab:some (qJ.normal,eg,cy)=some (ex,b2,m'):=aa;cases ab;rw[cv rfl];exact⟨rfl,gH⟩
    ·rw[fv ar]at aa;have ab:some (qJ.exit j,eg,cy)=some (ex,b2,m'):=aa;cases ab;rw[b7 ar];exact⟨rfl,gH⟩
   ·rename_i ef;refine wpIn_block (wpIn_mono (aF _ _ _ _ _ _ _ _ aa aW B au cW bF ro D0 n0 a w jE aq) ?_);rintro e cf hb⟨rfl,gH⟩;cases ex with
    |exit j=>exact(ef j b2 m' aa).elim| normal=>exact⟨rfl,gH⟩| goto l=>exact⟨rfl,gH⟩| ret=>exact⟨rfl,gH⟩
  |cond x ee eH=>
   simp only[fZ,bG]at aW;simp only[Sz]at aa;split at aa
   ·rename_i b ae;refine wpIn_cond (aq.eval ae) ?_;cases b with
    |true=>exact aF _ _ _ _ _ _ _ _ aa aW.1 B au cW bF ro D0 n0 a w jE aq| false=>exact aF _ _ _ _ _ _ _ _ aa aW.2 B au cW bF ro D0 n0 a w jE aq
   ·cases aa
  |loop c=>
   simp only[fZ]at aW;let J (k:Nat) (a:Act) (w:World):Prop:=k<=f+1/\∃ eg cy,hC Y k gn n (.loop c) eg cy=some (ex,b2,m')/\jf (hE Y n B au cW bF ro) Y.G Y.pr D0 n0 eg cy a w
   refine DL J (m:=f+1) ⟨bS _,aj,m,h,aq⟩ ?_;rintro k cf hb⟨af,eg,cy,ab,gH⟩;cases k with
   |zero=>cases ab
   |succ k=>
    have TR:=a8 k (by omega);have ai:CN (hC Y k gn n c eg cy) (hC Y k gn n (.loop c))=some (ex,b2,m'):=ab;simp only[CN]at ai;split at ai;·rename_i px m2 ae;refine wpIn_mono (TR _ _ _ _ _ _ _ _ ae aW B au cW bF ro D0 n0 cf hb jE gH) ?_;rintro e dd h'⟨rfl,ma⟩;exact⟨k,Du k,by omega,px,m2,ai,ma⟩
    ·rename_i ef;refine wpIn_mono (TR _ _ _ _ _ _ _ _ ai aW B au cW bF ro D0 n0 cf hb jE gH) ?_;rintro e dd h'⟨rfl,ma⟩;exact TQ ⟨rfl,ma⟩ λe=>ef b2 m' (by rw[ai,e])
  |region id ops adL=>
   cases adL with
   |false=>simp only[Gc]at aa;obtain⟨⟨eg,cy⟩,ae,ab⟩:=bX aa;cases ab;refine wpIn_region ?_;have:=Lq (X:=hE Y n B au cW bF ro) (G:=Y.G) (pr:=Y.pr) (D0:=D0) (n0:=n0) aI h7 kd ops (λe a w=>e=wA .normal/\jf (hE Y n B au cW bF ro) Y.G Y.pr D0 n0 eg cy a w) (λa w h=>⟨rfl,h⟩) ops.toList 0 (by simp) (DK aW) ae aq;have c8:wpOpsIn (fb (hE Y n B au cW bF ro)) 0 Y.P ops (λe a w=>e=wA .normal/\jf (hE Y n B au cW bF ro) Y.G Y.pr D0 n0 eg cy a w) (List.range' 0 ops.toList.length) a w:=this;rw[G0];simpa using c8
   |true=>simp only[Gc]at aa;obtain⟨⟨eg,cy⟩,ae,ab⟩:=bX aa;cases ab;exact acL (X:=hE Y n B au cW bF ro) (G:=Y.G) (pr:=Y.pr) (D0:=D0) (n0:=n0) aI h7 kd hl aW ae (λa w h=>⟨rfl,h⟩) aq
  |scope c=>
   simp only[fZ]at aW;have step:∀ (k:Nat) (x:Code) (eg:a0 al) (cy:a9) (cf:Act) (hb:World),fZ n x=true->CO (hC Y f) gn n c (k+1) x eg cy=some (ex,b2,m')->jf (hE Y n B au cW bF ro) Y.G Y.pr D0 n0 eg cy cf hb ->
     x.wpIn (fb (hE Y n B au cW bF ro)) 0 Y.P (λe bw w'=>match e with
      | .goto l=>∃ rest px m2,findLabel c l=some rest/\CO (hC Y f) gn n c k rest px m2=some (ex,b2,m')/\jf (hE Y n B au cW bF ro) Y.G Y.pr D0 n0 px m2 bw w'| e=>e=wA ex/\jf (hE Y n B au cW bF ro) Y.G Y.pr D0 n0 b2 m' bw w') cf hb:=λk x eg cy cf hb ae ab gH=>by
    have ai:(match hC Y f gn n x eg cy with
     |some (.goto l,aj,m)=>bz (findLabel c l) none λrest=>CO (hC Y f) gn n c k rest aj m
     |r=>r)=some (ex,b2,m'):=ab
    split at ai;·rename_i l px m2 he;obtain⟨rest,vm,aQ⟩:=bX ai;refine wpIn_mono (aF _ _ _ _ _ _ _ _ he ae B au cW bF ro D0 n0 cf hb jE gH) ?_;rintro e dd h'⟨rfl,ma⟩;exact⟨rest,px,m2,vm,aQ,ma⟩
    ·rename_i ef;refine wpIn_mono (aF _ _ _ _ _ _ _ _ ai ae B au cW bF ro D0 n0 cf hb jE gH) ?_;rintro e dd h'⟨rfl,ma⟩;cases ex with
     |goto l=>exact(ef l b2 m' ai).elim| exit j=>exact⟨rfl,ma⟩| normal=>exact⟨rfl,ma⟩| ret=>exact⟨rfl,ma⟩
   let J (l k:Nat) (a:Act) (w:World):Prop:=∃ rest eg cy,findLabel c l=some rest/\CO (hC Y f) gn n c k rest eg cy=some (ex,b2,m')/\jf (hE Y n B au cW bF ro) Y.G Y.pr D0 n0 eg cy a w
   cases f with
   |zero=>cases aa
   |succ gw=>
    refine Nk J (wpIn_mono (step gw c aj m a w aW aa aq) ?_) ?_
    ·intro e cf hb he;cases e with
     |goto l=>exact⟨gw,he⟩| _=>exact he
    ·rintro l k cf hb⟨rest,eg,cy,vm,ab,gH⟩;cases k with
     |zero=>cases ab
     |succ k=>
      refine⟨rest,vm,wpIn_mono (step k rest eg cy cf hb (LK aW vm) ab gH) ?_⟩;intro e dd h' he;cases e with
      |goto cd=>exact⟨k,Du k,he⟩| _=>exact he
  |rangeFunc x ps dV body=>exact adx aI ct kr aF aa aW jE aq
def reckon(aI:cj Y.P Y.E)(ct:tk Y.P)(kr:uW Y)(hl:Y.P.follows .mixedOrders=true)(h:po Y (hC Y f) g args m=some (v,m'))(hu:bm D args us)(hm:cm Y D m I M) : Spec Y.P g us I M λr I' M'=>∃ ba,D.ext ba m.n/\aJ ba v r/\cm Y ba m' I' M':=
 Ts aI ct kr (adJ aI ct kr hl f f (bS _)) h hu hm
end
def TS(h:dC I M w)(aa:dC I' M' w')(ab:Kept I [] w I' M' w') :
  dC I' (M'++M) w'/\Kept I M w I' (M'++M) w'/\∀ x∈M',∀ y∈M,x.num≠y.num:=by
 have aU:∀ x∈M,x.num<w.heap.size:=λx ae=>(jx.1 (h.m x ae)).1;have dE:∀ x∈M',w.heap.size<=x.num:=λx ae=>by
  rcases ab.tq x ae with⟨y,aL,_⟩ | h;·cases aL
  ·exact h
 have bl:∀ x∈M',∀ y∈M,x.num≠y.num:=λx ae y aL e=>by have:=aU y aL;have:=dE x ae;omega
 refine⟨⟨aa.i,λx ae=>?_,λx ae=>?_,?_⟩,⟨ab.le,ab.rM,λx ae=>?_,λb ag _=>ab.cE b ag (by simp),ab.out,ab.sz⟩,bl⟩
 ·rcases dA.1 ae with ae | ae
  ·exact aa.m x ae
  ·rw[ab.cE x.num (aU x ae) (by simp)];exact h.m x ae
 ·rcases dA.1 ae with ae | ae
  ·exact aa.d x ae
  ·cases he:I' x.num with
   |none=>rfl
   |some o=>
    rcases ab.rM _ _ he with ai | ai;·rw[h.d x ae]at ai;cases ai
    ·have:=aU x ae;omega
 ·rw[hq,yF];refine⟨aa.a2,h.a2,λa av b ag e=>?_⟩;obtain⟨x,ae,rfl⟩:=dO.1 av;obtain⟨y,aL,rfl⟩:=dO.1 ag;exact bl x ae y aL e
 ·rcases dA.1 ae with ae | ae
  ·exact .inr (dE x ae)
  ·exact .inl ⟨x,ae,rfl⟩
def Spec.frame{args:List Value}(h:Spec P f args I [] Q):Spec P f args I M λr I' k4=>∃ M',k4=M'++M/\(∀ x∈M',∀ y∈M,x.num≠y.num)/\(∀ b o,I b=some o->I' b=some o)/\Q r I' M':=by
 have au:∀ {w:World},dC I M w->dC I [] w:=λhw=>⟨hw.i,by simp,by simp,by simp⟩;rcases h with⟨aa,ab⟩ | h
 ·refine .inl ⟨aa,λw hw=>?_⟩;refine(ab w (au hw)).mono ?_;rintro e w'⟨v,I',M',ax,aA,bj,cp⟩;obtain⟨aO,aP,br⟩:=TS hw bj cp;exact⟨v,I',M'++M,ax,⟨M',rfl,br,cp.le,aA⟩,aO,aP⟩
 ·refine .inr λw hw=>?_;obtain⟨v,w',I',M',ax,aA,bj,cp⟩:=h w (au hw);obtain⟨aO,aP,br⟩:=TS hw bj cp;exact⟨v,w',I',M'++M,ax,⟨M',rfl,br,cp.le,aA⟩,aO,aP⟩
mutual
def hF(k:Nat):al->al
 | .p id off=>.p (Nat.add id k) off| .sl id off n c=>.sl (Nat.add id k) off n c| .sx id off e n=>.sx (Nat.add id k) off e n| .m id=>.m (Nat.add id k)| .y id=>.y (Nat.add id k)| .f g l r=>.f g (nz k l) (nz k r)| .CB t v=>.CB t (hF k v)| .t l=>.t (nz k l)| .a l=>.a (nz k l)| .b x=>.b x| .i a n=>.i a n| .s l=>.s l| .pn=>.pn| .g n off=>.g n off| .sn=>.sn| .gs n off a c=>.gs n off a c| .so=>.so| .mn=>.mn| .fn=>.fn| .ni=>.ni
def nz(k:Nat):List al->List al
 |[]=>[]| v::l=>hF k v::nz k l
end
section
mutual
def Ak{D0 D:bh}{k:Nat}(cn:∀ id a,D0 id=some a->D (Nat.add id k)=some a):∀ (v:al) {u:Value},aJ D0 v u->aJ D (hF k v) u
 | .p id off,u,h=>by simp only[aJ,hF]at h |-;obtain⟨a,av,h⟩:=h;exact⟨a,cn _ _ av,h⟩
 | .sl id off n c,u,h=>by simp only[aJ,hF]at h |-;obtain⟨a,av,h⟩:=h;exact⟨a,cn _ _ av,h⟩
 | .sx id off e n,u,h=>by simp only[aJ,hF]at h |-;obtain⟨a,av,h⟩:=h;exact⟨a,cn _ _ av,h⟩
 | .m id,u,h=>by simp only[aJ,hF]at h |-;obtain⟨a,av,h⟩:=h;exact⟨a,cn _ _ av,h⟩
 | .y id,u,h=>by simp only[aJ,hF]at h |-;obtain⟨a,av,h⟩:=h;exact⟨a,cn _ _ av,h⟩
 | .f g l r,u,h=>by simp only[aJ,hF]at h |-;obtain⟨vs,ws,aa,ab,h⟩:=h;exact⟨vs,ws,Dh cn l aa,Dh cn r ab,h⟩
 | .CB t v,u,h=>by simp only[aJ,hF]at h |-;obtain⟨x,aa,h⟩:=h;exact⟨x,Ak cn v aa,h⟩
 | .t l,u,h=>by simp only[aJ,hF]at h |-;obtain⟨x,aa,h⟩:=h;exact⟨x,Dh cn l aa,h⟩
 | .a l,u,h=>by simp only[aJ,hF]at h |-;obtain⟨x,aa,h⟩:=h;exact⟨x,Dh cn l aa,h⟩
 | .b x,u,h=>by simpa only[aJ,hF]using h
 | .i a n,u,h=>by simpa only[aJ,hF]using h
 | .s l,u,h=>by simpa only[aJ,hF]using h
 | .pn,u,h=>by simpa only[aJ,hF]using h
 | .g n off,u,h=>by simpa only[aJ,hF]using h
 | .sn,u,h=>by simpa only[aJ,hF]using h
 | .gs n off a c,u,h=>by simpa only[aJ,hF]using h
 | .so,u,h=>by simpa only[aJ,hF]using h
 | .mn,u,h=>by simpa only[aJ,hF]using h
 | .fn,u,h=>by simpa only[aJ,hF]using h
 | .ni,u,h=>by simpa only[aJ,hF]using h
def Dh{D0 D:bh}{k:Nat}(cn:∀ id a,D0 id=some a->D (Nat.add id k)=some a):∀ (l:List al) {us:List Value},bm D0 l us->bm D (nz k l) us
 |[],us,h=>by simpa only[bm,nz]using h
 |v::l,us,h=>by simp only[bm,nz]at h |-;obtain⟨x,xs,aa,ab,h⟩:=h;exact⟨x,xs,Ak cn v aa,Dh cn l ab,h⟩
end
end
inductive rH where
 |cells(l:List al)(T:Nat)| map (es:List (al×al))
noncomputable def Di:ew->Option rH
 | .cells cs T d'=>cs.zT 0 d' λl=>some (.cells l T)
 | .map es=>some (.map es)| _=>none
noncomputable def readAll(t:a0 ew):Nat->Nat->Option (List rH)
 |_,0=>some []| id,n+1=>bz (t.get id) none λe=>bz (Di e) none λs=>bz (readAll t (Nat.add id 1) n) none λl=>some (s::l)
def LQ(k:Nat):List (al×al)->List (al×al)
 |[]=>[]| p::l=>(hF k p.1,hF k p.2)::LQ k l
noncomputable def rH.gQ(k:Nat):rH->ew
 | .cells l T=>a0.uJ (nz k l) .nil 0 λcs=>.cells cs T l.length
 | .map es=>.map (LQ k es)
noncomputable def GK{R:Type}(k:Nat):List rH->Nat->a0 ew->(a0 ew->R)->R
 |[],_,t,K=>K t| s::l,id,t,K=>t.kT (some (s.gQ k)) id λt=>GK k l (Nat.add id 1) t K
noncomputable def LR(v:al)(L:List rH)(m:a9):Option (al×a9):=ox m.n λn=>ox (Nat.add n L.length) λfq=>GK n L n m.t λt=>some (hF n v,⟨t,fq⟩)
def TT{t:a0 ew}:∀ {n id:Nat} {L:List rH},readAll t id n=some L->L.length=n/\∀ j s,L[j]?=some s->∃ e,t.get (id+j)=some e/\Di e=some s
 |0,id,L,h=>by cases h;exact⟨rfl,by simp⟩
 |n+1,id,L,h=>by
  unfold readAll at h;obtain⟨e,aa,h⟩:=bX h;obtain⟨s,ab,h⟩:=bX h;obtain⟨l,ai,h⟩:=bX h;cases h;obtain⟨aO,aP⟩:=TT ai;refine⟨by simp[aO],λj b0 ar=>?_⟩;cases j with
  |zero=>cases ar;exact⟨e,aa,ab⟩| succ j=>obtain⟨bc,dr,c4⟩:=aP j b0 (by simpa using ar);refine⟨bc,?_,c4⟩;rw[<-dr];congr 1;show id+(j+1)=id+1+j;omega
def TU(k:Nat):∀ (L:List rH) (id:Nat) (t:a0 ew),∃ dU:a0 ew,(∀ {R:Type} (K:a0 ew->R),GK k L id t K=K dU) /\ ∀ j e,dU.get j=some e->(id<=j/\∃ s,L[j-id]?=some s/\e=s.gQ k)\/((j<id\/id+L.length<=j)/\t.get j=some e)
 |[],id,t=>⟨t,λK=>rfl,λj e h=>.inr ⟨by simp;omega,h⟩⟩
 |s::L,id,t=>by
  obtain⟨t1,aa,ab⟩:=a0.l4 (some (s.gQ k)) t id;obtain⟨dU,ai,aQ⟩:=TU k L (id+1) t1;refine⟨dU,λK=>?_,λj e h=>?_⟩;·unfold GK;rw[aa];exact ai K
  ·rcases aQ j e h with⟨aO,b0,aP,br⟩ | ⟨aO,aP⟩
   ·refine .inl ⟨by omega,b0,?_,br⟩;rw[show j-id=(j-(id+1))+1 by omega];simpa using aP
   ·rcases ab j e aP with⟨rfl,br⟩ | ⟨br,eW⟩
    ·refine .inl ⟨bS _,s,by simp,?_⟩;cases br;rfl
    ·refine .inr ⟨?_,eW⟩;simp only[du];omega
def adM(cn:∀ id a,D0 id=some a->D (Nat.add id k)=some a){es:List (al×al)}{l:List MapEntry}(h:nx D0 es l):nx D (LQ k es) l:=by
 induction h with
 |nil=>exact .nil| cons af ah t a8=>exact .cons (Ak cn _ af) (Ak cn _ ah) a8
def TV{k:Nat}:∀ {l:List al} {i:Nat} {v:al},(nz k l)[i]?=some v->∃ qy,l[i]?=some qy/\v=hF k qy
 |[],i,v,h=>by simp[nz]at h
 |x::l,0,v,h=>by simp only[nz,List.getElem?_cons_zero,g7]at h;exact⟨x,rfl,h.symm⟩
 |x::l,i+1,v,h=>by simp only[nz,Dq]at h;simpa using TV h
def adN(cn:∀ id a,D0 id=some a->D (Nat.add id k)=some a)(a5:∀ x∈M,x∈M'){a:Loc}{e:ew}{s:rH}(h:je D0 E M a e)(ao:Di e=some s):je D E M' a (s.gQ k):=by
 cases h with
 | @cells cs T d' arr au aa ab ai aQ bp=>
  unfold Di at ao;obtain⟨l,aO,aP,br⟩:=a0.Aa cs d' 0 _ _ ao;cases br;obtain⟨dU,dr,c4⟩:=a0.uP (nz k l) (.nil:a0 al) 0;show je D E M' a (a0.uJ (nz k l) .nil 0 λcs=>ew.cells cs T l.length);rw[dr,aO];refine .cells arr au (a5 _ aa) ab (λi v hi aG=>?_) aQ bp;rcases c4 i v aG with⟨_,h⟩ | ⟨_,h⟩;·obtain⟨qy,ax,rfl⟩:=TV (by simpa using h);have:=aP i hi;rw[dG,ax]at this;obtain⟨x,f1,f2⟩:=ai i qy hi this;exact⟨x,f1,Ak cn _ f2⟩
  ·cases h
 |map l clock aa ab=>cases ao;exact .map l clock (a5 _ aa) (adM cn ab)| loop L aa ab=>cases ao| done L aa ab ai=>cases ao
def adO(aI:cj Y.P Y.E)(ct:tk Y.P)(hl:Y.P.follows .mixedOrders=true){uU:a9}{qy:al}{L:List rH}(au:po ⟨Y.P,Y.E,λ_=>none,λ_ _ _=>none⟩ (hC ⟨Y.P,Y.E,λ_=>none,λ_ _ _=>none⟩ f) g args ⟨.nil,0⟩=some (qy,uU))(cI:readAll uU.t 0 uU.n=some L)(eo:∀ D us,bm D args us->bm (λ_=>none) args us)(h:LR qy L m=some (v,m'))(hu:bm D args us)(hm:cm Y D m I M) :
  Spec Y.P g us I M λr I' M'=>∃ ba,D.ext ba m.n/\aJ ba v r/\cm Y ba m' I' M':=by
 have kr:uW ⟨Y.P,Y.E,λ_=>none,λ_ _ _=>none⟩:=λg vs m v m' h=>by cases h
 have adP:cm ⟨Y.P,Y.E,λ_=>none,λ_ _ _=>none⟩ (λ_=>none) ⟨.nil,0⟩ I []:=⟨λid e a h bf=>(by cases bf),λid gC e bc a bw h aa bf=>(by cases bf),λid a h=>(by cases h),λg cs h=>(by cases h)⟩;have aq:=(reckon (Y:=⟨Y.P,Y.E,λ_=>none,λ_ _ _=>none⟩) aI ct kr hl au (eo D us hu) adP).frame (M:=M);refine Spec.uX aq ?_;rintro r I' k4⟨M0,rfl,bl,hle,D0,-,ah,Al⟩;unfold LR at h;rw[KZ,KZ]at h;obtain⟨dU,aa,ab⟩:=TU m.n L m.n m.t;rw[aa]at h;cases h;obtain⟨aO,aP⟩:=TT cI;let ba:bh:=λid=>if id<m.n then D id else D0 (id-m.n)
 have cn:∀ id a,D0 id=some a->ba (Nat.add id m.n)=some a:=λid a av=>by show(if id+m.n<m.n then D (id+m.n)else D0 (id+m.n-m.n))=some a;rw[b7 (by omega),Nat.add_sub_cancel,av]
 have AG:D.le ba:=λid a av=>by show(if id<m.n then D id else D0 (id-m.n))=some a;rw[cv (hm.hD _ _ av),av]
 have lo:∀ id,id<m.n->ba id=D id:=λid hi=>cv hi;have c6:∀ id,m.n<=id->ba id=D0 (id-m.n):=λid hi=>b7 (by omega);have src:∀ id e a,dU.get id=some e->ba id=some a->(m.n<=id/\∃ s bT,e=s.gQ m.n/\uU.t.get (id-m.n)=some bT/\Di bT=some s/\D0 (id-m.n)=some a)\/(id<m.n/\m.t.get id=some e/\D id=some a):=λid e a he av=>by
  rcases ab id e he with⟨dr,s,c4,fy⟩ | ⟨dr,c4⟩;·obtain⟨bT,kF,Ca⟩:=aP _ _ c4;rw[dG]at kF;rw[c6 _ dr]at av;exact .inl ⟨dr,s,bT,fy,kF,Ca,av⟩
  ·rcases Nat.lt_or_ge id m.n with aU | dE
   ·rw[lo _ aU]at av;exact .inr ⟨aU,c4,av⟩
   ·rw[c6 _ dE]at av;have:=Al.hD _ _ av;omega
 refine⟨ba,λid hi=>lo id hi,Ak cn _ ah,⟨λid e a he av=>?_,λid gC e bc a bw he ve av yj ag=>?_,λid a av=>?_,hm.nu.mono hle⟩⟩
 ·rcases src id e a he av with⟨dr,s,bT,rfl,c4,fy,kF⟩ | ⟨dr,c4,fy⟩
  ·exact adN cn (λx ae=>yE _ ae) (Al.gQ _ _ _ c4 kF) fy
  ·exact(hm.gQ _ _ _ c4 fy).mono AG λx ae _=>yD _ ae
 ·rcases src id e a he av with⟨dr,s,bT,rfl,c4,fy,kF⟩ | ⟨dr,c4,fy⟩
  ·rcases src gC bc bw ve yj with⟨hA,b0,adQ,rfl,fh,ir,LS⟩ | ⟨hA,fh,ir⟩
   ·have:=Al.inj _ _ _ _ _ _ c4 fh kF LS ag;omega
   ·obtain⟨x,ae,LU⟩:=Al.aV c4 kF;obtain⟨y,aL,LV⟩:=hm.aV fh ir;exact(bl x ae y aL (LU.trans (ag.trans LV.symm))).elim
  ·rcases src gC bc bw ve yj with⟨hA,b0,adQ,rfl,fh,ir,LS⟩ | ⟨hA,fh,ir⟩
   ·obtain⟨x,ae,LU⟩:=Al.aV fh LS;obtain⟨y,aL,LV⟩:=hm.aV c4 fy;exact(bl x ae y aL (LU.trans (ag.symm.trans LV.symm))).elim
   ·exact hm.inj _ _ _ _ _ _ c4 fh fy ir ag
 ·show id<m.n+L.length;rcases Nat.lt_or_ge id m.n with aU | dE
  ·omega
  ·rw[c6 _ dE]at av;have:=Al.hD _ _ av;omega
open Go Go.Proofs
def adR(k:Nat):liesAt Tryz.prog Tryz.prog.depth 174 ((k+1)*2/Tryz.prog.cellsOf 174) 0 174 1=true:=by
 have ab:Tryz.prog.cellsOf 174=2:=by kernel_rfl
 have ak:Tryz.prog.depth=(Tryz.prog.depth-1)+1:=by kernel_rfl
 have ms:sameLayout Tryz.prog Tryz.prog.depth 174 174=true:=by kernel_rfl
 have ao:rowAt Tryz.prog (sameLayout Tryz.prog Tryz.prog.depth · 174) Tryz.prog.depth 174 (k+1) 0 1=true:=by
  generalize aD:(sameLayout Tryz.prog Tryz.prog.depth · 174)=f;have tH:f 174=true:=by rw[<-aD];exact ms
  rw[ak];unfold rowAt;simp only[ab,tH];simp
 rw[ab,Nat.mul_div_cancel _ (by decide:0<2)];rw[ak];unfold liesAt;rw[ao];rfl
def adS(pre post:List aC)(b:Nat)(v:Value)(k:Nat)(rest:List Value)(ao:rest.length=2*k) :
  Spec Tryz.prog 152 [ptr b] I (pre++⟨b,.cells (.pointer none::v::rest).toArray 174 (0,0)⟩::post) λr I' M'=>r=.tuple #[]/\I'=I/\M'=pre++⟨b,.cells (bo (.pointer none::v::rest) 0 [ptr b]).toArray 174 (0,0)⟩::post:=by
 obtain⟨inf,z,hi,eM,_⟩:=(aT 174 _ rfl).inf;refine b8 [] aT Tryz.func152 rfl rfl rfl ?_;intro B au;have hm:∀ {o:Obj},(⟨b,o⟩:aC)∈pre++⟨b,o⟩::post:=fun {o}=>dA.2 (.inr (.head _));have cc:(Value.pointer none::v::rest).toArray.size=(k+1)*2:=by simp[ao];omega
 have ay:liesAt Tryz.prog Tryz.prog.depth 174 ((Value.pointer none::v::rest).toArray.size/Tryz.prog.cellsOf 174) 0 174 1=true:=by rw[cc];exact adR k
 refine aM.mk [.pointer none] (dn (cs:=.pointer none::v::rest) (k:=0) (n:=1) (T:=174) hm (by simp)) ?_;refine .other (be.Ek aT rfl (by simp) rfl rfl rfl rfl ?_);refine aR.mk (λ_=>?_) (λh=>by cases h);refine be.conv rfl (by simp) rfl (λw hw=>Lib.run_to_unsafe (t:=174) (e:=174) w ⟨b,0,none⟩ (by kernel_rfl) (by kernel_rfl) (j:=inf) (cells:=(Value.pointer none::v::rest).toArray.size) hi (by rw[eM];decide) (En hw hm) (by rw[cc];show 0<_;omega)) ?_;refine a7.mk (pre++⟨b,.cells (.pointer none::v::rest).toArray 174 (0,0)⟩::post) [] _ (by simp) (H3 _) ?_;rintro v I' M' -⟨rfl,rfl,rfl⟩;refine be.conv rfl (by simp) rfl (λw hw=>Lib.run_from_unsafe (u:=174) (e:=174) w ⟨b,0,none⟩ (by kernel_rfl) (by kernel_rfl) (j:=inf) (cells:=(Value.pointer none::v::rest).toArray.size) hi (En hw (dA.2 (.inl hm))) ay) ?_;refine cS.mk pre post _ _ (en _) rfl (by rw[cc];show 0+0+1<=(k+1)*2;omega) rfl ?_;exact⟨_,_,.refl,rfl,rfl,rfl⟩
def adT{T:Nat}(a5:(⟨b,.cells arr T (0,0)⟩:aC)∈M)(au:arr[0]?=some (ptr b)) :
  Spec Tryz.prog 152 [ptr b] I M λr I' M'=>r=.tuple #[]/\I'=I/\M'=M:=by
 refine b8 [] aT Tryz.func152 rfl rfl rfl ?_;intro B kB;have ao:ck I M ((⟨b,0,none⟩:Addr).add 0) 1 [ptr b]:=by
  obtain⟨l⟩:=arr;cases l with
  |nil=>simp at au| cons x l=>simp only[wG,List.getElem?_cons_zero,g7]at au;subst au;exact dn (cs:=ptr b::l) (k:=0) (n:=1) a5 (by simp)
 refine aM.mk [ptr b] ao ?_;refine .other (be.Ek aT rfl (by simp) rfl rfl rfl rfl ?_);refine aR.mk (λh=>by cases h) (λ_=>?_);refine aM.mk [ptr b] ao ?_;refine .other (be.N8 aT rfl (by simp) rfl rfl rfl rfl rfl ?_);refine aR.mk (λh=>by cases h) (λ_=>?_);exact⟨_,_,.refl,rfl,rfl,rfl⟩
def adU{id off:Nat}{cs:a0 al}{T d':Nat}{a:Loc}{pre post:List aC}(hm:cm Y D m I M)(aG:m.t.get id=some (.cells cs T d'))(av:D id=some a)(an:a.o=0)(bI:M=pre++⟨a.b,.cells arr T (0,0)⟩::post)(cc:a.o+d'<=arr.size)(aF:∀ i v,i<d'->cs.get i=some v->∃ x,arr[a.o+i]?=some x/\aJ D v x)(af:∀ i,Y.E T=some i->arr.size=a.o+a.c*i.size)(hl:a.c<=maxLen)
  {l:List al} (ay:bm D l vs) {K:a9->Option R} {r:R} (h:uN m (.p id off) l K=some r) :
  ∃ m',K m'=some r/\m'.n=m.n/\off+vs.length<=arr.size/\cm Y D m' I (pre++⟨a.b,.cells (bo arr.toList off vs).toArray T (0,0)⟩::post):=by
 unfold uN at h;simp only[aG]at h;cases ag:(Nat.ble (Nat.add off l.length) d'&&l.all al.one)with
 |false=>rw[ag]at h;cases h
 |true=>
  rw[ag]at h;simp only[aZ]at h;rw[bG]at ag;have wo:off+l.length<=d':=bq ag.1;obtain⟨cs',aa,ab⟩:=a0.uP l cs off;rw[aa]at h;obtain⟨dU,ai,aQ⟩:=a0.l4 (some (ew.cells cs' T d')) m.t id;rw[ai]at h;have hlen:=ay.len;have fm:off+vs.length<=arr.size:=by omega
  refine⟨_,h,rfl,fm,?_⟩;have fA:∀ x∈M,x.num≠a.b->x∈pre++⟨a.b,.cells (bo arr.toList off vs).toArray T (0,0)⟩::post:=λx ae aw=>by
   rw[bI]at ae;rcases dA.1 ae with ae | ae;·exact dA.2 (.inl ae)
   ·rcases dv.1 ae with rfl | ae
    ·exact(aw rfl).elim
    ·exact dA.2 (.inr (lr _ ae))
  refine hm.step (λi e hi=>(aQ i e hi).imp (λq=>⟨q.1,l5 q.2⟩) λq=>q) av (bh.le_refl D) (λ_ _=>rfl) hm.hD (λ_ _ h=>h) (λi e bw bl hi ny x ae aw=>fA x ae ?_) ?_ ?_;·rw[aw];exact λag=>bl (hm.inj _ _ _ _ _ _ hi aG ny av ag)
  ·have CZ:(bo arr.toList off vs).length=arr.size:=by rw[Lc (by simpa using fm)];simp
   refine .cells (bo arr.toList off vs).toArray an (by simp) (by simp[CZ];exact cc) (λi v hi C0=>?_) (λi hi=>by simp[CZ];exact af i hi) hl;rw[an,dG];simp only[wG];rw[SO (by simpa using fm)];rcases ab i v C0 with⟨aO,aP⟩ | ⟨aO,aP⟩;·have aU:=(h3.1 aP).1;rw[cv ⟨aO,by omega⟩];exact ay.get aP
   ·rw[b7 (by omega)];have:=aF i v hi aP;rw[an,dG]at this;simpa using this
  ·intro i e bw bl hi ny ag;exact bl (hm.inj _ _ _ _ _ _ hi aG ny av ag)
noncomputable def LW(m:a9)(vs:List al):Option (al×a9):=match vs with
 |[.p id 0]=>(match m.t.get id with
  |some (.cells cs T d')=>bB (Nat.beq T 174&&Nat.ble 2 d') (match cs.get 0 with
   |some .pn=>uN m (.p id 0) [.p id 0] λm=>some (.t [],m)
   |some (.p gC 0)=>bB (Nat.beq id gC) (some (.t [],m)) none| _=>none) none
  |_=>none)
 |_=>none
def adV(vz:Y.P=Tryz.prog)(adW:Y.E=k9){vs:List al}(h:LW m vs=some (v,m'))(hu:bm D vs us)(hm:cm Y D m I M) :
  Spec Y.P 152 us I M λr I' M'=>∃ ba,D.ext ba m.n/\aJ ba v r/\cm Y ba m' I' M':=by
 unfold LW at h;split at h
 ·rename_i id;obtain⟨x,xs,ae,aw,rfl⟩:=hu.ix;obtain rfl:=aw.kU;obtain⟨a,av,rfl⟩:=ae.ptr;split at h
  ·rename_i cs T d' aG;obtain⟨aa,aK⟩:=e3 h;clear h;rw[bG]at aa;obtain⟨bO,wo⟩:=aa;obtain rfl:=bV bO;have wo:=bq wo;obtain⟨arr,an,a5,ay,aF,af,hl⟩:=hm.gQ _ _ _ aG av;have cc:=af _ (by rw[adW];rfl);have cc:arr.size=a.c*2:=by rw[cc,an,dG]
   have aH:Value.pointer (some ⟨a.b,a.o+0,none⟩)=ptr a.b:=by rw[an];rfl
   split at aK
   ·rename_i y2;obtain⟨r6,et,LX⟩:=aF 0 _ (by omega) y2;obtain⟨pre,post,bI⟩:=rB a5;obtain⟨cy,ab,ai,aQ,bp⟩:=adU hm aG av an bI ay aF af hl (l:=[.p id 0]) (vs:=[ptr a.b]) (by simp only[bm,aJ];exact⟨_,_,⟨a,av,aH.symm⟩,rfl,rfl⟩) aK;cases ab;rw[aH,vz,bI];obtain⟨l⟩:=arr;have adX:r6=.pointer none:=by simpa only[aJ]using LX
    rw[an]at et
    match l,et,cc with
    |[],et,_=>simp at et| [_],_,cc=>simp at cc;omega
    |y::w::rest,et,cc=>
     have aL:y=.pointer none:=by simpa[adX]using et
     subst aL;have p1:rest.length=2*(a.c-1):=by simp at cc;omega
     refine Spec.uX (adS pre post a.b w (a.c-1) rest p1) ?_;rintro r I' M'⟨rfl,rfl,rfl⟩;exact⟨D,bh.l7,by simp only[aJ,bm];exact⟨[],rfl,rfl⟩,bp⟩
   ·rename_i gC y2;obtain⟨ab,PS⟩:=e3 aK;obtain rfl:=bV ab;cases PS;obtain⟨r6,et,LX⟩:=aF 0 _ (by omega) y2;obtain⟨bw,yj,rfl⟩:=LX.ptr;rw[av]at yj;cases yj;rw[aH]at et |-;rw[vz];refine Spec.uX (adT a5 (by rw[<-et,an])) ?_;rintro r I' M'⟨rfl,rfl,rfl⟩;exact⟨D,bh.l7,by simp only[aJ,bm];exact⟨[],rfl,rfl⟩,hm⟩
   ·cases aK
  ·cases h
 ·cases h
def lp(I:aN):List aC->aN
 |[]=>I| x::l=>ins (lp I l) x.num x.obj
def GL{I:aN}:∀ {M:List aC} {b:Nat} {o:Obj},lp I M b=some o->I b=some o\/∃ x∈M,x.num=b/\x.obj=o
 |[],b,o,h=>.inl h
 |x::l,b,o,h=>by
  unfold lp ins at h;by_cases e:b=x.num;·subst e;simp only[nG,aZ,g7]at h;exact .inr ⟨x,by simp,rfl,h⟩
  ·simp only[fv e,aY]at h;rcases GL h with h | ⟨y,aa,ab,ai⟩
   ·exact .inl h
   ·exact .inr ⟨y,by simp[aa],ab,ai⟩
def TW{I:aN}:∀ {M:List aC} (aw:(M.map (·.num)).Nodup) {x:aC},x∈M->lp I M x.num=some x.obj
 |y::l,aw,x,h=>by
  simp only[eh,kW]at aw;rcases dv.1 h with rfl | h;·unfold lp ins;simp only[nG,aZ]
  ·have e:x.num≠y.num:=λe=>aw.1 (dO.2 ⟨x,h,e⟩);unfold lp ins;simp only[fv e,aY];exact TW aw.2 h
def LY{I:aN}:∀ {M:List aC} (ak:∀ x∈M,I x.num=none) {b:Nat} {o:Obj},I b=some o->lp I M b=some o
 |[],ak,b,o,h=>h
 |y::l,ak,b,o,h=>by
  have e:b≠y.num:=λe=>by have:=ak y (by simp);rw[<-e,h]at this;cases this
  unfold lp ins;simp only[fv e,aY];exact LY (λx ae=>ak x (by simp[ae])) h
def adY(aw:(M.map (·.num)).Nodup)(ak:∀ x∈M,I x.num=none){o:Obj}(h:gE I M b o):lp I M b=some o:=by
 rcases h with h | ⟨x,aa,rfl,rfl⟩
 ·exact LY ak h
 ·exact TW aw aa
structure wC(I:aN)(M:List aC)(J:aN):Prop where
 kn:∀ b o,gE I M b o->J b=some o
 inv:∀ b o,J b=some o->gE I M b o
def wC.rd(h:wC I M J){a:Addr}(ao:ck I M a n vs)(M':List aC):ck J M' a n vs:=by obtain⟨aa,cs,T,f,ab,ai,aQ⟩:=ao;exact⟨aa,cs,T,f,.inl (h.kn _ _ ab),ai,aQ⟩
def wC.le(h:wC I M J):∀ b o,I b=some o->J b=some o:=λb o ag=>h.kn b o (.inl ag)
def TX(aa:dC I' M' w')(ab:Kept I [] w I' M' w'):wC I' M' (lp I' M')/\dC (lp I' M') [] w'/\Kept I [] w (lp I' M') [] w':=by
 refine⟨⟨λb o h=>adY aa.a2 aa.d h,λb o h=>?_⟩,⟨λb o h=>?_,by simp,by simp,by simp⟩,⟨λb o h=>LY aa.d (ab.le _ _ h),λb o h=>?_,by simp,ab.cE,ab.out,ab.sz⟩⟩
 ·rcases GL h with h | ⟨x,aO,aP,br⟩
  ·exact .inl h
  ·exact .inr ⟨x,aO,aP,br⟩
 ·rcases GL h with h | ⟨x,aO,rfl,rfl⟩
  ·exact aa.i _ _ h
  ·exact aa.m _ aO
 ·rcases GL h with h | ⟨x,aO,rfl,rfl⟩
  ·exact ab.rM _ _ h
  ·rcases ab.tq _ aO with⟨y,aL,_⟩ | h
   ·cases aL
   ·exact .inr h
def Spec.lp{args:List Value}(h:Spec P f args I [] Q):Spec P f args I [] λr J k4=>k4=[]/\(∀ b o,I b=some o->J b=some o)/\∃ I' M',Q r I' M'/\wC I' M' J:=by
 rcases h with⟨aa,ab⟩ | h
 ·refine .inl ⟨aa,λw hw=>?_⟩;refine(ab w hw).mono ?_;rintro e w'⟨v,I',M',ax,aA,bj,cp⟩;obtain⟨aO,aP,br⟩:=TX bj cp;exact⟨v,_,[],ax,⟨rfl,br.le,I',M',aA,aO⟩,aP,br⟩
 ·refine .inr λw hw=>?_;obtain⟨v,w',I',M',ax,aA,bj,cp⟩:=h w hw;obtain⟨aO,aP,br⟩:=TX bj cp;exact⟨v,w',_,[],ax,⟨rfl,br.le,I',M',aA,aO⟩,aP,br⟩
noncomputable def yu{α:Type}(l:List α):a0 α:=a0.uJ l .nil 0 id
def TY{l:List α}{v:α}(h:(yu l).get i=some v):l[i]?=some v:=by
 obtain⟨t,aa,ab⟩:=a0.uP l (.nil:a0 α) 0;unfold yu at h;rw[aa]at h;rcases ab _ _ h with⟨_,h⟩ | ⟨_,h⟩
 ·simpa using h
 ·cases h
noncomputable def LZ:GT:=λg=>bB (Nat.beq g 0) (some (yu (nY.map (al.i .i64)))) (bB (Nat.beq g 1) (some (yu (q2.map al.s))) (bB (Nat.beq g 3) (some (yu [.i .i64 0,.i .i64 1,.s [63],.i .i64 0,.i .i64 (-1),.s [42],.i .i64 1,.i .i64 (-1),.s [43]])) (bB (Nat.beq g 6) (some (yu (jn.map (al.i .u8)))) none)))
def L0{f:α->al}{h:α->Value}(aD:∀ x D,aJ D (f x) (h x)){l:List α}(ah:(yu (l.map f)).get i=some v):∃ x,(l.map h).toArray[i]?=some x/\∀ D,aJ D v x:=by
 have:=TY ah;rw[G5]at this;cases ae:l[i]? with
 |none=>rw[ae]at this;cases this| some x=>rw[ae]at this;simp only[iz,g7]at this;subst this;exact⟨h x,by simp[ae],aD x⟩
def TZ(bO:ih I jn):CS LZ I:=by
 intro g cs h;unfold LZ at h;rw[iw,iw,iw,iw]at h;cases aa:Nat.beq g 0 with
 |true=>rw[aa,aZ]at h;obtain rfl:=bV aa;have h:=m0 h;subst h;obtain⟨T,f,h⟩:=bO.c;exact⟨_,T,f,h,λi v ah=>L0 (f:=al.i .i64) (h:=Value.int .i64) (λx D=>by simp only[aJ]) ah⟩
 |false=>
 rw[aa,aY]at h;cases ab:Nat.beq g 1 with
 |true=>rw[ab,aZ]at h;obtain rfl:=bV ab;have h:=m0 h;subst h;obtain⟨T,f,h⟩:=bO.s;exact⟨_,T,f,h,λi v ah=>L0 (f:=al.s) (h:=λl=>Value.string (strOf l)) (λx D=>by simp only[aJ,strOf]) ah⟩
 |false=>
 rw[ab,aY]at h;cases ai:Nat.beq g 3 with
 |true=>
  rw[ai,aZ]at h;obtain rfl:=bV ai;have h:=m0 h;subst h;obtain⟨T,f,h⟩:=bO.p;refine⟨_,T,f,h,λi v ah=>?_⟩;have ah:=TY ah;rcases i with _ | _ | _ | _ | _ | _ | _ | _ | _ | i
  all_goals first | (cases ah;exact⟨_,rfl,λD=>by simp only[aJ]<;>rfl⟩) | (simp at ah)
 |false=>
 rw[ai,aY]at h;cases aQ:Nat.beq g 6 with
 |true=>rw[aQ,aZ]at h;obtain rfl:=bV aQ;have h:=m0 h;subst h;obtain⟨_,_,T,f,h⟩:=bO.d;exact⟨_,T,f,h,λi v ah=>L0 (f:=al.i .u8) (h:=Value.int .u8) (λx D=>by simp only[aJ]) ah⟩
 |false=>
 rw[aQ,aY]at h;cases h
noncomputable def GM:List UInt8->Nat->Nat->Int
 |[],_,_=>-1| b::l,c,k=>bB (Nat.beq b.toNat c) (Int.ofNat k) (GM l c (Nat.succ k))
def T0(c:UInt8):∀ (l:List UInt8) (k:Nat),GM l c.toNat k=if Lib.indexByte l c=-1 then -1 else Lib.indexByte l c+k
 |[],k=>rfl
 |b::l,k=>by
  have dE:=Lib.indexByte_ge l c;unfold GM Lib.indexByte;rw[iw];by_cases h:b=c;·subst h;simp
  ·have aa:Nat.beq b.toNat c.toNat=false:=by
    cases ag:Nat.beq b.toNat c.toNat with
    |false=>rfl| true=>exact absurd (UInt8.toNat_inj.1 (bV ag)) h
   have ab:(b == c)=false:=by simpa using h
   rw[aa,aY,ab,T0 c l];simp only[iL,jz];by_cases ai:Lib.indexByte l c=-1;·simp[ai]
   ·have aQ:(Lib.indexByte l c == -1)=false:=by simpa using ai
    rw[aQ,b7 ai];simp only[iL,jz];rw[b7 (by omega)];omega
def yv:tk Tryz.prog:=ade (by kernel_rfl)
def yw:Tryz.prog.follows .mixedOrders=true:=by kernel_rfl
noncomputable def T1:e2:=⟨Tryz.prog,k9,λ_=>none,λ_ _ _=>none⟩
noncomputable def T2:List rH:=[.map [(.i .u8 123,.f 192 [] []),(.i .u8 34,.f 193 [] []),(.i .u8 91,.f 194 [] []),(.i .u8 46,.f 195 [] []),(.i .u8 47,.f 219 [] [.p 1 0]),(.i .u8 38,.f 219 [] [.p 2 0]),(.i .u8 33,.f 219 [] [.p 3 0]),(.i .u8 63,.f 219 [] [.p 4 0]),(.i .u8 42,.f 219 [] [.p 5 0]),(.i .u8 43,.f 219 [] [.p 6 0]),(.i .u8 40,.f 219 [] [.p 7 0]),(.i .u8 41,.f 219 [] [.p 8 0]),(.i .u8 60,.f 197 [] []),(.i .u8 62,.f 219 [] [.p 10 0]),(.i .u8 58,.f 219 [] [.p 11 0]),(.i .u8 65,.f 198 [] []),(.i .u8 66,.f 198 [] []),(.i .u8 67,.f 198 [] []),(.i .u8 68,.f 198 [] []),(.i .u8 69,.f 198 [] []),(.i .u8 70,.f 198 [] []),(.i .u8 71,.f 198 [] []),(.i .u8 72,.f 198 [] []),(.i .u8 73,.f 198 [] []),(.i .u8 74,.f 198 [] []),(.i .u8 75,.f 198 [] []),(.i .u8 76,.f 198 [] []),(.i .u8 77,.f 198 [] []),(.i .u8 78,.f 198 [] []),(.i .u8 79,.f 198 [] []),(.i .u8 80,.f 198 [] []),(.i .u8 81,.f 198 [] []),(.i .u8 82,.f 198 [] []),(.i .u8 83,.f 198 [] []),(.i .u8 84,.f 198 [] []),(.i .u8 85,.f 198 [] []),(.i .u8 86,.f 198 [] []),(.i .u8 87,.f 198 [] []),(.i .u8 88,.f 198 [] []),(.i .u8 89,.f 198 [] []),(.i .u8 90,.f 198 [] []),(.i .u8 95,.f 198 [] []),(.i .u8 97,.f 198 [] []),(.i .u8 98,.f 198 [] []),(.i .u8 99,.f 198 [] []),(.i .u8 100,.f 198 [] []),(.i .u8 101,.f 198 [] []),(.i .u8 102,.f 198 [] []),(.i .u8 103,.f 198 [] []),(.i .u8 104,.f 198 [] []),(.i .u8 105,.f 198 [] []),(.i .u8 106,.f 198 [] []),(.i .u8 107,.f 198 [] []),(.i .u8 108,.f 198 [] []),(.i .u8 109,.f 198 [] []),(.i .u8 110,.f 198 [] []),(.i .u8 111,.f 198 [] []),(.i .u8 112,.f 198 [] []),(.i .u8 113,.f 198 [] []),(.i .u8 114,.f 198 [] []),(.i .u8 115,.f 198 [] []),(.i .u8 116,.f 198 [] []),(.i .u8 117,.f 198 [] []),(.i .u8 118,.f 198 [] []),(.i .u8 119,.f 198 [] []),(.i .u8 120,.f 198 [] []),(.i .u8 121,.f 198 [] []),(.i .u8 122,.f 198 [] [])],.cells [.i .u8 3] 5,.cells [.i .u8 4] 5,.cells [.i .u8 5] 5,.cells [.i .u8 6] 5,.cells [.i .u8 7] 5,.cells [.i .u8 8] 5,.cells [.i .u8 9] 5,.cells [.i .u8 10] 5,.cells [.i .u8 11] 5,.cells [.i .u8 12] 5,.cells [.i .u8 13] 5]
def adZ:(bz (po T1 (hC T1 100000) 178 [] ⟨.nil,0⟩) none λp=>bz (readAll p.2.t 0 p.2.n) none λL=>some (p.1,L))=some (al.m 0,T2):=by kernel_rfl
noncomputable def L1:js:=λg vs m=>bB (Nat.beq g 242) (match vs with
 |[.s l,.i .u8 (.ofNat k)]=>bB (Nat.blt k 256) (some (.i .i64 (GM l k 0),m)) none| _=>none) (bB (Nat.beq g 172) (match vs with
 |[v]=>some (v,m)| _=>none) (bB (Nat.beq g 178) (match vs with
 |[]=>LR (.m 0) T2 m| _=>none) (bB (Nat.beq g 152) (LW m vs) none)))
noncomputable def iy:e2:=⟨Tryz.prog,k9,LZ,L1⟩
def Am:uW iy:=by
 intro g vs m v m' h D I M us hu hm;change L1 g vs m=some (v,m')at h;unfold L1 at h;rw[iw]at h;cases aa:Nat.beq g 242 with
 |true=>
  rw[aa,aZ]at h;obtain rfl:=bV aa;split at h
  ·rename_i l k;rw[iw]at h;cases af:Nat.blt k 256 with
   |false=>rw[af]at h;cases h
   |true=>
    rw[af,aZ]at h;have iJ:k<256:=Nat.blt_eq ▸ af;cases h;simp only[bm,aJ]at hu;obtain⟨x,xs,rfl,⟨y,km,rfl,rfl,rfl⟩,rfl⟩:=hu;have T3:(UInt8.ofNat k).toNat=k:=by simp;omega
    have:=N' (I:=I) (M:=M) ⟨l.toArray⟩ (UInt8.ofNat k);rw[T3]at this;refine Spec.uX this ?_;rintro r I' M'⟨rfl,rfl,rfl⟩;refine⟨D,bh.l7,?_,hm⟩;simp only[aJ];have:=T0 (UInt8.ofNat k) l 0;rw[T3]at this;rw[this];split;·rename_i e;simp[e]
    ·simp
  ·cases h
 |false=>
 rw[aa,aY,iw]at h;cases ab:Nat.beq g 172 with
 |true=>
  rw[ab,aZ]at h;obtain rfl:=bV ab;split at h;·cases h;simp only[bm]at hu;obtain⟨x,xs,hu,rfl,rfl⟩:=hu;refine Spec.uX (H3 _) ?_;rintro r I' M'⟨rfl,rfl,rfl⟩;exact⟨D,bh.l7,hu,hm⟩
  ·cases h
 |false=>
 rw[ab,aY,iw]at h;cases ai:Nat.beq g 178 with
 |true=>
  rw[ai,aZ]at h;obtain rfl:=bV ai;split at h;·obtain⟨⟨qy,uU⟩,aQ,bp⟩:=bX adZ;obtain⟨L,bM,dP⟩:=bX bp;cases dP;exact adO (Y:=iy) aT yv yw aQ bM (λD us h=>by simpa only[bm]using h) h hu hm
  ·cases h
 |false=>
 rw[ai,aY,iw]at h;cases aQ:Nat.beq g 152 with
 |true=>rw[aQ,aZ]at h;obtain rfl:=bV aQ;exact adV rfl rfl h hu hm
 |false=>
 rw[aQ,aY]at h;cases h
def ad0(bO:ih I jn)(h:po iy (hC iy f) g args ⟨.nil,0⟩=some (v,m'))(hu:bm (λ_=>none) args us) :
  Spec Tryz.prog g us I [] λr J k4=>k4=[]/\(∀ b o,I b=some o->J b=some o)/\∃ I' M' ba,aJ ba v r/\cm iy ba m' I' M'/\wC I' M' J:=by
 have hm:cm iy (λ_=>none) ⟨.nil,0⟩ I []:=⟨λid e a h bf=>(by cases bf),λid gC e bc a bw h aa bf=>(by cases bf),λid a h=>(by cases h),TZ bO⟩;refine Spec.uX (reckon (Y:=iy) aT yv Am yw h hu hm).lp ?_;rintro r J k4⟨rfl,aa,I',M',⟨ba,-,ab,ai⟩,aQ⟩;exact⟨rfl,aa,I',M',ba,ab,ai,aQ⟩
def nB{X:Bool}{p:Prop}(b:X=true)(h:X=false):p:=by rw[b]at h;cases h
def h2{X:Bool}{p:Prop}(b:X=false)(h:X=true):p:=by rw[b]at h;cases h
def bb.T4(ct:wC I M J){os:bb}{xs:List Value}{e size:Nat}(h:os.ok size xs)(a5:∀ x∈os.aV e,x∈M)(ag:os.n*b<=140737488355328):dt J (os.a.map λg=>⟨g,0,none⟩) os.n os.c size b xs:=by
 obtain⟨a,n,c,cur⟩:=os;cases a with
 |none=>obtain⟨aa,ab⟩:=h.nil rfl;exact⟨h.len,⟨by simp only at aa ab |-;omega,ag⟩,.inl aa⟩
 |some g=>obtain⟨aa,ab,ai,aQ⟩:=h.cap g rfl;exact⟨h.len,⟨ab,ag⟩,.inr ⟨⟨g,0,none⟩,rfl,rfl,cur.toArray,e,(0,0),ct.kn _ _ (.inr ⟨⟨g,.cells cur.toArray e (0,0)⟩,a5 _ (.head _),rfl,rfl⟩),by simpa using aQ⟩⟩
structure L2(I:aN)(o:lY)(v:Value):Prop where
 x:∃ a n c,v=np o (.slice a n c)/\dt I a n c 3 0 (o.fO.flatMap bN.cells)
def L2.mono{v:Value}(h:L2 I o v)(a':∀ b o,I b=some o->I' b=some o):L2 I' o v:=by obtain⟨a,n,c,aa,ab⟩:=h.x;exact⟨a,n,c,aa,ab.mono a'⟩
def GN(v:α)(x:R)(f:α->R):bz (some v) x f=f v:=rfl
def ad1(l cd:List UInt8)(a b bw fe:Int):ru Tryz.prog k9 8 59 (.a [.s l,.i .i64 a,.i .i64 b]) (.a [.s cd,.i .i64 bw,.i .i64 fe])=some (nq l cd&&(l2 a bw&&l2 b fe)):=by
 obtain⟨i36,ad2,ad3⟩:∃ i,k9 59=some i/\i.bn=.struct [(9,0),(3,1),(3,2)]:=⟨_,rfl,rfl⟩;obtain⟨i9,c8,ad4⟩:∃ i,k9 9=some i/\i.bn=.string:=⟨_,rfl,rfl⟩;obtain⟨i3,ai,sk⟩:∃ i,k9 3=some i/\i.bn=.int .i64:=⟨_,rfl,rfl⟩;have aH:Ko Tryz.prog 59=true:=by kernel_rfl
 have aK:∀ k a b,ru Tryz.prog k9 (k+1) 3 (.i .i64 a) (.i .i64 b)=some (l2 a b):=λk a b=>by simp only[ru,ai,GN,sk];rfl
 have ag:∀ k a b,ru Tryz.prog k9 (k+1) 9 (.s a) (.s b)=some (nq a b):=λk a b=>by simp only[ru,c8,GN,ad4]
 rw[ru];simp only[ad2,GN,ad3,aH];have ti:∀ mz ee eH,uL k9 9 0 [.s mz,ee,eH]=some (.s mz):=λ_ _ _=>rfl;have k':∀ mz ee eH,uL k9 3 1 [mz,.i .i64 ee,eH]=some (.i .i64 ee):=λ_ _ _=>rfl;have mm:∀ mz ee eH,uL k9 3 2 [mz,ee,.i .i64 eH]=some (.i .i64 eH):=λ_ _ _=>rfl;simp only[zY,ti,k',mm,GN,aK,ag,iw];cases nq l cd<;>cases l2 a bw<;>cases l2 b fe<;>rfl
def An(x y:bN):Bool:=nq x.name.data.toList y.name.data.toList&&(l2 x.lo y.lo&&l2 x.hi y.hi)
def T5(x y:bN):An x y=true ↔ x=y:=by
 obtain⟨⟨⟨n⟩⟩,l,h⟩:=x;obtain⟨⟨⟨fq⟩⟩,cd,bf⟩:=y;unfold An;rw[yh,we,we];simp only[bG,eC,bN.mk.injEq,G3,Array.mk.injEq];constructor
 ·rintro⟨aa,ab,ai⟩;exact⟨aa,by omega,by omega⟩
 ·rintro⟨aa,ab,ai⟩;exact⟨aa,by omega,by omega⟩
def bN.T6(D:bh)(x:bN):bm D [.s x.name.data.toList,.i .i64 x.lo,.i .i64 x.hi] x.cells:=by simp[bm,aJ,bN.cells]
def fk.ad5{y:Operand}{p q:bN}{V:Value->Prop}{other:Prop}(h:V (.bool (!An p q))) :
  fk Tryz.prog .neq 59 x y (.val (.agg #[.string p.name,.int .i64 p.lo,.int .i64 p.hi])) (.val (.agg #[.string q.name,.int .i64 q.lo,.int .i64 q.hi])) V other:=by
 refine SF (X:=⟨Tryz.prog,k9,[],0,0,default,λ_=>none,[],none⟩) (D:=λ_=>none) (v:=.b (!An p q)) aT ?_ (bN.T6 _ p) (bN.T6 _ q) (λu hu=>by simp only[aJ]at hu;rw[hu];exact h);show CD Tryz.prog k9 .neq 59 _ _=_;unfold CD;rw[ad1,show Tryz.prog.eqGuardType Tryz.prog.depth 59=false by kernel_rfl];rfl
def ad6{l m:List α}(ay:k<l.length)(hm:k<m.length)(h:l.take k=m.take k)(e:l[k]=m[k]):l.take (k+1)=m.take (k+1):=by rw[jw ay,jw hm,h,e]
def ad7{l m:List α}(ay:k<l.length)(hm:k<m.length)(e:¬ l[k]=m[k]):¬ l=m:=λh=>by subst h;exact e rfl
def ad8{fe:Nat}{cd:List bN}(h:dt I a n c 3 b (l.flatMap bN.cells))(bf:dt I bw fq c' 3 fe (cd.flatMap bN.cells))(ag:n<=140737488355327):Spec Tryz.prog 81 [.slice a n c,.slice bw fq c'] I M0 λv I' M'=>(∃ r,v=.bool r/\(r=true ↔ l=cd))/\I'=I/\M'=M0:=by
 refine b8 [] aT Tryz.func81 rfl rfl rfl ?_;intro B au;have ay:l.length=n:=by have:=h.len;rw[fo _ 3 bN.cV]at this;omega
 have nK:cd.length=fq:=by have:=bf.len;rw[fo _ 3 bN.cV]at this;omega
 by_cases aw:n=fq
 rotate_left
 ·refine aR.mk (λ_=>?_) (λh=>absurd h (by simp;omega));exact⟨_,_,.refl,⟨false,rfl,λe=>(by cases e),λe=>absurd (by rw[<-ay,<-nK,e]) aw⟩,rfl,rfl⟩
 subst aw;refine aR.mk (λh=>absurd h (by simp)) (λ_=>?_);refine dh.inv (ι:=Nat) (λk=>{ ca:=[(0,.val (.slice a n c)),(1,.val (.slice bw n c')),(12,.val (.int .i64 n)),(13,.val (.int .i64 k))],cQ:=I,dq:=M0 }) (λk=>k<=n/\l.take k=cd.take k) (λk=>n-k) ?_ ?_
 ·exact⟨0,⟨bk _,rfl⟩,.refl,ez,.nil⟩
 rintro k⟨af,az⟩;refine aR.mk (λab=>?_) (λab=>?_)
 ·have aU:k<n:=by have:(k:Int)<(n:Int):=c9 ab;omega
  have fK:k<l.length:=by omega
  have oY:k<cd.length:=by omega
  obtain⟨ad,cg,bD⟩:=h.row bN.cV aU fK;obtain⟨M5,ad9,wu⟩:=bf.row bN.cV aU oY;have hex:=ad6 fK oY az;have bl:=ad7 fK oY;generalize l[k]=x at bD hex bl;generalize cd[k]=y at wu hex bl;refine cX.draw aT rfl rfl rfl ?_;refine bs.mk ad k cg rfl aU ?_;refine aM.mk _ (bD _) ?_;refine bs.mk M5 k ad9 rfl aU ?_;refine aM.mk _ (wu _) ?_;refine fk.ad5 (p:=x) (q:=y) ?_;refine aR.mk (λe=>?_) (λe=>?_);·have aA:(!An x y)=true:=e;rw[mK,<-Bool.not_eq_true,T5]at aA;exact⟨_,_,.refl,⟨false,rfl,λe=>(by cases e),λe=>absurd e (bl aA)⟩,rfl,rfl⟩
  ·have aA:(!An x y)=false:=e;rw[Bx,T5]at aA;refine a6.mk _ (cY (i:=k) (by omega)) ?_;exact⟨k+1,⟨⟨aU,hex aA⟩,by omega⟩,.refl,ez,.nil⟩
 ·have dE:k=n:=by have:¬ (k:Int)<(n:Int):=dj ab;omega
  subst dE;rw[hN (by omega),hN (by omega)]at az;exact⟨_,_,.refl,⟨true,rfl,λ_=>az,λ_=>rfl⟩,rfl,rfl⟩
def aea(h:dt I a n c 3 0 (o.fO.flatMap bN.cells))(bf:dt I bw fq c' 3 0 (o'.fO.flatMap bN.cells))(ag:n<=140737488355327) :
  Spec Tryz.prog 45 [np o (.slice a n c),np o' (.slice bw fq c')] I M0 λv I' M'=>(∃ r,v=.bool r/\(r=true ↔ o=o'))/\I'=I/\M'=M0:=by
 refine b8 [] aT Tryz.func45 rfl rfl rfl ?_;intro B au;obtain⟨k,aB,l⟩:=o;obtain⟨cb,sU,cd⟩:=o';refine bC.mk (λax=>?_) (λax=>?_)
 rotate_left
 ·have aA:k≠cb:=λe=>by subst e;simp at ax
  exact⟨_,_,.refl,⟨false,rfl,λe=>(by cases e),λe=>absurd (congrArg lY.ok e) aA⟩,rfl,rfl⟩
 have aA:k=cb:=by simpa using ax
 refine bC.mk (λbj=>?_) (λbj=>?_)
 rotate_left
 ·have cp:aB≠sU:=λe=>by subst e;simp at bj
  exact⟨_,_,.refl,⟨false,rfl,λe=>(by cases e),λe=>absurd (congrArg lY.aB e) cp⟩,rfl,rfl⟩
 have cp:aB=sU:=by have:(aB:Int)=(sU:Int):=c9 bj;omega
 refine a7.whole _ (ad8 h bf ag) ?_;rintro v I' M' -⟨⟨r,rfl,ao⟩,rfl,rfl⟩;refine⟨_,_,.refl,⟨r,rfl,?_⟩,rfl,rfl⟩;rw[ao];simp[aA,cp]
def dM(n:Nat)(c:bg):bg:=bif Nat.beq c.ap 3 then { c with aB:=c.aB+n }else c
def f'(n:Nat)(c:bg):(dM n c).ap=c.ap:=by unfold dM;cases Nat.beq c.ap 3<;>rfl
def jX(n:Nat)(c:bg):(dM n c).n=c.n:=by unfold dM;cases Nat.beq c.ap 3<;>rfl
def lv{c:bg}(h:c.ap=3):dM n c=⟨c.n,c.aB+n,c.ap⟩:=by unfold dM;rw[h];rfl
def GO{c:bg}(h:c.ap≠3):dM n c=c:=by
 unfold dM;have:Nat.beq c.ap 3=false:=by rw[sv];exact λe=>h (bV e)
 rw[this];rfl
def T7(n aB k:Nat):dM n (og aB k)=og (aB+n) k:=rfl
def py(n:Nat)(f:eJ):eJ:=⟨f.a2,f.pl+n,f.times,f.aB+n,f.n⟩
def nC(n:Nat)(S:gk):gk:=⟨λk p=>dM n (S.kn k p),S.op.map (py n),S.used⟩
def L3(n:Nat):tZ->tZ
 | .begin k a=>.begin k (a+n)| .hand c=>.hand (dM n c)
def T8(n:Nat):EY->EY
 | .err e=>.err e| .ok c S=>.ok (dM n c) (nC n S)
def Dj(n:Nat):sL->sL
 | .stop e=>.stop (T8 n e)| .more q S=>.more (L3 n q) (nC n S)
structure g6(P cu:bu)(n:Nat):Prop where
 ns:cu.ns=P.ns
 base:cu.base=P.base+n
 s:∃ t:ByteArray,t.size=n/\cu.s=t++P.s
section
variable{P cu:bu}{n:Nat}
def g6.at_(h:g6 P cu n)(k:Nat):cu.at_ k=P.at_ k:=by unfold bu.at_;rw[h.ns]
def g6.byte(h:g6 P cu n)(a:Nat):cu.s.data[a+n]?=P.s.data[a]?:=by obtain⟨t,aa,ab⟩:=h.s;rw[ab,Lu,Array.getElem?_append_right (by show t.size<=_;omega)];congr 1;show a+n-t.size=a;omega
def g6.size(h:g6 P cu n):cu.s.size=P.s.size+n:=by obtain⟨t,aa,ab⟩:=h.s;rw[ab,Bu];omega
def g6.pre(h:g6 P cu n)(t:ByteArray)(a:Nat):preB cu.s t (a+n)=preB P.s t a:=by
 have aq:=h.size;obtain⟨u,aa,ab⟩:=h.s;unfold preB;have ax:decide (a+n+t.size<=cu.s.size)=decide (a+t.size<=P.s.size):=decide_eq_decide.2 (by omega);have aA:cu.s.extract (a+n) (a+n+t.size)=P.s.extract a (a+t.size):=by
  rw[ab];apply pA;rw[uY,uY,Lu,Array.extract_append];have z:u.data.size=n:=aa;have:u.data.extract (a+n) (a+n+t.size)=#[]:=by apply D6;simp;omega
  rw[this,Array.empty_append,z,Nat.add_sub_cancel,show a+n+t.size-n=a+t.size by omega]
 rw[ax,aA]
def g6.alone(h:g6 P cu n)(k a:Nat):sK cu k (a+n)=(sK P k a).map (dM n):=by
 unfold sK;simp only[h.at_,h.byte,h.pre];cases decide ((P.at_ k).d.k=0)with
 |true=>rfl
 |false=>
  cases decide ((P.at_ k).d.k=1)with
  |true=>
   simp only[aZ,aY];cases P.s.data[a]? with
   |none=>rfl
   |some b=>
    simp only;cases lU (P.at_ k).d b.toNat with
    |true=>simp only[aZ,iz,T7];rw[zd]| false=>rfl
  |false=>
   cases decide ((P.at_ k).d.k=2)with
   |true=>
    simp only[aZ,aY];cases preB P.s (P.at_ k).d.t a with
    |true=>simp only[aZ,iz,T7];rw[zd]| false=>rfl
   |false=>
    simp only[aY];cases decide ((P.at_ k).d.k=6)&&decide ((P.at_ k).d.hi=0)<;>rfl
def g6.next(h:g6 P cu n)(f:eJ):fX cu (py n f)=((fX P f).1,(fX P f).2+n):=by
 have av:cu.at_ (py n f).a2=P.at_ f.a2:=h.at_ f.a2;unfold fX;simp only[av];cases decide ((P.at_ f.a2).d.k=4)with
 |true=>rfl| false=>cases decide ((P.at_ f.a2).d.k=5)<;>rfl
def aeb(n:Nat):EX->EX
 | .loop=>.loop| .on f c d=>.on (py n f) (dM n c) d
def g6.handle(h:g6 P cu n)(f:eJ){c:bg}(ak:cZ c):vQ cu (py n f) (dM n c)=aeb n (vQ P f c):=by
 have av:cu.at_ (py n f).a2=P.at_ f.a2:=h.at_ f.a2;unfold vQ;simp only[av,f'];have xp:Nat.beq c.ap 2=false->c.ap=3:=λe=>by
  rcases ak with ab | ab;·rw[ab]at e;cases e
  ·exact ab
 cases decide ((P.at_ f.a2).d.k<4)with
 |true=>rfl
 |false=>
  cases decide ((P.at_ f.a2).d.k=4)with
  |true=>
   simp only[aZ,aY];cases ab:Nat.beq c.ap 2 with
   |true=>rfl| false=>rw[lv (xp ab)];rfl
  |false=>
   cases decide ((P.at_ f.a2).d.k=5)with
   |true=>
    simp only[aZ,aY];cases Nat.beq c.ap 3<;>rfl
   |false=>
    cases decide ((P.at_ f.a2).d.k=6)with
    |true=>
     simp only[aZ,aY];cases ab:Nat.beq c.ap 2 with
     |true=>
      simp only[aZ];show(bif decide ((f.times:Int)<_)then _ else _)=_;cases decide ((f.times:Int)<(P.at_ f.a2).d.lo)<;>rfl
     |false=>
      rw[lv (xp ab)];simp only[aY];have e:decide (c.aB+n=(py n f).aB)=decide (c.aB=f.aB):=decide_eq_decide.2 (by show c.aB+n=f.aB+n ↔ _;omega);rw[e];cases decide ((P.at_ f.a2).d.hi=-1)&&decide (c.aB=f.aB)<;>rfl
    |false=>
     simp only[aY];cases decide ((P.at_ f.a2).d.k=7)with
     |true=>
      simp only[aZ];cases Nat.beq c.ap 3<;>rfl
     |false=>
      simp only[aY];cases decide ((P.at_ f.a2).d.k=8)with
      |true=>
       simp only[aZ];cases Nat.beq c.ap 2<;>rfl
      |false=>
       simp only[aY];cases ai:Nat.beq c.ap 3 with
       |true=>rw[lv (bV ai)];rfl| false=>rfl
def T9(kn:Nat->Nat->bg)(k p:Nat)(c:bg):(λi j=>dM n (jO kn k p c i j))=jO (λi j=>dM n (kn i j)) k p (dM n c):=by
 funext i j;unfold jO;cases Nat.beq i k&&Nat.beq j p<;>rfl
def g6.finish(h:g6 P cu n)(c:bg)(S:gk):xD cu (dM n c) (nC n S)=Dj n (xD P c S):=by
 unfold xD;show(match S.op.map (py n)with
  |[]=>_| f::rest=>_)=_
 have e:∀ f:eJ,jO (λk p=>dM n (S.kn k p)) f.a2 (f.pl+n-cu.base) (dM n c)=λk p=>dM n (jO S.kn f.a2 (f.pl-P.base) c k p):=λf=>by rw[T9,h.base,lu]
 match S.op with
 |[]=>rfl| [f]=>show sL.stop (.ok _ ⟨jO (λk p=>dM n (S.kn k p)) f.a2 (f.pl+n-cu.base) (dM n c),[],S.used⟩)=_;rw[e];rfl| f::r::a3=>show sL.more (.hand _) ⟨jO (λk p=>dM n (S.kn k p)) f.a2 (f.pl+n-cu.base) (dM n c),(r::a3).map (py n),S.used⟩=_;rw[e];rfl
def g6.ask(h:g6 P cu n)(S:gk):xE cu (nC n S)=Dj n (xE P S):=by
 unfold xE;show(match S.op.map (py n)with
  |[]=>_| f::_=>_)=_
 match S.op with
 |[]=>rfl
 |f::rest=>
  simp only[eh,h.next];have e:(nC n S).kn (fX P f).1 ((fX P f).2+n-cu.base)=dM n (S.kn (fX P f).1 ((fX P f).2-P.base)):=by rw[h.base,lu];rfl
  rw[e,f'];cases Nat.beq (S.kn (fX P f).1 ((fX P f).2-P.base)).ap 0 with
  |true=>rfl| false=>cases Nat.beq (S.kn (fX P f).1 ((fX P f).2-P.base)).ap 1<;>rfl
def g6.step(h:g6 P cu n){S:gk}{q:tZ}(aK:ub P S q):BS cu (L3 n q) (nC n S)=Dj n (BS P q S):=by
 cases q with
 |begin k a=>
  obtain⟨cU,b9,df,eb,hg⟩:=aK;have ag:t' cu k (a+n) (nC n S)=nC n (t' P k a S):=by
   unfold t';have ax:a+n-cu.base=a-P.base:=by rw[h.base,lu]
   rw[ax];have aA:(nC n S).kn k (a-P.base)=S.kn k (a-P.base):=GO (by omega);rw[aA];show(⟨jO (λi j=>dM n (S.kn i j)) k (a-P.base) _,_,_⟩:gk)=⟨λi j=>dM n (jO S.kn k (a-P.base) _ i j),_,_⟩;rw[T9,GO (c:={ S.kn k (a-P.base)with ap:=1 }) (by show(1:Nat)≠3;decide)];rfl
  show zk cu k (a+n) (nC n S)=Dj n (zk P k a S);unfold zk;rw[h.alone,ag];cases sK P k a with
  |none=>exact h.ask _| some c=>exact h.finish _ _
 |hand c=>
  obtain⟨f,rest,ji,ak,aF⟩:=aK;show zl cu (dM n c) (nC n S)=Dj n (zl P c S);unfold zl;have e:(nC n S).op=py n f::rest.map (py n):=by show S.op.map (py n)=_;rw[ji];rfl
  rw[e,ji];simp only;rw[h.handle f ak];cases vQ P f c with
  |loop=>rfl
  |on gw c' done=>
   cases done with
   |true=>exact h.finish c' ⟨S.kn,gw::rest,S.used+1⟩| false=>exact h.ask ⟨S.kn,gw::rest,S.used+1⟩
def g6.go(h:g6 P cu n)(pg:oh P):∀ (m:Nat) {q:tZ} {S:gk},sM P S->ub P S q->ua cu m (L3 n q) (nC n S)=T8 n (ua P m q S)
 |0,q,S,_,_=>rfl
 |m+1,q,S,aa,ab=>by
  have s1:=X' pg aa ab;unfold ua;rw[h.step ab];generalize BS P q S=x at s1
  match x,s1 with
  | .stop e,s1=>rfl| .more di tf,s1=>exact h.go pg m s1.1 s1.2
def ho(n:Nat)(l:List (Nat×Nat)):List (Nat×Nat):=l.map λx=>(x.1,x.2+n)
def hp(n:Nat)(l:List bN):List bN:=l.map λc=>⟨c.name,c.lo+n,c.hi+n⟩
section
variable{kn:Nat->Nat->bg}{base:Nat}
def L4:∀ (L:List Nat) (a:Nat),iq (λk p=>dM n (kn k p)) (base+n) L (a+n)=ho n (iq kn base L a)
 |[],a=>rfl
 |k::L,a=>by
  simp only[iq,lu,f',jX];cases ai:Nat.beq (kn k (a-base)).ap 3 with
  |true=>
   have e:(dM n (kn k (a-base))).aB=(kn k (a-base)).aB+n:=by rw[lv (bV ai)]
   rw[e,L4 L];cases Nat.beq (kn k (a-base)).n 0<;>rfl
  |false=>exact L4 L a
def T':∀ (L:List Nat) (a:Nat),jo (λk p=>dM n (kn k p)) (base+n) L (a+n)=ho n (jo kn base L a)
 |[],a=>rfl
 |k::L,a=>by
  simp only[jo,lu,f',jX];cases ai:Nat.beq (kn k (a-base)).ap 3 with
  |true=>cases Nat.beq (kn k (a-base)).n 0<;>rfl
  |false=>exact T' L a
def Ua:∀ (L:List Nat) (a:Nat),allM kn base L a->allM (λk p=>dM n (kn k p)) (base+n) L (a+n)
 |[],a,h=>trivial
 |k::L,a,⟨aa,ab⟩=>by
  refine⟨?_,?_⟩;·simp only[lu,f'];exact aa
  ·have:=Ua L _ ab;simp only[lu,lv aa];exact this
def Ub:∀ (L:List Nat) (a:Nat),o9 kn base L a->o9 (λk p=>dM n (kn k p)) (base+n) L (a+n)
 |[],a,h=>h| k::L,a,.inl h=>.inl (by simp only[lu,f'];exact h)| k::L,a,.inr ⟨aa,ab⟩=>.inr ⟨by simp only[lu,f'];exact aa,Ub L a ab⟩
def hy.bn{hi:Int}{a:Nat}{l:List (Nat×Nat)}(h:hy kn base k hi t a l):hy (λk p=>dM n (kn k p)) (base+n) k hi t (a+n) (ho n l):=by
 induction h with
 |stop aa=>exact .stop aa| fail aa ab=>exact .fail aa (by simp only[lu,f'];exact ab)
 | @more t a l ag aa ab r a8=>
  have:=hy.more (kn:=λk p=>dM n (kn k p)) (base:=base+n) (k:=k) (hi:=hi) (t:=t) (a:=a+n) (l:=ho n l) ag aa (by simp only[lu,f'];exact ab) (by simp only[lu,lv ab];exact a8);simp only[lu,jX]at this;have e:ho n ((bif Nat.beq (kn k (a-base)).n 0 then []else [(k,a)])++l)=(bif Nat.beq (kn k (a-base)).n 0 then []else [(k,a+n)])++ho n l:=by cases Nat.beq (kn k (a-base)).n 0<;>rfl
  rw[e];exact this
end
def g6.parts(h:g6 P cu n){kn:Nat->Nat->bg}{a:Nat}{l:List (Nat×Nat)}(aH:hz P kn k a l):hz cu (λk p=>dM n (kn k p)) k (a+n) (ho n l):=by
 unfold hz at aH |-;rw[h.at_,h.base];by_cases bM:(P.at_ k).d.k=6
 ·rw[cv bM]at aH |-;exact aH.bn
 ·rw[b7 bM]at aH |-;by_cases bp:(P.at_ k).d.k=5
  ·rw[cv bp]at aH |-;exact⟨Ub _ _ aH.1,by rw[aH.2,T']⟩
  ·rw[b7 bp]at aH |-;exact⟨Ua _ _ aH.1,by rw[aH.2,L4]⟩
def g6.gs(h:g6 P cu n){kn:Nat->Nat->bg}{m:Nat}(aG:eY P kn m L l):eY cu (λk p=>dM n (kn k p)) m (ho n L) (hp n l):=by
 induction aG with
 |nil=>exact .nil
 | @zero m k a rest l ai au r a8=>
  refine eY.zero (k:=k) (a:=a+n) ?_ ?_ a8;·simp only[h.base,lu,f'];exact ai
  ·simp only[h.base,lu,jX];exact au
 | @node m k a parts rest l ai au aH r a8=>
  have e:hp n (lW P kn k a++l)=lW cu (λk p=>dM n (kn k p)) k (a+n)++hp n l:=by
   unfold lW hp;rw[h.at_];cases decide ((P.at_ k).d.k=9)with
   |true=>simp only[aZ,Fa,eh,h.base,lu,lv ai]| false=>rfl
  rw[e];refine eY.node (k:=k) (a:=a+n) ?_ ?_ (h.parts aH) ?_;·simp only[h.base,lu,f'];exact ai
  ·simp only[h.base,lu,jX];exact au
  ·have:ho n (parts++rest)=ho n parts++ho n rest:=by simp[ho]
   show eY cu _ m (ho n parts++ho n rest) (hp n l);rw[<-this];exact a8
def wD(n:Nat)(o:lY):lY:=bif o.ok then⟨true,o.aB+n,hp n o.fO⟩else o
def aec(n:Nat):Fq->Fq
 | .err e=>.err e| .ok o u=>.ok (wD n o) u
def g6.run(h:g6 P cu n)(pg:oh P){root at_ fuel:Nat}(aa:root<P.ns.length)(ab:P.base<=at_)(ai:at_<=P.s.size){r:Fq}(ao:ug P root at_ fuel r):ug cu root (at_+n) fuel (aec n r):=by
 have aG:=h.go pg fuel (Yv P) (Yw (k:=root) aa ab ai);have bT:nC n hh=hh:=rfl;rw[bT]at aG;cases ao with
 |err ao=>rw[ao]at aG;exact .err aG| @fail c S ao dd=>rw[ao]at aG;exact ug.fail (P:=cu) (c:=dM n c) (S:=nC n S) aG (by rw[f'];exact dd)| many ao c2 hx=>rw[ao]at aG;exact .many aG (by rw[f'];exact c2) (by rw[jX];exact hx)| PT ao c2 hx L5=>rw[ao]at aG;exact .PT aG (by rw[f'];exact c2) (by rw[jX];exact hx) (by rw[jX];exact L5)| @ok c S m l ao c2 hx L5 aed g5=>rw[ao]at aG;have:=ug.ok (P:=cu) (root:=root) (at_:=at_+n) (fuel:=fuel) aG (by rw[f'];exact c2) (by rw[jX];exact hx) (by rw[jX];exact L5) (h.gs aed) (by rw[jX,hp,fl];exact g5);rw[jX,lv c2]at this;exact this
end
def aee{P:bu}{kn:Nat->Nat->bg}(h:eY P kn n L l):∀ c∈l,∃ k,(P.at_ k).d.k=9/\c.name=(P.at_ k).d.t:=by
 induction h with
 |nil=>exact λc aF=>by cases aF
 |zero _ _ _ a8=>exact a8
 | @node n k a parts rest l ai au aH r a8=>
  intro c aF;rcases dA.1 aF with aF | aF
  ·unfold lW at aF;cases c8:decide ((P.at_ k).d.k=9)with
   |true=>rw[c8,aZ,iM]at aF;exact⟨k,c9 c8,by rw[aF]⟩| false=>rw[c8]at aF;cases aF
  ·exact a8 c aF
def aef{g:c1}(hm:nf g)(ei:∀ d∈g.ds,∀ n∈d.t.ns,0<=n.k){at_:Nat}(c8:((lX g s at_).at_ k).d.k=9):iH ((lX g s at_).at_ k).d.t=true:=by
 by_cases af:k<(kM g.ds).length
 ·have e:(lX g s at_).at_ k=(kM g.ds)[k]:=by simp[bu.at_,lX,dT,af]
  rw[e]at c8 |-;obtain⟨p,aH,aA⟩:=dO.1 (dR af);rw[<-aA]at c8 |-;obtain⟨d,ak,aw,-⟩:=I8 _ _ _ aH;obtain⟨j,ar,bj⟩:=vC aw;have aD:=(hm.r d ak).fits j ar;rw[bj]at aD;exact(PR (ei d ak _ aw) aD).2.2.2.2.1 c8
 ·have e:(lX g s at_).at_ k=⟨EW,[]⟩:=by simp only[bu.at_,lX,dT];rw[wF (by omega)];rfl
  rw[e]at c8;cases c8
def g1.bn{a:Nat}(h:g1 a b l):g1 (a+n) (b+n) (hp n l):=by
 induction h with
 |nil h=>exact .nil (by omega)| app _ _ aa ab=>rw[hp,hq];exact .app aa ab| cap _ h=>exact .cap h
def g1.Uc{a:Nat}(h:g1 a b l):∀ c∈l,a<=c.lo/\c.lo<=c.hi/\c.hi<=b:=by
 induction h with
 |nil h=>exact λc aF=>by cases aF
 |app aa ab i1 i2=>
  intro c aF;have:=aa.le;have:=ab.le;rcases dA.1 aF with aF | aF;·have:=i1 c aF;omega
  ·have:=i2 c aF;omega
 |cap h i=>
  intro c aF;have:=h.le;rcases dv.1 aF with rfl | aF;·exact⟨bS _,this,bS _⟩
  ·exact i c aF
section
variable{X:b'}{F:Fr}{C:cG}{I:aN}{M:List aC}{o:Oper}{K:eF}
def be.aeg(aI:cj X.P X.E){hi mx:Operand}(an:o.op=.slice t x none (some hi) (some mx))(ak:∀ d,o.dst=some d->d<X.n)
  {e:Nat} {cP aE:dw} (az:X.E t=some cP) (da:cP.bn=.slice e) (he:X.E e=some aE) {off:Nat} (h m:Nat) {c4 fy:IntKind}
  (ae:bi F x=.val (.slice (some ⟨g,off,none⟩) n c)) (er:bi F hi=.val (.int c4 (h:Nat))) (hl:bi F mx=.val (.int fy (m:Nat)))
  (ab:h<=m) (ai:m<=c) (k:K (put o.dst (.val (.slice (some ⟨g,off,none⟩) h m)) F) C I M):be X o F C I M K:=by
 refine⟨λa w Q ⟨β,aX⟩=>?_⟩;have hu:=Fw aI az da;refine g9 (by rw[an];simp) (v:=.slice (some ⟨g,off,none⟩) h m) (w':=w) ?_ ⟨_,_,_,_,⟨β,bY.put (x:=.val (.slice (some ⟨g,off,none⟩) h m)) aX ak rfl⟩,k⟩;have ex:=cw aX.aj ae;have aA:=cw aX.aj er;have bj:=cw aX.aj hl;simp only[execOp,an,Instr.sliceAt,Instr.slice,Instr.sliceBounds,Instr.sliceBound,ex,bH,run_underlying hu,bx,(aI _ _ he).run_sizeOf,ch,iz,tn,aA,bj,kX];rw[cv (show(0:Int)<=(m:Int)/\(m:Int)<=(c:Int)from⟨by omega,by omega⟩)];simp only[ch,bx,nF];rw[cv (show(0:Int)<=(h:Int)/\(h:Int)<=(m:Int)from⟨by omega,by omega⟩)];simp;intro _;rw[dx _ rfl];rfl
end
def oC(lo:Nat):List bN->List bN
 |[]=>[]| o::os=>bif decide (o.hi<=lo)then oC lo os else o::os
def nE:List bN->Nat->List bN->Bool
 |_,_,[]=>true
 |op,aj,c::l=>bif decide (c.lo<aj)then false else bif (match oC c.lo op with
   |[]=>false| o::_=>decide (o.hi<c.hi))then false else nE (c::oC c.lo op) c.lo l
def Ud(op:List bN)(aj:Nat)(c:bN)(l:List bN):nE op aj (c::l)=bif decide (c.lo<aj)then false else bif (match oC c.lo op with
   |[]=>false| o::_=>decide (o.hi<c.hi))then false else nE (c::oC c.lo op) c.lo l:=by
 rw[nE]
def aeh(op:List bN)(aj:Nat):nE op aj []=true:=by rw[nE]
def Ue(lo:Nat):∀ op:List bN,(∀ o∈oC lo op,o∈op)/\∀ o rest,oC lo op=o::rest->lo<o.hi
 |[]=>⟨λo h=>h,λo rest h=>by cases h⟩
 |x::op=>by
  obtain⟨i1,i2⟩:=Ue lo op;unfold oC;cases ag:decide (x.hi<=lo)with
  |true=>exact⟨λo h=>.tail _ (i1 o h),i2⟩| false=>refine⟨λo h=>h,λo rest h=>?_⟩;cases h;have:=dj ag;omega
def g1.nest{a:Nat}(h:g1 a b l):∀ (op:List bN) (aj:Nat) (rest:List bN),aj<=a->(∀ o∈op,o.hi<=a\/b<=o.hi)->(∀ oA b2,b2<=b->(∀ o∈oA,o∈op\/o.hi<=b)->nE oA b2 rest=true)->nE op aj (l++rest)=true:=by
 induction h with
 |nil h=>exact λop aj rest aa ab ai=>ai op aj (by omega) λo an=>.inl an
 | @app a b c l cd aa ab i1 i2=>
  intro op aj rest f1 f2 f3;have mA:=aa.le;have jQ:=ab.le;rw[fJ];refine i1 op aj _ f1 (λo an=>?_) λoA b2 aO aP=>i2 oA b2 _ aO (λo an=>?_) λaei px dH di=>f3 aei px dH λo an=>?_;·have:=f2 o an;omega
  ·rcases aP o an with h | h
   ·have:=f2 o h;omega
   ·exact .inl h
  ·rcases di o an with h | h
   ·rcases aP o h with h | h
    ·exact .inl h
    ·exact .inr (by omega)
   ·exact .inr h
 | @cap a b l dc h a8=>
  intro op aj rest f1 f2 f3;have mA:=h.le;obtain⟨k',mm⟩:=Ue a op;rw[sb,Ud];simp only;rw[b4 (by omega:¬ a<aj),aY];have ef:(match oC a op with
   |[]=>false| o::_=>decide (o.hi<b))=false:=by
   cases aH:oC a op with
   |nil=>rfl| cons o os=>have aa:=mm o os aH;have ab:=f2 o (k' o (by rw[aH];exact .head _));exact b4 (by omega)
  rw[ef,aY];refine a8 _ a rest (bS a) (λo an=>?_) λoA b2 aO aP=>f3 oA b2 aO λo an=>?_
  ·rcases dv.1 an with rfl | an
   ·exact .inr (bS b)
   ·exact f2 o (k' o an)
  ·rcases aP o an with h | h
   ·rcases dv.1 h with rfl | h
    ·exact .inr (bS b)
    ·exact .inl (k' o h)
   ·exact .inr h
def g1.aej{a:Nat}(h:g1 a b l):nE [] 0 l=true:=by have:=h.nest [] 0 [] (bk _) (λo an=>by cases an) (λ_ _ _ _=>rfl);rwa [en]at this
def Dk(h:dt I a n c 3 0 (l.flatMap bN.cells)):l.length=n:=by have:=h.len;rw[fo _ 3 bN.cV]at this;omega
structure rI(l:List bN)(n:Nat)(i:Nat)(ap:List bN)(cur:List Value):Prop where
 cx:ap.length<=i
 ig:cur.length=n*3
 at_:cur.take (ap.length*3)=ap.reverse.flatMap bN.cells
def rI.gn{o:bN}(h:rI l n i (o::os) cur)(hi:i<=n){T:Nat}(a5:(⟨g,.cells cur.toArray T (0,0)⟩:aC)∈M):ck I M ((⟨g,0,none⟩:Addr).add (os.length*3)) 3 o.cells:=by
 have aa:=h.ig;have ab:=h.cx;rw[du]at ab;have ag:=dn (I:=I) (cs:=cur) (k:=os.length*3) (n:=3) a5 (by omega);have e:(cur.drop (os.length*3)).take 3=o.cells:=by have ai:=congrArg (List.drop (os.length*3)) h.at_;have ax:List.drop (os.length*3) (os.reverse.flatMap bN.cells)=[]:=List.drop_of_length_le (by rw[fo _ 3 bN.cV,pd];exact bS _);rw[du,vl,Fz,mg,PF (by rw[fo _ 3 bN.cV,pd];exact bS _),ax,show(os.length+1)*3-os.length*3=3 by omega,nW]at ai;rw[ai];exact en _
 rwa [e]at ag
def rI.pop{o:bN}(h:rI l n i (o::os) cur):rI l n i os cur:=by have ab:=h.cx;rw[du]at ab;refine⟨by omega,h.ig,?_⟩;have ai:=congrArg (List.take (os.length*3)) h.at_;rw[du,tG,Fz,mg,A5 (by rw[fo _ 3 bN.cV,pd];exact bS _)]at ai;rw[show min (os.length*3) ((os.length+1)*3)=os.length*3 by omega]at ai;rw[ai];exact hN (by rw[fo _ 3 bN.cV,pd];exact bS _)
def rI.push{ap:List bN}(h:rI l n i ap cur)(hi:i<n)(c:bN):rI l n (i+1) (c::ap) (bo cur (ap.length*3) c.cells):=by
 have aa:=h.ig;have ab:=h.cx;have ay:(cur.take (ap.length*3)).length=ap.length*3:=by rw[kz];omega
 refine⟨by rw[du];omega,?_,?_⟩
 ·unfold bo;simp only[cD,kz,r9,bN.cV];omega
 ·unfold bo;rw[oQ (by rw[cD,ay,bN.cV,du];omega),h.at_,Fz,mg];congr 1
set_option maxRecDepth 100000 in
def aek(h:dt I a n c 3 0 (l.flatMap bN.cells))(ag:n<=1048576):Spec Tryz.prog 67 [.slice a n c] I [] λv I' M'=>v=.bool (nE [] 0 l)/\I'=I/\M'=[]:=by
 refine b8 [] aT Tryz.func67 rfl rfl rfl ?_;intro B au;have uC:=Dk h;refine qE.mk 0 n rfl rfl (bk _) (by show 32*n<=_;omega) (by omega) ?_;refine cC.mk λg aG xf=>?_;refine dh.inv (ι:=Nat×Nat×List bN×List Value) (λy=>{ ca:=[(0,.val (.slice a n c)),(3,.val (.slice (some ⟨g,0,none⟩) y.2.2.1.length n)),(4,.val (.int .i64 y.2.1)),(10,.val (.slice a n c)),(11,.val (.int .i64 n)),(12,.val (.int .i64 y.1))],cQ:=I,dq:=[⟨g,.cells y.2.2.2.toArray 59 (0,0)⟩] }) (λy=>y.1<=n/\rI l n y.1 y.2.2.1 y.2.2.2/\nE [] 0 l=nE y.2.2.1 y.2.1 (l.drop y.1)) (λy=>n-y.1) ?_ ?_
 ·exact⟨(0,0,[],_),⟨bk _,⟨bS _,by simp[rowOf],by simp⟩,rfl⟩,.refl,jG,.nil⟩
 rintro⟨i,aj,ap,cur⟩⟨hi,dY,bl⟩;simp only at hi dY bl;refine aR.mk (λe=>?_) (λe=>?_)
 rotate_left
 ·have dE:¬ (i:Int)<(n:Int):=dj e;refine⟨_,_,.sub (gu _) .refl,?_,rfl,rfl⟩;rw[bl,iU (by omega),aeh]
 have aU:i<n:=by have:(i:Int)<(n:Int):=c9 e;omega
 have eI:i<l.length:=by omega
 obtain⟨ad,cg,bD⟩:=h.row bN.cV aU eI;rw[fs eI]at bl;generalize l[i]=x at bD bl;refine bs.mk ad i cg rfl aU ?_;refine aM.mk _ (bD _) ?_;rw[Ud]at bl;refine aR.mk (λax=>?_) (λax=>?_)
 ·have aA:x.lo<aj:=by have:(x.lo:Int)<(aj:Int):=c9 ax;omega
  rw[e7 aA,aZ]at bl;exact⟨_,_,.sub (gu _) .refl,by rw[bl],rfl,rfl⟩
 have aA:¬ x.lo<aj:=by have:¬ (x.lo:Int)<(aj:Int):=dj ax;omega
 rw[b4 aA,aY]at bl;refine dh.inv (ι:=List bN) (λap=>{ ca:=[(0,.val (.slice a n c)),(3,.val (.slice (some ⟨g,0,none⟩) ap.length n)),(4,.val (.int .i64 x.lo)),(6,.ref 6 0),(10,.val (.slice a n c)),(11,.val (.int .i64 n)),(12,.val (.int .i64 i))],cl:=[(6,x.cells)],cQ:=I,dq:=[⟨g,.cells cur.toArray 59 (0,0)⟩] }) (λUf=>rI l n i Uf cur/\oC x.lo ap=oC x.lo Uf) (λap=>ap.length) ?_ ?_
 ·exact⟨ap,⟨dY,rfl⟩,.refl,j8,.cons rfl (.nil)⟩
 rintro ael⟨rJ,aH⟩;have tail:∀ {mJ:List bN},rI l n i mJ cur->oC x.lo ap=mJ->nE [] 0 l=bif (match mJ with
   |[]=>false| o::_=>decide (o.hi<x.hi))then false else nE (x::mJ) x.lo (l.drop (i+1)):=λ_ aH=>by
  rw[<-aH];exact bl
 cases ael with
 |nil=>refine cX.draw aT rfl rfl rfl ?_;refine bC.mk (λe=>nomatch (show false=true from e)) (λ_=>?_);have aK:=tail rJ (aH.trans rfl);refine cX.draw aT rfl rfl rfl ?_;refine bC.mk (λe=>nomatch (show false=true from e)) (λ_=>?_);refine cC.mk λb6 gj hk=>?_;refine be.iu aT rfl (by simp) (e:=59) rfl rfl rfl (g:=g) (n:=0) (c:=n) (cur:=cur) rfl rJ.ig (ad:=⟨b6,0,none⟩) (m:=1) rfl (news:=x.cells) (dn (b:=b6) (cs:=x.cells) (k:=0) (n:=3) (T:=59) (.head _) (bq rfl)) rfl (by have:=rJ.cx;simp only[du,iF]at this |-;omega) [⟨b6,_⟩] [] rfl ?_;refine a6.mk _ (cY (i:=i) (by omega)) ?_;exact⟨(i+1,x.lo,x::[],_),⟨⟨by simp only;omega,rJ.push aU x,aK⟩,by simp only;omega⟩,.sub (.cons _ (.refl _)) .refl,jG,.nil⟩
 |cons t mJ=>
  have Ug:=fun {M:List aC} (a5:(⟨g,.cells cur.toArray 59 (0,0)⟩:aC)∈M)=>rJ.gn (I:=I) (by omega) a5;have cx:=rJ.cx;rw[du]at cx;have mO:decide ((0:Int)<((t::mJ).length:Int))=true:=e7 (by simp only[du];omega);refine cX.draw aT rfl rfl rfl ?_;refine bC.mk (λ_=>?_) (λe=>nomatch (show true=false from mO.symm.trans e));refine a6.mk (mJ.length:Int) (ec (by simp only[du];omega) (by omega)) ?_;refine bs.mk ⟨g,0,none⟩ mJ.length rfl rfl (by simp) ?_;refine aM.mk _ ((Ug (.head _)).part (k:=2) (m:=1) (by decide)) ?_;refine aR.mk (λbj=>?_) (λbj=>?_)
  ·have hle:t.hi<=x.lo:=by have:(t.hi:Int)<=(x.lo:Int):=c9 bj;omega
   refine a6.mk (mJ.length:Int) (ec (by simp only[du];omega) (by omega)) ?_;refine be.aeg aT rfl (by simp) rfl rfl rfl mJ.length n rfl rfl rfl (by omega) (bS _) ?_;refine⟨mJ,⟨⟨rJ.pop,?_⟩,by simp⟩,.refl,j8,.cons rfl (.nil)⟩;rw[aH];show(bif decide (t.hi<=x.lo)then _ else _)=_;rw[e7 hle];rfl
  have aem:¬ t.hi<=x.lo:=by have:¬ (t.hi:Int)<=(x.lo:Int):=dj bj;omega
  have Jo:oC x.lo ap=t::mJ:=by rw[aH];show(bif decide (t.hi<=x.lo)then _ else _)=_;rw[b4 aem];rfl
  have aK:=tail rJ Jo;simp only at aK;refine cX.draw aT rfl rfl rfl ?_;refine bC.mk (λ_=>?_) (λe=>nomatch (show true=false from mO.symm.trans e));refine a6.mk (mJ.length:Int) (ec (by simp only[du];omega) (by omega)) ?_;refine bs.mk ⟨g,0,none⟩ mJ.length rfl rfl (by simp) ?_;refine aM.mk _ ((Ug (.head _)).part (k:=2) (m:=1) (by decide)) ?_;refine aR.mk (λcp=>?_) (λcp=>?_)
  ·have L6:t.hi<x.hi:=by have:(t.hi:Int)<(x.hi:Int):=c9 cp;omega
   rw[e7 L6,aZ]at aK;exact⟨_,_,.sub (gu _) .refl,by rw[aK],rfl,rfl⟩
  have L6:¬ t.hi<x.hi:=by have:¬ (t.hi:Int)<(x.hi:Int):=dj cp;omega
  rw[b4 L6,aY]at aK;refine cC.mk λb6 gj hk=>?_;refine be.iu aT rfl (by simp) (e:=59) rfl rfl rfl (g:=g) (n:=(t::mJ).length) (c:=n) (cur:=cur) rfl rJ.ig (ad:=⟨b6,0,none⟩) (m:=1) rfl (news:=x.cells) (dn (b:=b6) (cs:=x.cells) (k:=0) (n:=3) (T:=59) (.head _) (bq rfl)) rfl (by have:=rJ.cx;simp only[du,iF]at this |-;omega) [⟨b6,_⟩] [] rfl ?_;refine a6.mk _ (cY (i:=i) (by omega)) ?_;exact⟨(i+1,x.lo,x::t::mJ,_),⟨⟨by simp only;omega,rJ.push aU x,aK⟩,by simp only;omega⟩,.sub (.cons _ (.refl _)) .refl,jG,.nil⟩
structure Ao(o:lY)(n:Nat):Prop where
 no:o.ok=false->o.aB=0/\o.fO=[]
 aB:o.aB<=n
 len:o.fO.length<=65536
 dI:∀ c∈o.fO,iH c.name=true/\c.lo<=c.hi/\c.hi<=o.aB
 ne:nE [] 0 o.fO=true
set_option maxRecDepth 100000 in
def L7{m:Nat}(hm:m<=4096)(h:Ao o m)(k0:dt I a n c 3 0 (o.fO.flatMap bN.cells)):Spec Tryz.prog 29 [np o (.slice a n c),.int .i64 m] I [] λv I' M'=>v=.bool true/\I'=I/\M'=[]:=by
 refine b8 [] aT Tryz.func29 rfl rfl rfl ?_;intro B au;have uC:=Dk k0;have hlen:=h.len;have fD:=h.aB;have cU:decide ((m:Int)<0)=false:=b4 (by omega);have b9:decide ((4096:Int)<(m:Int))=false:=b4 (by omega);refine bC.mk (λ_=>?_) (λe=>nomatch (show false=true from cU.symm.trans e));refine aR.mk (λe=>nomatch (show false=true from b9.symm.trans e)) (λ_=>?_);obtain⟨k,aB,l⟩:=o;simp only at uC hlen fD k0;cases k with
 |false=>obtain⟨dH,di⟩:=h.no rfl;simp only at dH di;subst dH;subst di;have kf:n=0:=uC.symm;subst kf;refine aR.mk (λ_=>?_) (λe=>nomatch (show true=false from e));refine bC.mk (λ_=>?_) (λe=>nomatch (show true=false from e));exact⟨_,_,.refl,rfl,rfl,rfl⟩
 |true=>
 have df:decide ((aB:Int)<0)=false:=b4 (by omega);have eb:decide ((m:Int)<(aB:Int))=false:=b4 (by omega);have hg:decide ((65536:Int)<(n:Int))=false:=b4 (by omega);refine aR.mk (λe=>nomatch (show false=true from e)) (λ_=>?_);refine bC.mk (λ_=>?_) (λe=>nomatch (show false=true from df.symm.trans e));refine bC.mk (λ_=>?_) (λe=>nomatch (show false=true from eb.symm.trans e));refine aR.mk (λe=>nomatch (show false=true from hg.symm.trans e)) (λ_=>?_);refine dh.inv (ι:=Nat) (λi=>{ ca:=[(2,.ref 2 0),(41,.val (.slice a n c)),(42,.val (.int .i64 n)),(43,.val (.int .i64 i))],cl:=[(2,[.bool true,.int .i64 aB,.slice a n c])],cQ:=I }) (λi=>i<=n) (λi=>n-i) ?_ ?_
 ·exact⟨0,bk _,.refl,ez,.cons rfl (.nil)⟩
 intro i hi;refine aR.mk (λe=>?_) (λe=>?_)
 rotate_left
 ·refine a7.whole _ (aek k0 (by omega)) ?_;rintro v J N -⟨rfl,rfl,rfl⟩;exact⟨_,_,.refl,by rw[h.ne],rfl,rfl⟩
 have aU:i<n:=by have:(i:Int)<(n:Int):=c9 e;omega
 have eI:i<l.length:=by omega
 obtain⟨ad,cg,bD⟩:=k0.row bN.cV aU eI;obtain⟨ee,eH,kK⟩:=h.dI _ (dR eI);simp only at kK;generalize l[i]=x at bD ee eH kK;have d1:decide ((x.lo:Int)<0)=false:=b4 (by omega);have d2:decide ((x.hi:Int)<(x.lo:Int))=false:=b4 (by omega);have d3:decide ((aB:Int)<(x.hi:Int))=false:=b4 (by omega);refine bs.mk ad i cg rfl aU ?_;refine aM.mk _ (bD _) ?_;refine a7.mk [] [] _ (.refl _) (Eg _ x.name) ?_;rintro v I' M' -⟨rfl,rfl,rfl⟩;have d0:(!iH x.name)=false:=by rw[ee];rfl
 refine bC.mk (λ_=>?_) (λe=>nomatch (show false=true from d0.symm.trans e));refine bC.mk (λ_=>?_) (λe=>nomatch (show false=true from d1.symm.trans e));refine bC.mk (λ_=>?_) (λe=>nomatch (show false=true from d2.symm.trans e));refine aR.mk (λe=>nomatch (show false=true from d3.symm.trans e)) (λ_=>?_);refine a6.mk _ (cY (i:=i) (by omega)) ?_;exact⟨i+1,⟨by omega,by omega⟩,.refl,ez,.cons rfl (.nil)⟩
noncomputable def GP(f g:Nat)(args:List al):Option al:=bz (po iy (hC iy f) g args ⟨.nil,0⟩) none λp=>some p.1
def Uh(bO:ih I jn){b:Bool}(h:GP f g args=some (.b b))(hu:bm (λ_=>none) args us) :
  Spec Tryz.prog g us I [] λr J k4=>r=.bool b/\(∀ b o,I b=some o->J b=some o)/\k4=[]:=by
 unfold GP at h;obtain⟨⟨v,m'⟩,aa,h⟩:=bX h;cases h;refine Spec.uX (ad0 bO aa hu) ?_;rintro r J k4⟨rfl,hle,I',M',ba,ah,hm,cT⟩;simp only[aJ]at ah;exact⟨ah,hle,rfl⟩
def Ui(v:al):Bool:=match v with
 | .p _ _=>true| _=>false
noncomputable def aen:Option al:=bz (po iy (hC iy 1000000) 57 [.s [97,32,60,45,32,60,120,58,32,34,112,34,32,97,32,47,32,34,34,62],.s [112,112]] ⟨.nil,0⟩) none λp=>bz (po iy (hC iy 1000000) 28 [p.1,.i .i64 0,.i .i64 0] p.2) none λq=>
 bz (po iy (hC iy 1000000) 58 [p.1,.i .i64 0,.i .i64 0,.s [109,97,116,99,104,32,50,10,120,32,48,32,50,10,120,32,49,32,50,10,120,32,50,32,50,10]] q.2) none λr=>bB (Ui p.1) (some (.t [q.1,r.1])) none
def aeo:aen=some (.t [.t [.i .i64 3,.i .i64 0],.b true]):=by kernel_rfl
noncomputable def aep:Option al:=bz (po iy (hC iy 1000000) 57 [.s [97,32,60,45,32,97],.s [120]] ⟨.nil,0⟩) none λp=>bz (po iy (hC iy 1000000) 58 [p.1,.i .i64 0,.i .i64 0,.s [110,111,110,101]] p.2) none λr=>some r.1
def aeq:aep=some (.b true):=by kernel_rfl
def aer:GP 1000000 42 [.s [38,34,112,34],.s [112,112],.i .i64 1,.s [109,97,116,99,104,32,49,10]]=some (.b true):=by kernel_rfl
def aes:GP 1000000 42 [.s [33,46],.s [112,112],.i .i64 2,.s [109,97,116,99,104,32,50,10]]=some (.b true):=by kernel_rfl
def Uj(bO:ih I jn):cm iy (λ_=>none) ⟨.nil,0⟩ I []:=⟨λid e a h bf=>(by cases bf),λid gC e bc a bw h aa bf=>(by cases bf),λid a h=>(by cases h),TZ bO⟩
set_option maxRecDepth 100000 in
def GQ(bO:ih I jn):Spec Tryz.prog 25 [] I [] λr J k4=>r=.bool true/\(∀ b o,I b=some o->J b=some o)/\k4=[]:=by
 obtain⟨⟨v1,cy⟩,cf,dd⟩:=bX aeo;obtain⟨⟨v2,m2⟩,c2,e4⟩:=bX dd;obtain⟨⟨aet,xp⟩,hG,iN⟩:=bX e4;obtain⟨iA,j0⟩:=e3 iN;simp only[g7,al.t.injEq,sw,and_true]at j0;obtain⟨rfl,rfl⟩:=j0;obtain⟨⟨v4,Df⟩,cU,b9⟩:=bX aeq;obtain⟨⟨ahe,ahf⟩,df,eb⟩:=bX b9;simp only[g7]at eb;subst eb;simp only at c2 hG iA df;obtain⟨aeu,GR,rfl⟩:∃ id off,v1=.p id off:=by
  unfold Ui at iA;split at iA;·exact⟨_,_,rfl⟩
  ·cases iA
 refine b8 [] aT Tryz.func25 rfl rfl rfl ?_;intro B au;refine a7.mk [] [] _ (.refl _) (reckon (Y:=iy) aT yv Am yw cf (us:=[.string ⟨([97,32,60,45,32,60,120,58,32,34,112,34,32,97,32,47,32,34,34,62]:List UInt8).toArray⟩,.string ⟨([112,112]:List UInt8).toArray⟩]) (by simp[bm,aJ]) (Uj bO)) ?_;rintro v c3 M1 cJ⟨ql,-,wW,y5⟩;rw[en];simp only[aJ]at wW;obtain⟨ad,cg,rfl⟩:=wW;refine fk.FT aT rfl rfl ?_;refine aR.mk (λe=>by cases e) (λ_=>?_);have sT:aJ ql (.p aeu GR) (.pointer (some ⟨ad.b,ad.o+GR,none⟩)):=by simp only[aJ];exact⟨ad,cg,rfl⟩
 refine a7.mk M1 [] _ (by rw[en]) (reckon (Y:=iy) aT yv Am yw c2 (us:=[.pointer (some ⟨ad.b,ad.o+GR,none⟩),.int .i64 0,.int .i64 0]) (by simp[bm,aJ,cg]) y5) ?_;rintro v gh eP jM⟨GH,aev,rU,kg⟩;rw[en];simp only[aJ,bm]at rU;obtain⟨vs,⟨ahg,ahh,rfl,⟨ahi,ahj,rfl,rfl,rfl⟩,rfl⟩,rfl⟩:=rU;have GS:=y5.le aev _ _ cg;refine a7.mk eP [] _ (by rw[en]) (reckon (Y:=iy) aT yv Am yw hG (us:=[.pointer (some ⟨ad.b,ad.o+GR,none⟩),.int .i64 0,.int .i64 0,.string ⟨([109,97,116,99,104,32,50,10,120,32,48,32,50,10,120,32,49,32,50,10,120,32,50,32,50,10]:List UInt8).toArray⟩]) (by simp[bm,aJ,GS]) kg) ?_;rintro v iG oS iY⟨Ai,-,qa,jU⟩;rw[en];simp only[aJ]at qa;subst qa;have Uk:ih iG jn:=bO.mono λb o h=>iY _ _ (jM _ _ (cJ _ _ h));refine bC.mk (λ_=>?_) (λh=>nB rfl h);refine bC.mk (λ_=>?_) (λh=>nB rfl h);refine bC.mk (λ_=>?_) (λh=>nB rfl h);refine a7.mk [] oS _ (.refl _) (reckon (Y:=iy) aT yv Am yw cU (us:=[.string ⟨([97,32,60,45,32,97]:List UInt8).toArray⟩,.string ⟨([120]:List UInt8).toArray⟩]) (by simp[bm,aJ]) (Uj Uk)) ?_;rintro aew lG mU Ul⟨LN,-,IL,x8⟩;refine a7.mk mU oS _ (.refl _) (reckon (Y:=iy) aT yv Am yw df (us:=[aew,.int .i64 0,.int .i64 0,.string ⟨([110,111,110,101]:List UInt8).toArray⟩]) (by simp[bm,aJ,IL]) x8) ?_;rintro v xv mi Um⟨ahk,-,EN,ahl⟩;simp only[aJ]at EN;subst EN;have Un:ih xv jn:=Uk.mono λb o h=>Um _ _ (Ul _ _ h);refine bC.mk (λ_=>?_) (λh=>nB rfl h);refine a7.mk [] (mi++oS) _ (.refl _) (Uh Un aer (us:=[.string ⟨([38,34,112,34]:List UInt8).toArray⟩,.string ⟨([112,112]:List UInt8).toArray⟩,.int .i64 1,.string ⟨([109,97,116,99,104,32,49,10]:List UInt8).toArray⟩]) (by simp[bm,aJ])) ?_;rintro v EF Iv Uo⟨rfl,-,rfl⟩;have aex:ih EF jn:=Un.mono Uo;refine bC.mk (λ_=>?_) (λh=>nB rfl h);refine a7.mk [] (mi++oS) _ (.refl _) (Uh aex aes (us:=[.string ⟨([33,46]:List UInt8).toArray⟩,.string ⟨([112,112]:List UInt8).toArray⟩,.int .i64 2,.string ⟨([109,97,116,99,104,32,50,10]:List UInt8).toArray⟩]) (by simp[bm,aJ])) ?_;rintro v ze zf aey⟨rfl,-,rfl⟩;exact⟨_,[],.sub (gu _) .refl,rfl,λb o h=>aey _ _ (Uo _ _ (Um _ _ (Ul _ _ (iY _ _ (jM _ _ (cJ _ _ h)))))),rfl⟩
def aez{g:c1}(hm:nf g)(ei:∀ d∈g.ds,∀ n∈d.t.ns,0<=n.k)(c8:((fY g s).at_ k).d.k=9):iH ((fY g s).at_ k).d.t=true:=by
 by_cases af:k<(kM g.ds).length
 ·have e:=Q1 s af;have aA:(lX g s 0).at_ k=(kM g.ds)[k]:=by simp[bu.at_,lX,dT,af]
  rw[e]at c8 |-;have h:=aef hm ei (s:=s) (at_:=0) (k:=k) (by rw[aA];exact c8);rw[aA]at h;exact h
 ·have e:(fY g s).at_ k=⟨EW,[]⟩:=by
   have:(kM g.ds).length<=k:=by omega
   simp[bu.at_,fY,dT,this]
  rw[e]at c8;have ab:(0:Int)=9:=c8;omega
def L8(n:Nat):Ao pj n:=⟨λ_=>⟨rfl,rfl⟩,bk _,bk _,λc aF=>(by cases aF),rfl⟩
def qq.may{g:c1}(hm:nf g)(ei:∀ d∈g.ds,∀ n∈d.t.ns,0<=n.k)(ar:j<=s.size)(h:qq (fY g s) k j o e):Ao o s.size:=by
 cases h with
 |none h an he=>rw[an];exact L8 _| fail h an he=>rw[an];exact L8 _| many h aw an he=>rw[an];exact L8 _| is h aw he aW fD ay aG dY=>obtain⟨aO,aP,br⟩:=(rh (fY g s) k j).ge h;refine⟨λaA=>(by rw[aW]at aA;cases aA),by rw[fD];exact aP ar,by omega,λc aF=>?_,dY.aej⟩;obtain⟨N,aG⟩:=aG;obtain⟨q,dH,di⟩:=aee aG c aF;obtain⟨lV,gx,im⟩:=dY.Uc c aF;exact⟨by rw[di];exact aez hm ei dH,gx,by rw[fD];exact im⟩
inductive aeA(g:c1)(s:ByteArray)(i j:Nat)(o:lY)(e:Int)(n:Nat)(h:Int):Prop
 |none(an:o=pj)(he:e=5)(aw:n=0)(a4:h=5)(af:h1 g s i j=false)| fail (an:o=pj) (he:e=0) (aw:n=0) (a4:h=0) (af:h1 g s i j=true)| many (an:o=pj) (he:e=40) (aw:65536<n) (a4:h=0) (af:h1 g s i j=true)| is (aW:o.ok=true) (he:e=0) (aw:n=o.fO.length) (a4:h=0) (af:h1 g s i j=true) (fD:j<=o.aB) (aF:∀ c∈o.fO,j<=c.lo)
def aeB{g:c1}{h:Int}(hi:i<g.n)(ar:j<=s.size)(az:zQ g s i j o e)(aF:RH g s i j n h):aeA g s i j o e n h/\qq (fY g s) (iK g i) j o e:=by
 have s5:l1 g.n s.size i j=true:=by simp only[l1,bG,eC];omega
 have yx:qq (fY g s) (iK g i) j o e:=by
  cases az with
  |no h an he=>rw[s5]at h;cases h
  |is i2 fh gd lI _ _ h=>
   obtain rfl:i=i2:=by omega
   obtain rfl:j=fh:=by omega
   exact h
 refine⟨?_,yx⟩;have GU:∀ z,(bA (fY g s) (iK g i) j).ap=z->h1 g s i j=!Nat.beq z 0:=λz bd=>by unfold h1;rw[bd]
 cases aF with
 |no h aw he=>rw[s5]at h;cases h
 |none i2 fh gd lI _ _ aa aw he=>
  obtain rfl:i=i2:=by omega
  obtain rfl:j=fh:=by omega
  cases yx with
  |none q an di=>exact .none an di aw he (by rw[GU _ aa];rfl)| fail q=>omega| many q=>omega| is q=>omega
 |fail i2 fh gd lI _ _ aa aw he=>
  obtain rfl:i=i2:=by omega
  obtain rfl:j=fh:=by omega
  cases yx with
  |none q=>omega| fail q an di=>exact .fail an di aw he (by rw[GU _ aa];rfl)| many q=>omega| is q=>omega
 |is i2 fh gd lI _ _ aa aw he=>
  obtain rfl:i=i2:=by omega
  obtain rfl:j=fh:=by omega
  cases yx with
  |none q=>omega| fail q=>omega| many q dH an di=>exact .many an di (by omega) he (by rw[GU _ aa];rfl)| is q dH di aW fD ay aG dY=>exact .is aW di (by omega) he (by rw[GU _ aa];rfl) (by rw[fD];exact dY.le) λc aF=>(dY.Uc c aF).1
def Up:o8 I ⟨[],none,0,0,0⟩:=⟨⟨rfl,⟨bS _,bk _⟩,.inl rfl⟩,λd ak=>(by cases ak),⟨by show(-9223372036854775808:Int)<=0;omega,by show(0:Int)<=9223372036854775807;omega⟩⟩
set_option maxRecDepth 100000 in
def aeC(bO:ih I jn){g:c1}(qv:od I g)(aq:s.size<=9223372036854775807):rN Tryz.prog 6 [g.val,.string s] I [] λv _ _=>v=.bool true:=by
 refine yR [] aT Tryz.func6 rfl rfl rfl ?_;intro B au;refine a7.mk [] [] _ (.refl _) (RN qv (Up (I:=I)) s) ?_;rintro v L9 N -⟨⟨L',rfl,mY⟩,AR,dY⟩;subst L9;subst N;cases L' with
 |true=>refine bC.mk (λh=>absurd h (by simp)) (λ_=>?_);refine a7.mk [] [] _ (.refl _) (GQ bO) ?_;rintro v wE N -⟨rfl,GV,rfl⟩;exact⟨_,_,.refl,rfl⟩
 |false=>
 obtain⟨nI,-,CA⟩:=mY rfl;have aG:=qv.zR nI;have ik:=aG.n;have vK:=nI.n;refine bC.mk (λ_=>?_) (λh=>absurd h (by simp));refine a7.mk [] [] _ (.refl _) (GQ bO) ?_;rintro v aeD N -⟨rfl,Dl,rfl⟩;have tO:=bO.mono Dl;have iI:=aG.mono Dl;refine aR.mk (λh=>by cases h) (λ_=>?_);refine a7.mk [] [] _ (.refl _) (FI tO iI (by omega) s) ?_;rintro v Ma N -⟨GW,rfl,yy⟩;have ic:=iI.mono GW;have bad:∀ e:Int,e≠0->decide (e=0)=false:=λe he=>b4 he;rcases yy with⟨bl,rfl⟩ | ⟨-,Dm,rfl⟩ | ⟨qo,Cx,t,T,rfl,Mb⟩
 ·have ag:=bad _ bl;refine dh.inv (ι:=Unit) (λ_=>{ ca:=[(2,.ref 2 0),(4,.lit false),(5,.val (.pointer none)),(6,.val (.int .i64 (jN jn g))),(7,.val (.int .i64 0)),(8,.val (.int .i64 0))],cl:=[(2,[.slice g.a g.n g.c])],cQ:=Ma,dq:=[] }) (λ_=>True) (λ_=>0) ?_ ?_
  ·exact⟨(),trivial,.refl,jG,.cons rfl (.nil)⟩
  rintro⟨⟩-;refine bC.mk (λ_=>?_) (λ_=>?_)
  ·refine aR.mk (λh=>h2 ag h) (λ_=>?_);refine bC.mk (λh=>?_) (λh=>?_)
   ·have ab:(!decide (jN jn g=0))=false:=h;rw[ag]at ab;cases ab
   exact⟨_,_,.refl,rfl⟩
  ·refine bC.mk (λh=>?_) (λh=>?_)
   ·have ab:(!decide (jN jn g=0))=false:=h;rw[ag]at ab;cases ab
   exact⟨_,_,.refl,rfl⟩
 ·exact absurd Dm (by omega)
 have Mc:∀ d∈g.ds,d.t.ns.length=d.t.n:=λd ak=>(aG.ds d ak).t.n;have ei:∀ d∈g.ds,∀ n∈d.t.ns,0<=n.k:=λd ak n aw=>((aG.ds d ak).t.ns n aw).k.1;have hm:=Jc qo Mc;refine dh.inv (ι:=Nat×aN) (λx=>{ ca:=[(1,.val (.string s)),(2,.ref 2 0),(5,.val (ptr t.bt)),(6,.val (.int .i64 0)),(7,.val (.int .i64 (kp (kS g s) x.1))),(8,.val (.int .i64 x.1))],cl:=[(2,[.slice g.a g.n g.c])],cQ:=x.2,dq:=[] }) (λx=>x.1<=g.n/\ln x.2 g s t T) (λx=>g.n-x.1) ?_ ?_
 ·exact⟨(0,Ma),⟨bk _,Mb⟩,.refl,jG,.cons rfl (.nil)⟩
 rintro⟨i,J⟩⟨hi,cT⟩;simp only at hi cT;have aa4:=J' (f:=kS g s) (C:=4097) i λj _=>by have:=RJ g s j;omega
 refine bC.mk (λe=>?_) (λe=>?_)
 rotate_left
 ·have dE:g.n<=i:=by have ab:decide ((i:Int)<(g.n:Int))=false:=e;have:=dj ab;omega
  obtain rfl:i=g.n:=by omega
  have jV:=cT.Cw hm ei Cx;refine bC.mk (λh=>?_) (λh=>?_);·refine a7.whole _ (aa3 cT hm jV ik (by omega)) ?_;rintro v wE N -⟨rfl,rfl,rfl⟩;refine⟨_,_,.refl,?_⟩;show Value.bool (decide (((kp (kS g s) g.n:Nat):Int)=((RI g s:Nat):Int)))=_;rw[e7 (by rfl)]
  ·exact⟨_,_,.refl,rfl⟩
 have aU:i<g.n:=by have ab:decide ((i:Int)<(g.n:Int))=true:=e;have:=c9 ab;omega
 refine aR.mk (λ_=>?_) (λh=>by cases h);refine dh.inv (ι:=Nat×aN) (λx=>{ ca:=[(1,.val (.string s)),(2,.ref 2 0),(5,.val (ptr t.bt)),(6,.val (.int .i64 0)),(7,.val (.int .i64 ((kp (kS g s) i+kR (h1 g s i) x.1:Nat):Int))),(8,.val (.int .i64 i)),(9,.val (.int .i64 x.1))],cl:=[(2,[.slice g.a g.n g.c])],cQ:=x.2,dq:=[] }) (λx=>x.1<=s.size+1/\ln x.2 g s t T) (λx=>s.size+1-x.1) ?_ ?_
 ·exact⟨(0,J),⟨bk _,cT⟩,.refl,j8,.cons rfl (.nil)⟩
 rintro⟨j,K⟩⟨ar,dB⟩;simp only at ar dB;have gT:=FU (h1 g s i) j;refine aR.mk (λaA=>?_) (λaA=>?_)
 rotate_left
 ·have dE:s.size+1<=j:=by have ab:¬ (j:Int)<=(s.size:Int):=dj aA;omega
  obtain rfl:j=s.size+1:=by omega
  refine a6.mk _ (cY (i:=i) (by omega)) ?_;refine⟨(i+1,K),⟨⟨by omega,dB⟩,by simp only;omega⟩,.refl,.cons .refl (.cons .refl (.cons .refl (.cons .refl (.cons (x5 ?_) (.cons .refl .nil))))),.cons rfl (.nil)⟩;rw[kp,kS]
 have x6:j<=s.size:=by have ab:(j:Int)<=(s.size:Int):=c9 aA;omega
 have jV:=dB.Cw hm ei Cx;refine a7.DA [] [] _ (.refl _) (RE dB hm jV ik (i:Int) (j:Int)) ?_;rintro v aeE N-qH⟨rfl,dZ,o,e,fr,rfl,pi,rfl⟩;refine a7.whole _ (aa2 dB hm jV ik (i:Int) (j:Int)) ?_;rintro v oD N -⟨rfl,rfl,n,h,v5,rfl⟩;obtain⟨Iz,yx⟩:=aeB aU x6 fr v5;have Md:=yx.may hm ei x6;have tj:kR (h1 g s i) (j+1)=kR (h1 g s i) j+(bif h1 g s i j then 1 else 0):=rfl;have uD:dZ.n=o.fO.length:=by have:=pi.len;rw[fo _ 3 bN.cV]at this;omega
 have eo:=Md.len;clear fr v5 yx;have yz:=FF (J:=oD) (e:=59) (b:=0) pi (by omega);have Bc:h6 (List.map (λx:aC=>x.num) []) oD (dZ.aV 59++[]) (qn oD dZ 59) []:=FD (post:=[]) (λg _ h=>by cases h);have uE:∀ b o,oD b=some o->qn oD dZ 59 b=some o:=FE (M:=[]) λx ae=>qH x (by simpa using ae);generalize qn oD dZ 59=wE at yz Bc uE;cases Iz with
 |none an he aw a4 af=>
  subst an;subst he;subst aw;subst a4;rw[af]at tj;have Me:dZ.n=0:=uD;refine aR.mk (λh=>h2 rfl h) (λ_=>?_);refine bC.mk (λ_=>?_) (λh=>h2 rfl h);refine bC.mk (λh=>h2 rfl h) (λ_=>?_);refine bC.mk (λh=>h2 rfl h) (λ_=>?_);refine dh.inv (ι:=Unit) (λ_=>{ ca:=[(1,.val (.string s)),(2,.ref 2 0),(5,.val (ptr t.bt)),(6,.val (.int .i64 0)),(7,.val (.int .i64 ((kp (kS g s) i+kR (h1 g s i) j:Nat):Int))),(8,.val (.int .i64 i)),(9,.val (.int .i64 j)),(10,.ref 10 0),(14,.val (.int .i64 0))],cl:=[(2,[.slice g.a g.n g.c]),(10,[.bool false,.int .i64 0,dZ.val])],cQ:=oD,dq:=[] }) (λ_=>True) (λ_=>0) ?_ ?_;·exact⟨(),trivial,.sub (gu _) .refl,rZ,.cons rfl (.cons rfl (.nil))⟩
  rintro⟨⟩-;refine aR.mk (λe=>?_) (λe=>?_);·have:(0:Int)<(dZ.n:Int):=c9 e;omega
  refine a6.mk _ (cY (i:=j) (by omega)) ?_;refine⟨(j+1,oD),⟨⟨by omega,dB⟩,by simp only;omega⟩,.refl,.cons .refl (.cons .refl (.cons .refl (.cons .refl (.cons (x5 ?_) (vd))))),.cons rfl (.nil)⟩;rw[tj];simp only[aZ,aY];omega
 |fail an he aw a4 af=>
  subst an;subst he;subst aw;subst a4;rw[af]at tj;have Me:dZ.n=0:=uD;refine aR.mk (λ_=>?_) (λh=>nB rfl h);refine a6.mk ((kp (kS g s) i+kR (h1 g s i) j+1:Nat):Int) (ec (by simp) (by omega)) ?_;refine bC.mk (λ_=>?_) (λh=>h2 rfl h);refine bC.mk (λ_=>?_) (λh=>nB rfl h);have Mf:(!decide ((dZ.n:Int)=((0:Nat):Int)))=false:=by rw[Me];rfl
  refine bC.mk (λ_=>?_) (λh=>h2 Mf h);refine a7.Az wE [] [] _ Bc (L7 (by omega) Md yz) ?_;rintro v Ap N - -⟨rfl,rfl,rfl⟩;refine bC.mk (λ_=>?_) (λh=>h2 rfl h);refine bC.mk (λh=>h2 rfl h) (λ_=>?_);refine bC.mk (λh=>h2 rfl h) (λ_=>?_);refine dh.inv (ι:=Unit) (λ_=>{ ca:=[(1,.val (.string s)),(2,.ref 2 0),(5,.val (ptr t.bt)),(6,.val (.int .i64 0)),(7,.val (.int .i64 ((kp (kS g s) i+kR (h1 g s i) j+1:Nat):Int))),(8,.val (.int .i64 i)),(9,.val (.int .i64 j)),(10,.ref 10 0),(14,.val (.int .i64 0))],cl:=[(2,[.slice g.a g.n g.c]),(10,[.bool false,.int .i64 0,dZ.val])],cQ:=Ap,dq:=[] }) (λ_=>True) (λ_=>0) ?_ ?_;·exact⟨(),trivial,.sub (gu _) .refl,rZ,.cons rfl (.cons rfl (.nil))⟩
  rintro⟨⟩-;refine aR.mk (λe=>?_) (λe=>?_);·have:(0:Int)<(dZ.n:Int):=c9 e;omega
  refine a6.mk _ (cY (i:=j) (by omega)) ?_;refine⟨(j+1,Ap),⟨⟨by omega,dB.mono uE⟩,by simp only;omega⟩,.refl,.cons .refl (.cons .refl (.cons .refl (.cons .refl (.cons (x5 ?_) (vd))))),.cons rfl (.nil)⟩;rw[tj];simp only[aZ,aY];omega
 |many an he aw a4 af=>
  subst an;subst he;subst a4;rw[af]at tj;have Me:dZ.n=0:=uD;refine aR.mk (λ_=>?_) (λh=>nB rfl h);refine a6.mk ((kp (kS g s) i+kR (h1 g s i) j+1:Nat):Int) (ec (by simp) (by omega)) ?_;refine bC.mk (λ_=>?_) (λh=>h2 rfl h);refine bC.mk (λh=>h2 rfl h) (λ_=>?_);refine bC.mk (λ_=>?_) (λh=>nB rfl h);refine aR.mk (λh=>?_) (λ_=>?_);·have:(n:Int)<=65536:=c9 h;omega
  refine dh.inv (ι:=Unit) (λ_=>{ ca:=[(1,.val (.string s)),(2,.ref 2 0),(5,.val (ptr t.bt)),(6,.val (.int .i64 0)),(7,.val (.int .i64 ((kp (kS g s) i+kR (h1 g s i) j+1:Nat):Int))),(8,.val (.int .i64 i)),(9,.val (.int .i64 j)),(10,.ref 10 0),(14,.val (.int .i64 0))],cl:=[(2,[.slice g.a g.n g.c]),(10,[.bool false,.int .i64 0,dZ.val])],cQ:=oD,dq:=[] }) (λ_=>True) (λ_=>0) ?_ ?_;·exact⟨(),trivial,.sub (gu _) .refl,rZ,.cons rfl (.cons rfl (.nil))⟩
  rintro⟨⟩-;refine aR.mk (λe=>?_) (λe=>?_);·have:(0:Int)<(dZ.n:Int):=c9 e;omega
  refine a6.mk _ (cY (i:=j) (by omega)) ?_;refine⟨(j+1,oD),⟨⟨by omega,dB⟩,by simp only;omega⟩,.refl,.cons .refl (.cons .refl (.cons .refl (.cons .refl (.cons (x5 ?_) (vd))))),.cons rfl (.nil)⟩;rw[tj];simp only[aZ,aY];omega
 |is aW he aw a4 af fD aF=>
  subst he;subst aw;subst a4;rw[af]at tj;refine aR.mk (λ_=>?_) (λh=>nB rfl h);refine a6.mk ((kp (kS g s) i+kR (h1 g s i) j+1:Nat):Int) (ec (by simp) (by omega)) ?_;refine bC.mk (λ_=>?_) (λh=>h2 rfl h);refine bC.mk (λ_=>?_) (λh=>nB rfl h);have Mf:(!decide ((dZ.n:Int)=(o.fO.length:Int)))=false:=by rw[uD,e7 rfl];rfl
  refine bC.mk (λ_=>?_) (λh=>h2 Mf h);refine a7.Az wE [] [] _ Bc (L7 (by omega) Md yz) ?_;rintro v Ap N - -⟨rfl,rfl,rfl⟩;refine bC.mk (λ_=>?_) (λh=>h2 rfl h);refine bC.mk (λ_=>?_) (λh=>nB aW h);have aeF:decide ((o.aB:Int)<(j:Int))=false:=b4 (by omega);refine bC.mk (λ_=>?_) (λh=>h2 aeF h);refine bC.mk (λh=>h2 rfl h) (λ_=>?_);refine dh.inv (ι:=Nat) (λx=>{ ca:=[(1,.val (.string s)),(2,.ref 2 0),(5,.val (ptr t.bt)),(6,.val (.int .i64 0)),(7,.val (.int .i64 ((kp (kS g s) i+kR (h1 g s i) j+1:Nat):Int))),(8,.val (.int .i64 i)),(9,.val (.int .i64 j)),(10,.ref 10 0),(14,.val (.int .i64 x))],cl:=[(2,[.slice g.a g.n g.c]),(10,[.bool o.ok,.int .i64 o.aB,dZ.val])],cQ:=Ap,dq:=[] }) (λx=>x<=dZ.n) (λx=>dZ.n-x) ?_ ?_;·exact⟨0,bk _,.refl,rZ,.cons rfl (.cons rfl (.nil))⟩
  intro x ae;refine aR.mk (λe=>?_) (λe=>?_)
  rotate_left
  ·refine a6.mk _ (cY (i:=j) (by omega)) ?_;refine⟨(j+1,Ap),⟨⟨by omega,dB.mono uE⟩,by simp only;omega⟩,.refl,.cons .refl (.cons .refl (.cons .refl (.cons .refl (.cons (x5 ?_) (vd))))),.cons rfl (.nil)⟩;rw[tj];simp only[aZ,aY];omega
  have aU:x<dZ.n:=by have:(x:Int)<(dZ.n:Int):=c9 e;omega
  have eI:x<o.fO.length:=by omega
  obtain⟨ad,cg,bD⟩:=yz.row bN.cV aU eI;have ee:=aF _ (dR eI);generalize o.fO[x]=y at bD ee;refine bs.mk ad x cg rfl aU ?_;refine aM.mk _ ((bD _).part (k:=1) (m:=1) (by decide)) ?_;have dJ:decide ((y.lo:Int)<(j:Int))=false:=b4 (by omega);refine aR.mk (λe=>h2 dJ e) (λ_=>?_);refine a6.mk _ (cY (i:=x) (by omega)) ?_;exact⟨x+1,⟨by omega,by omega⟩,.refl,rZ,.cons rfl (.cons rfl (.nil))⟩
structure jv(P cu:bu)(n:Nat):Prop where
 GX:g6 P { cu with base:=n } n
 b:P.base=0
 fe:cu.base=0
section
variable{P cu:bu}{n:Nat}
def jv.at_(h:jv P cu n)(k:Nat):cu.at_ k=P.at_ k:=h.GX.at_ k
def jv.byte(h:jv P cu n)(a:Nat):cu.s.data[a+n]?=P.s.data[a]?:=h.GX.byte a
def jv.size(h:jv P cu n):cu.s.size=P.s.size+n:=h.GX.size
def jv.pre(h:jv P cu n)(t:ByteArray)(a:Nat):preB cu.s t (a+n)=preB P.s t a:=h.GX.pre t a
section
variable{m m':Nat->Nat->bg}(H:∀ q b,m' q (b+n)=dM n (m q b))
include H
def Uq:∀ (L:List Nat) (a c:Nat),gO m' L (a+n) c=dM n (gO m L a c)
 |[],a,c=>rfl
 |q::L,a,c=>by
  simp only[gO,H,f',jX];cases ai:Nat.beq (m q a).ap 3 with
  |true=>simp only[aZ,lv (bV ai)];exact Uq L _ _| false=>simp only[aY];unfold dM;simp only[ai,aY]
def Ur:∀ (L:List Nat) (a:Nat),g2 m' L (a+n)=dM n (g2 m L a)
 |[],a=>rfl
 |q::L,a=>by
  simp only[g2,H,f'];cases ab:Nat.beq (m q a).ap 2 with
  |true=>exact Ur L a| false=>rfl
def Us{q:Nat}{l u:Int}:∀ (j i a c:Nat),eL m' q l u j i (a+n) c=dM n (eL m q l u j i a c)
 |0,i,a,c=>by
  unfold eL;cases decide (u=-1)<;>rfl
 |j+1,i,a,c=>by
  simp only[eL,H,f',jX];cases ab:Nat.beq (m q a).ap 2 with
  |true=>cases decide ((i:Int)<l)<;>rfl
  |false=>
   cases ai:Nat.beq (m q a).ap 3 with
   |false=>rfl
   |true=>
    simp only[aZ,aY,lv (bV ai)];have e:decide ((m q a).aB+n=a+n)=decide ((m q a).aB=a):=decide_eq_decide.2 (by omega);rw[e];cases decide (u=-1)&&decide ((m q a).aB=a)with
    |true=>rfl| false=>exact Us j _ _ _
def jv.out(h:jv P cu n)(k a:Nat):dg cu m' k (a+n)=dM n (dg P m k a):=by
 have av:=h.at_ k;have df:∀ {c:bg},Nat.beq c.ap 3=false->dM n c=c:=fun {c} e=>by unfold dM;rw[e];rfl
 rcases xI (P.at_ k).d.k with e | e | e | e | e | e | e | e | e | ⟨bT,ax,aA,bj,cp,eX,gM,kl,kN⟩
 ·rw[ui e,ui (by rw[av];exact e)];rfl
 ·rw[uj e,uj (by rw[av];exact e),h.byte,av];cases P.s.data[a]? with
  |none=>rfl
  |some b=>
   simp only;cases lU (P.at_ k).d b.toNat with
   |true=>simp only[aZ];rw[zd];rfl| false=>rfl
 ·rw[uk e,uk (by rw[av];exact e),av,h.pre];cases preB P.s (P.at_ k).d.t a with
  |true=>simp only[aZ];rw[zd];rfl| false=>rfl
 ·rw[um e,um (by rw[av];exact e),av];exact H _ a
 ·rw[uo e,uo (by rw[av];exact e),av];exact Uq H _ _ _
 ·rw[uq e,uq (by rw[av];exact e),av];exact Ur H _ _
 ·rw[re e,re (by rw[av];exact e),av];have ao:uh cu (P.at_ k).d (a+n)=uh P (P.at_ k).d a:=by
   unfold uh;cases decide ((P.at_ k).d.hi=-1)with
   |true=>simp only[aZ,h.size];omega| false=>rfl
  rw[ao];exact Us H _ _ _ _
 ·rw[ur e,ur (by rw[av];exact e),av,H,f'];cases ai:Nat.beq (m ((P.at_ k).asks.getD 0 0) a).ap 3 with
  |true=>rfl| false=>rfl
 ·rw[uu e,uu (by rw[av];exact e),av,H,f'];cases Nat.beq (m ((P.at_ k).asks.getD 0 0) a).ap 2 with
  |true=>rfl| false=>cases Nat.beq (m ((P.at_ k).asks.getD 0 0) a).ap 3<;>rfl
 ·rw[uv bT ax aA bj cp eX gM kl kN,uv (by rw[av];exact bT) (by rw[av];exact ax) (by rw[av];exact aA) (by rw[av];exact bj) (by rw[av];exact cp) (by rw[av];exact eX) (by rw[av];exact gM) (by rw[av];exact kl) (by rw[av];exact kN),av,H,f'];cases ai:Nat.beq (m ((P.at_ k).asks.getD 0 0) a).ap 3 with
  |true=>simp only[aZ,lv (bV ai)];rfl| false=>rfl
end
def jv.bi(h:jv P cu n):∀ (N k a:Nat),fF cu N k (a+n)=dM n (fF P N k a)
 |0,k,a=>rfl| N+1,k,a=>h.out (h.bi N) k a
def Ut{c:bg}:cZ (dM n c) ↔ cZ c:=by unfold cZ;rw[f']
def jv.d'(h:jv P cu n)(k a:Nat):bA cu k (a+n)=dM n (bA P k a):=by
 by_cases ak:cZ (bA P k a)
 ·obtain⟨N,dY⟩:=mB ak;rw[<-dY,<-h.bi N];refine xK ?_;rw[h.bi N,Ut,dY];exact ak
 ·have ff:¬ cZ (bA cu k (a+n)):=λff=>by obtain⟨N,dY⟩:=mB ff;rw[<-dY,h.bi N,Ut]at ff;rw[xK ff]at ak;exact ak ff
  rw[(rh P k a).zero ak,(rh cu k (a+n)).zero ff];rfl
def jv.kn(h:jv P cu n)(k a:Nat):dk cu k (a+n)=dM n (dk P k a):=by
 unfold dk dQ;have e:Nat.ble (a+n) cu.s.size=Nat.ble a P.s.size:=by
  rw[h.size];cases ag:Nat.ble a P.s.size with
  |true=>have:=bq ag;exact ud (by omega)
  |false=>
   have:¬ a<=P.s.size:=λq=>by rw[ud q]at ag;cases ag
   cases aF:Nat.ble (a+n) (P.s.size+n)with
   |false=>rfl| true=>have:=bq aF;omega
 rw[e,h.d'];cases Nat.ble a P.s.size with
 |false=>rfl
 |true=>
  simp only[aZ,ja,f',jX];by_cases ai:(bA P k a).ap=3;·rw[lv ai,lv (show(⟨min (bA P k a).n 65537,(bA P k a).aB,(bA P k a).ap⟩:bg).ap=3 from ai)]
  ·rw[GO ai,GO (show(⟨min (bA P k a).n 65537,(bA P k a).aB,(bA P k a).ap⟩:bg).ap≠3 from ai)]
section
variable{m m':Nat->Nat->bg}(H:∀ q b,m' q (b+n)=dM n (m q b))
include H
def Mg:∀ (L:List Nat) (a:Nat),iq m' 0 L (a+n)=ho n (iq m 0 L a)
 |[],a=>rfl
 |k::L,a=>by
  simp only[iq,hn,H,f',jX];cases ai:Nat.beq (m k a).ap 3 with
  |true=>
   simp only[aZ];have e:(dM n (m k a)).aB=(m k a).aB+n:=by rw[lv (bV ai)]
   rw[e,Mg L];cases Nat.beq (m k a).n 0<;>rfl
  |false=>exact Mg L a
def Uu:∀ (L:List Nat) (a:Nat),jo m' 0 L (a+n)=ho n (jo m 0 L a)
 |[],a=>rfl
 |k::L,a=>by
  simp only[jo,hn,H,f',jX];cases ai:Nat.beq (m k a).ap 3 with
  |true=>cases Nat.beq (m k a).n 0<;>rfl
  |false=>exact Uu L a
def Uv:∀ (L:List Nat) (a:Nat),allM m 0 L a->allM m' 0 L (a+n)
 |[],a,h=>trivial
 |k::L,a,⟨aa,ab⟩=>by
  simp only[hn]at aa ab;refine⟨?_,?_⟩;·simp only[hn,H,f'];exact aa
  ·have:=Uv L _ ab;simp only[hn,H,lv aa];exact this
def Uw:∀ (L:List Nat) (a:Nat),o9 m 0 L a->o9 m' 0 L (a+n)
 |[],a,h=>h| k::L,a,.inl h=>.inl (by simp only[hn,H,f']at h |-;exact h)| k::L,a,.inr ⟨aa,ab⟩=>.inr ⟨by simp only[hn,H,f']at aa |-;exact aa,Uw L a ab⟩
def aeG{hi:Int}{a:Nat}{l:List (Nat×Nat)}(h:hy m 0 k hi t a l):hy m' 0 k hi t (a+n) (ho n l):=by
 induction h with
 |stop aa=>exact .stop aa| fail aa ab=>exact .fail aa (by simp only[hn,H,f']at ab |-;exact ab)
 | @more t a l ag aa ab r a8=>
  simp only[hn]at ab a8;have:=hy.more (kn:=m') (base:=0) (k:=k) (hi:=hi) (t:=t) (a:=a+n) (l:=ho n l) ag aa (by simp only[hn,H,f'];exact ab) (by simp only[hn,H,lv ab];exact a8);simp only[hn,H,jX]at this;have e:ho n ((bif Nat.beq (m k (a-0)).n 0 then []else [(k,a)])++l)=(bif Nat.beq (m k a).n 0 then []else [(k,a+n)])++ho n l:=by
   simp only[hn];cases Nat.beq (m k a).n 0<;>rfl
  rw[e];exact this
def jv.parts(h:jv P cu n){a:Nat}{l:List (Nat×Nat)}(aH:hz P m k a l):hz cu m' k (a+n) (ho n l):=by
 unfold hz at aH |-;rw[h.at_,h.fe];rw[h.b]at aH;by_cases bM:(P.at_ k).d.k=6
 ·rw[cv bM]at aH |-;exact aeG H aH
 ·rw[b7 bM]at aH |-;by_cases bp:(P.at_ k).d.k=5
  ·rw[cv bp]at aH |-;exact⟨Uw H _ _ aH.1,by rw[aH.2,Uu H]⟩
  ·rw[b7 bp]at aH |-;exact⟨Uv H _ _ aH.1,by rw[aH.2,Mg H]⟩
def jv.gs(h:jv P cu n){N:Nat}(aG:eY P m N L l):eY cu m' N (ho n L) (hp n l):=by
 induction aG with
 |nil=>exact .nil
 | @zero N k a rest l ai au r a8=>
  simp only[h.b,hn]at ai au;refine eY.zero (k:=k) (a:=a+n) ?_ ?_ a8;·simp only[h.fe,hn,H,f'];exact ai
  ·simp only[h.fe,hn,H,jX];exact au
 | @node N k a parts rest l ai au aH r a8=>
  simp only[h.b,hn]at ai au;have e:hp n (lW P m k a++l)=lW cu m' k (a+n)++hp n l:=by
   unfold lW hp;rw[h.at_];cases decide ((P.at_ k).d.k=9)with
   |true=>simp only[aZ,Fa,eh,h.b,h.fe,hn,H,lv ai]| false=>rfl
  rw[e];refine eY.node (k:=k) (a:=a+n) ?_ ?_ (h.parts H aH) ?_;·simp only[h.fe,hn,H,f'];exact ai
  ·simp only[h.fe,hn,H,jX];exact au
  ·have:ho n (parts++rest)=ho n parts++ho n rest:=by simp[ho]
   show eY cu _ N (ho n parts++ho n rest) (hp n l);rw[<-this];exact a8
end
end
def Ux:∀ l:List bN,ga (l.flatMap bN.cells)=true
 |[]=>rfl| c::l=>by have:=Ux l;unfold ga at this |-;rw[qO,By,this];rfl
def dt.aeH{size:Nat}(h:dt I a n c size b vs)(M:List aC)(au:0<n):∃ ad,a=some ad/\ck I M ad (n*size) vs:=by
 rcases h.rd with aa | ⟨ad,aa,ab,cs,T,aj,ai,aQ⟩
 ·omega
 ·exact⟨ad,aa,ab,cs,T,aj,.inl ai,aQ,h.len⟩
def aeI(h:dt I a n c 3 0 (l.flatMap bN.cells))(ag:n<=1048576):Spec Tryz.prog 113 [.slice a n c,.slice none 0 0] I [] λv I' M'=>I'=I/\∃ os:bb,v=os.val/\os.ok 3 (l.flatMap bN.cells)/\M'=os.aV 59:=by
 refine b8 [] aT Tryz.func113 rfl rfl rfl ?_;intro B au;have uC:=Dk h;refine a6.mk (n:Int) (ec (by simp) (by omega)) ?_;refine aR.mk (λe=>?_) (λe=>?_)
 ·have ax:n=0:=by have:(n:Int)=0:=c9 e;omega
  have aA:l=[]:=lD (by omega);subst aA;exact⟨_,_,.refl,rfl,⟨none,0,0,[]⟩,rfl,RP 3,rfl⟩
 refine a6.mk (n:Int) (ec (by simp) (by omega)) ?_;refine qE.mk 0 n rfl rfl (bk _) (by show 32*n<=_;omega) (by omega) ?_;refine cC.mk λb ag Bi=>?_;refine be.Qs aT rfl (by simp) (e:=59) rfl rfl rfl ⟨some b,0,n,rowOf [.string ⟨#[]⟩,.int .i64 0,.int .i64 0] (n*3)⟩ (xs:=[]) ⟨rfl,λe=>(by cases e),λg aG=>⟨by simp[rowOf],bk _,by simp only[maxLen];omega,by simp⟩⟩ rfl rfl (news:=l.flatMap bN.cells) h.len (λau=>h.aeH _ au) (Ux l) [] [] (by rw[en];rfl) (by simp only;omega) (by show(0+n)*32<=_;omega) ?_;rintro ph o5-sf;refine be.Qs aT rfl (by simp) (e:=59) rfl rfl rfl ph sf rfl rfl (news:=[]) rfl (λau=>(by omega)) rfl [] [] rfl (by simp only at o5;omega) (by simp only at o5;show(ph.n+0)*32<=_;omega) ?_;rintro gl sV-gL;refine⟨_,gl.aV 59,.zy (by rw[en];rfl),rfl,gl,rfl,?_,rfl⟩;simpa using gL
def aeJ(h:dt I a n c 3 0 (o.fO.flatMap bN.cells))(ag:n<=1048576):Spec Tryz.prog 80 [np o (.slice a n c)] I [] λv I' M'=>I'=I/\∃ os:bb,v=np o os.val/\os.ok 3 (o.fO.flatMap bN.cells)/\M'=os.aV 59:=by refine b8 [] aT Tryz.func80 rfl rfl rfl ?_;intro B au;obtain⟨k,aB,l⟩:=o;refine cX.draw aT rfl rfl rfl ?_;refine nO.whole _ (aeI h ag) (λv I' M' h x ae=>by cases ae) ?_;rintro v I' M' -⟨rfl,os,rfl,aW,rfl⟩;exact⟨_,_,.refl,rfl,os,rfl,aW,rfl⟩
structure aeK(n by_:Nat)(l:List bN)(qy:Value)(i:Nat)(os:bb):Prop where
 hi:i<=n
 v:os.val=qy
 ok:os.ok 3 ((hp by_ (l.take i)++l.drop i).flatMap bN.cells)
def aeL(hi:i<l.length):i<(hp by_ (l.take i)++l.drop i).length/\∀ h:i<(hp by_ (l.take i)++l.drop i).length,(hp by_ (l.take i)++l.drop i)[i]=l[i]:=by
 have ay:(hp by_ (l.take i)).length=i:=by rw[hp,fl,kz];omega
 refine⟨by rw[cD,ay,r9];omega,λh=>?_⟩;rw[IZ (by omega)];simp[ay]
def aeM(hi:i<l.length):(hp by_ (l.take i)++l.drop i).set i ⟨l[i].name,l[i].lo+by_,l[i].hi+by_⟩=hp by_ (l.take (i+1))++l.drop (i+1):=by
 have ay:(hp by_ (l.take i)).length=i:=by rw[hp,fl,kz];omega
 rw[List.set_append_right _ _ (by omega),ay,vX,fs hi,List.set_cons_zero,jw hi,hp,hp,hq,fJ];rfl
set_option maxRecDepth 100000 in
def aeN(hm:Ao o 4096)(h:dt I a n c 3 0 (o.fO.flatMap bN.cells))(Uy:by_<=4096)(fD:o.aB+by_<=4096) :
  Spec Tryz.prog 44 [np o (.slice a n c),.int .i64 by_] I [] λv I' M'=>I'=I/\∃ os:bb,v=.tuple #[np (wD by_ o) os.val,.bool true]/\os.ok 3 ((wD by_ o).fO.flatMap bN.cells)/\M'=os.aV 59:=by
 refine b8 [] aT Tryz.func44 rfl rfl rfl ?_;intro B au;refine a7.whole _ (L7 (bS 4096) hm h) ?_;rintro v J N -⟨rfl,rfl,rfl⟩;refine aR.mk (λe=>nomatch (show false=true from e)) (λ_=>?_);have uC:=Dk h;have hlen:=hm.len;have Gv:=hm.dI;obtain⟨k,aB,l⟩:=o;simp only at uC hlen fD h Gv;cases k with
 |false=>obtain⟨dH,di⟩:=hm.no rfl;simp only at dH di;subst dH;subst di;refine aR.mk (λ_=>?_) (λe=>nomatch (show true=false from e));refine a7.whole _ RB ?_;rintro v I' M' -⟨rfl,rfl,rfl⟩;exact⟨_,_,.refl,rfl,⟨none,0,0,[]⟩,rfl,RP 3,rfl⟩
 |true=>
 have cU:decide ((by_:Int) < -4096)=false:=b4 (by omega);have b9:decide ((4096:Int)<(by_:Int))=false:=b4 (by omega);have df:decide (((aB+by_:Nat):Int)<0)=false:=b4 (by omega);have eb:decide ((4096:Int)<((aB+by_:Nat):Int))=false:=b4 (by omega);refine aR.mk (λe=>nomatch (show false=true from e)) (λ_=>?_);refine bC.mk (λ_=>?_) (λe=>nomatch (show false=true from cU.symm.trans e));refine bC.mk (λ_=>?_) (λe=>nomatch (show false=true from b9.symm.trans e));refine a6.mk ((aB+by_:Nat):Int) (ec (by simp) (by omega)) ?_;refine bC.mk (λ_=>?_) (λe=>nomatch (show false=true from df.symm.trans e));refine a6.mk ((aB+by_:Nat):Int) (ec (by simp) (by omega)) ?_;refine aR.mk (λe=>nomatch (show false=true from eb.symm.trans e)) (λ_=>?_);refine a7.whole _ (aeJ (o:=⟨true,aB,l⟩) h (by omega)) ?_;rintro v I' M' -⟨rfl,gP,rfl,xX,rfl⟩;have xY:gP.n=l.length:=by have:=xX.len;rw[fo _ 3 bN.cV]at this;simp only at this;omega
 refine a6.mk ((aB+by_:Nat):Int) (ec (by simp) (by omega)) ?_;refine dh.inv (ι:=Nat×bb) (λy=>{ ca:=[(1,.val (.int .i64 by_)),(4,.ref 4 0),(6,.ref 6 0),(47,.val (.int .i64 gP.n)),(48,.val (.int .i64 y.1))],cl:=[(4,[.bool false,.int .i64 0,.slice none 0 0]),(6,[.bool true,.int .i64 ((aB+by_:Nat):Int),gP.val])],cQ:=I',dq:=y.2.aV 59 }) (λy=>aeK gP.n by_ l gP.val y.1 y.2) (λy=>gP.n-y.1) ?_ ?_
 ·exact⟨(0,gP),⟨bk _,rfl,by simpa[hp]using xX⟩,.refl,iD,.cons rfl (.cons rfl (.nil))⟩
 rintro⟨i,os⟩⟨hi,vZ,aW⟩;simp only at hi vZ aW;refine aR.mk (λe=>?_) (λe=>?_)
 rotate_left
 ·have dE:¬ (i:Int)<(gP.n:Int):=dj e;refine⟨_,_,.refl,rfl,os,by rw[vZ];rfl,?_,rfl⟩;rw[hN (by omega),iU (by omega),en]at aW;exact aW
 have aU:i<gP.n:=by have:(i:Int)<(gP.n:Int):=c9 e;omega
 have eI:i<l.length:=by omega
 obtain⟨qw,qx⟩:=aeL (by_:=by_) eI;obtain⟨ee,eH,kK⟩:=Gv _ (dR eI);have jH:=aeM (by_:=by_) eI;have qx:=qx qw;generalize ae:l[i]=x at qx ee eH kK jH;obtain⟨ad,cg,bD⟩:=bb.ok.row (I:=I') (M:=os.aV 59) (e:=59) bN.cV (by decide) aW (λz bd=>bd) qw;rw[qx]at bD;have aeO:gP.a.map (λg=>(⟨g,0,none⟩:Addr))=some ad:=by
  have c8:=vZ;unfold bb.val at c8;injection c8 with aa ab ai
  rw[<-aa];exact cg
 refine bs.mk ad i aeO rfl aU ?_;refine aM.mk _ (bD.part (k:=1) (m:=1) (by decide)) ?_;have d1:decide (((x.lo+by_:Nat):Int)<0)=false:=b4 (by omega);refine a6.mk ((x.lo+by_:Nat):Int) (ec (by simp) (by omega)) ?_;refine aR.mk (λe=>nomatch (show false=true from d1.symm.trans e)) (λ_=>?_);refine aM.mk _ (bD.part (k:=1) (m:=1) (by decide)) ?_;refine a6.mk ((x.lo+by_:Nat):Int) (ec (by simp) (by omega)) ?_;refine bb.Qt (e:=59) bN.cells 3 bN.cV aW qw 1 (vs:=[.int .i64 ((x.lo+by_:Nat):Int)]) (bq rfl) rfl ⟨x.name,x.lo+by_,x.hi⟩ (by rw[qx];rfl) [] [] (by simp) cg ?_;intro gl rU Cs sV gL;have Aj:i<((hp by_ (l.take i)++l.drop i).set i ⟨x.name,x.lo+by_,x.hi⟩).length:=by rw[vS];exact qw
 obtain⟨ahm,GS,Uz⟩:=bb.ok.row (I:=I') (M:=[]++(gl.aV 59++[])) (e:=59) bN.cV (by decide) gL (λz bd=>by simpa using bd) Aj;rw[BX]at Uz;rw[Cs,cg]at GS;obtain rfl:=m0 GS;refine aM.mk _ (Uz.part (k:=2) (m:=1) (by decide)) ?_;refine a6.mk ((x.hi+by_:Nat):Int) (ec (by simp) (by omega)) ?_;refine bb.Qt (e:=59) bN.cells 3 bN.cV gL Aj 2 (vs:=[.int .i64 ((x.hi+by_:Nat):Int)]) (bq rfl) rfl ⟨x.name,x.lo+by_,x.hi+by_⟩ (by rw[BX];rfl) [] [] rfl (by rw[Cs];exact cg) ?_;intro x3 qa Rw Ra sg;rw[List.set_set,jH]at sg;refine a6.mk _ (cY (i:=i) (by omega)) ?_;exact⟨(i+1,x3),⟨⟨by simp only;omega,qa.trans (rU.trans vZ),sg⟩,by simp only;omega⟩,.zy (by simp),iD,.cons rfl (.cons rfl (.nil))⟩
def aeP(h:n<18446744073709551616):IntKind.u64.wrap (n:Int)=n:=by unfold IntKind.wrap;simp only[IntKind.bits,IntKind.signed];simp;omega
def aeQ(x:Int):0<=IntKind.u64.wrap x:=by unfold IntKind.wrap;simp only[IntKind.bits,IntKind.signed];simp;omega
def aeR(o:lY)(by_:Nat)(I:aN)(M0:List aC)(v:Value)(I':aN)(M':List aC):Prop:=(∀ b o,I b=some o->I' b=some o)/\M'=M0/\∃ (a:Option Addr) (n c:Nat),v=.tuple #[np (wD by_ o) (.slice a n c),.bool true]/\dt I' a n c 3 0 ((wD by_ o).fO.flatMap bN.cells)
def aeS(hm:Ao o 4096)(h:dt I a n c 3 0 (o.fO.flatMap bN.cells))(Uy:by_<=4096)(fD:o.aB+by_<=4096) :
  Spec Tryz.prog 44 [np o (.slice a n c),.int .i64 by_] I M0 (aeR o by_ I M0):=by
 refine Spec.uX (Spec.frame (Spec.lp (aeN hm h Uy fD))) ?_;rintro v J M⟨M',rfl,-,cT,rfl,-,I',M1,⟨rfl,os,rfl,dS,rfl⟩,ct⟩;exact⟨cT,rfl,os.a.map λg=>⟨g,0,none⟩,os.n,os.c,rfl,bb.T4 ct dS (λ_ h=>h) (by omega)⟩
def qq.bn{P cu:bu}{a:Nat}(h:jv P cu n){bc:Int}(t:qq P k a o e)(dU:qq cu k (a+n) o' bc):bc=e/\(e=0->o'=wD n o):=by
 have ay:=h.d' k a;have cx:(bA cu k (a+n)).ap=(bA P k a).ap:=by rw[ay,f']
 have aw:(bA cu k (a+n)).n=(bA P k a).n:=by rw[ay,jX]
 cases t with
 |none q an he=>
  cases dU with
  |none c7 k1 ve=>exact⟨by omega,by omega⟩| fail c7=>omega| many c7=>omega| is c7=>omega
 |fail q an he=>
  cases dU with
  |none c7=>omega| fail c7 k1 ve=>refine⟨by omega,λ_=>?_⟩;rw[an,k1];rfl| many c7=>omega| is c7=>omega
 |many q dH an he=>
  cases dU with
  |none c7=>omega| fail c7=>omega| many c7 Mh k1 ve=>exact⟨by omega,by omega⟩| is c7 Mh=>omega
 |is q dH he aW fD hlen aG dY=>
  cases dU with
  |none c7=>omega| fail c7=>omega| many c7 Mh=>omega| is c7 Mh ve FA UA JC kZ ahn=>refine⟨by omega,λ_=>?_⟩;obtain⟨N,aG⟩:=aG;obtain⟨aho,kZ⟩:=kZ;have ak:=(h.gs (λq b=>h.kn q b) aG).xH kZ;obtain⟨ok,aB,fO⟩:=o;obtain⟨ahp,sU,ahq⟩:=o';simp only at aW FA fD UA ak;subst aW;subst FA;rw[UA,<-ak,fD,ay,lv q];rfl
def aeT{g:c1}{p:Nat}(aH:p<=s.size):jv (fY g (s.extract p s.size)) (fY g s) p:=by
 refine⟨⟨rfl,(dG p).symm,s.extract 0 p,?_,?_⟩,rfl,rfl⟩
 ·rw[A6];omega
 ·show s=s.extract 0 p++s.extract p s.size;apply pA;rw[Lu,uY,uY,Array.extract_append_extract];have:s.size=s.data.size:=rfl;rw[yG (bk _),Nat.max_eq_right aH,this,Array.extract_size]
def zQ.GY{g:c1}(hi:i<g.n)(ar:j<=s.size)(az:zQ g s i j o e):qq (fY g s) (iK g i) j o e:=by
 have s5:l1 g.n s.size i j=true:=by simp only[l1,bG,eC];omega
 cases az with
 |no h an he=>rw[s5]at h;cases h
 |is i2 fh gd lI _ _ h=>
  obtain rfl:i=i2:=by omega
  obtain rfl:j=fh:=by omega
  exact h
def UB{g:c1}{t:dp}{T:Nat->Nat->bE}(h:ln I g s t T)(hm:nf g)(jV:ou I t T)(ik:g.ds.length=g.n)(eZ a:Int)(aF:∀ o e,zQ g s eZ a o e->o.fO.length<=65536) :
  Spec Tryz.prog 27 [ptr t.bt,.int .i64 eZ,.int .i64 a] I M0 λv I' M'=>(∀ b o,I b=some o->I' b=some o)/\M'=M0/\∃ (bw:Option Addr) (n c:Nat) (o:lY) (e:Int),zQ g s eZ a o e/\v=.tuple #[np o (.slice bw n c),.int .i64 e]/\dt I' bw n c 3 0 (o.fO.flatMap bN.cells):=by
 refine Spec.uX (Spec.frame (Spec.lp (RE h hm jV ik eZ a))) ?_;rintro v J M⟨M',rfl,-,cT,rfl,-,I',M1,⟨rfl,os,o,e,an,rfl,dS,rfl⟩,ct⟩;exact⟨cT,rfl,os.a.map λg=>⟨g,0,none⟩,os.n,os.c,o,e,an,rfl,bb.T4 ct dS (λ_ h=>h) (by omega)⟩
def qq.fO{P:bu}{a:Nat}(h:qq P k a o e):o.fO.length<=65536:=by
 cases h with
 |none h an he=>rw[an];exact bk _| fail h an he=>rw[an];exact bk _| many h aw an he=>rw[an];exact bk _| is h aw he aW fD ay=>omega
set_option maxRecDepth 100000 in
def aeU(bO:ih I jn){g:c1}(qv:od I g)(aq:s.size<=9223372036854775807){at_:Int}(ahr:k8 at_):rN Tryz.prog 9 [g.val,.string s,.int .i64 at_] I [] λv _ _=>v=.bool true:=by
 obtain⟨h',UC⟩:∃ w,IntKind.u64.wrap at_=w:=⟨_,rfl⟩
 have aeV:0<=h':=by rw[<-UC];exact aeQ at_
 obtain⟨k,af⟩:∃ k,h'.tmod ((s.size+1:Nat):Int)=k:=⟨_,rfl⟩;have zb:0<=k:=by rw[<-af];exact Int.tmod_nonneg _ aeV
 have tN:k<((s.size+1:Nat):Int):=by rw[<-af];exact Int.tmod_lt_of_pos _ (by omega)
 obtain⟨p,rfl⟩:∃ p:Nat,k=p:=⟨k.toNat,by omega⟩;have lf:p<=s.size:=by omega
 refine yR [] aT Tryz.func9 rfl rfl rfl ?_;intro B au;refine a7.mk [] [] _ (.refl _) (RN qv (Up (I:=I)) s) ?_;rintro v L9 N -⟨⟨L',rfl,mY⟩,AR,dY⟩;subst L9;subst N;cases L' with
 |true=>refine bC.mk (λh=>absurd h (by simp)) (λ_=>?_);refine a7.mk [] [] _ (.refl _) (GQ bO) ?_;rintro v wE N -⟨rfl,GV,rfl⟩;exact⟨_,_,.refl,rfl⟩
 |false=>
 obtain⟨nI,-,CA⟩:=mY rfl;have aG:=qv.zR nI;have ik:=aG.n;have vK:=nI.n;have aeW:IntKind.i64.wrap (h'.tmod ((s.size+1:Nat):Int))=(p:Int):=by rw[af];exact wrap_i64 ⟨by omega,by omega⟩
 refine bC.mk (λ_=>?_) (λh=>absurd h (by simp));refine a7.mk [] [] _ (.refl _) (GQ bO) ?_;rintro v aeD N -⟨rfl,Dl,rfl⟩;have tO:=bO.mono Dl;have iI:=aG.mono Dl;refine aR.mk (λh=>by cases h) (λ_=>?_);refine a6.mk h' UC ?_;refine a6.mk ((s.size+1:Nat):Int) (ec (by simp) (by omega)) ?_;refine a6.mk ((s.size+1:Nat):Int) (aeP (by omega)) ?_;refine oH.mk (by omega) ?_;refine a6.mk (p:Int) aeW ?_;refine a7.mk [] [] _ (.refl _) (FI tO iI (by omega) s) ?_;rintro v Ma N -⟨GW,rfl,yy⟩;have m4:=tO.mono GW;have ic:=iI.mono GW;have ahs:(s.extract p s.size).size=s.size-p:=by rw[A6];omega
 have bad:∀ e:Int,e≠0->(!decide (e=0))=true:=λe he=>by rw[b4 he];rfl
 rcases yy with⟨bl,rfl⟩ | ⟨-,Dm,rfl⟩ | ⟨qo,Cx,t,T,rfl,Mb⟩
 ·refine cX.draw aT rfl rfl rfl ?_;refine h5.mk p s.size rfl rfl lf (bS _) ?_;refine a7.mk [] [] _ (.refl _) (FI m4 ic (by omega) (s.extract p s.size)) ?_;rintro v wE N -⟨GV,rfl,yy⟩;rcases yy with⟨rR,rfl⟩ | ⟨qo,-,-⟩ | ⟨qo,-⟩
  ·refine bC.mk (λh=>nB (bad _ bl) h) (λ_=>?_);refine⟨_,_,.refl,?_⟩;show Value.bool (decide (jN jn g=jN jn g))=_;rw[e7 rfl]
  ·exact absurd qo bl
  ·exact absurd qo bl
 ·exact absurd Dm (by omega)
 refine cX.draw aT rfl rfl rfl ?_;refine h5.mk p s.size rfl rfl lf (bS _) ?_;refine a7.mk [] [] _ (.refl _) (FI m4 ic (by omega) (s.extract p s.size)) ?_;rintro v wE N -⟨GV,rfl,yy⟩;rcases yy with⟨rR,-⟩ | ⟨-,Dm,-⟩ | ⟨-,UD,u,U,rfl,aeX⟩
 ·exact absurd qo rR
 ·exact absurd Dm (by omega)
 have aeY:=Mb.mono GV;have Mc:∀ d∈g.ds,d.t.ns.length=d.t.n:=λd ak=>(aG.ds d ak).t.n;have ei:∀ d∈g.ds,∀ n∈d.t.ns,0<=n.k:=λd ak n aw=>((aG.ds d ak).t.ns n aw).k.1;have hm:=Jc qo Mc;have aeZ:=aeT (g:=g) lf;refine bC.mk (λ_=>?_) (λh=>h2 rfl h);refine aR.mk (λh=>h2 rfl h) (λ_=>?_);refine dh.inv (ι:=Nat×aN) (λx=>{ ca:=[(1,.val (.string s)),(2,.val (.int .i64 p)),(3,.ref 3 0),(7,.val (ptr t.bt)),(9,.val (ptr u.bt)),(11,.val (.int .i64 x.1))],cl:=[(3,[.slice g.a g.n g.c])],cQ:=x.2,dq:=[] }) (λx=>x.1<=g.n/\ln x.2 g s t T/\ln x.2 g (s.extract p s.size) u U) (λx=>g.n-x.1) ?_ ?_
 ·exact⟨(0,wE),⟨bk _,aeY,aeX⟩,.refl,jG,.cons rfl (.nil)⟩
 rintro⟨i,J⟩⟨hi,cT,UE⟩;simp only at hi cT UE;refine aR.mk (λe=>?_) (λe=>?_)
 rotate_left
 ·exact⟨_,_,.refl,rfl⟩
 have aU:i<g.n:=by have ab:decide ((i:Int)<(g.n:Int))=true:=e;have:=c9 ab;omega
 refine dh.inv (ι:=Nat×aN) (λx=>{ ca:=[(1,.val (.string s)),(2,.val (.int .i64 p)),(3,.ref 3 0),(7,.val (ptr t.bt)),(9,.val (ptr u.bt)),(11,.val (.int .i64 i)),(12,.val (.int .i64 x.1))],cl:=[(3,[.slice g.a g.n g.c])],cQ:=x.2,dq:=[] }) (λx=>p<=x.1/\x.1<=s.size+1/\ln x.2 g s t T/\ln x.2 g (s.extract p s.size) u U) (λx=>s.size+1-x.1) ?_ ?_
 ·exact⟨(p,J),⟨bS _,by omega,cT,UE⟩,.refl,j8,.cons rfl (.nil)⟩
 rintro⟨j,K⟩⟨nM,ar,dB,yA⟩;simp only at nM ar dB yA;refine aR.mk (λaA=>?_) (λaA=>?_)
 rotate_left
 ·refine a6.mk _ (cY (i:=i) (by omega)) ?_;exact⟨(i+1,K),⟨⟨by omega,dB,yA⟩,by simp only;omega⟩,.refl,jG,.cons rfl (.nil)⟩
 have x6:j<=s.size:=by have ab:(j:Int)<=(s.size:Int):=c9 aA;omega
 have jV:=dB.Cw hm ei Cx;have aht:=yA.Cw hm ei UD;refine a7.whole _ (UB dB hm jV ik (i:Int) (j:Int) λo e h=>(h.GY aU x6).fO) ?_;rintro v aeE N -⟨UF,rfl,cf,fN,ee,xM,ax,ae0,rfl,yz⟩;have q6:=ae0.GY aU x6;have UG:=yA.mono UF;have ae1:=UG.Cw hm ei UD;refine a6.mk ((j-p:Nat):Int) (by rw[show(j:Int)-(p:Int)=((j-p:Nat):Int) by omega];exact wrap_i64 ⟨by omega,by omega⟩) ?_;have Mi:j-p<=(s.extract p s.size).size:=by omega
 refine a7.whole _ (UB UG hm ae1 ik (i:Int) ((j-p:Nat):Int) λo e h=>(h.GY aU Mi).fO) ?_;rintro v oD N -⟨UH,rfl,dd,hP,eH,xN,aA,ae2,rfl,ae3⟩;have mu:=ae2.GY aU Mi;have ae:=mu.bn aeZ (by rw[Nat.sub_add_cancel nM];exact q6);obtain⟨ae4,uV⟩:=ae;subst ae4;have Aq:∀ b o,K b=some o->oD b=some o:=λb o h=>UH _ _ (UF _ _ h);have ae5:(!decide (ax=ax))=false:=by rw[e7 rfl];rfl
 refine aR.mk (λh=>h2 ae5 h) (λ_=>?_);by_cases he:ax=0
 ·have UI:=uV he;subst he;refine bC.mk (λ_=>?_) (λh=>nB rfl h);have kg:=mu.may hm ei Mi;have ae6:Ao xN 4096:=⟨kg.no,by have:=kg.aB;omega,kg.len,kg.dI,kg.ne⟩;refine aR.mk (λaW=>?_) (λaW=>?_)
  ·refine a7.whole _ (aeS ae6 ae3 (by_:=p) (by omega) (by have:=kg.aB;omega)) ?_;rintro v Ap N -⟨Dg,rfl,c2,vP,kK,rfl,ae7⟩;refine bC.mk (λ_=>?_) (λh=>h2 rfl h);have o5:fN<=140737488355327:=by have:=Dk yz;have:=q6.fO;omega
   refine a7.whole _ (aea (o:=xM) (o':=wD p xN) (yz.mono λb o h=>Dg _ _ (UH _ _ h)) ae7 o5) ?_;rintro v ae8 N -⟨⟨b,rfl,ag⟩,rfl,rfl⟩;have mW:(!b)=false:=by rw[ag.2 UI];rfl
   refine aR.mk (λh=>h2 mW h) (λ_=>?_);refine a6.mk _ (cY (i:=j) (by omega)) ?_;exact⟨(j+1,ae8),⟨⟨by omega,by omega,dB.mono λb o h=>Dg _ _ (Aq _ _ h),yA.mono λb o h=>Dg _ _ (Aq _ _ h)⟩,by simp only;omega⟩,.refl,j8,.cons rfl (.nil)⟩
  ·refine bC.mk (λ_=>?_) (λh=>nB rfl h);have gL:xN.ok=false:=by
    cases ab:xN.ok with
    |false=>rfl| true=>rw[UI]at aW;unfold wD at aW;rw[ab]at aW;cases aW
   refine aR.mk (λh=>h2 gL h) (λ_=>?_);refine a6.mk _ (cY (i:=j) (by omega)) ?_;exact⟨(j+1,oD),⟨⟨by omega,by omega,dB.mono Aq,yA.mono Aq⟩,by simp only;omega⟩,.refl,j8,.cons rfl (.nil)⟩
 ·have st:decide (ax=0)=false:=b4 he;refine bC.mk (λh=>h2 st h) (λ_=>?_);refine bC.mk (λh=>h2 st h) (λ_=>?_);refine a6.mk _ (cY (i:=j) (by omega)) ?_;exact⟨(j+1,oD),⟨⟨by omega,by omega,dB.mono Aq,yA.mono Aq⟩,by simp only;omega⟩,.refl,j8,.cons rfl (.nil)⟩
end Go.V
