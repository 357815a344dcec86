/- Part 10 of what the proofs of this seat share: the executor, data in memory, walks.
-/
import Derived.Test.YtjaibbcbjfapaaaGreatDoorK9
set_option linter.all false
set_option maxRecDepth 100000
namespace Go.V
open Go Go.Proofs
variable{X:cN}{F:Fr}{C:de}{I:aH}{M:List aA}{K:jC}
def avN{J:aH}{b:Nat}{k l m:Int}(h:J b=some (.cells #[.int .i64 k,.int .i64 l,.int .i64 m] 3 (0,0))):cx J (some ⟨b,0,none⟩) 3 3 1 8 (hR [k,l,m]):=
 ⟨rfl,⟨cc _,bv⟩,.inr ⟨⟨b,0,none⟩,rfl,rfl,_,_,_,h,rfl⟩⟩
def avO{c:Code}{om:jC}(h:V X c F C I M om):V X .skip F C I M (uC (λF C I M=>V X c F C I M om) K):=h
def age{x y:Code}(h:V X x F C I M (uC (λF C I M=>V X y F C I M K) K)):V X (.seq x y) F C I M K:=h
def avP{i:Nat}{ops:Array Oper}{N:fz}(h:nW X ops.toList ops.toList F C I M N):V X (.region i ops false) F C I M (uC N K):=h
set_option maxHeartbeats 16000000 in
def avQ(a6:en I fw):vV Tryz.prog 14 [] I [] λv I' M'=>v=.bool true:=by
 refine Bf [] a0 Tryz.func14 rfl rfl rfl ?_;intro B ax;refine a8.mk [] [] _ (.refl _) (aut a6) ?_;rintro v dA N -⟨rfl,nB,rfl⟩;have avR:=a6.mono nB;refine aZ.mk (λh=>ci) (λ_=>?_);refine avO ?_;refine age ?_;refine age ?_;refine avP ?_;refine @mA _ _ _ _ _ _ _ _ _ ?_ ?_ ?_ ?_
 ·rfl
 ·exact .val (.agg #[.string ⟨#[34,97,34]⟩,.string ⟨#[34,98,34]⟩,.int .u8 1,.bool true,.string ⟨#[97,98]⟩])
 ·intro h6;rfl
 refine @mA _ _ _ _ _ _ _ _ _ ?_ ?_ ?_ ?_
 ·rfl
 ·exact .val (.agg #[.string ⟨#[91,93]⟩,.string ⟨#[91,93]⟩,.int .u8 1,.bool true,.string ⟨#[]⟩])
 ·intro h6;rfl
 refine @mA _ _ _ _ _ _ _ _ _ ?_ ?_ ?_ ?_
 ·rfl
 ·exact .val (.agg #[.string ⟨#[97]⟩,.string ⟨#[91,98,93]⟩,.int .u8 1,.bool false,.string ⟨#[]⟩])
 ·intro h6;rfl
 refine @mA _ _ _ _ _ _ _ _ _ ?_ ?_ ?_ ?_
 ·rfl
 ·exact .val (.agg #[.string ⟨#[91,97,93]⟩,.string ⟨#[34,34]⟩,.int .u8 1,.bool false,.string ⟨#[]⟩])
 ·intro h6;rfl
 refine @mA _ _ _ _ _ _ _ _ _ ?_ ?_ ?_ ?_
 ·rfl
 ·exact .val (.agg #[.string ⟨#[91,97,93]⟩,.string ⟨#[91,98,93]⟩,.int .u8 2,.bool false,.string ⟨#[]⟩])
 ·intro h6;rfl
 refine @mA _ _ _ _ _ _ _ _ _ ?_ ?_ ?_ ?_
 ·rfl
 ·exact .val (.agg #[.string ⟨#[91,97,93]⟩,.string ⟨#[91,98,93]⟩,.int .u8 0,.bool false,.string ⟨#[]⟩])
 ·intro h6;rfl
 refine @mA _ _ _ _ _ _ _ _ _ ?_ ?_ ?_ ?_
 ·rfl
 ·exact .val (.agg #[.string ⟨#[91,97,93]⟩,.string ⟨#[91,98,93]⟩,.int .u8 4,.bool false,.string ⟨#[]⟩])
 ·intro h6;rfl
 refine @mA _ _ _ _ _ _ _ _ _ ?_ ?_ ?_ ?_
 ·rfl
 ·exact .val (.agg #[.string ⟨#[33,91,97,93]⟩,.string ⟨#[91,97,93]⟩,.int .u8 2,.bool true,.string ⟨#[]⟩])
 ·intro h6;rfl
 refine @mA _ _ _ _ _ _ _ _ _ ?_ ?_ ?_ ?_
 ·rfl
 ·exact .val (.agg #[.string ⟨#[33,91,97,93]⟩,.string ⟨#[34,98,34]⟩,.int .u8 2,.bool false,.string ⟨#[]⟩])
 ·intro h6;rfl
 refine @mA _ _ _ _ _ _ _ _ _ ?_ ?_ ?_ ?_
 ·rfl
 ·exact .val (.agg #[.string ⟨#[33,34,97,34]⟩,.string ⟨#[91,98,93]⟩,.int .u8 2,.bool false,.string ⟨#[]⟩])
 ·intro h6;rfl
 refine @mA _ _ _ _ _ _ _ _ _ ?_ ?_ ?_ ?_
 ·rfl
 ·exact .val (.agg #[.string ⟨#[33,91,97,93]⟩,.string ⟨#[91,98,93]⟩,.int .u8 3,.bool false,.string ⟨#[]⟩])
 ·intro h6;rfl
 refine @mA _ _ _ _ _ _ _ _ _ ?_ ?_ ?_ ?_
 ·rfl
 ·exact .val (.agg #[.string ⟨#[38,91,97,93]⟩,.string ⟨#[91,98,93]⟩,.int .u8 3,.bool true,.string ⟨#[]⟩])
 ·intro h6;rfl
 refine @mA _ _ _ _ _ _ _ _ _ ?_ ?_ ?_ ?_
 ·rfl
 ·exact .val (.agg #[.string ⟨#[38,91,97,93]⟩,.string ⟨#[91,98,93]⟩,.int .u8 2,.bool false,.string ⟨#[]⟩])
 ·intro h6;rfl
 refine @mA _ _ _ _ _ _ _ _ _ ?_ ?_ ?_ ?_
 ·rfl
 ·exact .val (.agg #[.string ⟨#[33,91,97,93]⟩,.string ⟨#[91,98,93]⟩,.int .u8 1,.bool false,.string ⟨#[]⟩])
 ·intro h6;rfl
 refine @mA _ _ _ _ _ _ _ _ _ ?_ ?_ ?_ ?_
 ·rfl
 ·exact .val (.agg #[.string ⟨#[38,91,97,93]⟩,.string ⟨#[120]⟩,.int .u8 3,.bool false,.string ⟨#[]⟩])
 ·intro h6;rfl
 refine @mA _ _ _ _ _ _ _ _ _ ?_ ?_ ?_ ?_
 ·rfl
 ·exact .val (.agg #[.string ⟨#[33,91,93]⟩,.string ⟨#[91,98,93]⟩,.int .u8 2,.bool true,.string ⟨#[98]⟩])
 ·intro h6;rfl
 refine @mA _ _ _ _ _ _ _ _ _ ?_ ?_ ?_ ?_
 ·rfl
 ·exact .val (.agg #[.string ⟨#[33,33,91,97,93]⟩,.string ⟨#[91,98,93]⟩,.int .u8 2,.bool false,.string ⟨#[]⟩])
 ·intro h6;rfl
 refine @UC _ _ _ _ _ _ _ _ _ ?_ ?_
 ·rfl
 refine @af5 _ _ _ _ _ _ _ (uq.map pe.val) 17 _ ⟨_,_,_,_,rfl,rfl,rfl,rfl,rfl,rfl,rfl,rfl,?_⟩ ?_
 ·intro v ak;obtain⟨x,-,rfl⟩:=c3.1 ak;rfl
 refine bQ.mk λDe vR ayI=>?_;have Cw:(uq.map pe.val).flatMap (λv=>v.cells.toList)=uq.flatMap pe.cells:=rfl;rw[Cw];have bZ:uq.length=17:=rfl;have qo:=avB;have mZ:∀ (K:aH) i (h:i<uq.length),c6 K [⟨De,.cells (uq.flatMap pe.cells).toArray 95 (0,0)⟩] ((⟨De,0,none⟩:Addr).add (i*5)) 5 uq[i].cells:=λK i h=>by rw[eM (⟨De,0,none⟩:Addr) rfl];refine⟨rfl,_,_,_,.inr ⟨_,.head _,rfl,rfl⟩,?_,rfl⟩;rw[dn];exact Bw pe.cells 5 pe.cL _ i h
 refine du.inv (ι:=Nat×aH) (λs=>{ bp:=[(39,.val (.slice (some ⟨De,0,none⟩) 17 17)),(40,.val (.int .i64 17)),(41,.val (.int .i64 s.1))],cl:=[],cO:=s.2,c5:=[⟨De,.cells (uq.flatMap pe.cells).toArray 95 (0,0)⟩] }) (λs=>s.1<=17/\∀ b o,dA b=some o->s.2 b=some o) (λs=>17-s.1) ?_ ?_
 ·exact⟨(0,dA),⟨am,λ_ _ h=>h⟩,.sub (.cons_cons _ (fs _)) .refl,fQ,.nil⟩
 generalize([⟨De,.cells (uq.flatMap pe.cells).toArray 95 (0,0)⟩]:List aA)=yX at mZ;generalize uq=agf at mZ bZ qo;rintro⟨i,J⟩⟨hi,a4⟩;simp only at hi a4;have Is:=avR.mono a4;refine aZ.mk (λh=>?_) (λh=>?_)
 ·have a1:i<17:=by have:(i:Int)<17:=cT h;omega
  have dN:i<agf.length:=by omega
  have bo:=mZ J i dN;have agh:=fun {I:aH}=>@qo _ (bK dN) I;generalize agf[i]=x at bo agh;refine bt.mk ⟨De,0,none⟩ i rfl rfl a1 ?_;refine aU.mk _ bo ?_;refine a8.mk [] yX _ am (agh Is) ?_;rintro v h0 N -⟨rfl,g1,rfl⟩;refine aZ.mk (λh=>absurd h bv) (λ_=>?_);refine be.mk _ (c9 (i:=i) Z) ?_;exact⟨(i+1,h0),⟨⟨a1,λb o h=>g1 _ _ (a4 _ _ h)⟩,ce⟩,.refl,fQ,.nil⟩
 clear mZ bZ qo;refine bQ.mk λEX wq ayJ=>?_;have v0:∀ b o,J b=some o->ins J EX (.cells #[.int .i64 1000,.int .i64 2010,.int .i64 3012] 3 (0,0)) b=some o:=j0 wq;refine a8.sd (ins J EX (.cells #[.int .i64 1000,.int .i64 2010,.int .i64 3012] 3 (0,0))) [] yX _ (.kZ rfl am .refl) (afE (Is.mono v0) JD JF ava bv bv (avN (mg ..)) rfl) ?_;rintro v IQ N avS -⟨rfl,-,rfl⟩;have agi:=Is.mono λb o h=>avS _ _ (v0 _ _ h);refine b5.mk (λ_=>?_) (λh=>ci);refine a8.mk [] yX _ am (FZ agi JD auY JF (gy NK) (w:=1) bv (u:=0) (p7 _) (kid:=0) ip avb bv avc avd) ?_;rintro v hQ N vy⟨rfl,-,rfl⟩;have Ao:=agi.mono vy;refine b5.mk (λ_=>?_) (λh=>ci);refine bQ.mk λfr vm ayK=>?_;have sB:∀ b o,hQ b=some o->ins hQ fr (.cells #[.int .i64 3] 3 (0,0)) b=some o:=j0 vm;refine a8.sd (ins hQ fr (.cells #[.int .i64 3] 3 (0,0))) [] yX _ (.kZ rfl am .refl) (FZ (Ao.mono sB) JD auZ JF (gy NK) (w:=2) bv (u:=0) (AZ (mg ..)) (kid:=0) ip ave bv avf avg) ?_;rintro v om N ae2 -⟨rfl,-,rfl⟩;have LZ:=Ao.mono λb o h=>ae2 _ _ (sB _ _ h);refine b5.mk (λ_=>?_) (λh=>ci);refine bQ.mk λkK FP ayL=>?_;have rk:∀ b o,om b=some o->ins om kK (.cells #[.int .i64 3] 3 (0,0)) b=some o:=j0 FP;refine a8.sd (ins om kK (.cells #[.int .i64 3] 3 (0,0))) [] yX _ (.kZ rfl am .refl) (FZ (LZ.mono rk) JD au0 JF (gy NK) (w:=3) bv (u:=0) (AZ (mg ..)) (kid:=2) ip avh bv avi avj) ?_;rintro v UG N R1 -⟨rfl,-,rfl⟩;have E2:=LZ.mono λb o h=>R1 _ _ (rk _ _ h);refine b5.mk (λ_=>?_) (λh=>ci);refine bQ.mk λD3 avT ayM=>?_;have CH:∀ b o,UG b=some o->ins UG D3 (.cells #[.int .i64 0] 3 (0,0)) b=some o:=j0 avT;refine a8.sd (ins UG D3 (.cells #[.int .i64 0] 3 (0,0))) [] yX _ (.kZ rfl am .refl) (FZ (E2.mono CH) auV au1 au4 (gy au5) (w:=1) bv (u:=0) (AZ (mg ..)) (kid:=0) ip avk bv avl avm) ?_;rintro v UH N avU -⟨rfl,-,rfl⟩;have agj:=E2.mono λb o h=>avU _ _ (CH _ _ h);refine b5.mk (λ_=>?_) (λh=>ci);refine bQ.mk λD4 avV ayN=>?_
 have agk:∀ b o,UH b=some o->ins UH D4 (.cells #[.int .i64 0] 3 (0,0)) b=some o:=j0 avV;refine a8.sd (ins UH D4 (.cells #[.int .i64 0] 3 (0,0))) [] yX _ (.kZ rfl am .refl) (FZ (agj.mono agk) auW au2 au6 (gy au7) (w:=1) bv (u:=1) (AZ (mg ..)) (kid:=0) ip avn bv avo avp) ?_;rintro v ayO N avW -⟨rfl,-,rfl⟩;have agl:=agj.mono λb o h=>avW _ _ (agk _ _ h);refine b5.mk (λ_=>?_) (λh=>ci);refine a8.mk [] yX _ am (FZ agl auX au3 au8 (gy au9) (w:=2) bv (u:=0) (p7 _) (kid:=0) ip avq bv avr avs) ?_;rintro v ayP N avX⟨rfl,-,rfl⟩;have agm:=agl.mono avX;refine aZ.mk (λh=>ci) (λ_=>?_);refine a8.mk [] yX _ am (FY (M0:=[]) agm JD) ?_;rintro v r1 N h9⟨-,rfl,g,rfl,aw,aM⟩;have avY:=agm.mono h9;refine bQ.mk λb1 ia MP=>?_;refine bQ.mk λbH il Ih=>?_;refine bQ.mk λcJ wT FN=>?_;refine bQ.mk ?_;intro dS z' sS;show nW _ _ (_::_) _ _ _ _ _;refine @mA _ _ _ _ _ _ _ _ _ ?_ ?_ ?_ ?_
 ·rfl
 ·exact .val (.agg #[.int .u8 5,.int .u8 2,.int .i64 0,.slice (some ⟨dS,0,none⟩) 1 1,.int .i64 0])
 ·intro h6;rfl
 refine @mA _ _ _ _ _ _ _ _ _ ?_ ?_ ?_ ?_
 ·rfl
 ·exact .val (.agg #[.int .u8 5,.int .u8 1,.int .i64 2,.slice none 0 0,.int .i64 0])
 ·intro h6;rfl
 refine @mA _ _ _ _ _ _ _ _ _ ?_ ?_ ?_ ?_
 ·rfl
 ·exact .val (.agg #[.int .u8 5,.int .u8 1,.int .i64 (-1),.slice none 0 0,.int .i64 0])
 ·intro h6;rfl
 refine @mA _ _ _ _ _ _ _ _ _ ?_ ?_ ?_ ?_
 ·rfl
 ·exact .val (.agg #[.int .u8 5,.int .u8 1,.int .i64 1,.slice none 0 0,.int .i64 0])
 ·intro h6;rfl
 refine @UC _ _ _ _ _ _ _ _ _ ?_ ?_
 ·rfl
 refine @af5 _ _ _ _ _ _ _ ((qX b1 bH cJ dS).map nU.val) 16 44 ⟨_,_,_,_,rfl,rfl,rfl,rfl,rfl,rfl,rfl,rfl,?_⟩ ?_
 ·intro v ak;obtain⟨x,-,rfl⟩:=c3.1 ak;rfl
 refine bQ.mk λch tt ayQ=>?_;have Cw:((qX b1 bH cJ dS).map nU.val).flatMap (λv=>v.cells.toList)=(qX b1 bH cJ dS).flatMap nU.cells:=rfl;rw[Cw];obtain⟨rT,bf⟩:=avE ia il wT z' (Ih _ (.head _)) (FN _ (.tail _ (.head _))) (FN _ (.head _)) (sS _ (.tail _ (.tail _ (.head _)))) (sS _ (.tail _ (.head _))) (sS _ (.head _));have ed:=avC b1 bH cJ dS;have bZ:(qX b1 bH cJ dS).length=16:=rfl;have mZ:∀ (K:aH) i (h:i<(qX b1 bH cJ dS).length),c6 K [⟨ch,.cells ((qX b1 bH cJ dS).flatMap nU.cells).toArray 44 (0,0)⟩] ((⟨ch,0,none⟩:Addr).add (i*5)) 5 (qX b1 bH cJ dS)[i].cells:=λK i h=>by rw[eM (⟨ch,0,none⟩:Addr) rfl];refine⟨rfl,_,_,_,.inr ⟨_,.head _,rfl,rfl⟩,?_,rfl⟩;rw[dn];exact Bw nU.cells 5 nU.cL _ i h
 refine du.inv (ι:=Nat×aH) (λs=>{ bp:=[(3,.ref 3 0),(110,.val (.slice (some ⟨ch,0,none⟩) 16 16)),(111,.val (.int .i64 16)),(112,.val (.int .i64 s.1))],cl:=[(3,[.slice g.a g.n g.c])],cO:=s.2,c5:=[⟨ch,.cells ((qX b1 bH cJ dS).flatMap nU.cells).toArray 44 (0,0)⟩] }) (λs=>s.1<=16/\∀ b o,vN r1 (xn b1 bH cJ dS) b=some o->s.2 b=some o) (λs=>16-s.1) ?_ ?_
 ·exact⟨(0,_),⟨am,λ_ _ h=>h⟩,.perm (mm (l₁:=xn b1 bH cJ dS)).symm (.sub (List.Sublist.append_left (.cons_cons _ (fs _)) _) (TU (xn b1 bH cJ dS) am)),dM,.cons rfl (.nil)⟩
 generalize vN r1 (xn b1 bH cJ dS)=ayR at bf rT;generalize([⟨ch,.cells ((qX b1 bH cJ dS).flatMap nU.cells).toArray 44 (0,0)⟩]:List aA)=qu at mZ;generalize qX b1 bH cJ dS=agn at mZ bZ ed bf;rintro⟨i,Q⟩⟨hi,kd⟩;simp only at hi kd;have UI:=avY.mono λb o h=>kd _ _ (rT _ _ h);have avZ:=aw.mono λb o h=>kd _ _ (rT _ _ h);refine aZ.mk (λh=>?_) (λh=>?_)
 ·have a1:i<16:=by have:(i:Int)<16:=cT h;omega
  have dN:i<agn.length:=by omega
  have bo:=mZ Q i dN;obtain⟨r0,eR,fy⟩:=bf Q kd _ (bK dN);have ai:=avu UI JF NK avZ aM r0 eR fy (ed _ (bK dN));generalize agn[i]=a2 at bo ai;refine bt.mk ⟨ch,0,none⟩ i rfl rfl a1 ?_;refine aU.mk _ bo ?_;refine a8.mk [] qu _ am ai ?_;rintro v av0 N av1⟨-,rfl,rfl⟩;refine b5.mk (λ_=>?_) (λh=>absurd h bv);refine aZ.mk (λh=>absurd h bv) (λ_=>?_);refine be.mk _ (c9 (i:=i) Z) ?_;exact⟨(i+1,av0),⟨⟨a1,λb o h=>av1 _ _ (kd _ _ h)⟩,ce⟩,.refl,dM,.cons rfl (.nil)⟩
 clear mZ bZ ed bf;refine a8.mk [] qu _ am (FY (M0:=[]) UI af1) ?_;rintro v ayS N av2⟨-,rfl,Yv,rfl,av3,ad5⟩;have ago:=UI.mono av2;refine a8.mk [] qu _ am (avv (s:=⟨5,1,0,none,0,0,[],1⟩) ago af2 af3 av3 ad5 am (p7 _) ip) ?_;rintro v ayT N av4⟨-,rfl,rfl⟩;have agp:=ago.mono av4;refine a8.mk [] qu _ am (avx (s:=⟨0,0,0,none,0,0,[],0⟩) agp am (p7 _) ip) ?_;rintro v ayU N av5⟨-,rfl,rfl⟩;have agq:=agp.mono av5;refine a8.mk [] qu _ am (FY (M0:=[]) agq af1) ?_;rintro v ayV N av6⟨-,rfl,hx,rfl,zR,xN⟩;have agr:=agq.mono av6;refine a8.mk [] qu _ am (avz agr af2 af3 zR xN) ?_;rintro v ayW N av7⟨-,rfl,rfl⟩;have ags:=agr.mono av7;refine a8.mk [] qu _ am (avA (M0:=[]) ags) ?_;rintro v ayX N av8⟨-,rfl,rfl⟩;have av9:=ags.mono av8;refine a8.mk [] qu _ am (Xj (s:=⟨#[97]⟩) bv) ?_;rintro v ayY N awa⟨-,wB,rfl,ua,-,-,rfl⟩;have agt:=av9.mono awa;refine a8.mk [] qu _ am (agd (M0:=[]) agt (w:=1) bv ua) ?_;rintro v ayZ N awb⟨-,rfl,rfl⟩;have awc:=agt.mono awb;refine a8.mk [] qu _ am (Xj (s:=⟨#[97]⟩) bv) ?_;rintro v ay0 N awd⟨-,atQ,rfl,BS,-,-,rfl⟩;have agu:=awc.mono awd;refine a8.mk [] qu _ am (agd (M0:=[]) agu (w:=2) bv BS) ?_;rintro v ay1 N awe⟨-,rfl,rfl⟩;have awf:=agu.mono awe;refine b5.mk (λ_=>?_) (λh=>absurd h bv);refine b5.mk (λ_=>?_) (λh=>absurd h bv);refine b5.mk (λ_=>?_) (λh=>absurd h bv);refine b5.mk (λ_=>?_) (λh=>absurd h bv);refine b5.mk (λ_=>?_) (λh=>absurd h bv);refine b5.mk (λ_=>?_) (λh=>absurd h bv);refine a8.mk [] qu _ am (avy awf) ?_;rintro v ay2 N ay3⟨-,ph,ay4,rfl⟩;exact⟨_,_,.refl,rfl⟩
end Go.V
