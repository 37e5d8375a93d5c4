/- HashMany returns true for every slice of tuples, in whatever order its goroutines run, and its argument reads as before. No condition. -/
import Derived.Test.YtahoihfbjlgpgaaCoA
import Derived.Conc.DeferLaws
import Derived.Conc.EventLaws2
import Derived.Conc.Own5
import Derived.Conc.AtomicLaws2
import Derived.Conc.MarkLaws
import Derived.Conc.ClockLaws
import Derived.Test.YtahoihfbjlgpgaaProg
set_option linter.all false
namespace Go.Co
open Go Go.Conc
open Go.ConcM (OsLater)
open Go.ConcN (sumTo upd sumTo_upd upd_ne upd_same sumTo_congr le_sumTo sumTo_le)
variable{E:Geo}{G G':Gh}{w w':World}{t t' u:Trace}{B B':Nat}
structure sa(l l':Lo):Prop where
 wk:l'.wk=l.wk
 ai:l'.ai=l.ai
 mr:l'.mr=l.mr
 old:l'.old=l.old
 run:l'.run=l.run
 aP:l'.aP=l.aP
 ch:l'.ch=l.ch
 bZ:l'.bZ=l.bZ
 kn:l'.kn=l.kn
 sc:l'.sc=l.sc
def Gh.wg(G:Gh)(i:Nat)(l':Lo)(wn ww ws pend:Nat):Gh:={G with th:=upd G.th i l',wn:=wn,ww:=ww,ws:=ws,pend:=pend}
theorem Nb{th:Nat->Lo}{i:Nat}{l':Lo}(h:(th i).af=true)(j:Nat):(upd th i l' j).fg<=(th j).fg:=by
 by_cases e:j=i
 ·subst e;rw[upd_same];unfold Lo.fg;rw[h];exact Bool.toNat_le _
 rw[upd_ne _ _ e];exact Nat.le_refl _
theorem GI.XV(h:GI E G w t){i:Nat}{l':Lo}{wn ww ws pend:Nat}(hi:(G.th i).af=true)(s:sa (G.th i) l')(cP:l'.af=true\/i≠0)(ee:(G.th i).mr=none)
  (mV:l'.af=true\/∀j,(G.th i).bZ=some j->E.rs j=none) (bP:(G.th i).ch= .no) (Hh:(l'.af=true/\l'.gr= .out)\/(E.eg=true->G.cl=true))
  (qv:i=0->l'.me=⟨G.left,pend,G.pos,G.cl⟩) (UF:i≠0->pend=G.pend) (dt:G.cl=true->pend=0) (fY:w'.heap.size=w.heap.size)
  (hm:EK E (G.wg i l' wn ww ws pend) w') (hg:KH (G.wg i l' wn ww ws pend)) (ht:AW E (G.wg i l' wn ww ws pend) w.heap.size t'):GI E (G.wg i l' wn ww ws pend) w' t':=by
 have bq: ∀j,(upd G.th i l' j).af=true->(G.th j).af=true:=fun j hj=>by
  by_cases e:j=i
  ·subst e;exact hi
  rw[upd_ne _ _ e]at hj;exact hj
 have aN: ∀j,(upd G.th i l' j).ai=(G.th j).ai:=fun j=>aW Lo.ai s.ai j
 have dR: ∀j,(upd G.th i l' j).aP=(G.th j).aP:=fun j=>aW Lo.aP s.aP j
 have lu: ∀j,(upd G.th i l' j).mr=(G.th j).mr:=fun j=>aW Lo.mr s.mr j
 have dX: ∀j,(upd G.th i l' j).run=(G.th j).run:=fun j=>aW Lo.run s.run j
 have yX: ∀j,(upd G.th i l' j).kn=(G.th j).kn:=fun j=>aW Lo.kn s.kn j
 have R8: ∀j,(upd G.th i l' j).ch=(G.th j).ch:=fun j=>aW Lo.ch s.ch j
 have ZM: ∀j,(upd G.th i l' j).bZ=(G.th j).bZ:=fun j=>aW Lo.bZ s.bZ j
 have Zy: ∀j,(upd G.th i l' j).sc=(G.th j).sc:=fun j=>aW Lo.sc s.sc j
 have LA:(G.th i).run=none:=by
  cases e:(G.th i).run with
  |none=>rfl
  |some k=>have:=(h.k.run i k hi e).1;rw[ee]at this;cases this
 have ll:=(h.a.db i hi).1
 have zaP: ∀j,(upd G.th i l' j).af=true->(upd G.th i l' j).gr≠ .out->j≠i->(G.th j).gr≠ .out:=fun j _ hg e=>by rw[upd_ne _ _ e]at hg;exact hg
 refine⟨⟨h.a.qn,?_,fun j hj=>h.a.db j (bq j hj),?_,h.a.alone⟩,?_,hm,?_,hg,?_,h.more,by rw[fY];exact ht⟩
 ·show(upd G.th i l' 0).af=true
  by_cases e:(0:Nat)=i
  ·subst e;rw[upd_same];exact cP.resolve_right fun x=>x rfl
  rw[upd_ne _ _ e];exact h.a.bl
 ·have:=iJ (n:=G.n) (f:=fun j=>(upd G.th i l' j).fg) (g:=fun j=>(G.th j).fg) fun j _=>Nb hi j
  have:=h.a.Rb
  show sumTo G.n (fun j=>(upd G.th i l' j).fg)+G.left<=48
  omega
 ·rw[fY]
  exact h.s.tr (Nat.le_refl _) (fun a v hv=>⟨v,hv⟩) fun j hj=>⟨bq j hj,aN j⟩
 ·refine⟨fun k hk=>?_,fun j k r hj hm=>h.k.CE j k r (bq j hj) (by rw[<-lu];exact hm),fun j k hj hr=>?_,fun j k hj hp=>h.k.aP j k (bq j hj) (by rw[<-dR];exact hp),fun a v k hv=>?_,h.k.qU,fun j a v hj hv=>?_,fun a v k hv=>by rw[show(Gh.th _ 0).aP=_ from dR 0];exact h.k.mT a v k hv⟩
  ·have:Gh.cnt (G.wg i l' wn ww ws pend) k=G.cnt k:=by
    funext r
    refine bI (φ:=fun l=>l.at k r) ?_
    simp only[Lo.at,s.mr,ee]
    simp
   rw[this];exact h.k.mu k hk
  ·have:=h.k.run j k (bq j hj) (by rw[<-dX];exact hr)
   rw[show(Gh.th _ j).mr=_ from lu j];exact this
  ·obtain⟨p1,p2,p3⟩:=h.k.bM a v k hv
   refine⟨p1,p2,?_⟩
   rcases p3 with⟨j,q1,q2,q3⟩|⟨q1,q2⟩
   ·have ox:j≠i:=fun e=>by subst e;rw[LA]at q2;cases q2
    refine .inl ⟨j,?_⟩
    show(upd G.th i l' j).af=true/\(upd G.th i l' j).run=some k/\(upd G.th i l' j).kn a=some v
    rw[upd_ne _ _ ox];exact⟨q1,q2,q3⟩
   exact .inr ⟨fun j hj=>by rw[show(Gh.th _ j).run=_ from dX j];exact q1 j (bq j hj),q2⟩
  have:=h.k.kn j a v (bq j hj) (by rw[<-yX];exact hv)
  rw[show(Gh.th _ j).aP=_ from dR j,show(Gh.th _ j).run=_ from dX j];exact this
 refine⟨fun hC j hj=>?_,fun j v hj hv=>?_,fun j hj hv=>?_,fun hc=>⟨(h.j.cl hc).1,(h.j.cl hc).2.1,dt hc⟩,h.j.CO,fun r=>?_,fun j jj hj ov=>h.j.rT j jj (bq j hj) (by rw[<-ZM];exact ov),h.j.EL,fun hC hc j hj=>?_,h.j.any,fun hC hgo=>?_,fun j hj hm=>?_,?_,fun j hj hs=>h.j.sc j (bq j hj) (by rw[<-Zy];exact hs)⟩
 ·rw[show(Gh.th _ j).ch=_ from R8 j];exact h.j.Iw hC j (bq j hj)
 ·have dF:(G.th j).ch= .send v:=by rw[<-R8];exact hv
  have ox:j≠i:=fun e=>by subst e;rw[bP]at dF;cases dF
  have:=h.j.EV j v (bq j hj) dF
  show j=0/\G.pos<E.nj/\v=E.jv G.pos/\G.cl=false/\G.left=0/\(upd G.th i l' j).gr= .out
  rw[upd_ne _ _ ox];exact this
 ·have dF:(G.th j).ch= .recv:=by rw[<-R8];exact hv
  have ox:j≠i:=fun e=>by subst e;rw[bP]at dF;cases dF
  have:=h.j.Kv j (bq j hj) dF
  show j≠0/\(∀jj,(upd G.th i l' j).bZ=some jj->E.rs jj=none)/\(upd G.th i l' j).mr=none/\(upd G.th i l' j).gr= .out
  rw[upd_ne _ _ ox];exact this
 ·have:(sumTo G.n fun j=>(upd G.th i l' j).holds E.rs r)=sumTo G.n fun j=>(G.th j).holds E.rs r:=by
   refine bI (φ:=fun l=>l.holds E.rs r) ?_
   simp only[Lo.holds,s.bZ]
   cases e:(G.th i).bZ with
   |none=>rfl
   |some j=>
    simp only
    rcases mV with x|x
    ·rw[x,hi]
    rw[x j e];simp
  show G.cv r+(sumTo G.n fun j=>(upd G.th i l' j).holds E.rs r)=dL E.rs r G.pos
  rw[this];exact h.j.cnt r
 ·show(upd G.th i l' j).af=true/\(upd G.th i l' j).gr= .out
  by_cases e:j=i
  ·subst e
   rw[upd_same]
   rcases Hh with x|x
   ·exact x
   have hc:G.cl=false:=hc
   rw[x hC]at hc;cases hc
  rw[upd_ne _ _ e];exact h.j.stay hC hc j hj
 ·have hgo:(upd G.th i l' 0).gr≠ .out:=hgo
  by_cases e:(0:Nat)=i
  ·subst e
   rw[upd_same]at hgo
   rcases Hh with x|x
   ·exact absurd x.2 hgo
   exact x hC
  rw[upd_ne _ _ e]at hgo;exact h.j.qw hC hgo
 ·have tM:(G.th j).mr≠none:=by rw[<-lu];exact hm
  have ox:j≠i:=fun e=>by subst e;exact tM ee
  show(upd G.th i l' j).gr= .out
  have:=bq j hj
  rw[upd_ne _ _ ox];exact h.j.NN j this tM
 show(upd G.th i l' 0).me=⟨G.left,pend,G.pos,G.cl⟩
 by_cases e:(0:Nat)=i
 ·subst e;rw[upd_same];exact qv rfl
 rw[upd_ne _ _ e,UF fun x=>e x.symm];exact h.j.me
def Lo.qV(l:Lo):Nat:=match l.gr with|.out=>4|.y8 _=>3|.waits=>2|.cK=>1|_=>0
theorem Gh.ub(h:EX E G){i:Nat}{l':Lo}{wn ww ws pend:Nat}(hi:(G.th i).af=true)(s:sa (G.th i) l')(ee:(G.th i).mr=none):
  (G.wg i l' wn ww ws pend).Φ E.K E.nj+(G.th i).φ E.K+(G.th 0).aO G.wn=G.Φ E.K E.nj+l'.φ E.K+(upd G.th i l' 0).aO wn:=by
 have ll:=(h.db i hi).1
 have e1:=fH ll G.th l' (fun l=>l.φ E.K)
 have e3: ∀k',(sumTo G.n fun j=>(upd G.th i l' j).bh k' (G.wd k'))=sumTo G.n fun j=>(G.th j).bh k' (G.wd k'):=fun k'=>bI (φ:=fun l=>l.bh k' (G.wd k')) (by simp only[Lo.bh,s.mr,ee])
 unfold Gh.Φ Gh.wg
 simp only[e3]
 omega
theorem Lg(K:Nat)(l:Lo):l.φ K=if l.af=true then 1+2*l.busy+l.ba+l.qV+sumTo K fun k=>64*l.wt k else 0:=rfl
theorem wj{K:Nat}{l l':Lo}(s:sa l l')(hl:l.af=true)(vH:l'.af=true):l'.φ K+2*l.busy+l.ba+l.qV=l.φ K+2*l'.busy+l'.ba+l'.qV:=by
 have: ∀k,l'.wt k=l.wt k:=fun k=>by unfold Lo.wt;rw[s.mr,s.wk,s.aP]
 rw[Lg,Lg,if_pos hl,if_pos vH]
 simp only[this]
 omega
theorem Hu{K:Nat}{l:Lo}(h:l.af=false):l.φ K=0:=by unfold Lo.φ;simp[h]
theorem L5{K:Nat}{l:Lo}(h:l.af=true):1+2*l.busy+l.ba+l.qV<=l.φ K:=by rw[Lg,if_pos h];omega
theorem GI.Sg(h:GI E G w t){i:Nat}{es:Array Event}(fn:FuncId)(pos:String)(hi:(G.th i).af=true)(he: ∀e∈es,wN E e)
  (hq:(G.th i).rel=none\/∀j e,es[j]?=some e->(MemAct.ofEvent e).touch?=none\/((e.loc= .cell (E.sc .bG)\/e.loc= .cell (E.sc .fX))/\0<deafBehind (G.th i).deaf (es.extract 0 j))):
  AW E {G with th:=upd G.th i {G.th i with deaf:=deafBehind (G.th i).deaf es}} w.heap.size (t++MemOp.ofEvents i fn pos es):=by
 refine h.cJ fn pos hi he ⟨rfl,rfl,rfl,rfl,fun j=>⟨aW Lo.af (by rfl) j,aW Lo.ai (by rfl) j,aW Lo.run (by rfl) j,aW Lo.aP (by rfl) j,aW Lo.rel (by rfl) j,?_,?_⟩⟩ (fun j=>?_) hq
 ·rw[show(Gh.th _ j).gr=(G.th j).gr from aW (i:=i) (l:={G.th i with deaf:=deafBehind (G.th i).deaf es}) Lo.gr (by rfl) j]
 ·rw[show(Gh.th _ j).gr=(G.th j).gr from aW (i:=i) (l:={G.th i with deaf:=deafBehind (G.th i).deaf es}) Lo.gr (by rfl) j]
 show(upd G.th i {G.th i with deaf:=deafBehind (G.th i).deaf es} j).deaf=_
 by_cases e:j=i
 ·subst e;rw[upd_same,if_pos rfl]
 rw[upd_ne _ _ e,if_neg e]
theorem GI.Rv(h:GI E G w t){i d:Nat}{l':Lo}{wn ww ws pend:Nat}(hi:(G.th i).af=true)(ee:(G.th i).mr=none)(h1:AW E {G with th:=upd G.th i {G.th i with deaf:=d}} B t')(s:sa (G.th i) l')(hd:l'.deaf=d)
  (tell:kv E (G.wg i l' wn ww ws pend) t'):AW E (G.wg i l' wn ww ws pend) B t':=by
 have LA:(G.th i).run=none:=by
  cases e:(G.th i).run with
  |none=>rfl
  |some k=>have:=(h.k.run i k hi e).1;rw[ee]at this;cases this
 have bq: ∀j,(upd G.th i l' j).af=true->(G.th j).af=true:=fun j hj=>by
  by_cases e:j=i
  ·subst e;exact hi
  rw[upd_ne _ _ e]at hj;exact hj
 have vM: ∀j,(upd G.th i {G.th i with deaf:=d} j).af=(G.th j).af:=fun j=>aW Lo.af (by rfl) j
 have aN: ∀j,(upd G.th i l' j).ai=(upd G.th i {G.th i with deaf:=d} j).ai:=fun j=>(aW Lo.ai s.ai j).trans (aW Lo.ai (by rfl) j).symm
 have dR: ∀j,(upd G.th i l' j).aP=(upd G.th i {G.th i with deaf:=d} j).aP:=fun j=>(aW Lo.aP s.aP j).trans (aW Lo.aP (by rfl) j).symm
 have dX: ∀j,(upd G.th i l' j).run=(G.th j).run:=fun j=>aW Lo.run s.run j
 have Mp: ∀j,(upd G.th i {G.th i with deaf:=d} j).run=(G.th j).run:=fun j=>aW Lo.run (by rfl) j
 refine⟨h1.ti.change (fun g l hw=>.inl ?_) (fun g l hw=>.inl ?_) (fun g l hw=>.inl ?_) (fun g l hw=>.inl hw),fun j hj=>?_,h1.quiet,tell⟩
 ·obtain⟨a1,a2⟩:=hw
  refine⟨by rw[show(Gh.th _ g).af=_ from vM g];exact bq g a1,?_⟩
  cases l with
  |cell a=>
   rcases a2 with a2|⟨v,k,hv,a2⟩|a2
   ·refine .inl ?_
    show(upd G.th i {G.th i with deaf:=d} g).ai a.block
    rw[<-aN];exact a2
   ·refine .inr (.inl ⟨v,k,hv,?_⟩)
    rcases a2 with a2|a2
    ·left;show(upd G.th i {G.th i with deaf:=d} g).run=some k
     rw[Mp,<-dX];exact a2
    right
    intro j hj hr
    have EF:(G.th j).run=some k:=by rw[<-Mp];exact hr
    have ox:j≠i:=fun e=>by subst e;rw[LA]at EF;cases EF
    refine a2 j ?_ (by rw[show(Gh.th _ j).run=_ from dX j];exact EF)
    show(upd G.th i l' j).af=true
    rw[upd_ne _ _ ox]
    have hj:(upd G.th i {G.th i with deaf:=d} j).af=true:=hj
    rw[vM]at hj;exact hj
   exact .inr (.inr a2)
  |obj r=>
   show(upd G.th i {G.th i with deaf:=d} g).ai r
   rw[<-aN];exact a2
  |_=>exact a2.elim
 ·obtain⟨a1,a2⟩:=hw
  refine⟨by rw[show(Gh.th _ g).af=_ from vM g];exact bq g a1,?_⟩
  cases l with
  |cell a=>
   obtain⟨v,hv|⟨k,hv,hp⟩⟩:=a2
   ·exact⟨v,.inl hv⟩
   refine⟨v,.inr ⟨k,hv,?_⟩⟩
   show(upd G.th i {G.th i with deaf:=d} g).aP k=true
   rw[<-dR];exact hp
  |_=>exact a2.elim
 ·obtain⟨a1,a2⟩:=hw
  refine⟨by rw[show(Gh.th _ g).af=_ from vM g];exact bq g a1,?_⟩
  cases l with
  |cell a=>
   rcases a2 with a2|⟨v,k,hv,hp⟩
   ·exact .inl a2
   refine .inr ⟨v,k,hv,?_⟩
   show(upd G.th i {G.th i with deaf:=d} g).aP k=true
   rw[<-dR];exact hp
  |obj r=>exact a2
  |_=>exact a2.elim
 have:=h1.deaf j (by show(upd G.th i {G.th i with deaf:=d} j).af=true;rw[vM];exact bq j hj)
 rw[this]
 show(upd G.th i {G.th i with deaf:=d} j).deaf=(upd G.th i l' j).deaf
 by_cases e:j=i
 ·subst e;rw[upd_same,upd_same,hd]
 rw[upd_ne _ _ e,upd_ne _ _ e]
theorem kv.wg{i d:Nat}{l':Lo}{wn ww ws pend:Nat}(h:kv E {G with th:=upd G.th i {G.th i with deaf:=d}} t)(hi:(G.th i).af=true)(dR:l'.aP=(G.th i).aP)(aJ:l'.rel=(G.th i).rel)
  (RN:i=0\/(G.th i).rel≠none\/(l'.af=true/\l'.gr= .out)) (hj:l'.gr= .aT->(G.th i).gr= .aT) (h00:0<E.n0):kv E (G.wg i l' wn ww ws pend) t:=by
 have rQ: ∀j,(upd G.th i l' j).rel=(G.th j).rel:=fun j=>aW Lo.rel aJ j
 have rR: ∀j,(upd G.th i l' j).aP=(G.th j).aP:=fun j=>aW Lo.aP dR j
 have OA: ∀j,(upd G.th i {G.th i with deaf:=d} j).rel=(G.th j).rel:=fun j=>aW Lo.rel (by rfl) j
 have K8: ∀j,(upd G.th i {G.th i with deaf:=d} j).aP=(G.th j).aP:=fun j=>aW Lo.aP (by rfl) j
 have vM: ∀j,(upd G.th i {G.th i with deaf:=d} j).af=(G.th j).af:=fun j=>aW Lo.af (by rfl) j
 have RZ: ∀j,(upd G.th i {G.th i with deaf:=d} j).gr=(G.th j).gr:=fun j=>aW Lo.gr (by rfl) j
 refine⟨h.known,h.over,h.norel,fun g hg=>?_,fun k hk hd=>?_,fun ov g r hg hr=>?_⟩
 ·show((upd G.th i l' g).rel=none/\(upd G.th i l' g).af=true/\(upd G.th i l' g).gr= .out)\/∃r,(upd G.th i l' g).rel=some r/\_
  have:=h.rel g hg
  have this:((upd G.th i {G.th i with deaf:=d} g).rel=none/\(upd G.th i {G.th i with deaf:=d} g).af=true/\(upd G.th i {G.th i with deaf:=d} g).gr= .out)\/∃r,(upd G.th i {G.th i with deaf:=d} g).rel=some r/\_:=this
  rw[OA,vM,RZ]at this
  rw[rQ]
  refine this.imp (fun⟨a1,a2,a3⟩=>⟨a1,?_⟩) id
  by_cases e:g=i
  ·subst e
   rw[upd_same]
   rcases RN with x|x|x
   ·subst x;exact absurd hg.1 (by omega)
   ·exact absurd a1 x
   exact x
  rw[upd_ne _ _ e];exact⟨a2,a3⟩
 ·obtain⟨p,a1,a2,a3,a4⟩:=h.dq k hk hd
  refine⟨p,a1,a2,a3,fun j hj hp=>a4 j ?_ ?_⟩
  ·show(upd G.th i {G.th i with deaf:=d} j).af=true
   rw[vM]
   by_cases e:j=i
   ·subst e;exact hi
   have hj:(upd G.th i l' j).af=true:=hj
   rw[upd_ne _ _ e]at hj;exact hj
  show(upd G.th i {G.th i with deaf:=d} j).aP k=true
  rw[K8,<-rR];exact hp
 refine h.join ?_ g r hg ?_
 ·show(upd G.th i {G.th i with deaf:=d} 0).gr= .aT
  rw[RZ]
  have ov:(upd G.th i l' 0).gr= .aT:=ov
  by_cases e:(0:Nat)=i
  ·subst e;rw[upd_same]at ov;exact hj ov
  rw[upd_ne _ _ e]at ov;exact ov
 show(upd G.th i {G.th i with deaf:=d} g).rel=some r
 rw[OA,<-rQ];exact hr
end Go.Co

namespace Go.Co
open Go Go.Conc
open Go.ConcM (OsLater)
open Go.ConcN (sumTo upd sumTo_upd upd_ne upd_same sumTo_congr le_sumTo sumTo_le)
variable{E:Geo}{G G':Gh}{w w':World}{t t' u:Trace}{B B':Nat}
def rq(E:Geo)(G:Gh)(w w':World)(wn ww ws:Nat):Prop:=
 (w'=w/\wn=G.wn/\ww=G.ww/\ws=G.ws)\/(w'=w.setCell (E.sc .bG) (.int .u64 ((wn*4294967296+ww:Nat):Int))/\ws=G.ws)\/(w'=w.setCell (E.sc .fX) (.int .u32 (ws:Int))/\wn=G.wn/\ww=G.ww)
theorem rq.size{wn ww ws:Nat}(h:rq E G w w' wn ww ws):w'.heap.size=w.heap.size:=by
 rcases h with⟨rfl,_⟩|⟨rfl,_⟩|⟨rfl,_⟩
 ·rfl
 ·exact aD ..
 exact aD ..
theorem rq.view(hW:0<E.K){wn ww ws:Nat}(hw:rq E G w w' wn ww ws)(h:GI E G w t)(j:Nat)(hj:(G.th j).af=true):View (G.th j).ai w w':=by
 rcases hw with⟨rfl,_⟩|⟨rfl,_⟩|⟨rfl,_⟩
 ·exact View.refl _ _
 ·exact h.bU (x:=.bG) hW _ j hj
 exact h.bU (x:=.fX) hW _ j hj
theorem rq.mem(hW:0<E.K){i:Nat}{l':Lo}{wn ww ws pend:Nat}(hw:rq E G w w' wn ww ws)(h:EK E G w):EK E (G.wg i l' wn ww ws pend) w':=by
 have vJ: ∀y,y≠ .bG->y≠ .fX->(G.wg i l' wn ww ws pend).val y=G.val y:=by
  intro y h1 h2
  cases y with
  |bG=>exact absurd rfl h1
  |fX=>exact absurd rfl h2
  |_=>rfl
 rcases hw with⟨rfl,rfl,rfl,rfl⟩|⟨rfl,rfl⟩|⟨rfl,rfl,rfl⟩
 ·exact h.tr (fun y=>by cases y<;>rfl) rfl rfl
 ·refine h.set (x:=.bG) hW _ (fun y _=>?_) rfl rfl
  by_cases e1:y= .bG
  ·subst e1;rw[if_pos rfl];rfl
  rw[if_neg e1]
  by_cases e2:y= .fX
  ·subst e2;rfl
  exact vJ y e1 e2
 refine h.set (x:=.fX) hW _ (fun y _=>?_) rfl rfl
 by_cases e1:y= .fX
 ·subst e1;rw[if_pos rfl];rfl
 rw[if_neg e1]
 by_cases e2:y= .bG
 ·subst e2;rfl
 exact vJ y e2 e1
theorem GI.N5(h:GI E G w t)(hW:0<E.K){i:Nat}{es:Array Event}{l':Lo}{wn ww ws pend:Nat}(fn:FuncId)(pos:String)(hi:(G.th i).af=true)(s:sa (G.th i) l')(cP:l'.af=true\/i≠0)(ee:(G.th i).mr=none)
  (mV:l'.af=true\/∀j,(G.th i).bZ=some j->E.rs j=none) (bP:(G.th i).ch= .no) (Hh:(l'.af=true/\l'.gr= .out)\/(E.eg=true->G.cl=true))
  (qv:i=0->l'.me=⟨G.left,pend,G.pos,G.cl⟩) (UF:i≠0->pend=G.pend) (dt:G.cl=true->pend=0)
  (hw:rq E G w w' wn ww ws) (he: ∀e∈es,wN E e)
  (hq:(G.th i).rel=none\/∀j e,es[j]?=some e->(MemAct.ofEvent e).touch?=none\/((e.loc= .cell (E.sc .bG)\/e.loc= .cell (E.sc .fX))/\0<deafBehind (G.th i).deaf (es.extract 0 j)))
  (hd:l'.deaf=deafBehind (G.th i).deaf es) (aJ:l'.rel=(G.th i).rel) (RN:i=0\/(G.th i).rel≠none\/(l'.af=true/\l'.gr= .out)) (hj:l'.gr= .aT->(G.th i).gr= .aT)
  (hg:KH (G.wg i l' wn ww ws pend)) (Oa:l'.φ E.K+(upd G.th i l' 0).aO wn<=(G.th i).φ E.K+(G.th 0).aO G.wn):
  oe E i G (G.wg i l' wn ww ws pend) w w' (t++MemOp.ofEvents i fn pos es) l':=by
 have h1:=h.Sg fn pos hi he hq
 have:=Gh.ub (E:=E) (l':=l') (wn:=wn) (ww:=ww) (ws:=ws) (pend:=pend) h.a hi s ee
 exact⟨h.XV hi s cP ee mV bP Hh qv UF dt hw.size (hw.mem hW h.m) hg (h.Rv hi ee h1 s hd (h1.tell.wg hi s.aP aJ RN hj h.a.qn.1)),upd_same _ _ _,fun j hj=>upd_ne _ _ hj,rfl,fun j hj _=>hw.view hW h j hj,by omega⟩
structure zau(G:Gh)(i:Nat)(l':Lo):Prop where
 b:(sumTo G.n fun j=>(upd G.th i l' j).busy)+(G.th i).busy=(sumTo G.n fun j=>(G.th j).busy)+l'.busy
 l:(sumTo G.n fun j=>(upd G.th i l' j).ba)+(G.th i).ba=(sumTo G.n fun j=>(G.th j).ba)+l'.ba
 s:(sumTo G.n fun j=>(upd G.th i l' j).bf)+(G.th i).bf=(sumTo G.n fun j=>(G.th j).bf)+l'.bf
theorem EX.wO(h:EX E G){i:Nat}(l':Lo)(hi:(G.th i).af=true):zau G i l':=
 have ll:=(h.db i hi).1
 ⟨fH ll G.th l' Lo.busy,fH ll G.th l' Lo.ba,fH ll G.th l' Lo.bf⟩
theorem BZ(l:Lo):l.busy<=l.fg:=by
 unfold Lo.busy Lo.fg;split
 ·rename_i h;rw[h.1];exact Nat.le_refl _
 exact Nat.zero_le _
theorem EX.BZ(h:EX E G):(sumTo G.n fun j=>(G.th j).busy)+G.left<=48:=by
 have:=iJ (n:=G.n) (f:=fun j=>(G.th j).busy) (g:=fun j=>(G.th j).fg) fun j _=>Co.BZ _
 have:=h.Rb
 omega
theorem KH.DG(h:KH G):G.ww<=1/\(sumTo G.n fun j=>(G.th j).bf)+G.ws<=1:=by
 have:=h.m
 split at this<;>omega
theorem KH.idle(h:KH G)(hw:(G.th 0).gr≠ .waits):G.ww=0/\G.ws=0/\(sumTo G.n fun j=>(G.th j).bf)=0/\(sumTo G.n fun j=>(G.th j).ba)=0:=by
 have:=h.m
 have:=h.a
 rw[if_neg hw]at*
 omega
theorem lE{x:SC}(hx:x.ok E.K)(hd: ∀k,x≠ .done k): ∀e∈nT (E.sc x),wN E e:=by
 intro e he
 rcases iU he with rfl|rfl
 ·exact .inl ⟨x,false,hx,rfl,fun e=>by cases e⟩
 exact .inl ⟨x,true,hx,rfl,fun _=>hd⟩
theorem Bl{x:SC}(hx:x.ok E.K): ∀e∈(#[⟨.cell (E.sc x),false,true⟩]:Array Event),wN E e:=by
 intro e he;simp at he;subst he;exact .inl ⟨x,false,hx,rfl,fun e=>by cases e⟩
theorem PU(h:GI E G w t):(G.th 0).wk=false/\(G.th 0).mr=none:=by
 refine⟨((h.g.role 0 h.a.bl).1 rfl).1,?_⟩
 cases e:(G.th 0).mr with
 |none=>rfl
 |some p=>exact absurd rfl (h.k.CE 0 p.1 p.2 h.a.bl (by rw[e])).2
theorem GI.V7(h:GI E G w t)(hW:0<E.K)(fn:FuncId)(pos:String){lf ps:Nat}{c:Bool}(qv:(G.th 0).me=⟨lf+1,0,ps,c⟩)(cx:(G.th 0).gr= .out)(bP:(G.th 0).ch= .no)(aJ:(G.th 0).rel=none):
  (G.ww=0/\G.wn+1<=48/\w.cell? (E.sc .bG)=some (.int .u64 ((G.wn*4294967296:Nat):Int))/\w.frozen? (E.sc .bG)=false)/\
  ∃G',oe E 0 G G' w (w.setCell (E.sc .bG) (.int .u64 (((G.wn+1)*4294967296:Nat):Int))) (t++MemOp.ofEvents 0 fn pos (nT (E.sc .bG))) {G.th 0 with me:=⟨lf+1,1,ps,c⟩}/\Calm E G G':=by
 have hm:=h.j.me
 rw[qv]at hm
 simp only[Me.mk.injEq]at hm
 obtain⟨m1,m2,m3,m4⟩:=hm
 have Iz:(G.th 0).gr≠ .waits:=by rw[cx];simp
 obtain⟨i1,i2,i3,i4⟩:=h.g.idle Iz
 have hb:=h.a.BZ
 have hn:=h.g.n
 have UR:G.cl=false:=by
  cases e:G.cl with
  |false=>rfl
  |true=>have:=(h.j.cl e).2.1;omega
 have hl:({G.th 0 with me:=⟨lf+1,1,ps,c⟩}:Lo).af=true:=h.a.bl
 have K4:=h.a.wO {G.th 0 with me:=⟨lf+1,1,ps,c⟩} h.a.bl
 have hdb:deafBehind (G.th 0).deaf (nT (E.sc .bG))=(G.th 0).deaf:=rfl
 have e0:(upd G.th 0 {G.th 0 with me:=⟨lf+1,1,ps,c⟩} 0).gr= .out:=by rw[upd_same];exact cx
 refine⟨⟨i1,by omega,?_,(h.m.sync .bG hW).2⟩,_,h.N5 hW (wn:=G.wn+1) (ww:=0) (ws:=0) (pend:=1) fn pos h.a.bl ⟨rfl,rfl,rfl,rfl,rfl,rfl,rfl,rfl,rfl,rfl⟩ (.inl hl) (PU h).2 (.inl hl) bP (.inl ⟨hl,cx⟩)
  (fun _=>by simp only[Me.mk.injEq];exact⟨m1,trivial,m3,m4⟩) (fun e=>absurd rfl e) (fun e=>by rw[UR]at e;cases e) (.inr (.inl ⟨congrArg (fun n:Nat=>w.setCell (E.sc .bG) (.int .u64 (n:Int))) (Nat.add_zero _).symm,i2.symm⟩)) (lE (x:=.bG) hW fun k e=>by cases e) (.inl aJ) rfl rfl (.inl rfl) (fun e=>e) ?_ ?_,Calm.of rfl rfl ?_ rfl rfl rfl⟩
 ·have:=(h.m.sync .bG hW).1
  rw[this]
  show some (Value.int .u64 ((G.wn*4294967296+G.ww:Nat):Int))=_
  rw[i1];simp
 ·refine⟨?_,?_,?_,fun x=>?_,fun x=>?_,fun x=>?_,fun x=>?_,?_,fun j hj=>?_,fun x=>?_⟩
  ·show G.wn+1=1+sumTo G.n fun j=>(upd G.th 0 {G.th 0 with me:=⟨lf+1,1,ps,c⟩} j).busy
   have:=K4.b
   have:({G.th 0 with me:=⟨lf+1,1,ps,c⟩}:Lo).busy=(G.th 0).busy:=rfl
   omega
  ·show(if(upd G.th 0 {G.th 0 with me:=⟨lf+1,1,ps,c⟩} 0).gr= .waits then 1 else 0)=0+(sumTo G.n fun j=>(upd G.th 0 {G.th 0 with me:=⟨lf+1,1,ps,c⟩} j).bf)+0
   rw[e0]
   have:=K4.s
   have:({G.th 0 with me:=⟨lf+1,1,ps,c⟩}:Lo).bf=(G.th 0).bf:=rfl
   rw[if_neg (by decide)];omega
  ·show(sumTo G.n fun j=>(upd G.th 0 {G.th 0 with me:=⟨lf+1,1,ps,c⟩} j).ba)<=0
   have:=K4.l
   have:({G.th 0 with me:=⟨lf+1,1,ps,c⟩}:Lo).ba=(G.th 0).ba:=rfl
   omega
  ·exfalso
   have x:0<(sumTo G.n fun j=>(upd G.th 0 {G.th 0 with me:=⟨lf+1,1,ps,c⟩} j).ba):=x
   have:=K4.l
   have:({G.th 0 with me:=⟨lf+1,1,ps,c⟩}:Lo).ba=(G.th 0).ba:=rfl
   omega
  ·exfalso
   have x:0<(sumTo G.n fun j=>(upd G.th 0 {G.th 0 with me:=⟨lf+1,1,ps,c⟩} j).bf)+0:=x
   have:=K4.s
   have:({G.th 0 with me:=⟨lf+1,1,ps,c⟩}:Lo).bf=(G.th 0).bf:=rfl
   omega
  ·cases x
  ·exfalso
   have x:(upd G.th 0 {G.th 0 with me:=⟨lf+1,1,ps,c⟩} 0).gr= .cK\/(upd G.th 0 {G.th 0 with me:=⟨lf+1,1,ps,c⟩} 0).gr= .aT:=x
   rw[e0]at x;rcases x with x|x<;>cases x
  ·show G.wn+1<=48
   omega
  ·have:=h.g.role j (by rw[<-aW (i:=0) (l:={G.th 0 with me:=⟨lf+1,1,ps,c⟩}) Lo.af (by rfl) j];exact hj)
   rw[show(Gh.th _ j).wk=(G.th j).wk from aW (i:=0) (l:={G.th 0 with me:=⟨lf+1,1,ps,c⟩}) Lo.wk (by rfl) j,show(Gh.th _ j).gr=(G.th j).gr from aW (i:=0) (l:={G.th 0 with me:=⟨lf+1,1,ps,c⟩}) Lo.gr (by rfl) j]
   exact this
  exfalso
  have x:(∃m,(upd G.th 0 {G.th 0 with me:=⟨lf+1,1,ps,c⟩} 0).gr= .y8 m)\/(upd G.th 0 {G.th 0 with me:=⟨lf+1,1,ps,c⟩} 0).gr= .waits:=x
  rw[e0]at x;rcases x with⟨_,x⟩|x<;>cases x
 ·rw[upd_same]
  have a1:({G.th 0 with me:=⟨lf+1,1,ps,c⟩}:Lo).φ E.K=(G.th 0).φ E.K:=rfl
  have a2:({G.th 0 with me:=⟨lf+1,1,ps,c⟩}:Lo).aO (G.wn+1)=0:=by unfold Lo.aO;simp only[cx]
  omega
 exact i2.symm
end Go.Co

namespace Go.Co
open Go Go.Conc
open Go.ConcM (OsLater)
open Go.ConcN (sumTo upd sumTo_upd upd_ne upd_same sumTo_congr le_sumTo sumTo_le)
variable{E:Geo}{G G':Gh}{w w':World}{t t' u:Trace}{B B':Nat}
theorem GI.NL(h:GI E G w t){i:Nat}{l':Lo}{wn ww ws pend:Nat}(hi:(G.th i).af=true)(g0:Gr)(Kl:(upd G.th i l' 0).gr=g0)
  (WI:l'.af=true->(i=0->l'.wk=false/\(l'.gr= .out\/(∃m,l'.gr= .y8 m)\/l'.gr= .waits\/l'.gr= .cK\/l'.gr= .aT))/\(i≠0->l'.wk=true/\(l'.gr= .out\/l'.gr= .said\/l'.gr= .last\/l'.gr= .gT)))
  (k: ∀b l s,b+(G.th i).busy=(sumTo G.n fun j=>(G.th j).busy)+l'.busy->l+(G.th i).ba=(sumTo G.n fun j=>(G.th j).ba)+l'.ba->s+(G.th i).bf=(sumTo G.n fun j=>(G.th j).bf)+l'.bf->
   (wn=pend+b/\(if g0= .waits then 1 else 0)=ww+s+ws/\l<=ww/\(0<l->wn=0)/\(0<s+ws->wn=0)/\(ww=1->wn=0->0<l)/\wn<=48)/\(g0= .cK\/g0= .aT->wn=0/\pend=0/\G.left=0)/\(((∃m,g0= .y8 m)\/g0= .waits)->pend=0/\G.left=0)):
  KH (G.wg i l' wn ww ws pend):=by
 have hs:=h.a.wO l' hi
 obtain⟨⟨k1,k2,k3,k4,k5,k6,k7⟩,k8,k9⟩:=k _ _ _ hs.b hs.l hs.s
 refine⟨k1,?_,k3,k4,k5,k6,?_,k7,fun j hj=>?_,?_⟩
 ·show(if(upd G.th i l' 0).gr= .waits then 1 else 0)=_
  rw[Kl];exact k2
 ·show(upd G.th i l' 0).gr= .cK\/(upd G.th i l' 0).gr= .aT->_
  rw[Kl];exact k8
 ·show(j=0->(upd G.th i l' j).wk=false/\((upd G.th i l' j).gr= .out\/(∃m,(upd G.th i l' j).gr= .y8 m)\/(upd G.th i l' j).gr= .waits\/(upd G.th i l' j).gr= .cK\/(upd G.th i l' j).gr= .aT))/\
   (j≠0->(upd G.th i l' j).wk=true/\((upd G.th i l' j).gr= .out\/(upd G.th i l' j).gr= .said\/(upd G.th i l' j).gr= .last\/(upd G.th i l' j).gr= .gT))
  have hj:(upd G.th i l' j).af=true:=hj
  by_cases e:j=i
  ·subst e;rw[upd_same]at hj ⊢;exact WI hj
  rw[upd_ne _ _ e]at hj ⊢;exact h.g.role j hj
 show((∃m,(upd G.th i l' 0).gr= .y8 m)\/(upd G.th i l' 0).gr= .waits)->_
 rw[Kl];exact k9
theorem iY{l:Lo}(hw:l.wk=false)(hg:l.gr≠ .last)(P8:l.gr≠ .gT):l.busy=0/\l.ba=0/\l.bf=0:=by
 unfold Lo.busy Lo.ba Lo.bf;rw[hw];simp[hg,P8]
theorem H2{l:Lo}(hl:l.af=true)(hw:l.wk=true):l.busy=(if l.gr= .out\/l.gr= .said then 1 else 0)/\l.ba=(if l.gr= .last then 1 else 0)/\l.bf=if l.gr= .gT then 1 else 0:=by
 unfold Lo.busy Lo.ba Lo.bf;simp[hl,hw]
theorem H3{l:Lo}(hl:l.af=false):l.busy=0/\l.ba=0/\l.bf=0:=by
 unfold Lo.busy Lo.ba Lo.bf;simp[hl]
theorem sg{K:Nat}{l l':Lo}(s:sa l l')(h:l.af=true)(h':l'.af=true)(hw:l.wk=false)(hg:l.gr≠ .last)(P8:l'.gr≠ .last):l'.φ K+l.qV=l.φ K+l'.qV:=by
 have:=wj (K:=K) s h h'
 have e1:l.busy=0:=by unfold Lo.busy;simp[hw]
 have e2:l'.busy=0:=by unfold Lo.busy;simp[s.wk,hw]
 have e3:l.ba=0:=by unfold Lo.ba;simp[hg]
 have e4:l'.ba=0:=by unfold Lo.ba;simp[P8]
 omega
def Lo.dJ(l:Lo)(g:Gr):Lo:={l with gr:=g}
theorem nY(l:Lo)(g:Gr):sa l (l.dJ g):=⟨rfl,rfl,rfl,rfl,rfl,rfl,rfl,rfl,rfl,rfl⟩
theorem Calm.PW{i:Nat}{l':Lo}(h1:G'.th=upd G.th i l')(h2:G'.sm=G.sm)(h4:G'.cl=G.cl)(h5:l'.mr=(G.th i).mr)(h6:(G.th 0).gr= .waits->G.ws=0->(upd G.th i l' 0).gr= .waits/\G'.ws=0):Calm E G G':=by
 refine⟨fun j hj=>?_,h4⟩
 unfold Gh.PK at hj ⊢
 rw[h1,h2,aW (i:=i) (l:=l') Lo.mr h5 j]
 exact hj.imp id fun⟨a,b,c⟩=>⟨a,h6 b c⟩
theorem GI.SI(h:GI E G w t)(hW:0<E.K)(fn:FuncId)(pos:String){ps:Nat}{c:Bool}(qv:(G.th 0).me=⟨0,0,ps,c⟩)(cx:(G.th 0).gr= .out)(bP:(G.th 0).ch= .no)(aJ:(G.th 0).rel=none)(hC:E.eg=true->c=true):
  (w.cell? (E.sc .bG)=some (.int .u64 ((G.wn*4294967296:Nat):Int))/\w.frozen? (E.sc .bG)=false/\G.wn<=48)/\
  ∀g:Gr,((g= .cK/\G.wn=0)\/(g= .y8 G.wn/\0<G.wn))->∃G',oe E 0 G G' w w (t++MemOp.ofEvents 0 fn pos #[⟨.cell (E.sc .bG),false,true⟩]) ((G.th 0).dJ g)/\Calm E G G':=by
 have hm:=h.j.me
 rw[qv]at hm
 simp only[Me.mk.injEq]at hm
 obtain⟨m1,m2,m3,m4⟩:=hm
 have Iz:(G.th 0).gr≠ .waits:=by rw[cx];simp
 obtain⟨i1,i2,i3,i4⟩:=h.g.idle Iz
 have hn:=h.g.n
 obtain⟨ic,ee⟩:=PU h
 have NQ:=h.g.small
 refine⟨⟨?_,(h.m.sync .bG hW).2,NQ⟩,fun g hg=>?_⟩
 ·have:=(h.m.sync .bG hW).1
  rw[this]
  show some (Value.int .u64 ((G.wn*4294967296+G.ww:Nat):Int))=_
  rw[i1,Nat.add_zero]
 have hl:((G.th 0).dJ g).af=true:=h.a.bl
 obtain⟨s1,s2,s3⟩:=iY (l:=G.th 0) ic (by rw[cx];simp) (by rw[cx];simp)
 have UM:g≠ .last/\g≠ .gT/\g≠ .waits/\g≠ .aT:=by rcases hg with⟨rfl,_⟩|⟨rfl,_⟩<;>simp
 obtain⟨s4,s5,s6⟩:=iY (l:=(G.th 0).dJ g) ic UM.1 UM.2.1
 refine⟨_,h.N5 hW (wn:=G.wn) (ww:=G.ww) (ws:=G.ws) (pend:=G.pend) fn pos h.a.bl (nY _ _) (.inl hl) ee (.inl hl) bP (.inr fun x=>by rw[<-m4];exact hC x)
  (fun _=>qv.trans (by rw[<-m1,<-m2,<-m3,<-m4])) (fun e=>absurd rfl e) (fun _=>m2.symm) (.inl ⟨rfl,rfl,rfl,rfl⟩) (Bl (x:=.bG) hW) (.inl aJ) rfl rfl (.inl rfl) (fun e=>absurd e UM.2.2.2) ?_ ?_,Calm.PW rfl rfl rfl rfl fun e=>absurd e Iz⟩
 ·refine h.NL h.a.bl g (by rw[upd_same];rfl) (fun _=>⟨fun _=>⟨ic,?_⟩,fun e=>absurd rfl e⟩) fun b l s hb hl hs=>⟨?_,?_,fun _=>⟨m2.symm,m1.symm⟩⟩
  ·rcases hg with⟨rfl,_⟩|⟨rfl,_⟩
   ·exact .inr (.inr (.inr (.inl rfl)))
   exact .inr (.inl ⟨_,rfl⟩)
  ·rw[if_neg UM.2.2.1]
   refine⟨by omega,by omega,by omega,fun _=>by omega,fun _=>by omega,fun _ _=>by omega,by omega⟩
  intro x
  rcases hg with⟨rfl,y⟩|⟨rfl,y⟩
  ·exact⟨y,m2.symm,m1.symm⟩
  rcases x with x|x<;>cases x
 have:=sg (K:=E.K) (nY (G.th 0) g) h.a.bl hl ic (by rw[cx];simp) UM.1
 rw[upd_same]
 have e1:(G.th 0).qV=4:=by unfold Lo.qV;rw[cx]
 have e2:((G.th 0).dJ g).qV<=3:=by
  rcases hg with⟨rfl,_⟩|⟨rfl,_⟩<;>simp[Lo.qV,Lo.dJ]
 have e3:((G.th 0).dJ g).aO G.wn=0:=by
  rcases hg with⟨rfl,_⟩|⟨rfl,_⟩<;>simp[Lo.aO,Lo.dJ]
 omega
theorem GI.V6(h:GI E G w t)(hW:0<E.K)(fn:FuncId)(pos:String){ps n:Nat}{c:Bool}(qv:(G.th 0).me=⟨0,0,ps,c⟩)(cx:(G.th 0).gr= .y8 n)(we:0<n)(Yi:G.wn=n)(bP:(G.th 0).ch= .no)(aJ:(G.th 0).rel=none)(hC:E.eg=true->c=true):
  ∃G',oe E 0 G G' w (w.setCell (E.sc .bG) (.int .u64 ((n*4294967296+1:Nat):Int))) (t++MemOp.ofEvents 0 fn pos (nT (E.sc .bG))) ((G.th 0).dJ .waits)/\Calm E G G':=by
 have hm:=h.j.me
 rw[qv]at hm
 simp only[Me.mk.injEq]at hm
 obtain⟨m1,m2,m3,m4⟩:=hm
 have Iz:(G.th 0).gr≠ .waits:=by rw[cx];simp
 obtain⟨i1,i2,i3,i4⟩:=h.g.idle Iz
 have hn:=h.g.n
 obtain⟨ic,ee⟩:=PU h
 have NQ:=h.g.small
 have hl:((G.th 0).dJ .waits).af=true:=h.a.bl
 obtain⟨s1,s2,s3⟩:=iY (l:=G.th 0) ic (by rw[cx];simp) (by rw[cx];simp)
 obtain⟨s4,s5,s6⟩:=iY (l:=(G.th 0).dJ .waits) ic (fun e=>by cases e) (fun e=>by cases e)
 refine⟨_,h.N5 hW (wn:=G.wn) (ww:=1) (ws:=G.ws) (pend:=G.pend) fn pos h.a.bl (nY _ _) (.inl hl) ee (.inl hl) bP (.inr fun x=>by rw[<-m4];exact hC x)
  (fun _=>qv.trans (by rw[<-m1,<-m2,<-m3,<-m4])) (fun e=>absurd rfl e) (fun _=>m2.symm) (.inr (.inl ⟨by rw[Yi],rfl⟩)) (lE (x:=.bG) hW fun k e=>by cases e) (.inl aJ) rfl rfl (.inl rfl) (fun e=>by cases e) ?_ ?_,Calm.PW rfl rfl rfl rfl fun e=>absurd e Iz⟩
 ·refine h.NL h.a.bl .waits (by rw[upd_same];rfl) (fun _=>⟨fun _=>⟨ic,.inr (.inr (.inl rfl))⟩,fun e=>absurd rfl e⟩) fun b l s hb hl hs=>⟨?_,?_,fun _=>⟨m2.symm,m1.symm⟩⟩
  ·rw[if_pos rfl]
   refine⟨by omega,by omega,by omega,fun _=>by omega,fun _=>by omega,fun _ _=>by omega,by omega⟩
  intro x
  rcases x with x|x<;>cases x
 have:=sg (K:=E.K) (nY (G.th 0) .waits) h.a.bl hl ic (by rw[cx];simp) (fun e=>by cases e)
 rw[upd_same]
 have e1:(G.th 0).qV=3:=by unfold Lo.qV;rw[cx]
 have e2:((G.th 0).dJ .waits).qV=2:=rfl
 have e3:((G.th 0).dJ .waits).aO G.wn=0:=rfl
 omega
theorem GI.SG(h:GI E G w t)(hW:0<E.K)(fn:FuncId)(pos:String){ps n:Nat}{c:Bool}(qv:(G.th 0).me=⟨0,0,ps,c⟩)(cx:(G.th 0).gr= .y8 n)(Yi:G.wn≠n)(bP:(G.th 0).ch= .no)(aJ:(G.th 0).rel=none)(hC:E.eg=true->c=true):
  ∃G',oe E 0 G G' w w (t++MemOp.ofEvents 0 fn pos #[⟨.cell (E.sc .bG),false,true⟩]) ((G.th 0).dJ .out)/\Calm E G G'/\G'.Φ E.K E.nj<G.Φ E.K E.nj:=by
 have hm:=h.j.me
 rw[qv]at hm
 simp only[Me.mk.injEq]at hm
 obtain⟨m1,m2,m3,m4⟩:=hm
 have Iz:(G.th 0).gr≠ .waits:=by rw[cx];simp
 obtain⟨i1,i2,i3,i4⟩:=h.g.idle Iz
 have hn:=h.g.n
 obtain⟨ic,ee⟩:=PU h
 have NQ:=h.g.small
 have hl:((G.th 0).dJ .out).af=true:=h.a.bl
 obtain⟨s1,s2,s3⟩:=iY (l:=G.th 0) ic (by rw[cx];simp) (by rw[cx];simp)
 obtain⟨s4,s5,s6⟩:=iY (l:=(G.th 0).dJ .out) ic (fun e=>by cases e) (fun e=>by cases e)
 have Oa:((G.th 0).dJ .out).φ E.K+(upd G.th 0 ((G.th 0).dJ .out) 0).aO G.wn<(G.th 0).φ E.K+(G.th 0).aO G.wn:=by
  have:=sg (K:=E.K) (nY (G.th 0) .out) h.a.bl hl ic (by rw[cx];simp) (fun e=>by cases e)
  rw[upd_same]
  have e1:(G.th 0).qV=3:=by unfold Lo.qV;rw[cx]
  have e2:((G.th 0).dJ .out).qV=4:=rfl
  have e3:((G.th 0).dJ .out).aO G.wn=0:=rfl
  have e4:(G.th 0).aO G.wn=2:=by unfold Lo.aO;rw[cx];simp only;rw[if_neg (fun e=>Yi e.symm)]
  omega
 refine⟨_,h.N5 hW (wn:=G.wn) (ww:=G.ww) (ws:=G.ws) (pend:=G.pend) fn pos h.a.bl (nY _ _) (.inl hl) ee (.inl hl) bP (.inr fun x=>by rw[<-m4];exact hC x)
  (fun _=>qv.trans (by rw[<-m1,<-m2,<-m3,<-m4])) (fun e=>absurd rfl e) (fun _=>m2.symm) (.inl ⟨rfl,rfl,rfl,rfl⟩) (Bl (x:=.bG) hW) (.inl aJ) rfl rfl (.inl rfl) (fun e=>by cases e) ?_ (Nat.le_of_lt Oa),Calm.PW rfl rfl rfl rfl fun e=>absurd e Iz,?_⟩
 ·refine h.NL h.a.bl .out (by rw[upd_same];rfl) (fun _=>⟨fun _=>⟨ic,.inl rfl⟩,fun e=>absurd rfl e⟩) fun b l s hb hl hs=>⟨?_,?_,fun _=>⟨m2.symm,m1.symm⟩⟩
  ·rw[if_neg (by decide)]
   refine⟨by omega,by omega,by omega,fun _=>by omega,fun _=>by omega,fun _ _=>by omega,by omega⟩
  intro x
  rcases x with x|x<;>cases x
 have:=Gh.ub (E:=E) (l':=(G.th 0).dJ .out) (wn:=G.wn) (ww:=G.ww) (ws:=G.ws) (pend:=G.pend) h.a h.a.bl (nY _ _) ee
 omega
theorem pd{m:Mark}(hm:(MemAct.mark m).touch?=none)(hr: ∀a,m≠ .release a)(hl: ∀B,E.w0.heap.size<=B->(∀x,x.ok E.K->(E.sc x).block<B)->(MemAct.mark m).low B):wN E ⟨.mark m,false,true⟩:=.inr ⟨m,false,true,rfl,hm,hr,hl⟩
theorem HP:wN E ⟨.mark .disable,false,true⟩:=pd rfl (fun a e=>by cases e) fun _ _ _=>trivial
theorem Md:wN E ⟨.mark .enable,false,true⟩:=pd rfl (fun a e=>by cases e) fun _ _ _=>trivial
theorem wq{x:SC}(hx:x.ok E.K)(hd: ∀k,x≠ .done k): ∀e∈semEvents (E.sc x),wN E e:=by
 intro e he
 simp[semEvents]at he
 rcases he with rfl|rfl|rfl|rfl
 ·exact HP
 ·exact .inl ⟨x,false,hx,rfl,fun e=>by cases e⟩
 ·exact .inl ⟨x,true,hx,rfl,fun _=>hd⟩
 exact Md
theorem sL(d:Nat)(a:Addr):deafBehind d (semEvents a)=d:=by
 simp[deafBehind,semEvents]
theorem GI.SF(h:GI E G w t)(hW:0<E.K)(fn:FuncId)(pos:String){ps:Nat}{c:Bool}(qv:(G.th 0).me=⟨0,0,ps,c⟩)(cx:(G.th 0).gr= .waits)(bP:(G.th 0).ch= .no)(aJ:(G.th 0).rel=none)(hC:E.eg=true->c=true):
  (w.cell? (E.sc .fX)=some (.int .u32 (G.ws:Int))/\w.frozen? (E.sc .fX)=false)/\(G.ws=0->G.PK E 0)/\
  (G.ws≠0->G.ws=1/\∃G',oe E 0 G G' w (w.setCell (E.sc .fX) (.int .u32 0)) (t++MemOp.ofEvents 0 fn pos (semEvents (E.sc .fX))) ((G.th 0).dJ .cK)/\G'.cl=G.cl/\∀j,j≠0->G.PK E j->G'.PK E j):=by
 have hm:=h.j.me
 rw[qv]at hm
 simp only[Me.mk.injEq]at hm
 obtain⟨m1,m2,m3,m4⟩:=hm
 have hn:=h.g.n
 obtain⟨ic,ee⟩:=PU h
 have NQ:=h.g.small
 have hM:=h.g.m
 rw[cx,if_pos rfl]at hM
 refine⟨h.m.sync .fX hW,fun e=>.inr ⟨rfl,cx,e⟩,fun cb=>⟨by omega,?_⟩⟩
 have hl:((G.th 0).dJ .cK).af=true:=h.a.bl
 obtain⟨s1,s2,s3⟩:=iY (l:=G.th 0) ic (by rw[cx];simp) (by rw[cx];simp)
 obtain⟨s4,s5,s6⟩:=iY (l:=(G.th 0).dJ .cK) ic (fun e=>by cases e) (fun e=>by cases e)
 have hz:=h.g.zs (by omega)
 have ha:=h.g.a
 refine⟨_,h.N5 hW (wn:=G.wn) (ww:=G.ww) (ws:=0) (pend:=G.pend) fn pos h.a.bl (nY _ _) (.inl hl) ee (.inl hl) bP (.inr fun x=>by rw[<-m4];exact hC x)
  (fun _=>qv.trans (by rw[<-m1,<-m2,<-m3,<-m4])) (fun e=>absurd rfl e) (fun _=>m2.symm) (.inr (.inr ⟨rfl,rfl,rfl⟩)) (wq (x:=.fX) hW fun k e=>by cases e) (.inl aJ) (sL _ _).symm rfl (.inl rfl) (fun e=>by cases e) ?_ ?_,rfl,fun j hj=>?_⟩
 ·refine h.NL h.a.bl .cK (by rw[upd_same];rfl) (fun _=>⟨fun _=>⟨ic,.inr (.inr (.inr (.inl rfl)))⟩,fun e=>absurd rfl e⟩) fun b l s hb hl hs=>⟨?_,fun _=>⟨hz,m2.symm,m1.symm⟩,fun _=>⟨m2.symm,m1.symm⟩⟩
  rw[if_neg (by decide)]
  refine⟨by omega,by omega,by omega,fun _=>by omega,fun _=>by omega,fun _ _=>by omega,by omega⟩
 ·have:=sg (K:=E.K) (nY (G.th 0) .cK) h.a.bl hl ic (by rw[cx];simp) (fun e=>by cases e)
  rw[upd_same]
  have e1:(G.th 0).qV=2:=by unfold Lo.qV;rw[cx]
  have e2:((G.th 0).dJ .cK).qV=1:=rfl
  have e3:((G.th 0).dJ .cK).aO G.wn=0:=rfl
  omega
 rintro(⟨k,hk,hs⟩|⟨e,_⟩)
 ·refine .inl ⟨k,?_,hs⟩
  show(upd G.th 0 ((G.th 0).dJ .cK) j).mr=_
  rw[upd_ne _ _ hj];exact hk
 exact absurd e hj
theorem GI.SM(h:GI E G w t)(hW:0<E.K)(cx:(G.th 0).gr= .cK):w.cell? (E.sc .bG)=some (.int .u64 0)/\w.frozen? (E.sc .bG)=false/\G.wn=0:=by
 have h1:=h.m.sync .bG hW
 obtain⟨z,_,_⟩:=h.g.cK (.inl cx)
 obtain⟨i1,_⟩:=h.g.idle (by rw[cx];simp)
 refine⟨?_,h1.2,z⟩
 rw[h1.1]
 show some (Value.int .u64 ((G.wn*4294967296+G.ww:Nat):Int))=_
 rw[i1,z];rfl
end Go.Co

namespace Go.Co
open Go Go.Conc
open Go.ConcM (OsLater)
open Go.ConcN (sumTo upd sumTo_upd upd_ne upd_same sumTo_congr le_sumTo sumTo_le)
variable{E:Geo}{G G':Gh}{w w':World}{t t' u:Trace}{B B':Nat}
theorem GI.RB(h:GI E G w t){i:Nat}(hi:(G.th i).af=true)(hg:(G.th i).gr≠ .out):(G.th i).mr=none:=by
 cases e:(G.th i).mr with
 |none=>rfl
 |some p=>exact absurd (h.j.NN i hi (by rw[e];simp)) hg
theorem GI.worker(h:GI E G w t){i:Nat}(hi:(G.th i).af=true)(dQ:i≠0):(G.th i).wk=true/\E.ours G i/\(E.eg=true->(G.th i).sc=true->G.cl=true):=
 ⟨((h.g.role i hi).2 dQ).1,(h.ours hi).resolve_left dQ,fun _ hs=>h.j.sc i hi hs⟩
theorem CP{l:Lo}(hl:l.af=true)(hw:l.wk=true):(l.gr= .out->l.busy=1/\l.ba=0/\l.bf=0)/\(l.gr= .said->l.busy=1/\l.ba=0/\l.bf=0)/\(l.gr= .last->l.busy=0/\l.ba=1/\l.bf=0)/\(l.gr= .gT->l.busy=0/\l.ba=0/\l.bf=1):=by
 obtain⟨a,b,c⟩:=H2 hl hw
 rw[a,b,c]
 refine⟨fun e=>?_,fun e=>?_,fun e=>?_,fun e=>?_⟩<;>rw[e]<;>simp
def Lo.rO(l:Lo)(r:Nat):Lo:={l with gr:=.said,rel:=some r}
def Lo.CJ(l:Lo):Lo:={l with af:=false}
theorem Nk(l:Lo)(r:Nat):sa l (l.rO r):=⟨rfl,rfl,rfl,rfl,rfl,rfl,rfl,rfl,rfl,rfl⟩
theorem DI(l:Lo):sa l l.CJ:=⟨rfl,rfl,rfl,rfl,rfl,rfl,rfl,rfl,rfl,rfl⟩
theorem dZ{th:Nat->Lo}{i:Nat}{l:Lo}(h:i≠0):upd th i l 0=th 0:=upd_ne _ _ fun e=>h e.symm
theorem iL{n i:Nat}{f:Nat->Nat}(h:i<n)(hf:1<=f i):1<=sumTo n f:=Nat.le_trans hf (le_sumTo h)
theorem GI.V5(h:GI E G w t)(hW:0<E.K){i:Nat}(fn:FuncId)(pos:String)(hi:(G.th i).af=true)(dQ:i≠0)(cx:(G.th i).gr= .out)(ee:(G.th i).mr=none)(bP:(G.th i).ch= .no)(aJ:(G.th i).rel=none)(fD:(G.th i).deaf=0)
  (gQ:E.eg=true->(G.th i).sc=true):
  ∃G',oe E i G G' w w (t++MemOp.ofEvents i fn pos #[⟨.mark (.releaseMerge (E.sc .bG)),false,true⟩]) ((G.th i).rO t.size)/\Calm E G G':=by
 obtain⟨ic,T9,dt⟩:=h.worker hi dQ
 have ll:=(h.a.db i hi).1
 have he: ∀e∈(#[⟨.mark (.releaseMerge (E.sc .bG)),false,true⟩]:Array Event),wN E e:=by
  intro e he;simp at he;subst he
  exact pd rfl (fun a e=>by cases e) fun B hB hx=>hx .bG hW
 have h1:=h.Sg fn pos hi he (.inl aJ)
 have hbz:(G.th i).busy=1:=by rw[(H2 hi ic).1,if_pos (.inl cx)]
 have Q3:0<G.wn:=by have:=iL (f:=fun j=>(G.th j).busy) ll (by simp only[hbz];exact Nat.le_refl _);have:=h.g.n;omega
 have hl:((G.th i).rO t.size).af=true:=hi
 obtain⟨b1,b2,b3⟩:=(CP hi ic).1 cx
 obtain⟨c1,c2,c3⟩:=(CP (l:=(G.th i).rO t.size) hi ic).2.1 rfl
 have s:=Nk (G.th i) t.size
 have Oa:=Gh.ub (E:=E) (l':=((G.th i).rO t.size)) (wn:=G.wn) (ww:=G.ww) (ws:=G.ws) (pend:=G.pend) h.a hi s ee
 have Zp:=wj (K:=E.K) s hi hl
 have e1:(G.th i).qV=4:=by unfold Lo.qV;rw[cx]
 have e2:((G.th i).rO t.size).qV=0:=rfl
 rw[dZ dQ]at Oa
 have fb:(t++MemOp.ofEvents i fn pos #[⟨.mark (.releaseMerge (E.sc .bG)),false,true⟩])[t.size]?=some {g:=i,fn,pos,act:=.mark (.releaseMerge (E.sc .bG))}:=by rw[ofEvents_one,Array.getElem?_append_right (Nat.le_refl _)];simp[MemAct.ofEvent]
 refine⟨G.wg i ((G.th i).rO t.size) G.wn G.ww G.ws G.pend,⟨h.XV hi s (.inl hl) ee (.inl hl) bP (.inr fun x=>dt x (gQ x)) (fun e=>absurd e dQ) (fun _=>rfl) (fun c=>(h.j.cl c).2.2) rfl (h.m.tr (fun y=>by cases y<;>rfl) rfl rfl) ?_ (h.Rv hi ee h1 s rfl ?_),
  upd_same _ _ _,fun j hj=>upd_ne _ _ hj,rfl,fun j _ _=>View.refl _ _,by omega⟩,Calm.PW rfl rfl rfl rfl fun x y=>⟨by rw[dZ dQ];exact x,y⟩⟩
 ·refine h.NL hi (G.th 0).gr (by rw[dZ dQ]) (fun _=>⟨fun e=>absurd e dQ,fun _=>⟨ic,.inr (.inl rfl)⟩⟩) fun b l s hb hl hs=>?_
  have hb:b=sumTo G.n fun j=>(G.th j).busy:=by omega
  have hl:l=sumTo G.n fun j=>(G.th j).ba:=by omega
  have hs:s=sumTo G.n fun j=>(G.th j).bf:=by omega
  subst hb hl hs
  exact⟨⟨h.g.n,h.g.m,h.g.a,h.g.z,h.g.zs,h.g.w,h.g.small⟩,h.g.cK,h.g.wV⟩
 have T:=h1.tell
 have OA: ∀j,(upd G.th i {G.th i with deaf:=deafBehind (G.th i).deaf #[⟨.mark (.releaseMerge (E.sc .bG)),false,true⟩]} j).rel=(G.th j).rel:=fun j=>aW Lo.rel (by rfl) j
 have vM: ∀j,(upd G.th i {G.th i with deaf:=deafBehind (G.th i).deaf #[⟨.mark (.releaseMerge (E.sc .bG)),false,true⟩]} j).af=(G.th j).af:=fun j=>aW Lo.af (by rfl) j
 have bq: ∀j,(upd G.th i ((G.th i).rO t.size) j).af=(G.th j).af:=fun j=>aW Lo.af (by rfl) j
 have K8: ∀j,(upd G.th i {G.th i with deaf:=deafBehind (G.th i).deaf #[⟨.mark (.releaseMerge (E.sc .bG)),false,true⟩]} j).aP=(G.th j).aP:=fun j=>aW Lo.aP (by rfl) j
 have rR: ∀j,(upd G.th i ((G.th i).rO t.size) j).aP=(G.th j).aP:=fun j=>aW Lo.aP (by rfl) j
 have RZ: ∀j,(upd G.th i {G.th i with deaf:=deafBehind (G.th i).deaf #[⟨.mark (.releaseMerge (E.sc .bG)),false,true⟩]} j).gr=(G.th j).gr:=fun j=>aW Lo.gr (by rfl) j
 refine⟨T.known,T.over,T.norel,fun g hg=>?_,fun k hk hd=>?_,fun ov g r hg hr=>?_⟩
 ·by_cases e:g=i
  ·subst e
   refine .inr ⟨t.size,by show(upd G.th g ((G.th g).rO t.size) g).rel=_;rw[upd_same];rfl,by rw[act?_of fb],by unfold Trace.g?;rw[fb];rfl,heard_new fb (by rw[h.t.deaf g hi];exact fD),fun j op a hj h1 h2 h3=>?_⟩
   have:=(Array.getElem?_eq_some_iff.1 h1).1
   rw[ofEvents_one]at this
   simp at this;omega
  have:=T.rel g hg
  have this:((upd G.th i {G.th i with deaf:=deafBehind (G.th i).deaf #[⟨.mark (.releaseMerge (E.sc .bG)),false,true⟩]} g).rel=none/\(upd G.th i {G.th i with deaf:=deafBehind (G.th i).deaf #[⟨.mark (.releaseMerge (E.sc .bG)),false,true⟩]} g).af=true/\(upd G.th i {G.th i with deaf:=deafBehind (G.th i).deaf #[⟨.mark (.releaseMerge (E.sc .bG)),false,true⟩]} g).gr= .out)\/∃r,(upd G.th i {G.th i with deaf:=deafBehind (G.th i).deaf #[⟨.mark (.releaseMerge (E.sc .bG)),false,true⟩]} g).rel=some r/\_:=this
  show((upd G.th i ((G.th i).rO t.size) g).rel=none/\(upd G.th i ((G.th i).rO t.size) g).af=true/\(upd G.th i ((G.th i).rO t.size) g).gr= .out)\/∃r,(upd G.th i ((G.th i).rO t.size) g).rel=some r/\_
  rw[upd_ne _ _ e]at this ⊢
  exact this
 ·obtain⟨p,a1,a2,a3,a4⟩:=T.dq k hk hd
  refine⟨p,a1,a2,a3,fun j hj hp=>a4 j ?_ ?_⟩
  ·show(upd G.th i _ j).af=true
   rw[vM,<-bq];exact hj
  show(upd G.th i _ j).aP k=true
  rw[K8,<-rR];exact hp
 exfalso
 have ov:(upd G.th i ((G.th i).rO t.size) 0).gr= .aT:=ov
 rw[dZ dQ]at ov
 have:=(h.g.cK (.inr ov)).1
 omega
theorem GI.SL(h:GI E G w t)(hW:0<E.K){i:Nat}(fn:FuncId)(pos:String)(hi:(G.th i).af=true)(dQ:i≠0)(cx:(G.th i).gr= .said)(bP:(G.th i).ch= .no)(aJ:(G.th i).rel≠none)(fD:0<(G.th i).deaf)
  (gQ:E.eg=true->(G.th i).sc=true) (mV: ∀j,(G.th i).bZ=some j->E.rs j=none):
  (w.cell? (E.sc .bG)=some (.int .u64 ((G.wn*4294967296+G.ww:Nat):Int))/\w.frozen? (E.sc .bG)=false/\1<=G.wn/\G.wn<=48/\G.ww<=1)/\
  (¬(G.wn=1/\G.ww=1)->∃G',oe E i G G' w (w.setCell (E.sc .bG) (.int .u64 (((G.wn-1)*4294967296+G.ww:Nat):Int))) (t++MemOp.ofEvents i fn pos (nT (E.sc .bG))) (G.th i).CJ/\Calm E G G'/\G'.Φ E.K E.nj<G.Φ E.K E.nj)/\
  (G.wn=1/\G.ww=1->∃G',oe E i G G' w (w.setCell (E.sc .bG) (.int .u64 (((G.wn-1)*4294967296+G.ww:Nat):Int))) (t++MemOp.ofEvents i fn pos (nT (E.sc .bG))) ((G.th i).dJ .last)/\Calm E G G'):=by
 obtain⟨ic,T9,dt⟩:=h.worker hi dQ
 have ll:=(h.a.db i hi).1
 have ee:=h.RB hi (by rw[cx];simp)
 obtain⟨b1,b2,b3⟩:=(CP hi ic).2.1 cx
 have hB:=iL (f:=fun j=>(G.th j).busy) ll (by simp only[b1];exact Nat.le_refl _)
 have hN:=h.g.n
 have hM:=h.g.m
 have hA:=h.g.a
 have Uv:=h.g.DG
 have Oh:(sumTo G.n fun j=>(G.th j).ba)=0:=by
  rcases Nat.eq_zero_or_pos (sumTo G.n fun j=>(G.th j).ba)with x|x
  ·exact x
  have:=h.g.z x;omega
 have EE:(sumTo G.n fun j=>(G.th j).bf)+G.ws=0:=by
  rcases Nat.eq_zero_or_pos ((sumTo G.n fun j=>(G.th j).bf)+G.ws)with x|x
  ·exact x
  have:=h.g.zs x;omega
 have NQ:=h.g.small
 have hq: ∀j e,(nT (E.sc .bG))[j]?=some e->(MemAct.ofEvent e).touch?=none\/((e.loc= .cell (E.sc .bG)\/e.loc= .cell (E.sc .fX))/\0<deafBehind (G.th i).deaf ((nT (E.sc .bG)).extract 0 j)):=fun j e hj=>by
  right
  have hd: ∀j,deafBehind (G.th i).deaf ((nT (E.sc .bG)).extract 0 j)=(G.th i).deaf:=fun j=>by
   match j with
   |0=>rfl
   |1=>rfl
   |j+2=>
    have:(nT (E.sc .bG)).extract 0 (j+2)=nT (E.sc .bG):=by
     apply Array.toList_inj.1;simp[nT]
    rw[this];rfl
  rw[hd]
  refine⟨.inl ?_,fD⟩
  rcases iU (Array.mem_of_getElem? hj)with rfl|rfl<;>rfl
 have qA:(G.th 0).gr≠ .cK/\(G.th 0).gr≠ .aT:=⟨fun x=>by have:=(h.g.cK (.inl x)).1;omega,fun x=>by have:=(h.g.cK (.inr x)).1;omega⟩
 have dI:(G.th 0).aO (G.wn-1)<=(G.th 0).aO G.wn+2:=by
  unfold Lo.aO;split
  ·split<;>omega
  omega
 refine⟨⟨(h.m.sync .bG hW).1,(h.m.sync .bG hW).2,by omega,NQ,Uv.1⟩,fun hn=>?_,fun hn=>?_⟩
 ·have s:=DI (G.th i)
  obtain⟨c1,c2,c3⟩:=H3 (l:=(G.th i).CJ) rfl
  have p1:=L5 (K:=E.K) hi
  have p2:=Hu (K:=E.K) (l:=(G.th i).CJ) rfl
  have bA:(G.th i).CJ.φ E.K+(upd G.th i (G.th i).CJ 0).aO (G.wn-1)<(G.th i).φ E.K+(G.th 0).aO G.wn:=by
   rw[dZ dQ,p2];omega
  refine⟨_,h.N5 hW (l':=(G.th i).CJ) (wn:=G.wn-1) (ww:=G.ww) (ws:=G.ws) (pend:=G.pend) fn pos hi s (.inr dQ) ee (.inr mV) bP (.inr fun x=>dt x (gQ x)) (fun e=>absurd e dQ) (fun _=>rfl) (fun c=>(h.j.cl c).2.2)
   (.inr (.inl ⟨rfl,rfl⟩)) (lE (x:=.bG) hW fun k e=>by cases e) (.inr hq) rfl rfl (.inr (.inl aJ)) (fun(e:(G.th i).gr= .aT)=>by rw[cx]at e;cases e) ?_ (Nat.le_of_lt bA),Calm.PW rfl rfl rfl rfl fun x y=>⟨by rw[dZ dQ];exact x,y⟩,?_⟩
  ·refine h.NL hi (G.th 0).gr (by rw[dZ dQ]) (fun e=>by cases e) fun b l s hb hl hs=>⟨⟨by omega,by omega,by omega,fun _=>by omega,fun _=>by omega,fun _ _=>by omega,by omega⟩,fun x=>?_,h.g.wV⟩
   rcases x with x|x
   ·exact absurd x qA.1
   exact absurd x qA.2
  have:=Gh.ub (E:=E) (l':=(G.th i).CJ) (wn:=G.wn-1) (ww:=G.ww) (ws:=G.ws) (pend:=G.pend) h.a hi s ee
  omega
 have s:=nY (G.th i) .last
 obtain⟨c1,c2,c3⟩:=(CP (l:=(G.th i).dJ .last) hi ic).2.2.1 rfl
 have p1:=wj (K:=E.K) s hi hi
 have e1:(G.th i).qV=0:=by unfold Lo.qV;rw[cx]
 have e2:((G.th i).dJ .last).qV=0:=rfl
 have oM:(G.th 0).gr= .waits:=by
  by_cases x:(G.th 0).gr= .waits
  ·exact x
  rw[if_neg x]at hM;omega
 have IQ: ∀n,(G.th 0).aO n=0:=fun n=>by unfold Lo.aO;rw[oM]
 refine⟨_,h.N5 hW (l':=((G.th i).dJ .last)) (wn:=G.wn-1) (ww:=G.ww) (ws:=G.ws) (pend:=G.pend) fn pos hi s (.inl hi) ee (.inl hi) bP (.inr fun x=>dt x (gQ x)) (fun e=>absurd e dQ) (fun _=>rfl) (fun c=>(h.j.cl c).2.2)
  (.inr (.inl ⟨rfl,rfl⟩)) (lE (x:=.bG) hW fun k e=>by cases e) (.inr hq) rfl rfl (.inr (.inl aJ)) (fun e=>by cases e) ?_ ?_,Calm.PW rfl rfl rfl rfl fun x y=>⟨by rw[dZ dQ];exact x,y⟩⟩
 ·refine h.NL hi (G.th 0).gr (by rw[dZ dQ]) (fun _=>⟨fun e=>absurd e dQ,fun _=>⟨ic,.inr (.inr (.inl rfl))⟩⟩) fun b l s hb hl hs=>⟨⟨by omega,by omega,by omega,fun _=>by omega,fun _=>by omega,fun _ _=>by omega,by omega⟩,fun x=>?_,h.g.wV⟩
  rcases x with x|x
  ·exact absurd x qA.1
  exact absurd x qA.2
 rw[dZ dQ,IQ,IQ];omega
theorem GI.xC(h:GI E G w t)(hW:0<E.K){i:Nat}(hi:(G.th i).af=true)(dQ:i≠0)(cx:(G.th i).gr= .last):G.wn=0/\G.ww=1/\w.cell? (E.sc .bG)=some (.int .u64 1)/\w.frozen? (E.sc .bG)=false:=by
 obtain⟨ic,_,_⟩:=h.worker hi dQ
 have ll:=(h.a.db i hi).1
 obtain⟨b1,b2,b3⟩:=(CP hi ic).2.2.1 cx
 have hL:=iL (f:=fun j=>(G.th j).ba) ll (by simp only[b2];exact Nat.le_refl _)
 have hz:=h.g.z (by omega)
 have ha:=h.g.a
 have Uv:=h.g.DG.1
 have e1:G.ww=1:=by omega
 refine⟨hz,e1,?_,(h.m.sync .bG hW).2⟩
 rw[(h.m.sync .bG hW).1]
 show some (Value.int .u64 ((G.wn*4294967296+G.ww:Nat):Int))=_
 rw[hz,e1];rfl
theorem GI.SD(h:GI E G w t)(hW:0<E.K){i:Nat}(fn:FuncId)(pos:String)(hi:(G.th i).af=true)(dQ:i≠0)(cx:(G.th i).gr= .last)(bP:(G.th i).ch= .no)(aJ:(G.th i).rel≠none)(fD:0<(G.th i).deaf)(gQ:E.eg=true->(G.th i).sc=true):
  ∃G',oe E i G G' w (w.setCell (E.sc .bG) (.int .u64 0)) (t++MemOp.ofEvents i fn pos #[⟨.cell (E.sc .bG),true,true⟩]) ((G.th i).dJ .gT)/\Calm E G G':=by
 obtain⟨ic,T9,dt⟩:=h.worker hi dQ
 have ll:=(h.a.db i hi).1
 have ee:=h.RB hi (by rw[cx];simp)
 obtain⟨b1,b2,b3⟩:=(CP hi ic).2.2.1 cx
 obtain⟨hz,Ux,_,_⟩:=h.xC hW hi dQ cx
 have hL:=iL (f:=fun j=>(G.th j).ba) ll (by simp only[b2];exact Nat.le_refl _)
 have hN:=h.g.n
 have hM:=h.g.m
 have hA:=h.g.a
 have oM:(G.th 0).gr= .waits:=by
  by_cases x:(G.th 0).gr= .waits
  ·exact x
  rw[if_neg x]at hM;omega
 rw[if_pos oM]at hM
 have IQ: ∀n,(G.th 0).aO n=0:=fun n=>by unfold Lo.aO;rw[oM]
 have s:=nY (G.th i) .gT
 obtain⟨c1,c2,c3⟩:=(CP (l:=(G.th i).dJ .gT) hi ic).2.2.2 rfl
 have p1:=wj (K:=E.K) s hi hi
 have e1:(G.th i).qV=0:=by unfold Lo.qV;rw[cx]
 have e2:((G.th i).dJ .gT).qV=0:=rfl
 refine⟨_,h.N5 hW (l':=(G.th i).dJ .gT) (wn:=0) (ww:=0) (ws:=G.ws) (pend:=G.pend) fn pos hi s (.inl hi) ee (.inl hi) bP (.inr fun x=>dt x (gQ x)) (fun e=>absurd e dQ) (fun _=>rfl) (fun c=>(h.j.cl c).2.2)
  (.inr (.inl ⟨rfl,rfl⟩)) ?_ (.inr fun j e hj=>?_) rfl rfl (.inr (.inl aJ)) (fun e=>by cases e) ?_ ?_,Calm.PW rfl rfl rfl rfl fun x y=>⟨by rw[dZ dQ];exact x,y⟩⟩
 ·intro e he;simp at he;subst he;exact .inl ⟨.bG,true,hW,rfl,fun _ k e=>by cases e⟩
 ·right
  match j with
  |0=>simp at hj;subst hj;exact⟨.inl rfl,fD⟩
  |j+1=>simp at hj
 ·refine h.NL hi (G.th 0).gr (by rw[dZ dQ]) (fun _=>⟨fun e=>absurd e dQ,fun _=>⟨ic,.inr (.inr (.inr rfl))⟩⟩) fun b l s hb hl hs=>⟨?_,fun x=>?_,h.g.wV⟩
  ·rw[if_pos oM]
   exact⟨by omega,by omega,by omega,fun _=>by omega,fun _=>by omega,fun _ _=>by omega,by omega⟩
  rw[oM]at x;rcases x with x|x<;>cases x
 rw[dZ dQ,IQ,IQ];omega
theorem GI.SK(h:GI E G w t)(hW:0<E.K){i:Nat}(fn:FuncId)(pos:String)(hi:(G.th i).af=true)(dQ:i≠0)(cx:(G.th i).gr= .gT)(bP:(G.th i).ch= .no)(aJ:(G.th i).rel≠none)(zaW:0<(G.th i).deaf)(gQ:E.eg=true->(G.th i).sc=true)
  (mV: ∀j,(G.th i).bZ=some j->E.rs j=none):
  (w.cell? (E.sc .fX)=some (.int .u32 0)/\w.frozen? (E.sc .fX)=false)/\
  ∃G',oe E i G G' w (w.setCell (E.sc .fX) (.int .u32 1)) (t++MemOp.ofEvents i fn pos (semEvents (E.sc .fX))) (G.th i).CJ/\G'.Φ E.K E.nj<G.Φ E.K E.nj:=by
 obtain⟨ic,T9,dt⟩:=h.worker hi dQ
 have ll:=(h.a.db i hi).1
 have ee:=h.RB hi (by rw[cx];simp)
 obtain⟨b1,b2,b3⟩:=(CP hi ic).2.2.2 cx
 have hL:=iL (f:=fun j=>(G.th j).bf) ll (by simp only[b3];exact Nat.le_refl _)
 have hN:=h.g.n
 have hM:=h.g.m
 have hA:=h.g.a
 have hz:=h.g.zs (by omega)
 have oM:(G.th 0).gr= .waits:=by
  by_cases x:(G.th 0).gr= .waits
  ·exact x
  rw[if_neg x]at hM;omega
 rw[if_pos oM]at hM
 have T2:G.ws=0:=by omega
 have IQ: ∀n,(G.th 0).aO n=0:=fun n=>by unfold Lo.aO;rw[oM]
 have s:=DI (G.th i)
 obtain⟨c1,c2,c3⟩:=H3 (l:=(G.th i).CJ) rfl
 have p1:=L5 (K:=E.K) hi
 have p2:=Hu (K:=E.K) (l:=(G.th i).CJ) rfl
 have bA:(G.th i).CJ.φ E.K+(upd G.th i (G.th i).CJ 0).aO G.wn<(G.th i).φ E.K+(G.th 0).aO G.wn:=by
  rw[dZ dQ,p2];omega
 refine⟨⟨?_,(h.m.sync .fX hW).2⟩,_,h.N5 hW (l':=(G.th i).CJ) (wn:=G.wn) (ww:=G.ww) (ws:=1) (pend:=G.pend) fn pos hi s (.inr dQ) ee (.inr mV) bP (.inr fun x=>dt x (gQ x)) (fun e=>absurd e dQ) (fun _=>rfl) (fun c=>(h.j.cl c).2.2)
  (.inr (.inr ⟨rfl,rfl,rfl⟩)) (wq (x:=.fX) hW fun k e=>by cases e) (.inr fun j e hj=>?_) (sL _ _).symm rfl (.inr (.inl aJ)) (fun(e:(G.th i).gr= .aT)=>by rw[cx]at e;cases e) ?_ (Nat.le_of_lt bA),?_⟩
 ·rw[(h.m.sync .fX hW).1]
  show some (Value.int .u32 (G.ws:Int))=_
  rw[T2];rfl
 ·match j with
  |0=>simp[semEvents]at hj;subst hj;exact .inl rfl
  |1=>simp[semEvents]at hj;subst hj;exact .inr ⟨.inr rfl,by simp[semEvents,deafBehind]⟩
  |2=>simp[semEvents]at hj;subst hj;exact .inr ⟨.inr rfl,by simp[semEvents,deafBehind]⟩
  |3=>simp[semEvents]at hj;subst hj;exact .inl rfl
  |j+4=>simp[semEvents]at hj
 ·refine h.NL hi (G.th 0).gr (by rw[dZ dQ]) (fun e=>by cases e) fun b l s hb hl hs=>⟨?_,fun x=>?_,h.g.wV⟩
  ·rw[if_pos oM]
   exact⟨by omega,by omega,by omega,fun _=>by omega,fun _=>by omega,fun _ _=>by omega,by omega⟩
  rw[oM]at x;rcases x with x|x<;>cases x
 have:=Gh.ub (E:=E) (l':=(G.th i).CJ) (wn:=G.wn) (ww:=G.ww) (ws:=1) (pend:=G.pend) h.a hi s ee
 omega
end Go.Co

namespace Go.Co
open Go Go.Conc
open Go.ConcM (OsLater)
open Go.ConcN (sumTo upd sumTo_upd upd_ne upd_same sumTo_congr le_sumTo sumTo_le)
variable{E:Geo}{G G':Gh}{w w':World}{t t' u:Trace}{B B':Nat}
theorem GI.SJ(h:GI E G w t)(hW:0<E.K)(fn:FuncId)(pos:String)(cx:(G.th 0).gr= .cK)(bP:(G.th 0).ch= .no)(aJ:(G.th 0).rel=none)(fD:(G.th 0).deaf=0):
  ∃G',oe E 0 G G' w w (t++MemOp.ofEvents 0 fn pos #[⟨.mark (.acquire (E.sc .bG)),false,true⟩]) ((G.th 0).dJ .aT)/\Calm E G G':=by
 obtain⟨ic,ee⟩:=PU h
 obtain⟨z1,z2,z3⟩:=h.g.cK (.inl cx)
 have hl:((G.th 0).dJ .aT).af=true:=h.a.bl
 have he: ∀e∈(#[⟨.mark (.acquire (E.sc .bG)),false,true⟩]:Array Event),wN E e:=by
  intro e he;simp at he;subst he
  exact pd rfl (fun a e=>by cases e) fun B hB hx=>hx .bG hW
 have h1:=h.Sg fn pos h.a.bl he (.inl aJ)
 obtain⟨s1,s2,s3⟩:=iY (l:=G.th 0) ic (by rw[cx];simp) (by rw[cx];simp)
 obtain⟨s4,s5,s6⟩:=iY (l:=(G.th 0).dJ .aT) ic (fun e=>by cases e) (fun e=>by cases e)
 have s:=nY (G.th 0) .aT
 have Oa:=Gh.ub (E:=E) (l':=(G.th 0).dJ .aT) (wn:=G.wn) (ww:=G.ww) (ws:=G.ws) (pend:=G.pend) h.a h.a.bl s ee
 have Zp:=sg (K:=E.K) s h.a.bl hl ic (by rw[cx];simp) (fun e=>by cases e)
 have e1:(G.th 0).qV=1:=by unfold Lo.qV;rw[cx]
 have e2:((G.th 0).dJ .aT).qV=0:=rfl
 have e3:((G.th 0).dJ .aT).aO G.wn=0:=rfl
 rw[upd_same,e3]at Oa
 have Iz:(G.th 0).gr≠ .waits:=by rw[cx];simp
 have hM:=h.g.m
 rw[if_neg Iz]at hM
 have fb:(t++MemOp.ofEvents 0 fn pos #[⟨.mark (.acquire (E.sc .bG)),false,true⟩])[t.size]?=some {g:=0,fn,pos,act:=.mark (.acquire (E.sc .bG))}:=by rw[ofEvents_one,Array.getElem?_append_right (Nat.le_refl _)];simp[MemAct.ofEvent]
 have dt:E.eg=true->G.cl=true:=fun hC=>h.j.qw hC (by rw[cx];simp)
 refine⟨G.wg 0 ((G.th 0).dJ .aT) G.wn G.ww G.ws G.pend,⟨h.XV h.a.bl s (.inl hl) ee (.inl hl) bP (.inr dt) (fun _=>h.j.me) (fun _=>rfl) (fun c=>(h.j.cl c).2.2) rfl (h.m.tr (fun y=>by cases y<;>rfl) rfl rfl) ?_ (h.Rv h.a.bl ee h1 s rfl ?_),
  upd_same G.th 0 ((G.th 0).dJ .aT),fun j hj=>upd_ne G.th _ hj,rfl,fun j _ _=>View.refl _ _,by omega⟩,Calm.PW rfl rfl rfl rfl fun x=>absurd x Iz⟩
 ·refine h.NL h.a.bl .aT (by rw[upd_same];rfl) (fun _=>⟨fun _=>⟨ic,.inr (.inr (.inr (.inr rfl)))⟩,fun e=>absurd rfl e⟩) fun b l s hb hl hs=>?_
  have hb:b=sumTo G.n fun j=>(G.th j).busy:=by omega
  have hl:l=sumTo G.n fun j=>(G.th j).ba:=by omega
  have hs:s=sumTo G.n fun j=>(G.th j).bf:=by omega
  subst hb hl hs
  refine⟨⟨h.g.n,by rw[if_neg (by decide)];exact hM,h.g.a,h.g.z,h.g.zs,h.g.w,h.g.small⟩,fun _=>⟨z1,z2,z3⟩,fun x=>?_⟩
  rcases x with⟨_,x⟩|x<;>cases x
 have T:=h1.tell
 have OA: ∀j,(upd G.th 0 {G.th 0 with deaf:=deafBehind (G.th 0).deaf #[⟨.mark (.acquire (E.sc .bG)),false,true⟩]} j).rel=(G.th j).rel:=fun j=>aW Lo.rel (by rfl) j
 have rQ: ∀j,(upd G.th 0 ((G.th 0).dJ .aT) j).rel=(G.th j).rel:=fun j=>aW Lo.rel (by rfl) j
 have vM: ∀j,(upd G.th 0 {G.th 0 with deaf:=deafBehind (G.th 0).deaf #[⟨.mark (.acquire (E.sc .bG)),false,true⟩]} j).af=(G.th j).af:=fun j=>aW Lo.af (by rfl) j
 have bq: ∀j,(upd G.th 0 ((G.th 0).dJ .aT) j).af=(G.th j).af:=fun j=>aW Lo.af (by rfl) j
 have K8: ∀j,(upd G.th 0 {G.th 0 with deaf:=deafBehind (G.th 0).deaf #[⟨.mark (.acquire (E.sc .bG)),false,true⟩]} j).aP=(G.th j).aP:=fun j=>aW Lo.aP (by rfl) j
 have rR: ∀j,(upd G.th 0 ((G.th 0).dJ .aT) j).aP=(G.th j).aP:=fun j=>aW Lo.aP (by rfl) j
 have QF: ∀g,E.ours G g->((G.th g).rel=none/\(G.th g).af=true/\(G.th g).gr= .out)\/∃r,(G.th g).rel=some r/\(t++MemOp.ofEvents 0 fn pos #[⟨.mark (.acquire (E.sc .bG)),false,true⟩]).act? r=some (.mark (.releaseMerge (E.sc .bG)))/\(t++MemOp.ofEvents 0 fn pos #[⟨.mark (.acquire (E.sc .bG)),false,true⟩]).g? r=some g/\(t++MemOp.ofEvents 0 fn pos #[⟨.mark (.acquire (E.sc .bG)),false,true⟩]).heard r/\
   ∀i op a,r<i->(t++MemOp.ofEvents 0 fn pos #[⟨.mark (.acquire (E.sc .bG)),false,true⟩])[i]?=some op->op.g=g->op.act.touch?=some a->a.kind= .atomic/\(a.loc= .cell (E.sc .bG)\/a.loc= .cell (E.sc .fX))/\¬(t++MemOp.ofEvents 0 fn pos #[⟨.mark (.acquire (E.sc .bG)),false,true⟩]).heard i:=fun g hg=>by
  have Kl:g≠0:=fun e=>by subst e;have:=hg.1;have:=h.a.qn.1;omega
  have:=T.rel g hg
  rw[show(Gh.th {G with th:=upd G.th 0 {G.th 0 with deaf:=deafBehind (G.th 0).deaf #[⟨.mark (.acquire (E.sc .bG)),false,true⟩]}} g)=G.th g from upd_ne _ _ Kl]at this
  exact this
 refine⟨T.known,T.over,T.norel,fun g hg=>?_,fun k hk hd=>?_,fun _ g r hg hr=>?_⟩
 ·have Kl:g≠0:=fun e=>by subst e;have:=hg.1;have:=h.a.qn.1;omega
  rw[show(Gh.th (G.wg 0 ((G.th 0).dJ .aT) G.wn G.ww G.ws G.pend) g)=G.th g from upd_ne _ _ Kl]
  exact QF g hg
 ·obtain⟨p,a1,a2,a3,a4⟩:=T.dq k hk hd
  refine⟨p,a1,a2,a3,fun j hj hp=>a4 j ?_ ?_⟩
  ·show(upd G.th 0 _ j).af=true
   rw[vM,<-bq];exact hj
  show(upd G.th 0 _ j).aP k=true
  rw[K8,<-rR];exact hp
 have hr:(upd G.th 0 ((G.th 0).dJ .aT) g).rel=some r:=hr
 rw[rQ]at hr
 rcases QF g hg with⟨x,_⟩|⟨r',x,a2,a3,a4,_⟩
 ·rw[x]at hr;cases hr
 rw[x]at hr;cases hr
 have T5:r<t.size:=by
  have bA:=lt_of_act? a2
  rcases Nat.lt_or_ge r t.size with y|y
  ·exact y
  exfalso
  rw[ofEvents_one]at bA;simp at bA
  have:r=t.size:=by omega
  subst this
  rw[act?_of fb]at a2;cases a2
 refine⟨t.size,_,fb,rfl,.inr (.single (.inr ⟨.marked T5 (.inr a2) (act?_of fb) fun k _ _ hk=>(T.norel k _ hk).2 rfl,a4,heard_new fb (by rw[h.t.deaf 0 h.a.bl];exact fD)⟩))⟩
theorem GI.SH(h:GI E G w t)(hW:0<E.K)(fn:FuncId)(pos:String){m:Mark}(hm:m= .read (E.sc .fX)\/m= .write (E.sc .fX)):
  GI E G w (t++MemOp.ofEvents 0 fn pos #[⟨.mark m,false,true⟩]):=by
 have dI: ∀op∈MemOp.ofEvents 0 fn pos #[⟨.mark m,false,true⟩],op.act≠ .mark .disable/\op.act≠ .mark .enable:=fun op aF=>by
  rw[ofEvents_one]at aF;simp at aF;subst aF
  rcases hm with rfl|rfl<;>exact⟨by simp[MemAct.ofEvent],by simp[MemAct.ofEvent]⟩
 have hb:=bT (h.m.sync .fX hW).1
 have RI: ∀b,(MemAct.ofEvent ⟨.mark m,false,true⟩).touch?=some b->b.loc= .cell (E.sc .fX)/\b.kind= .said:=fun b NW=>by
  rcases hm with rfl|rfl<;>(simp[MemAct.ofEvent,MemAct.touch?]at NW;subst NW;exact⟨rfl,rfl⟩)
 refine⟨h.a,h.s,h.m,h.k,h.g,h.j,h.more,⟨h.t.ti.step cn (fun op aF b NW=>?_) (Nat.le_refl _) fun op aF=>?_,fun g hg=>?_,fun g hg=>?_,?_⟩⟩
 ·obtain⟨x,hx,rfl⟩:=cg aF
  simp at hx;subst hx
  obtain⟨b1,b2⟩:=RI b NW
  refine⟨.inr (.inr (.inr ⟨b2,by rw[b1];exact⟨h.a.bl,.inl ⟨.fX,hW,rfl⟩⟩,by rw[b1];exact⟨rfl,rfl⟩⟩)),fun j hj=>⟨?_,fun _=>?_,fun e=>(by rw[b2]at e;cases e),fun _ hs=>hj hs.1⟩⟩
  ·rw[b1];exact(h.pW (x:=.fX) hW j).1
  rw[b1];exact(h.pW (x:=.fX) hW j).2
 ·obtain⟨x,hx,rfl⟩:=cg aF
  simp at hx;subst hx
  rcases hm with rfl|rfl<;>exact hb
 ·rw[Go.ConcN.Deaf_still _ _ _ dI];exact h.t.deaf g hg
 ·rw[Go.ConcN.Deaf_still _ _ _ dI];exact h.t.quiet g hg
 refine h.t.tell.app cn (.inl rfl) (fun op aF=>?_) (fun op aF b NW hw=>?_) (fun op aF b NW hk=>?_) (fun ho=>?_)
 ·obtain⟨x,hx,rfl⟩:=cg aF
  simp at hx;subst hx
  rcases hm with rfl|rfl<;>simp[MemAct.ofEvent]
 ·obtain⟨x,hx,rfl⟩:=cg aF
  simp at hx;subst hx
  obtain⟨b1,b2⟩:=RI b NW
  refine⟨fun k hk e=>?_,fun ad v k e hv=>?_⟩
  ·rw[b1]at e;simp only[Loc.cell.injEq]at e
   have:=h.m.inj .fX (.done k) hW hk e;cases this
  rw[b1]at e;simp only[Loc.cell.injEq]at e
  exact(h.m.app ad v _ hv).2.2 .fX hW e.symm
 ·obtain⟨x,hx,rfl⟩:=cg aF
  simp at hx;subst hx
  obtain⟨b1,b2⟩:=RI b NW
  rw[b2]at hk;cases hk
 exfalso;have:=ho.1;have:=h.a.qn.1;omega
end Go.Co

namespace Go.Co
open Go Go.Conc
open Go.ConcM (OsLater)
open Go.ConcN (sumTo upd sumTo_upd upd_ne upd_same sumTo_congr le_sumTo sumTo_le)
variable{E:Geo}{G G':Gh}{w w':World}{t t' u:Trace}{B B':Nat}
def Lo.mq(PB:Nat->Prop)(bZ:Option Nat)(PS:Nat->Bool)(KN:Addr->Option Value):Lo:=
 {af:=true,wk:=true,ai:=PB,deaf:=0,mr:=none,old:=none,aP:=PS,run:=none,ch:=.no,rel:=none,gr:=.out,bZ:=bZ,kn:=KN,me:=⟨0,0,0,false⟩,sc:=false}
def Lo.started(l:Lo)(PB:Nat->Prop)(me:Me):Lo:={l with ai:=fun b=>l.ai b/\¬PB b,me:=me}
def Gh.aM(G:Gh)(PB:Nat->Prop)(jb:Bool)(PS:Nat->Bool)(KN:Addr->Option Value):Gh:=
 {G with n:=G.n+1,th:=upd (upd G.th 0 ((G.th 0).started PB ⟨G.left-1,0,G.pos+jb.toNat,G.cl⟩)) G.n (Lo.mq PB (if jb=true then some G.pos else none) PS KN),left:=G.left-1,pend:=0,pos:=G.pos+jb.toNat,tk:=if jb=true then upd G.tk G.pos (some G.n)else G.tk}
theorem GI.aM(h:GI E G w t)(fn KG:FuncId)(pos:String){lf ps:Nat}{c:Bool}{PB:Nat->Prop}{PS:Nat->Bool}{KN:Addr->Option Value}(jb:Bool)(qv:(G.th 0).me=⟨lf+1,1,ps,c⟩)(cx:(G.th 0).gr= .out)(bP:(G.th 0).ch= .no)(fD:(G.th 0).deaf=0)(hK:E.K<=8)
  (Qa: ∀b,PB b->(G.th 0).ai b) (CA:jb=true->ps<E.nj) (UZ: ∀k,PS k=true->k=E.K+G.n/\(G.th 0).aP k=true) (hKN: ∀a v,KN a=some v->∃d,G.app a=some (v,d)/\(d= .ro\/∃k,d= .dq k/\PS k=true)):
  GI E (G.aM PB jb PS KN) w ((t.push {g:=0,fn:=fn,pos:=pos,act:=.go G.n}).push {g:=G.n,fn:=KG,pos:=pos,act:=.start})/\
   (G.aM PB jb PS KN).Φ E.K E.nj<G.Φ E.K E.nj/\((G.aM PB jb PS KN).th 0)=(G.th 0).started PB ⟨lf,0,ps+jb.toNat,c⟩/\((G.aM PB jb PS KN).th G.n)=Lo.mq PB (if jb=true then some ps else none) PS KN/\
   (∀j,j≠0->j≠G.n->(G.aM PB jb PS KN).th j=G.th j)/\(∀j,j≠G.n->G.PK E j->(G.aM PB jb PS KN).PK E j)/\(G.th G.n).af=false:=by
 have hm:=h.j.me
 rw[qv]at hm
 simp only[Me.mk.injEq]at hm
 obtain⟨m1,m2,m3,m4⟩:=hm
 obtain⟨ic,ee⟩:=PU h
 have we:G.n≠0:=by have:=h.a.qn;omega
 have y6:(0:Nat)≠G.n:=we.symm
 have T8:G.left-1=lf:=by omega
 have t0:(G.aM PB jb PS KN).th 0=(G.th 0).started PB ⟨lf,0,ps+jb.toNat,c⟩:=by
  show upd (upd G.th 0 _) G.n _ 0=_
  rw[upd_ne _ _ y6,upd_same,T8,<-m3,<-m4]
 have tn:(G.aM PB jb PS KN).th G.n=Lo.mq PB (if jb=true then some ps else none) PS KN:=by
  show upd (upd G.th 0 _) G.n _ G.n=_
  rw[upd_same,<-m3]
 have tj: ∀j,j≠0->j≠G.n->(G.aM PB jb PS KN).th j=G.th j:=fun j h1 h2=>by
  show upd (upd G.th 0 _) G.n _ j=_
  rw[upd_ne _ _ h2,upd_ne _ _ h1]
 have QM:(G.th G.n).af=false:=by
  cases e:(G.th G.n).af with
  |false=>rfl
  |true=>have:=(h.a.db G.n e).1;omega
 have FM: ∀j,(j=0/\(G.aM PB jb PS KN).th j=(G.th 0).started PB ⟨lf,0,ps+jb.toNat,c⟩)\/(j=G.n/\(G.aM PB jb PS KN).th j=Lo.mq PB (if jb=true then some ps else none) PS KN)\/((j≠0/\j≠G.n)/\(G.aM PB jb PS KN).th j=G.th j):=fun j=>by
  by_cases e:j=0
  ·subst e;exact .inl ⟨rfl,t0⟩
  by_cases e2:j=G.n
  ·subst e2;exact .inr (.inl ⟨rfl,tn⟩)
  exact .inr (.inr ⟨⟨e,e2⟩,tj j e e2⟩)
 have old: ∀j,j≠G.n->((G.aM PB jb PS KN).th j).af=(G.th j).af/\((G.aM PB jb PS KN).th j).wk=(G.th j).wk/\((G.aM PB jb PS KN).th j).mr=(G.th j).mr/\((G.aM PB jb PS KN).th j).old=(G.th j).old/\((G.aM PB jb PS KN).th j).aP=(G.th j).aP/\((G.aM PB jb PS KN).th j).run=(G.th j).run/\
   ((G.aM PB jb PS KN).th j).ch=(G.th j).ch/\((G.aM PB jb PS KN).th j).rel=(G.th j).rel/\((G.aM PB jb PS KN).th j).gr=(G.th j).gr/\((G.aM PB jb PS KN).th j).bZ=(G.th j).bZ/\((G.aM PB jb PS KN).th j).kn=(G.th j).kn/\((G.aM PB jb PS KN).th j).sc=(G.th j).sc/\((G.aM PB jb PS KN).th j).deaf=(G.th j).deaf:=fun j hj=>by
  rcases FM j with⟨rfl,e⟩|⟨e,_⟩|⟨_,e⟩
  ·rw[e];exact⟨rfl,rfl,rfl,rfl,rfl,rfl,rfl,rfl,rfl,rfl,rfl,rfl,rfl⟩
  ·exact absurd e hj
  rw[e];exact⟨rfl,rfl,rfl,rfl,rfl,rfl,rfl,rfl,rfl,rfl,rfl,rfl,rfl⟩
 have rj: ∀j b,j≠G.n->((G.aM PB jb PS KN).th j).ai b->(G.th j).ai b/\(j=0->¬PB b):=fun j b hj hb=>by
  rcases FM j with⟨rfl,e⟩|⟨e,_⟩|⟨⟨e0,_⟩,e⟩
  ·rw[e]at hb;exact⟨hb.1,fun _=>hb.2⟩
  ·exact absurd e hj
  rw[e]at hb;exact⟨hb,fun x=>absurd x e0⟩
 have zaC:((G.aM PB jb PS KN).th G.n).af=true:=by rw[tn];rfl
 have FB: ∀j,(G.th j).af=true->j≠G.n:=fun j hj e=>by subst e;rw[QM]at hj;cases hj
 have wO: ∀ (f:Lo->Nat),f ((G.aM PB jb PS KN).th 0)=f (G.th 0)->sumTo (G.n+1) (fun j=>f ((G.aM PB jb PS KN).th j))=sumTo G.n (fun j=>f (G.th j))+f ((G.aM PB jb PS KN).th G.n):=fun f hf=>by
  show sumTo G.n _+_=_
  rw[sumTo_congr (g:=fun j=>f (G.th j)) fun j hj=>?_]
  rcases FM j with⟨rfl,_⟩|⟨e,_⟩|⟨_,e⟩
  ·exact hf
  ·omega
  rw[e]
 have zaR:=h.a.Rb
 have dt:G.cl=false:=by
  cases e:G.cl with
  |false=>rfl
  |true=>have:=(h.j.cl e).2.1;omega
 have vL:(G.aM PB jb PS KN).pos=ps+jb.toNat:=by show G.pos+jb.toNat=_;rw[<-m3]
 have Od: ∀j,j≠G.pos->(G.aM PB jb PS KN).tk j=G.tk j:=fun j hj=>by
  show(if jb=true then upd G.tk G.pos (some G.n)else G.tk) j=_
  split
  ·rw[upd_ne _ _ hj]
  rfl
 have Vx:G.tk G.pos=none:=h.j.EL.1 _ (Nat.le_refl _)
 refine⟨⟨?_,?_,?_,?_,?_,?_,h.more,?_⟩,?_,t0,tn,tj,?_,QM⟩
 ·-- NM Il
  refine⟨⟨h.a.qn.1,by show E.n0<=G.n+1;have:=h.a.qn.2;omega⟩,by rw[t0];exact h.a.bl,fun j hj=>?_,?_,fun e=>by have:=(h.a.alone e).1;omega⟩
  ·show j<G.n+1/\_
   by_cases e:j=G.n
   ·subst e;exact⟨by omega,.inr h.a.qn.2⟩
   rw[(old j e).1]at hj
   have:=h.a.db j hj
   exact⟨by omega,this.2⟩
  show sumTo (G.n+1) (fun j=>((G.aM PB jb PS KN).th j).fg)+(G.left-1)<=48
  rw[wO Lo.fg (by unfold Lo.fg;rw[(old 0 y6).1]),tn]
  have:(Lo.mq PB (if jb=true then some ps else none) PS KN).fg=1:=rfl
  omega
 ·-- whose blocks
  refine⟨fun a b x ha hb Kr XG US=>?_,fun a x ha hx=>?_,fun a x ha hx=>?_,h.s.jz,h.s.size,h.s.IM⟩
  ·by_cases ea:a=G.n
   ·subst ea
    have hbn:b≠G.n:=Ne.symm Kr
    rw[(old b hbn).1]at hb
    rw[tn]at XG
    obtain⟨o1,o2⟩:=rj b x hbn US
    by_cases e0:b=0
    ·subst e0;exact o2 rfl XG
    exact h.s.apart 0 b x h.a.bl hb (Ne.symm e0) (Qa x XG) o1
   rw[(old a ea).1]at ha
   obtain⟨o1,o2⟩:=rj a x ea XG
   by_cases eb:b=G.n
   ·subst eb
    rw[tn]at US
    by_cases e0:a=0
    ·subst e0;exact o2 rfl US
    exact h.s.apart 0 a x h.a.bl ha (Ne.symm e0) (Qa x US) o1
   rw[(old b eb).1]at hb
   exact h.s.apart a b x ha hb Kr o1 (rj b x eb US).1
  ·by_cases ea:a=G.n
   ·subst ea;rw[tn]at hx;exact h.s.old 0 x h.a.bl (Qa x hx)
   rw[(old a ea).1]at ha;exact h.s.old a x ha (rj a x ea hx).1
  by_cases ea:a=G.n
  ·subst ea;rw[tn]at hx;exact h.s.qT 0 x h.a.bl (Qa x hx)
  rw[(old a ea).1]at ha;exact h.s.qT a x ha (rj a x ea hx).1
 ·exact h.m.tr (fun y=>by cases y<;>rfl) rfl rfl
 ·refine⟨fun k hk=>?_,fun j k r hj P4=>?_,fun j k hj hr=>?_,fun j k hj hp=>?_,fun a v k hv=>?_,h.k.qU,fun j a v hj hv=>?_,fun a v k hv=>by rw[(old 0 y6).2.2.2.2.1];exact h.k.mT a v k hv⟩
  ·have:(G.aM PB jb PS KN).cnt k=G.cnt k:=by
    funext r
    show sumTo (G.n+1) (fun j=>((G.aM PB jb PS KN).th j).at k r)=_
    rw[wO (fun l=>l.at k r) (by unfold Lo.at;rw[(old 0 y6).1,(old 0 y6).2.2.1]),tn]
    have:(Lo.mq PB (if jb=true then some ps else none) PS KN).at k r=0:=by unfold Lo.at Lo.mq;simp
    rw[this];rfl
   rw[this];exact h.k.mu k hk
  ·by_cases e:j=G.n
   ·subst e;rw[tn]at P4;cases P4
   rw[(old j e).1]at hj;rw[(old j e).2.2.1]at P4;exact h.k.CE j k r hj P4
  ·by_cases e:j=G.n
   ·subst e;rw[tn]at hr;cases hr
   rw[(old j e).1]at hj;rw[(old j e).2.2.2.2.2.1]at hr;rw[(old j e).2.2.1];exact h.k.run j k hj hr
  ·by_cases e:j=G.n
   ·subst e;rw[tn]at hp
    have:=(UZ k hp).1
    exact .inr ⟨by omega,.inr this⟩
   rw[(old j e).1]at hj;rw[(old j e).2.2.2.2.1]at hp;exact h.k.aP j k hj hp
  ·obtain⟨p1,p2,p3⟩:=h.k.bM a v k hv
   refine⟨p1,p2,p3.imp (fun⟨j,q1,q2,q3⟩=>⟨j,?_⟩) fun⟨q1,q2⟩=>⟨fun j hj hr=>?_,q2⟩⟩
   ·obtain⟨o1,_,_,_,_,o2,_,_,_,_,o3,_⟩:=old j (FB j q1)
    rw[o1,o2,o3];exact⟨q1,q2,q3⟩
   by_cases e:j=G.n
   ·subst e;rw[tn]at hr;cases hr
   rw[(old j e).1]at hj;rw[(old j e).2.2.2.2.2.1]at hr;exact q1 j hj hr
  by_cases e:j=G.n
  ·subst e;rw[tn]at hv
   obtain⟨d,h1,h2⟩:=hKN a v hv
   exact⟨d,h1,h2.imp id fun⟨k,e,hp⟩=>.inl ⟨k,e,by rw[tn];exact hp⟩⟩
  obtain⟨o1,_,_,_,o4,o2,_,_,_,_,o3,_⟩:=old j e
  rw[o1]at hj;rw[o3]at hv
  rw[o4,o2];exact h.k.kn j a v hj hv
 ·-- NM wait group
  have hb:=wO Lo.busy (by unfold Lo.busy;rw[(old 0 y6).1,(old 0 y6).2.1,(old 0 y6).2.2.2.2.2.2.2.2.1])
  have hl:=wO Lo.ba (by unfold Lo.ba;rw[(old 0 y6).1,(old 0 y6).2.2.2.2.2.2.2.2.1])
  have hs:=wO Lo.bf (by unfold Lo.bf;rw[(old 0 y6).1,(old 0 y6).2.2.2.2.2.2.2.2.1])
  rw[tn]at hb hl hs
  have b1:(Lo.mq PB (if jb=true then some ps else none) PS KN).busy=1:=rfl
  have b2:(Lo.mq PB (if jb=true then some ps else none) PS KN).ba=0:=rfl
  have b3:(Lo.mq PB (if jb=true then some ps else none) PS KN).bf=0:=rfl
  have g0:((G.aM PB jb PS KN).th 0).gr=(G.th 0).gr:=(old 0 y6).2.2.2.2.2.2.2.2.1
  have hN:=h.g.n
  have hM:=h.g.m
  have hA:=h.g.a
  refine⟨?_,?_,?_,fun x=>?_,fun x=>?_,fun x y=>?_,fun x=>?_,h.g.small,fun j hj=>?_,fun x=>?_⟩
  ·show G.wn=0+sumTo (G.n+1) fun j=>((G.aM PB jb PS KN).th j).busy
   omega
  ·show(if((G.aM PB jb PS KN).th 0).gr= .waits then 1 else 0)=G.ww+(sumTo (G.n+1) fun j=>((G.aM PB jb PS KN).th j).bf)+G.ws
   rw[g0,hM];omega
  ·show(sumTo (G.n+1) fun j=>((G.aM PB jb PS KN).th j).ba)<=G.ww
   omega
  ·have x:0<sumTo (G.n+1) fun j=>((G.aM PB jb PS KN).th j).ba:=x
   exact h.g.z (by omega)
  ·have x:0<(sumTo (G.n+1) fun j=>((G.aM PB jb PS KN).th j).bf)+G.ws:=x
   exact h.g.zs (by omega)
  ·show 0<sumTo (G.n+1) fun j=>((G.aM PB jb PS KN).th j).ba
   have:=h.g.w x y;omega
  ·exfalso
   rw[g0,cx]at x
   rcases x with x|x<;>cases x
  ·by_cases e:j=G.n
   ·subst e;rw[tn];exact⟨fun x=>absurd x we,fun _=>⟨rfl,.inl rfl⟩⟩
   obtain⟨o1,o2,_,_,_,_,_,_,o9,_⟩:=old j e
   rw[o1]at hj;rw[o2,o9];exact h.g.role j hj
  exfalso
  rw[g0,cx]at x
  rcases x with⟨_,x⟩|x<;>cases x
 ·-- NM rT
  refine⟨fun hC j hj=>?_,fun j v hj hv=>?_,fun j hj hv=>?_,fun x=>(by rw[show(G.aM PB jb PS KN).cl=G.cl from rfl,dt]at x;cases x),?_,fun r=>?_,fun j jj hj ov=>?_,?_,fun hC hc j hj=>?_,fun _ _=>?_,fun hC x=>?_,fun j hj hx=>?_,?_,fun j hj hx=>?_⟩
  ·by_cases e:j=G.n
   ·subst e;rw[tn];rfl
   rw[(old j e).1]at hj;rw[(old j e).2.2.2.2.2.2.1];exact h.j.Iw hC j hj
  ·exfalso
   by_cases e:j=G.n
   ·subst e;rw[tn]at hv;cases hv
   rw[(old j e).1]at hj;rw[(old j e).2.2.2.2.2.2.1]at hv
   have:=(h.j.EV j v hj hv).1
   subst this;rw[bP]at hv;cases hv
  ·by_cases e:j=G.n
   ·subst e;rw[tn]at hv;cases hv
   obtain⟨o1,_,o3,_,_,_,o7,_,o9,o10,_⟩:=old j e
   rw[o1]at hj;rw[o7]at hv;rw[o3,o9,o10];exact h.j.Kv j hj hv
  ·rw[vL]
   have:=h.j.CO
   cases jb with
   |false=>show ps+0<=E.nj;omega
   |true=>have:=CA rfl;show ps+1<=E.nj;omega
  ·show G.cv r+sumTo (G.n+1) (fun j=>((G.aM PB jb PS KN).th j).holds E.rs r)=dL E.rs r (G.pos+jb.toNat)
   rw[wO (fun l=>l.holds E.rs r) (by simp only[Lo.holds];rw[(old 0 y6).1,(old 0 y6).2.2.2.2.2.2.2.2.2.1]),tn]
   have:=h.j.cnt r
   cases jb with
   |false=>
    have e1:(Lo.mq PB (if false=true then some ps else none) PS KN).holds E.rs r=0:=rfl
    rw[e1];show _=dL E.rs r G.pos;omega
   |true=>
    have e1:(Lo.mq PB (if true=true then some ps else none) PS KN).holds E.rs r=if E.rs ps=some r then 1 else 0:=by
     unfold Lo.holds Lo.mq;simp
    have e2:dL E.rs r (G.pos+1)=dL E.rs r G.pos+if E.rs G.pos=some r then 1 else 0:=rfl
    rw[e1];show _=dL E.rs r (G.pos+1)
    rw[e2,<-m3]at*;omega
  ·rw[vL]
   by_cases e:j=G.n
   ·subst e
    rw[tn]at ov
    cases jb with
    |false=>cases ov
    |true=>
     have:ps=jj:=by
      have ov:(some ps:Option Nat)=some jj:=ov
      simpa using ov
     subst this
     refine⟨by show ps<ps+1;omega,?_⟩
     show upd G.tk G.pos (some G.n) ps=_
     rw[<-m3,upd_same]
   rw[(old j e).1]at hj
   rw[(old j e).2.2.2.2.2.2.2.2.2.1]at ov
   obtain⟨j1,j2⟩:=h.j.rT j jj hj ov
   exact⟨by omega,by rw[Od jj (by omega)];exact j2⟩
  ·refine⟨fun j hj=>?_,fun j i hj=>?_⟩
   ·rw[vL]at hj
    cases jb with
    |false=>exact h.j.EL.1 j (by have:ps+0<=j:=hj;omega)
    |true=>
     have hj:ps+1<=j:=hj
     rw[Od j (by omega)];exact h.j.EL.1 j (by omega)
   show i<G.n+1
   by_cases e:j=G.pos
   ·subst e
    have hj:(if jb=true then upd G.tk G.pos (some G.n)else G.tk) G.pos=some i:=hj
    split at hj
    ·rw[upd_same]at hj;cases hj;omega
    rw[Vx]at hj;cases hj
   rw[Od j e]at hj
   have:=h.j.EL.2 j i hj;omega
  ·by_cases e:j=G.n
   ·subst e;rw[tn];exact⟨rfl,rfl⟩
   rw[(old j e).1,(old j e).2.2.2.2.2.2.2.2.1]
   refine h.j.stay hC dt j ⟨hj.1,?_⟩
   have:j<G.n+1:=hj.2
   omega
  ·show E.n0<G.n+1
   have:=h.a.qn.2;omega
  ·exfalso;rw[(old 0 y6).2.2.2.2.2.2.2.2.1]at x;exact x cx
  ·by_cases e:j=G.n
   ·subst e;rw[tn];rfl
   obtain⟨o1,_,o3,_,_,_,o7,_,o9,o10,_⟩:=old j e
   rw[o1]at hj;rw[o3]at hx;rw[o9];exact h.j.NN j hj hx
  ·rw[t0,<-T8,m3,m4];rfl
  by_cases e:j=G.n
  ·subst e;rw[tn]at hx;cases hx
  rw[(old j e).1]at hj;rw[(old j e).2.2.2.2.2.2.2.2.2.2.2.1]at hx;exact h.j.sc j hj hx
 ·-- NM trace
  have GO:(t.push {g:=0,fn:=fn,pos:=pos,act:=.go G.n}).push {g:=G.n,fn:=KG,pos:=pos,act:=.start}=t++ #[{g:=0,fn:=fn,pos:=pos,act:=.go G.n},{g:=G.n,fn:=KG,pos:=pos,act:=.start}]:=by apply Array.toList_inj.1;simp
  have EO: ∀op∈(#[{g:=0,fn:=fn,pos:=pos,act:=.go G.n},{g:=G.n,fn:=KG,pos:=pos,act:=.start}]:Trace),op.act.touch?=none/\(op.act≠ .mark .disable/\op.act≠ .mark .enable)/\(∀a,op.act≠ .mark (.release a))/\op.act.low w.heap.size:=by
   intro op aF
   simp at aF
   rcases aF with rfl|rfl
   ·exact⟨rfl,⟨by simp,by simp⟩,by simp,trivial⟩
   exact⟨rfl,⟨by simp,by simp⟩,by simp,trivial⟩
  have eR: ∀j,Deaf ((t.push {g:=0,fn:=fn,pos:=pos,act:=.go G.n}).push {g:=G.n,fn:=KG,pos:=pos,act:=.start}) j=Deaf t j:=fun j=>by
   rw[GO];exact Go.ConcN.Deaf_still _ _ _ fun op aF=>(EO op aF).2.1
  have yX: ∀i,Knows t 0 i->Knows ((t.push {g:=0,fn:=fn,pos:=pos,act:=.go G.n}).push {g:=G.n,fn:=KG,pos:=pos,act:=.start}) G.n i:=fun i hi=>
   Knows.spawn hi ⟨rfl,rfl⟩ ⟨rfl,rfl⟩ (by rw[h.t.deaf 0 h.a.bl];exact fD) (h.t.quiet G.n (Nat.le_refl _)) y6
  have NP:TI (E.AV G) w.heap.size ((t.push {g:=0,fn:=fn,pos:=pos,act:=.go G.n}).push {g:=G.n,fn:=KG,pos:=pos,act:=.start}):=by
   rw[GO];exact h.t.ti.mute (fun op aF=>(EO op aF).1) (Nat.le_refl _) fun op aF=>(EO op aF).2.2.2
  have FE: ∀i a,touchAt ((t.push {g:=0,fn:=fn,pos:=pos,act:=.go G.n}).push {g:=G.n,fn:=KG,pos:=pos,act:=.start}) i=some a->touchAt t i=some a:=fun i a ha=>by
   obtain⟨x,hx,tL⟩:=touch_of ha
   rw[GO]at hx
   rcases ep hx with⟨_,hx⟩|⟨_,hx⟩
   ·rw[touchAt_of hx];exact tL
   rw[(EO x hx).1]at tL;cases tL
  have QE:(G.th 0).run=none:=by
   cases e:(G.th 0).run with
   |none=>rfl
   |some k=>have:=(h.k.run 0 k h.a.bl e).1;rw[ee]at this;cases this
  have Qh: ∀k,(∀j,((G.aM PB jb PS KN).th j).af=true->((G.aM PB jb PS KN).th j).run≠some k)->∀j,(G.th j).af=true->(G.th j).run≠some k:=fun k hk j hj=>by
   have:=hk j (by rw[(old j (FB j hj)).1];exact hj)
   rwa [(old j (FB j hj)).2.2.2.2.2.1]at this
  have Ve: ∀j i,((G.aM PB jb PS KN).tk j=some i\/(G.aM PB jb PS KN).tk j=none)->G.tk j=some i\/G.tk j=none:=fun j i hj=>by
   by_cases e:j=G.pos
   ·subst e;exact .inr Vx
   rw[Od j e]at hj;exact hj
  refine⟨NP.change (fun g l hw=>?_) (fun g l hw=>?_) (fun g l hw=>?_) (fun g l hw=>.inl hw),fun j hj=>?_,fun j hj=>?_,?_⟩
  ·obtain⟨h1,h2⟩:=hw
   by_cases e:g=G.n
   ·subst e
    right
    intro j b hb rS
    refine yX j (h.t.ti.W 0 l j b ?_ (FE j b hb) rS)
    cases l with
    |cell a=>
     rcases h2 with h2|⟨v,k,hv,h2⟩|⟨v,j,hv,h2⟩
     ·rw[tn]at h2;exact⟨h.a.bl,.inl (Qa _ h2)⟩
     ·rcases h2 with h2|h2
      ·rw[tn]at h2;cases h2
      exact⟨h.a.bl,.inr (.inl ⟨v,k,hv,.inr (Qh k h2)⟩)⟩
     rcases Ve j G.n h2 with x|x
     ·have:=h.j.EL.2 j G.n x;omega
     exact⟨h.a.bl,.inr (.inr ⟨v,j,hv,.inr x⟩)⟩
    |obj r=>rw[tn]at h2;exact⟨h.a.bl,Qa _ h2⟩
    |_=>exact h2.elim
   left
   rw[(old g e).1]at h1
   refine⟨h1,?_⟩
   cases l with
   |cell a=>
    rcases h2 with h2|⟨v,k,hv,h2⟩|⟨v,j,hv,h2⟩
    ·exact .inl (rj g _ e h2).1
    ·exact .inr (.inl ⟨v,k,hv,h2.imp (fun x=>by rw[<-(old g e).2.2.2.2.2.1];exact x) (Qh k)⟩)
    exact .inr (.inr ⟨v,j,hv,Ve j g h2⟩)
   |obj r=>exact(rj g _ e h2).1
   |_=>exact h2.elim
  ·obtain⟨h1,h2⟩:=hw
   by_cases e:g=G.n
   ·subst e
    right
    intro j b hb rS Q8
    refine yX j (h.t.ti.R 0 l j b ?_ (FE j b hb) rS Q8)
    cases l with
    |cell a=>
     obtain⟨v,hv|⟨k,hv,hp⟩⟩:=h2
     ·exact⟨h.a.bl,v,.inl hv⟩
     rw[tn]at hp;exact⟨h.a.bl,v,.inr ⟨k,hv,(UZ k hp).2⟩⟩
    |_=>exact h2.elim
   left
   rw[(old g e).1]at h1
   refine⟨h1,?_⟩
   cases l with
   |cell a=>
    obtain⟨v,hv|⟨k,hv,hp⟩⟩:=h2
    ·exact⟨v,.inl hv⟩
    exact⟨v,.inr ⟨k,hv,by rw[<-(old g e).2.2.2.2.1];exact hp⟩⟩
   |_=>exact h2.elim
  ·obtain⟨h1,h2⟩:=hw
   by_cases e:g=G.n
   ·subst e
    right
    intro j b hb rS Q8
    refine yX j (h.t.ti.A 0 l j b ?_ (FE j b hb) rS Q8)
    cases l with
    |cell a=>
     rcases h2 with h2|⟨v,k,hv,hp⟩
     ·exact⟨h.a.bl,.inl h2⟩
     rw[tn]at hp;exact⟨h.a.bl,.inr ⟨v,k,hv,(UZ k hp).2⟩⟩
    |obj r=>exact⟨h.a.bl,h2⟩
    |_=>exact h2.elim
   left
   rw[(old g e).1]at h1
   refine⟨h1,?_⟩
   cases l with
   |cell a=>
    rcases h2 with h2|⟨v,k,hv,hp⟩
    ·exact .inl h2
    exact .inr ⟨v,k,hv,by rw[<-(old g e).2.2.2.2.1];exact hp⟩
   |obj r=>exact h2
   |_=>exact h2.elim
  ·rw[eR]
   by_cases e:j=G.n
   ·subst e;rw[tn];exact h.t.quiet G.n (Nat.le_refl _)
   rw[(old j e).1]at hj;rw[(old j e).2.2.2.2.2.2.2.2.2.2.2.2];exact h.t.deaf j hj
  ·rw[eR]
   have:G.n+1<=j:=hj
   exact h.t.quiet j (by omega)
  have T:kv E G ((t.push {g:=0,fn:=fn,pos:=pos,act:=.go G.n}).push {g:=G.n,fn:=KG,pos:=pos,act:=.start}):=by
   rw[GO];exact h.t.tell.mute (fun op aF=>(EO op aF).1) fun op aF a=>(EO op aF).2.2.1 a
  have Qn: ∀g,E.ours G g->E.ours (G.aM PB jb PS KN) g:=fun g hg=>⟨hg.1,by show g<G.n+1;have:=hg.2;omega⟩
  refine⟨fun i op a h1 h2 h3=>(T.known i op a h1 h2 h3).imp (Qn _) id,fun i op h1 h2 h3=>(T.over i op h1 h2 h3).imp (Qn _) id,T.norel,fun g hg=>?_,fun k hk hd=>?_,fun x=>?_⟩
  ·by_cases e:g=G.n
   ·subst e;rw[tn];exact .inl ⟨rfl,rfl,rfl⟩
   obtain⟨o1,_,_,_,_,_,_,o8,o9,_⟩:=old g e
   rw[o1,o8,o9]
   exact T.rel g ⟨hg.1,by have:g<G.n+1:=hg.2;omega⟩
  ·obtain⟨p,a1,a2,a3,a4⟩:=T.dq k hk hd
   refine⟨p,a1,a2,a3,fun j hj hp=>?_⟩
   by_cases e:j=G.n
   ·subst e;rw[tn]at hp
    have:=(UZ k hp).1
    omega
   rw[(old j e).1]at hj;rw[(old j e).2.2.2.2.1]at hp;exact a4 j hj hp
  exfalso;rw[(old 0 y6).2.2.2.2.2.2.2.2.1,cx]at x;cases x
 ·-- what is left
  have f1:=wO (fun l=>l.φ E.K) (by rw[t0];rfl)
  have f2: ∀k,sumTo (G.n+1) (fun j=>((G.aM PB jb PS KN).th j).bh k (G.wd k))=sumTo G.n (fun j=>(G.th j).bh k (G.wd k)):=fun k=>by
   rw[wO (fun l=>l.bh k (G.wd k)) (by rw[t0];rfl),tn]
   have:(Lo.mq PB (if jb=true then some ps else none) PS KN).bh k (G.wd k)=0:=rfl
   omega
  rw[tn]at f1
  have f3:(Lo.mq PB (if jb=true then some ps else none) PS KN).φ E.K=7+sumTo E.K fun _=>960:=by
   show 7+sumTo E.K (fun k=>64*(Lo.mq PB (if jb=true then some ps else none) PS KN).wt k)=_
   congr 1
   refine sumTo_congr fun k hk=>?_
   have:PS k=false:=by
    cases e:PS k with
    |false=>rfl
    |true=>have:=(UZ k e).1;omega
   simp[Lo.wt,Lo.mq,this]
  have f4: ∀n,(sumTo n fun _=>960)=960*n:=fun n=>by
   induction n with
   |zero=>rfl
   |succ n ih=>simp only[sumTo,ih];omega
  have f5:((G.aM PB jb PS KN).th 0).aO G.wn=(G.th 0).aO G.wn:=by unfold Lo.aO;rw[(old 0 y6).2.2.2.2.2.2.2.2.1]
  rw[f4]at f3
  show sumTo (G.n+1) (fun i=>((G.aM PB jb PS KN).th i).φ E.K)+sumTo E.K (fun k=>320*G.sm k+sumTo (G.n+1) fun i=>((G.aM PB jb PS KN).th i).bh k (G.wd k))+8192*(G.left-1)+(E.nj- (G.pos+jb.toNat))+(!G.cl).toNat+((G.aM PB jb PS KN).th 0).aO G.wn<_
  unfold Gh.Φ
  simp only[f2,f5]
  omega
 intro j e hj
 rcases hj with⟨k,hk,hs⟩|⟨e,hw,_⟩
 ·exact .inl ⟨k,by rw[(old j e).2.2.1];exact hk,hs⟩
 rw[cx]at hw;cases hw
end Go.Co

namespace Go.Co
open Go Go.Conc
open Go.ConcM (OsLater)
open Go.ConcN (sumTo upd sumTo_upd upd_ne upd_same sumTo_congr le_sumTo sumTo_le)
variable{E:Geo}{G G':Gh}{w w':World}{t t' u:Trace}{B B':Nat}
theorem GI.E3(h:GI E G w t){i:Nat}{es:Array Event}(fn:FuncId)(pos:String)(hi:(G.th i).af=true)(he: ∀e∈es,wN E e)(hh:w'.heap=w.heap)(h1:w'.tape=w.tape)(h2:w'.output=w.output)(h3:OsLater w.os w'.os)
  (hq:(G.th i).rel=none\/∀j e,es[j]?=some e->(MemAct.ofEvent e).touch?=none\/((e.loc= .cell (E.sc .bG)\/e.loc= .cell (E.sc .fX))/\0<deafBehind (G.th i).deaf (es.extract 0 j))):
  ∃G',oe E i G G' w w' (t++MemOp.ofEvents i fn pos es) {G.th i with deaf:=deafBehind (G.th i).deaf es}/\Calm E G G':=by
 obtain⟨a,b⟩:=h.said fn pos hi he hh h1 h2 h3 hq
 exact⟨_,⟨a,upd_same _ _ _,fun j hj=>upd_ne _ _ hj,rfl,fun j _ _=>⟨by rw[hh];exact Nat.le_refl _,fun b _=>by rw[hh]⟩,b⟩,Calm.of rfl rfl rfl rfl rfl rfl⟩
end Go.Co

namespace Go.Co
open Go Go.Conc
open Go.ConcM (OsLater)
open Go.ConcN (sumTo upd sumTo_upd upd_ne upd_same sumTo_congr le_sumTo sumTo_le)
variable{E:Geo}{N i:Nat}{l:Lo}{w:World}
def Tr(E:Geo)(N i:Nat)(l:Lo)(g:Goroutine)(w:World):Prop:=E.Cv.Lv (N+1) i (l,g,w)
def Geo.da(E:Geo):Prop:=∀l g w w',E.fin l g w->View l.ai w w'->E.fin l g w'
theorem Tr.view(hf:E.da){g:Goroutine}{w':World}(h:Tr E N i l g w)(hv:View l.ai w w'):Tr E N i l g w':=by
 have key: ∀n:E.Cv.Node,E.Cv.Lv (N+1) i n->∀w',View n.1.ai n.2.2 w'->E.Cv.Lv (N+1) i (n.1,n.2.1,w'):=by
  intro n hn
  refine jJ.induct (F:=E.Cv.F (E.Cv.Lv N) i) (jI.F.mono E.Cv _ i) (Q:=fun n=>∀w',View n.1.ai n.2.2 w'->E.Cv.Lv (N+1) i (n.1,n.2.1,w')) (fun n hn w' hv=>?_) hn
  refine jI.Lv.fold ?_
  obtain⟨h0,h⟩:=hn
  refine⟨h0,?_⟩
  rcases h with⟨a,b,c⟩|⟨hc,h⟩|⟨hc,h⟩|⟨hi,hc,h⟩|⟨hi,v,hc,h⟩
  ·exact .inl ⟨a,b,hf _ _ _ _ c hv⟩
  ·refine .inr (.inl ⟨hc,fun w2 Cx=>?_⟩)
   obtain⟨g',w3,es,a,b,c,d,e⟩:=h w2 (hv.trans Cx)
   exact⟨g',w3,es,a,b,c,d,e.2⟩
  ·exact .inr (.inr (.inl ⟨hc,fun G w2 t a b c d=>(h G w2 t a b c (hv.trans d)).mono (fun _ _ x=>x) fun _ x=>x.2⟩))
  ·refine .inr (.inr (.inr (.inl ⟨hi,hc,fun w2 Cx=>?_⟩)))
   obtain⟨z,a,b,c⟩:=h w2 (hv.trans Cx)
   exact⟨z,a,b,fun l' hl=>(c l' hl).2⟩
  refine .inr (.inr (.inr (.inr ⟨hi,v,hc,fun w2 Cx=>?_⟩)))
  exact h w2 (hv.trans Cx)
 exact key _ h w' hv
theorem Tr.less{g:Goroutine}(h:Tr E (N+1) i l g w):Tr E N i l g w:=jI.Lv.less h
def Bb(g:Goroutine):Prop:=g.status= .running/\g.offers=none/\g.dying=none
theorem aX(fr:Frame)(cs:List Frame):Bb (G fr cs):=⟨rfl,rfl,rfl⟩
theorem Lo.gJ(l:Lo)(a:Nat):l.grow a a=l:=by
 unfold Lo.grow
 have:(fun c=>l.ai c\/(a<=c/\c<a))=l.ai:=by
  funext c;apply propext
  exact⟨fun h=>h.resolve_right fun x=>by omega,.inl⟩
 rw[this]
theorem Tr.tS{g:Goroutine}(hg:Bb g)(bP:l.ch= .no)
  (h: ∀ae,View l.ai w ae->∃g' w' es,stepG E.P (i==0) g ae= .go g' w' es/\g'.status= .running/\I3 l.ai ae w' es/\(l.rel≠none->∀e∈es,(MemAct.ofEvent e).touch?=none)/\Tr E N i (l.grow ae.heap.size w'.heap.size) g' w'):Tr E N i l g w:=
 jI.Lv.fold ⟨hg,.inr (.inl ⟨bP,h⟩)⟩
theorem Tr.still(hf:E.da){g g':Goroutine}(hg:Bb g)(P8:g'.status= .running)(bP:l.ch= .no)(hs: ∀ae,View l.ai w ae->stepG E.P (i==0) g ae= .go g' ae #[])(k:Tr E N i l g' w):Tr E N i l g w:=by
 refine Tr.tS hg bP fun ae hv=>⟨g',ae,#[],hs ae hv,P8,⟨Nat.le_refl _,fun _ _ _=>rfl,rfl,rfl,rfl,fun e he=>by simp at he⟩,fun _ e he=>by simp at he,?_⟩
 rw[Lo.gJ];exact k.view hf hv
section
variable{b:Frame}{a:Act}{k:List Item}{cs:List Frame}
theorem Tr.skip(hf:E.da)(bP:l.ch= .no)(h:Tr E N i l (G (b.at a k) cs) w):Tr E N i l (G (b.at a (.code .skip::k)) cs) w:=Tr.still hf (aX _ _) rfl bP (fun _ _=>stepG_skip) h
theorem Tr.inBlock(hf:E.da)(bP:l.ch= .no){x:Nat}(h:Tr E N i l (G (b.at a k) cs) w):Tr E N i l (G (b.at a (.inBlock x::k)) cs) w:=Tr.still hf (aX _ _) rfl bP (fun _ _=>stepG_inBlock) h
theorem Tr.seq(hf:E.da)(bP:l.ch= .no){x y:Code}(h:Tr E N i l (G (b.at a (.code x:: .code y::k)) cs) w):Tr E N i l (G (b.at a (.code (.seq x y)::k)) cs) w:=Tr.still hf (aX _ _) rfl bP (fun _ _=>stepG_seq) h
theorem Tr.block(hf:E.da)(bP:l.ch= .no){x:Nat}{c:Code}(h:Tr E N i l (G (b.at a (.code c:: .inBlock x::k)) cs) w):Tr E N i l (G (b.at a (.code (.block x c)::k)) cs) w:=Tr.still hf (aX _ _) rfl bP (fun _ _=>stepG_block) h
theorem Tr.loop(hf:E.da)(bP:l.ch= .no){c:Code}(h:Tr E N i l (G (b.at a (.code c:: .inLoop c::k)) cs) w):Tr E N i l (G (b.at a (.code (.loop c)::k)) cs) w:=Tr.still hf (aX _ _) rfl bP (fun _ _=>stepG_loop) h
theorem Tr.inLoop(hf:E.da)(bP:l.ch= .no){c:Code}(h:Tr E N i l (G (b.at a (.code c:: .inLoop c::k)) cs) w):Tr E N i l (G (b.at a (.inLoop c::k)) cs) w:=Tr.still hf (aX _ _) rfl bP (fun _ _=>stepG_inLoop) h
theorem Tr.exit(hf:E.da)(bP:l.ch= .no){x:Nat}{k':List Item}(hx:exitTo x k=some k')(h:Tr E N i l (G (b.at a k') cs) w):Tr E N i l (G (b.at a (.code (.exit x)::k)) cs) w:=Tr.still hf (aX _ _) rfl bP (fun _ _=>stepG_exit hx) h
theorem Tr.cond(hf:E.da)(bP:l.ch= .no){c:Operand}{x y:Code}{t:Bool}(hc:a.eval c= .bool t)(h:Tr E N i l (G (b.at a (.code (if t then x else y)::k)) cs) w):Tr E N i l (G (b.at a (.code (.cond c x y)::k)) cs) w:=Tr.still hf (aX _ _) rfl bP (fun _ _=>stepG_cond hc) h
theorem Tr.region(hf:E.da)(bP:l.ch= .no){x:Nat}{ops:Array Oper}(h:Tr E N i l (G (b.at a (.inRegion ops (List.range ops.size)::k)) cs) w):Tr E N i l (G (b.at a (.code (.region x ops false)::k)) cs) w:=Tr.still hf (aX _ _) rfl bP (fun _ _=>stepG_region) h
theorem Tr.p8(hf:E.da)(bP:l.ch= .no){ops:Array Oper}(h:Tr E N i l (G (b.at a k) cs) w):Tr E N i l (G (b.at a (.inRegion ops []::k)) cs) w:=Tr.still hf (aX _ _) rfl bP (fun _ _=>stepG_region_end) h
theorem Tr.ji(hf:E.da)(bP:l.ch= .no)(h:Tr E N i l (G {b.at a []with mode:=.returning} cs) w):Tr E N i l (G (b.at a []) cs) w:=Tr.still hf (aX _ _) rfl bP (fun _ _=>stepG_end) h
theorem Tr.ret(hf:E.da)(bP:l.ch= .no)(h:Tr E N i l (G {b.at a (.code .ret::k)with mode:=.returning} cs) w):Tr E N i l (G (b.at a (.code .ret::k)) cs) w:=Tr.still hf (aX _ _) rfl bP (fun _ _=>stepG_ret') h
end
abbrev Nv:=List (Nat×Value)
def Nv.get:Nv->Nat->Option Value
 | [],_=>none
 |(j,v)::e,k=>bif Nat.beq j k then some v else Nv.get e k
def Has(n:Nat)(env:Nv)(a:Act):Prop:=a.tmps.size=n/\∀k v,env.get k=some v->a.tmps[k]?=some v
def Nv.ev(env:Nv):Operand->Option Value
 |.tmp t=>env.get t
 |.const v=>some v
 |.global g=>some (.pointer (some ⟨g,0,none⟩))
 |.func f=>some (.func (.func f) #[] #[])
def Nv.put(env:Nv)(d:Option Nat)(v:Value):Nv:=match d with
 |some d=>(d,v)::env
 |none=>env
def cY(n:Nat)(d:Option Nat):Bool:=match d with
 |some d=>Nat.blt d n
 |none=>true
theorem Nv.get_put(env:Nv)(d:Nat)(v:Value)(k:Nat):Nv.get ((d,v)::env) k=if d=k then some v else env.get k:=by
 simp only[Nv.get,cond_eq_ite]
 by_cases e:d=k
 ·subst e;simp
 have:Nat.beq d k=false:=by rw[<-Bool.not_eq_true];exact fun x=>e (Nat.eq_of_beq_eq_true x)
 simp[this,e]
theorem Has.ev{n:Nat}{env:Nv}{a:Act}(h:Has n env a){x:Operand}{v:Value}(hx:env.ev x=some v):a.eval x=v:=by
 cases x with
 |tmp t=>have:=h.2 t v hx;simp[Act.eval,Array.getD_eq_getD_getElem?,this]
 |const u=>cases hx;rfl
 |global g=>cases hx;rfl
 |func f=>cases hx;rfl
theorem Has.put{n:Nat}{env:Nv}{a:Act}(h:Has n env a){d:Option Nat}(hd:cY n d=true)(v:Value):Has n (env.put d v) (a.put d v):=by
 cases d with
 |none=>exact h
 |some d=>
  have Kn:d<n:=Nat.le_of_ble_eq_true (show Nat.ble (d+1) n=true from hd)
  refine⟨by simp[Act.put,h.1],fun k u hk=>?_⟩
  rw[Nv.put,Nv.get_put]at hk
  simp only[Act.put]
  split at hk
  ·rename_i e;subst e;cases hk
   simp[h.1,Kn]
  rename_i e
  rw[Array.getElem?_setIfInBounds_ne e];exact h.2 k u hk
theorem Has.sub{n:Nat}{env env':Nv}{a:Act}(h:Has n env a)(hs: ∀k v,env'.get k=some v->env.get k=some v):Has n env' a:=⟨h.1,fun k v hk=>h.2 k v (hs k v hk)⟩
def bj(ops:Array Oper)(env:Nv)(o:Oper):Option Bool:=match o.guard with
 |none=>some true
 |some (j,want)=>match(ops[j]?).bind (·.dst)with
  |some d=>match env.get d with
   |some (.bool b)=>some (b==want)
   |some (.tuple _)=>some false
   |_=>none
  |none=>none
theorem Has.want{n:Nat}{env:Nv}{a:Act}(h:Has n env a){ops:Array Oper}{o:Oper}{t:Bool}(hw:bj ops env o=some t):Region.wanted o (yielded ops a.tmps)=t:=by
 unfold bj at hw
 unfold Region.wanted
 cases hg:o.guard with
 |none=>rw[hg]at hw;cases hw;rfl
 |some p=>
  obtain⟨j,want⟩:=p
  rw[hg]at hw
  simp only at hw ⊢
  unfold yielded
  cases hd:(ops[j]?).bind (·.dst)with
  |none=>rw[hd]at hw;cases hw
  |some d=>
   rw[hd]at hw
   simp only at hw
   simp only[Option.bind_some]
   cases hv:env.get d with
   |none=>rw[hv]at hw;cases hw
   |some v=>
    rw[hv]at hw
    rw[h.2 d v hv]
    cases v<;>simp only at hw<;>first
     |(cases hw;done)
     |(simp only[Option.some.injEq]at hw;subst hw;rfl)
     |skip
    all_goals(simp only[Option.some.injEq]at hw;subst hw;rename_i b;cases b<;>cases want<;>rfl)
def Tk(E:Geo)(N i:Nat)(l:Lo)(w:World)(b:Frame)(n:Nat)(env:Nv)(ds:List Deferred)(k:List Item)(cs:List Frame):Prop:=
 ∀a,Has n env a->a.defers=ds->Tr E N i l (G (b.at a k) cs) w
theorem Tk.sub{b:Frame}{n:Nat}{env env':Nv}{ds:List Deferred}{k:List Item}{cs:List Frame}(h:Tk E N i l w b n env' ds k cs)(hs: ∀k v,env'.get k=some v->env.get k=some v):Tk E N i l w b n env ds k cs:=
 fun a ha hd=>h a (ha.sub hs) hd
def bR(P:Program)(env:Nv)(o:Oper)(v:Value):Prop:=
 ∀n a,Has n env a->∀w,(execOp a.eval o).run P w= .ok (.value v) w/\(execOp a.eval o).events P w #[]= #[]
structure Wk(E:Geo)(l:Lo)(b:Frame):Prop where
 fin:E.da
 ch:l.ch= .no
 kind:b.kind≠ .early
section
variable{b:Frame}{n:Nat}{env:Nv}{ds:List Deferred}{k:List Item}{cs:List Frame}
theorem Tk.pure(W:Wk E l b){ops:Array Oper}{j:Nat}{rest:List Nat}{o:Oper}{v:Value}(ho:ops[j]?=some o)(hw:bj ops env o=some true)(hd:cY n o.dst=true)(hp:bR E.P env o v)
  (h:Tk E N i l w b n (env.put o.dst v) ds (.inRegion ops rest::k) cs):Tk E N i l w b n env ds (.inRegion ops (j::rest)::k) cs:=by
 intro a ha dm
 refine Tr.still W.fin (aX _ _) (g':=G (b.at (a.put o.dst v) (.inRegion ops rest::k)) cs) rfl W.ch (fun ae _=>?_) (h _ (ha.put hd v) (by cases o.dst<;>exact dm))
 obtain⟨h1,h2⟩:=hp n a ha ae
 rw[stepG_value ho (ha.want hw) W.kind h1]
 unfold listed
 rw[h2,seen_none]
theorem Tk.unwanted(W:Wk E l b){ops:Array Oper}{j:Nat}{rest:List Nat}{o:Oper}(ho:ops[j]?=some o)(hw:bj ops env o=some false)(hd:cY n o.dst=true)
  (h:Tk E N i l w b n (env.put o.dst undef) ds (.inRegion ops rest::k) cs):Tk E N i l w b n env ds (.inRegion ops (j::rest)::k) cs:=by
 intro a ha dm
 exact Tr.still W.fin (aX _ _) (g':=G (b.at (a.put o.dst undef) (.inRegion ops rest::k)) cs) rfl W.ch (fun ae _=>stepG_unwanted ho (ha.want hw)) (h _ (ha.put hd undef) (by cases o.dst<;>exact dm))
theorem Tk.skip(W:Wk E l b)(h:Tk E N i l w b n env ds k cs):Tk E N i l w b n env ds (.code .skip::k) cs:=fun a ha hd=>(h a ha hd).skip W.fin W.ch
theorem Tk.inBlock(W:Wk E l b){x:Nat}(h:Tk E N i l w b n env ds k cs):Tk E N i l w b n env ds (.inBlock x::k) cs:=fun a ha hd=>(h a ha hd).inBlock W.fin W.ch
theorem Tk.seq(W:Wk E l b){x y:Code}(h:Tk E N i l w b n env ds (.code x:: .code y::k) cs):Tk E N i l w b n env ds (.code (.seq x y)::k) cs:=fun a ha hd=>(h a ha hd).seq W.fin W.ch
theorem Tk.block(W:Wk E l b){x:Nat}{c:Code}(h:Tk E N i l w b n env ds (.code c:: .inBlock x::k) cs):Tk E N i l w b n env ds (.code (.block x c)::k) cs:=fun a ha hd=>(h a ha hd).block W.fin W.ch
theorem Tk.loop(W:Wk E l b){c:Code}(h:Tk E N i l w b n env ds (.code c:: .inLoop c::k) cs):Tk E N i l w b n env ds (.code (.loop c)::k) cs:=fun a ha hd=>(h a ha hd).loop W.fin W.ch
theorem Tk.inLoop(W:Wk E l b){c:Code}(h:Tk E N i l w b n env ds (.code c:: .inLoop c::k) cs):Tk E N i l w b n env ds (.inLoop c::k) cs:=fun a ha hd=>(h a ha hd).inLoop W.fin W.ch
theorem Tk.exit(W:Wk E l b){x:Nat}{k':List Item}(hx:exitTo x k=some k')(h:Tk E N i l w b n env ds k' cs):Tk E N i l w b n env ds (.code (.exit x)::k) cs:=fun a ha hd=>(h a ha hd).exit W.fin W.ch hx
theorem Tk.cp(W:Wk E l b){c:Operand}{x y:Code}(hc:env.ev c=some (.bool true))(h:Tk E N i l w b n env ds (.code x::k) cs):Tk E N i l w b n env ds (.code (.cond c x y)::k) cs:=fun a ha hd=>Tr.cond W.fin W.ch (ha.ev hc) (h a ha hd)
theorem Tk.bC(W:Wk E l b){c:Operand}{x y:Code}(hc:env.ev c=some (.bool false))(h:Tk E N i l w b n env ds (.code y::k) cs):Tk E N i l w b n env ds (.code (.cond c x y)::k) cs:=fun a ha hd=>Tr.cond W.fin W.ch (ha.ev hc) (h a ha hd)
theorem Tk.region(W:Wk E l b){x:Nat}{ops:Array Oper}(h:Tk E N i l w b n env ds (.inRegion ops (List.range ops.size)::k) cs):Tk E N i l w b n env ds (.code (.region x ops false)::k) cs:=fun a ha hd=>(h a ha hd).region W.fin W.ch
theorem Tk.p8(W:Wk E l b){ops:Array Oper}(h:Tk E N i l w b n env ds k cs):Tk E N i l w b n env ds (.inRegion ops []::k) cs:=fun a ha hd=>(h a ha hd).p8 W.fin W.ch
end
def cV(op:BinOp)(k:IntKind)(x y:Int):Option Value:=match op with
 |.add=>some (.int k (k.wrap (x+y)))
 |.sub=>some (.int k (k.wrap (x-y)))
 |.mul=>some (.int k (k.wrap (x*y)))
 |.and=>some (.int k (k.wrap (BitVec.ofInt k.bits x&&&BitVec.ofInt k.bits y).toNat))
 |.or=>some (.int k (k.wrap (BitVec.ofInt k.bits x|||BitVec.ofInt k.bits y).toNat))
 |.andNot=>some (.int k (k.wrap (BitVec.ofInt k.bits x&&& ~~~BitVec.ofInt k.bits y).toNat))
 |.eql=>some (.bool (x==y))
 |.neq=>some (.bool (x !=y))
 |.lss=>some (.bool (decide (x<y)))
 |.leq=>some (.bool (decide (x<=y)))
 |.gtr=>some (.bool (decide (x>y)))
 |.geq=>some (.bool (decide (x>=y)))
 |_=>none
def oV(op:BinOp)(k:IntKind)(x y:Int):Option Value:=if y<0 then none else match op with
 |.shl=>some (.int k (k.wrap (x*2^(min y.toNat k.bits))))
 |.shr=>some (.int k (x.fdiv (2^(min y.toNat k.bits))))
 |_=>none
theorem aa{P:Program}{env:Nv}{o:Oper}{x:Operand}{v:Value}(ho:o.op= .move x\/o.op= .assign x)(hx:env.ev x=some v):bR P env o v:=fun n a ha w=>by
 rcases ho with ho|ho<;>simp[execOp,ho,ha.ev hx]
theorem bu{P:Program}{env:Nv}{o:Oper}{c x y:Operand}{v:Value}(ho:o.op= .pick c x y)(hc:env.ev c=some (.bool true))(hx:env.ev x=some v):bR P env o v:=fun n a ha w=>by
 simp[execOp,ho,ha.ev hc,ha.ev hx,asBool]
theorem bw{P:Program}{env:Nv}{o:Oper}{c x y:Operand}{v:Value}(ho:o.op= .pick c x y)(hc:env.ev c=some (.bool false))(hx:env.ev y=some v):bR P env o v:=fun n a ha w=>by
 simp[execOp,ho,ha.ev hc,ha.ev hx,asBool]
theorem ft{P:Program}{env:Nv}{o:Oper}{t:TypeId}{x:Operand}{c:Bool}(ho:o.op= .unOp .not t x)(hx:env.ev x=some (.bool c)):bR P env o (.bool (!c)):=fun n a ha w=>by
 simp[execOp,ho,ha.ev hx,Op.unary]
theorem al{P:Program}{env:Nv}{o:Oper}{op:BinOp}{t yt:TypeId}{x y:Operand}{k:IntKind}{p q:Int}{v:Value}(ho:o.op= .binOp op t x y yt)(hx:env.ev x=some (.int k p))(hy:env.ev y=some (.int k q))(hv:cV op k p q=some v):bR P env o v:=fun n a ha w=>by
 cases op<;>simp only[cV]at hv<;>first
  |(cases hv;done)
  |(cases hv;simp[execOp,ho,ha.ev hx,ha.ev hy,eqGuard,binOp,Op.intArith,Op.intBits,Op.intCmp])
theorem dB{P:Program}{env:Nv}{o:Oper}{op:BinOp}{t yt:TypeId}{x y:Operand}{k k':IntKind}{p q:Int}{v:Value}(ho:o.op= .binOp op t x y yt)(hx:env.ev x=some (.int k p))(hy:env.ev y=some (.int k' q))(hv:oV op k p q=some v):bR P env o v:=fun n a ha w=>by
 unfold oV at hv
 split at hv
 ·cases hv
 rename_i hq
 cases op<;>simp only at hv<;>first
  |(cases hv;done)
  |(cases hv;simp[execOp,ho,ha.ev hx,ha.ev hy,eqGuard,binOp,Op.shift,hq])
theorem ak{P:Program}{env:Nv}{o:Oper}{x:Operand}{ad:Addr}(ho:o.op= .nilCheck x)(hx:env.ev x=some (.pointer (some ad))):bR P env o (.pointer (some ad)):=fun n a ha w=>by
 simp[execOp,ho,ha.ev hx]
theorem TA{P:Program}{t te:TypeId}{ad:Addr}(hu:P.underlying t=some (.pointer te))(w:World):(Op.equal t (.pointer (some ad)) (.pointer none)).run P w= .ok false w/\(Op.equal t (.pointer (some ad)) (.pointer none)).events P w #[]= #[]:=by
 have h1:=run_underlying hu w
 have e:Op.maxDepth=9999+1:=rfl
 unfold Op.equal
 rw[e]
 generalize 9999=D
 constructor
 ·simp[Op.equalIn,h1]
 simp[Op.equalIn,h1,events_underlying]
theorem vr{P:Program}{env:Nv}{o:Oper}{t yt te:TypeId}{x y:Operand}{ad:Addr}(ho:o.op= .binOp .eql t x y yt)(hx:env.ev x=some (.pointer (some ad)))(hy:env.ev y=some (.pointer none))(hu:P.underlying t=some (.pointer te)):bR P env o (.bool false):=fun n a ha w=>by
 obtain⟨h1,h2⟩:=TA (ad:=ad) hu w
 have e:execOp a.eval o=(do eqGuard .eql t x y (.pointer (some ad)) (.pointer none);let r <-binOp .eql t (.pointer (some ad)) (.pointer none);pure (.value r)):=by
  unfold execOp;rw[ho];simp only[ha.ev hx,ha.ev hy];rfl
 have e2:eqGuard .eql t x y (.pointer (some ad)) (.pointer none)=pure ():=rfl
 have e3:binOp .eql t (.pointer (some ad)) (.pointer none)=(do pure (.bool (<-Op.equal t (.pointer (some ad)) (.pointer none)))):=rfl
 rw[e,e2,e3]
 constructor
 ·simp only[Sem.run_bind,Sem.run_pure,Result.andThen_ok,h1]
 simp only[Sem.events_bind,Sem.run_bind,Sem.run_pure,Sem.events_pure,Result.andThen_ok,Result.evThen_ok,h1,h2]
theorem iK{P:Program}{t:TypeId}{inf:TypeInfo}(h:P.info? t=some inf)(w:World):(sizeOf t).run P w= .ok (P.cellsOf t) w:=by
 simp[sizeOf,typeInfo,Program.cellsOf,h]
theorem av{P:Program}{env:Nv}{o:Oper}{t:TypeId}{x:Operand}{ad:Addr}{j:Nat}{fields:Array Field}{f:Field}(ho:o.op= .fieldAddr t x j)(hx:env.ev x=some (.pointer (some ad)))(hu:P.underlying t=some (.struct fields))(hf:fields[j]?=some f)(hz:P.cellsOf f.type≠0):
  bR P env o (.pointer (some (ad.add f.offset))):=fun n a ha w=>by
 have h1:=run_underlying hu w
 have hi: ∃i,P.info? f.type=some i:=by
  unfold Program.cellsOf at hz
  cases hi:P.info? f.type with
  |none=>simp[hi]at hz
  |some i=>exact⟨i,rfl⟩
 obtain⟨inf,hi⟩:=hi
 simp[execOp,ho,ha.ev hx,Instr.fieldAt,Instr.sureAddr,h1,hf,fieldPlace,iK hi w,hz,events_underlying,events_sizeOf]
theorem fM{P:Program}{env:Nv}{o:Oper}{s d:TypeId}{x:Operand}{k k':IntKind}{p:Int}{sd:TypeDesc}(ho:o.op= .convert s d x)(hx:env.ev x=some (.int k' p))(hs:P.underlying s=some sd)(hd:P.underlying d=some (.int k)):bR P env o (.int k (k.wrap p)):=fun n a ha w=>by
 have h1:=run_underlying hs w
 have h2:=run_underlying hd w
 cases sd<;>simp[execOp,ho,ha.ev hx,convert,h1,h2,events_underlying,Conv.intToInt]
end Go.Co

namespace Go.Co
open Go Go.Conc
open Go.ConcM (OsLater)
open Go.ConcN (sumTo upd sumTo_upd upd_ne upd_same sumTo_congr le_sumTo sumTo_le)
variable{E:Geo}{G G':Gh}{w w':World}{t t' u:Trace}{B B':Nat}
theorem Wd.BW{x y:Wd}(h:x.enc=y.enc):x=y:=by
 obtain⟨l,w,s,q⟩:=x
 obtain⟨l',w',s',q'⟩:=y
 unfold Wd.enc at h
 simp only at h
 cases l<;>cases w<;>cases s<;>cases l'<;>cases w'<;>cases s'<;>simp at h<;>first
  |omega
  |(
   have:q=q':=by omega
   rw[this])
theorem Gh.Im(_h:EX E G)(k:Nat):G.cnt k .bK+G.cnt k .tok+G.cnt k (.hand true)+G.cnt k (.hand false)<=sumTo G.n fun i=>(G.th i).fg:=by
 have key: ∀n,(sumTo n fun i=>(G.th i).at k .bK)+(sumTo n fun i=>(G.th i).at k .tok)+(sumTo n fun i=>(G.th i).at k (.hand true))+(sumTo n fun i=>(G.th i).at k (.hand false))<=sumTo n fun i=>(G.th i).fg:=by
  intro n
  induction n with
  |zero=>simp[sumTo]
  |succ n ih=>
   simp only[sumTo]
   have:(G.th n).at k .bK+(G.th n).at k .tok+(G.th n).at k (.hand true)+(G.th n).at k (.hand false)<=(G.th n).fg:=by
    unfold Lo.at Lo.fg
    cases hl:(G.th n).af with
    |false=>simp
    |true=>
     cases hm:(G.th n).mr with
     |none=>simp
     |some p=>
      obtain⟨k',r⟩:=p
      by_cases e:k'=k
      ·subst e;cases r<;>simp
       rename_i b;cases b<;>simp
      simp[e]
   omega
 exact key G.n
theorem GI.word(h:GI E G w t){k:Nat}(hk:k<E.K):w.cell? (E.sc (.word k))=some (.int .i32 (G.wd k).enc)/\w.frozen? (E.sc (.word k))=false/\(G.wd k).q<=48:=by
 refine⟨(h.m.sync (.word k) hk).1,(h.m.sync (.word k) hk).2,?_⟩
 have hm:=h.k.mu k hk
 have hf:=h.a.Rb
 have h4:=Gh.Im h.a k
 cases hs:(G.wd k).s with
 |true=>have:=hm.jK hs;omega
 |false=>have:=hm.norm hs;omega
theorem GI.sema(h:GI E G w t){k:Nat}(hk:k<E.K):w.cell? (E.sc (.sema k))=some (.int .u32 (G.sm k:Int))/\w.frozen? (E.sc (.sema k))=false/\G.sm k<=48:=by
 refine⟨(h.m.sync (.sema k) hk).1,(h.m.sync (.sema k) hk).2,?_⟩
 have hm:=h.k.mu k hk
 have hf:=h.a.Rb
 have h4:=Gh.Im h.a k
 cases hs:(G.wd k).s with
 |true=>have:=hm.jK hs;omega
 |false=>have:=hm.norm hs;omega
def Lo.mu(l:Lo)(k:Nat)(b:Option Ro)(o:Option Wd):Lo:={l with mr:=b.map (k,·),old:=o}
theorem GI.mu(h:GI E G w t){i k:Nat}{a b:Option Ro}{x':Wd}{s':Nat}{o':Option Wd}{es:Array Event}(fn:FuncId)(pos:String)(hi:(G.th i).af=true)(dQ:i≠0)(hk:k<E.K)(ee:(G.th i).mr=a.map (k,·))
  (Og: ∀c',Mv (G.cnt k) c' a b->gl x' s' c') (bP:(G.th i).ch= .no) (cx:(G.th i).gr= .out) (aS:(G.th i).run=none\/b=some .held)
  (hw:(w'=w/\x'=G.wd k/\s'=G.sm k)\/(w'=w.setCell (E.sc (.word k)) (.int .i32 x'.enc)/\s'=G.sm k)\/(w'=w.setCell (E.sc (.sema k)) (.int .u32 s')/\x'=G.wd k))
  (he: ∀e∈es,wN E e) (hd:deafBehind (G.th i).deaf es=(G.th i).deaf) (aJ:(G.th i).rel=none) (IA:a≠some .bK\/0<G.sm k)
  (Oa:64*((G.th i).mu k b o').wt k+320*s'+64<=64*(G.th i).wt k+320*G.sm k\/(64*((G.th i).mu k b o').wt k+320*s'=64*(G.th i).wt k+320*G.sm k/\x'=G.wd k/\((G.th i).mu k b o').bh k (G.wd k)<=(G.th i).bh k (G.wd k))):
  ∃G',oe E i G G' w w' (t++MemOp.ofEvents i fn pos es) ((G.th i).mu k b o')/\G'.cl=G.cl/\(s'<=G.sm k->Calm E G G')/\(((G.th i).mu k b o').wt k+5*s'<(G.th i).wt k+5*G.sm k\/((G.th i).mu k b o').bh k (G.wd k)<(G.th i).bh k (G.wd k)->G'.Φ E.K E.nj<G.Φ E.K E.nj):=by
 obtain⟨G',e,fP,hv,hp,dI⟩:=h.mutex (o':=o') fn pos hi dQ hk ee Og bP cx aS hw he aJ
 have el:({G.th i with mr:=b.map (k,·),old:=o',deaf:=deafBehind (G.th i).deaf es}:Lo)=(G.th i).mu k b o':=by rw[hd];rfl
 rw[el]at e
 have mP:G'.th i=(G.th i).mu k b o':=by subst e;exact upd_same _ _ _
 have ll:=(h.a.db i hi).1
 rw[mP]at hp
 have hSt:x'=G.wd k->G'.St k+(G.th i).bh k (G.wd k)=G.St k+((G.th i).mu k b o').bh k (G.wd k):=fun ex=>by
  subst e
  unfold Gh.St
  show(sumTo G.n fun j=>(upd G.th i ((G.th i).mu k b o') j).bh k (upd G.wd k x' k))+_=_
  rw[upd_same,ex]
  exact fH ll G.th _ (fun l=>l.bh k (G.wd k))
 refine⟨G',⟨fP,mP,fun j hj=>by subst e;exact upd_ne _ _ hj,by subst e;rfl,fun j hj _=>hv j hj,?_⟩,by subst e;rfl,fun hs=>⟨fun j hj=>?_,by subst e;rfl⟩,fun bA=>?_⟩
 ·rcases Oa with x|⟨x1,x2,x3⟩
  ·omega
  have:=hSt x2;omega
 ·subst e
  rcases hj with⟨k',h1,h2⟩|⟨e0,h1,h2⟩
  ·by_cases ej:j=i
   ·subst ej
    exfalso
    rw[ee]at h1
    cases a with
    |none=>cases h1
    |some r=>
     simp at h1
     obtain⟨rfl,rfl⟩:=h1
     rcases IA with x|x
     ·exact x rfl
     omega
   refine .inl ⟨k',?_,?_⟩
   ·show(upd G.th i _ j).mr=_
    rw[upd_ne _ _ ej];exact h1
   show upd G.sm k s' k'=0
   by_cases ek:k'=k
   ·subst ek;rw[upd_same];omega
   rw[upd_ne _ _ ek];exact h2
  refine .inr ⟨e0,?_,h2⟩
  show(upd G.th i _ 0).gr=_
  rw[dZ dQ];exact h1
 rcases Oa with x|⟨x1,x2,x3⟩
 ·omega
 have:=hSt x2;omega
structure rV(E:Geo)(G:Gh)(i k:Nat)(r:Option Ro):Prop where
 af:(G.th i).af=true
 i0:i≠0
 kK:k<E.K
 mr:(G.th i).mr=r.map (k,·)
 ch:(G.th i).ch= .no
 gr:(G.th i).gr= .out
 rel:(G.th i).rel=none
 aP:(G.th i).aP k=false\/(∃r',r=some r')
theorem dD(l:Lo)(k:Nat)(r:Ro)(o:Option Wd):(l.mu k (some r) o).wt k=Iu r:=by unfold Lo.wt Lo.mu;simp
theorem iR{l:Lo}{k:Nat}{r:Ro}(h:l.mr=some (k,r)):l.wt k=Iu r:=by unfold Lo.wt;rw[h];simp
theorem Hv{l:Lo}{k:Nat}(h:l.mr=none)(hw:l.wk=true)(hp:l.aP k=false):l.wt k=15:=by unfold Lo.wt;rw[h];simp[hw,hp]
theorem rD{l:Lo}{k:Nat}{o:Option Wd}(hp:l.aP k=true):(l.mu k none o).wt k=0:=by unfold Lo.wt Lo.mu;simp[hp]
def qZ(E:Geo)(i:Nat)(G:Gh)(w w':World)(t':Trace)(l':Lo)(G':Gh):Prop:=oe E i G G' w w' t' l'/\Calm E G G'
theorem GI.Sf(h:GI E G w t){i k:Nat}(A:rV E G i k none)(aS:(G.th i).run=none)(hp:(G.th i).aP k=false)(hz:(G.wd k).enc=0)(fn:FuncId)(pos:String):
  ∃G',qZ E i G w (w.setCell (E.sc (.word k)) (.int .i32 1)) (t++MemOp.ofEvents i fn pos (nT (E.sc (.word k)))) ((G.th i).mu k (some .held) none) G':=by
 have hx:=Wd.DV hz
 obtain⟨G',d,c,f,_⟩:=h.mu (a:=none) (b:=some .held) (x':={G.wd k with l:=true}) (s':=G.sm k) (o':=none) (w':=w.setCell (E.sc (.word k)) (.int .i32 1)) (es:=nT (E.sc (.word k))) fn pos A.af A.i0 A.kK A.mr
  (fun c' hm=>(h.k.mu k A.kK).Sf hm (by rw[hx]) (by rw[hx])) A.ch A.gr (.inl aS) (.inr (.inl ⟨by rw[hx];rfl,rfl⟩)) (lE (x:=.word k) A.kK fun k e=>by cases e) rfl A.rel (.inl (by simp))
  (.inl (by rw[dD,Hv A.mr (h.worker A.af A.i0).1 hp];simp only[Iu];omega))
 exact⟨G',d,f (Nat.le_refl _)⟩
theorem GI.Y3(h:GI E G w t){i k:Nat}(A:rV E G i k none)(aS:(G.th i).run=none)(hp:(G.th i).aP k=false):
  ∃G',qZ E i G w w t ((G.th i).mu k (some .fresh) (some (G.wd k))) G':=by
 obtain⟨G',d,c,f,_⟩:=h.mu (a:=none) (b:=some .fresh) (x':=G.wd k) (s':=G.sm k) (o':=some (G.wd k)) (w':=w) (es:= #[]) 0 "" A.af A.i0 A.kK A.mr
  (fun c' hm=>(h.k.mu k A.kK).enter hm) A.ch A.gr (.inl aS) (.inl ⟨rfl,rfl,rfl⟩) (by simp) rfl A.rel (.inl (by simp))
  (.inl (by rw[dD,Hv A.mr (h.worker A.af A.i0).1 hp];simp only[Iu];omega))
 exact⟨G',by simpa [MemOp.ofEvents]using d,f (Nat.le_refl _)⟩
theorem GI.rh(h:GI E G w t){i k:Nat}{r:Ro}(A:rV E G i k (some r))(aS:(G.th i).run=none)(IA:r≠ .bK):
  ∃G',qZ E i G w w t ((G.th i).mu k (some r) (some (G.wd k))) G'/\(∀o,(G.th i).old=some o->o≠G.wd k->G'.Φ E.K E.nj<G.Φ E.K E.nj):=by
 have Ob:((G.th i).mu k (some r) (some (G.wd k))).wt k=(G.th i).wt k:=by rw[dD,iR (r:=r) A.mr]
 have EE:((G.th i).mu k (some r) (some (G.wd k))).bh k (G.wd k)=0:=by unfold Lo.bh Lo.mu;simp
 obtain⟨G',d,c,f,q⟩:=h.mu (a:=some r) (b:=some r) (x':=G.wd k) (s':=G.sm k) (o':=some (G.wd k)) (w':=w) (es:= #[]) 0 "" A.af A.i0 A.kK A.mr
  (fun c' hm=>by
   have:c'=G.cnt k:=by funext r';have:=hm r';omega
   rw[this];exact h.k.mu k A.kK) A.ch A.gr (.inl aS) (.inl ⟨rfl,rfl,rfl⟩) (by simp) rfl A.rel (.inl (by simpa using IA))
  (.inr ⟨by rw[Ob],rfl,by rw[EE];exact Nat.zero_le _⟩)
 refine⟨G',⟨by simpa [MemOp.ofEvents]using d,f (Nat.le_refl _)⟩,fun o ho cb=>q (.inr ?_)⟩
 rw[EE]
 unfold Lo.bh
 have ee:(G.th i).mr=some (k,r):=A.mr
 simp[ee,ho,A.af,cb]
theorem GI.Vl(h:GI E G w t){i:Nat}{x:SC}(hx:x.ok E.K)(fn:FuncId)(pos:String)(hi:(G.th i).af=true)(aJ:(G.th i).rel=none):
  ∃G',qZ E i G w w (t++MemOp.ofEvents i fn pos #[⟨.cell (E.sc x),false,true⟩]) (G.th i) G':=by
 obtain⟨G',a,b⟩:=h.E3 fn pos hi (Bl hx) rfl rfl rfl (OsLater.refl _) (.inl aJ)
 exact⟨G',a,b⟩
theorem GI.NU(h:GI E G w t){i k:Nat}{r:Ro}{b:Ro}{x':Wd}(A:rV E G i k (some r))(aS:(G.th i).run=none)(IA:r≠ .bK)(Ob:Iu b<Iu r)(fn:FuncId)(pos:String)
  (Og: ∀c',Mv (G.cnt k) c' (some r) (some b)->gl x' (G.sm k) c') (o':Option Wd):
  ∃G',qZ E i G w (w.setCell (E.sc (.word k)) (.int .i32 x'.enc)) (t++MemOp.ofEvents i fn pos (nT (E.sc (.word k)))) ((G.th i).mu k (some b) o') G':=by
 obtain⟨G',d,c,f,q⟩:=h.mu (a:=some r) (b:=some b) (x':=x') (s':=G.sm k) (o':=o') (w':=w.setCell (E.sc (.word k)) (.int .i32 x'.enc)) (es:=nT (E.sc (.word k))) fn pos A.af A.i0 A.kK A.mr
  Og A.ch A.gr (.inl aS) (.inr (.inl ⟨rfl,rfl⟩)) (lE (x:=.word k) A.kK fun k e=>by cases e) rfl A.rel (.inl (by simpa using IA))
  (.inl (by rw[dD,iR (r:=r) A.mr];omega))
 exact⟨G',d,f (Nat.le_refl _)⟩
theorem GI.pY(h:GI E G w t){i k:Nat}{r:Ro}(A:rV E G i k (some r)):0<G.cnt k r:=by
 have ll:=(h.a.db i A.af).1
 have:(G.th i).at k r=1:=by unfold Lo.at;rw[if_pos ⟨A.af,A.mr⟩]
 have:=iL (f:=fun j=>(G.th j).at k r) ll (by simp only[this];exact Nat.le_refl _)
 exact this
theorem GI.take(h:GI E G w t){i k:Nat}(A:rV E G i k (some .bK))(aS:(G.th i).run=none)(fn:FuncId)(pos:String):
  (G.sm k=0->G.PK E i)/\(G.sm k≠0->∃G',qZ E i G w (w.setCell (E.sc (.sema k)) (.int .u32 (G.sm k-1:Int))) (t++MemOp.ofEvents i fn pos (semEvents (E.sc (.sema k)))) ((G.th i).mu k (some .tok) none) G'):=by
 refine⟨fun e=>.inl ⟨k,A.mr,e⟩,fun cb=>?_⟩
 obtain⟨G',d,c,f,q⟩:=h.mu (a:=some .bK) (b:=some .tok) (x':=G.wd k) (s':=G.sm k-1) (o':=none) (w':=w.setCell (E.sc (.sema k)) (.int .u32 (G.sm k-1:Int))) (es:=semEvents (E.sc (.sema k))) fn pos A.af A.i0 A.kK A.mr
  (fun c' hm=>gl.take (by rw[show G.sm k-1+1=G.sm k by omega];exact h.k.mu k A.kK) hm) A.ch A.gr (.inl aS)
  (.inr (.inr ⟨by rw[show((G.sm k-1:Nat):Int)=(G.sm k:Int)-1 by omega],rfl⟩)) (wq (x:=.sema k) A.kK fun k e=>by cases e) (sL _ _) A.rel (.inr (by omega))
  (.inl (by rw[dD,iR (r:=.bK) A.mr];simp only[Iu];omega))
 exact⟨G',d,f (by omega)⟩
theorem GI.awake(h:GI E G w t){i k:Nat}(A:rV E G i k (some .tok))(aS:(G.th i).run=none)(b:Ro)
  (hb:(b= .mQ/\(G.wd k).s=false)\/∃c,b= .hand c/\(G.wd k).s=true/\(c=false->2<=(G.wd k).q)):
  ∃G',qZ E i G w w t ((G.th i).mu k (some b) (some (G.wd k))) G':=by
 obtain⟨G',d,c,f,q⟩:=h.mu (a:=some .tok) (b:=some b) (x':=G.wd k) (s':=G.sm k) (o':=some (G.wd k)) (w':=w) (es:= #[]) 0 "" A.af A.i0 A.kK A.mr
  (fun c' hm=>by
   rcases hb with⟨rfl,hs⟩|⟨c,rfl,hs,hq⟩
   ·exact(h.k.mu k A.kK).YU hm hs
   exact(h.k.mu k A.kK).handed c hm hs hq) A.ch A.gr (.inl aS) (.inl ⟨rfl,rfl,rfl⟩) (by simp) rfl A.rel (.inl (by simp))
  (.inl (by
   rw[dD,iR (r:=.tok) A.mr]
   rcases hb with⟨rfl,_⟩|⟨c,rfl,_⟩<;>simp[Iu]<;>omega))
 exact⟨G',by simpa [MemOp.ofEvents]using d,f (Nat.le_refl _)⟩
theorem GI.handOver(h:GI E G w t){i k:Nat}{c:Bool}(A:rV E G i k (some (.hand c)))(aS:(G.th i).run=none)(fn:FuncId)(pos:String):
  ((G.wd k).l=false/\(G.wd k).w=false/\(G.wd k).s=true/\1<=(G.wd k).q)/\
  ∃G',qZ E i G w (w.setCell (E.sc (.word k)) (.int .i32 (Wd.enc ⟨true,false,!c,(G.wd k).q-1⟩))) (t++MemOp.ofEvents i fn pos (nT (E.sc (.word k)))) ((G.th i).mu k (some .held) none) G':=by
 have E9: ∃c',Mv (G.cnt k) c' (some (.hand c)) (some .held):=by
  have h1:=h.pY A
  refine⟨fun r=>G.cnt k r+iq (some .held) r-iq (some (.hand c)) r,fun r=>?_⟩
  have:iq (some (.hand c)) r<=G.cnt k r:=by
   unfold iq;split
   ·rename_i e;cases e;exact h1
   exact Nat.zero_le _
  show G.cnt k r+_-_+_=_
  omega
 obtain⟨c0,UR⟩:=E9
 obtain⟨f1,f2,f3,f4,_⟩:=(h.k.mu k A.kK).H9 c UR
 exact⟨⟨f1,f2,f3,f4⟩,h.NU A aS (by simp) (by cases c<;>decide) fn pos (fun c' hm=>((h.k.mu k A.kK).H9 c hm).2.2.2.2) none⟩
theorem GI.unlock(h:GI E G w t){i k:Nat}(A:rV E G i k (some .held))(aS:(G.th i).run=none)(hp:(G.th i).aP k=true)(fn:FuncId)(pos:String):
  (G.wd k).l=true/\∃G',qZ E i G w (w.setCell (E.sc (.word k)) (.int .i32 (Wd.enc {G.wd k with l:=false}))) (t++MemOp.ofEvents i fn pos (nT (E.sc (.word k)))) ((G.th i).mu k (G.wd k).next (some {G.wd k with l:=false})) G':=by
 have h1:=h.pY A
 have E9: ∃c',Mv (G.cnt k) c' (some .held) (G.wd k).next:=by
  refine⟨fun r=>G.cnt k r+iq (G.wd k).next r-iq (some .held) r,fun r=>?_⟩
  have:iq (some .held) r<=G.cnt k r:=by
   unfold iq;split
   ·rename_i e;cases e;exact h1
   exact Nat.zero_le _
  show G.cnt k r+_-_+_=_
  omega
 obtain⟨c0,UR⟩:=E9
 refine⟨((h.k.mu k A.kK).unlock UR).1,?_⟩
 obtain⟨G',d,c,f,q⟩:=h.mu (a:=some .held) (b:=(G.wd k).next) (x':={G.wd k with l:=false}) (s':=G.sm k) (o':=some {G.wd k with l:=false}) (w':=w.setCell (E.sc (.word k)) (.int .i32 (Wd.enc {G.wd k with l:=false}))) (es:=nT (E.sc (.word k))) fn pos A.af A.i0 A.kK A.mr
  (fun c' hm=>((h.k.mu k A.kK).unlock hm).2) A.ch A.gr (.inl aS) (.inr (.inl ⟨rfl,rfl⟩)) (lE (x:=.word k) A.kK fun k e=>by cases e) rfl A.rel (.inl (by simp))
  (.inl (by
   rw[iR (r:=.held) A.mr]
   have: ∀o,((G.th i).mu k (G.wd k).next o).wt k<=7:=fun o=>by
    unfold Wd.next
    split
    ·rw[dD];decide
    split
    ·rw[rD hp];omega
    rw[dD];decide
   have h7:=this (some {G.wd k with l:=false})
   show 64*_+320*G.sm k+64<=64*9+320*G.sm k
   exact Nat.le_trans (Nat.add_le_add_right (Nat.add_le_add_right (Nat.mul_le_mul_left 64 h7) _) _) (by omega)))
 exact⟨G',d,f (Nat.le_refl _)⟩
theorem GI.TC(h:GI E G w t){i k:Nat}(A:rV E G i k (some .relN))(aS:(G.th i).run=none)(hp:(G.th i).aP k=true)(hd:(G.wd k).q=0\/(G.wd k).l=true\/(G.wd k).w=true\/(G.wd k).s=true):
  ∃G',qZ E i G w w t ((G.th i).mu k none (some (G.wd k))) G':=by
 obtain⟨G',d,c,f,q⟩:=h.mu (a:=some .relN) (b:=none) (x':=G.wd k) (s':=G.sm k) (o':=some (G.wd k)) (w':=w) (es:= #[]) 0 "" A.af A.i0 A.kK A.mr
  (fun c' hm=>(h.k.mu k A.kK).drop hm hd) A.ch A.gr (.inl aS) (.inl ⟨rfl,rfl,rfl⟩) (by simp) rfl A.rel (.inl (by simp))
  (.inl (by rw[rD hp,iR (r:=.relN) A.mr];simp only[Iu];omega))
 exact⟨G',by simpa [MemOp.ofEvents]using d,f (Nat.le_refl _)⟩
theorem GI.Wr(h:GI E G w t){i k:Nat}{r:Ro}(hr:r= .owe\/r= .relS)(A:rV E G i k (some r))(aS:(G.th i).run=none)(hp:(G.th i).aP k=true)(fn:FuncId)(pos:String):
  ∃G',oe E i G G' w (w.setCell (E.sc (.sema k)) (.int .u32 (G.sm k+1:Int))) (t++MemOp.ofEvents i fn pos (semEvents (E.sc (.sema k)))) ((G.th i).mu k none none):=by
 obtain⟨G',d,_⟩:=h.mu (a:=some r) (b:=none) (x':=G.wd k) (s':=G.sm k+1) (o':=none) (w':=w.setCell (E.sc (.sema k)) (.int .u32 (G.sm k+1:Int))) (es:=semEvents (E.sc (.sema k))) fn pos A.af A.i0 A.kK A.mr
  (fun c' hm=>by
   rcases hr with rfl|rfl
   ·exact(h.k.mu k A.kK).pay hm
   exact(h.k.mu k A.kK).Za hm) A.ch A.gr (.inl aS) (.inr (.inr ⟨by rw[show((G.sm k+1:Nat):Int)=(G.sm k:Int)+1 by omega],rfl⟩)) (wq (x:=.sema k) A.kK fun k e=>by cases e) (sL _ _) A.rel
  (.inl (by rcases hr with rfl|rfl<;>simp))
  (.inl (by
   rw[rD hp,iR (r:=r) A.mr]
   rcases hr with rfl|rfl<;>simp only[Iu]<;>omega))
 exact⟨G',d⟩
end Go.Co

namespace Go.Co
open Go Go.Conc
open Go.ConcM (OsLater)
open Go.ConcN (sumTo upd sumTo_upd upd_ne upd_same sumTo_congr le_sumTo sumTo_le)
variable{E:Geo}{N i:Nat}{l:Lo}{w:World}
def TrX(E:Geo)(N i:Nat)(l:Lo)(g:Goroutine)(w:World):Prop:=E.Cv.Lv N i (l,g,w)
def cQ(E:Geo)(i:Nat)(G:Gh)(w w':World)(t:Trace)(es:Array Event)(l':Lo)(mw:Bool)(lower:Bool):Prop:=
 ∀fn pos,∃G',oe E i G G' w w' (t++MemOp.ofEvents i fn pos es) l'/\(mw=true\/Calm E G G')/\l'.af=true/\(lower=true->G'.Φ E.K E.nj<G.Φ E.K E.nj)
theorem Tr.stop{g:Goroutine}(hg:Bb g)(bP:l.ch= .no)
  (h: ∀G ae t,GI E G ae t->(G.th i).af=true->G.th i=l->View l.ai w ae->∃g' w' es l' lower,stepG E.P (i==0) g ae= .go g' w' es/\g'.status= .running/\cQ E i G ae w' t es l' (mayWake E.P g) lower/\
   (if lower=true then TrX E N i l' g' w' else Tr E N i l' g' w')):Tr E N i l g w:=by
 refine jI.Lv.fold ⟨hg,.inr (.inr (.inl ⟨bP,fun G ae t fP au ax hv=>?_⟩))⟩
 obtain⟨g',w',es,l',lower,h1,h2,h3,h4⟩:=h G ae t fP au ax hv
 obtain⟨G',d,c,hl,vN⟩:=h3 g.frame.fn g.frame.place
 have bq: ∀j,j≠i->((G'.th j).af=true↔(G.th j).af=true):=fun j hj=>by rw[d.uM j hj]
 refine .inl ⟨g',w',es,G',h1,h2,d.gi,d.n,fun j hj=>⟨d.uM j hj,bq j hj,fun hl=>d.view j hl hj⟩,c.imp id (fun c=>⟨c.pk,c.cl⟩),d.phi,.inl ⟨?_,?_⟩⟩
 ·show(G'.th i).af=true
  rw[d.th];exact hl
 show E.Cv.Lv (N+1) i (G'.th i,g',w')\/(G'.Φ E.K E.nj<G.Φ E.K E.nj/\E.Cv.Lv N i (G'.th i,g',w'))
 rw[d.th]
 cases lower with
 |false=>exact .inl h4
 |true=>exact .inr ⟨vN rfl,h4⟩
theorem Tr.leave{g:Goroutine}(hg:Bb g)(bP:l.ch= .no)(dQ:i≠0)
  (h: ∀G ae t,GI E G ae t->(G.th i).af=true->G.th i=l->View l.ai w ae->∃g' w' es,stepG E.P (i==0) g ae= .go g' w' es/\g'.status= .running/\
   (
   (∃l',cQ E i G ae w' t es l' (mayWake E.P g) false/\Tr E N i l' g' w')\/
   (∃l',(∀fn pos,∃G',oe E i G G' ae w' (t++MemOp.ofEvents i fn pos es) l'/\(mayWake E.P g=true\/Calm E G G')/\l'.af=false/\G'.Φ E.K E.nj<G.Φ E.K E.nj)/\∃k,QuitsD E.P k (deafBehind l.deaf es) g'))):Tr E N i l g w:=by
 refine jI.Lv.fold ⟨hg,.inr (.inr (.inl ⟨bP,fun G ae t fP au ax hv=>?_⟩))⟩
 obtain⟨g',w',es,h1,h2,h3⟩:=h G ae t fP au ax hv
 rcases h3 with⟨l',h3,h4⟩|⟨l',h3,h4⟩
 ·obtain⟨G',d,c,hl,_⟩:=h3 g.frame.fn g.frame.place
  refine .inl ⟨g',w',es,G',h1,h2,d.gi,d.n,fun j hj=>⟨d.uM j hj,by show(G'.th j).af=true↔_;rw[d.uM j hj];rfl,fun hl=>d.view j hl hj⟩,c.imp id (fun c=>⟨c.pk,c.cl⟩),d.phi,.inl ⟨?_,.inl ?_⟩⟩
  ·show(G'.th i).af=true
   rw[d.th];exact hl
  show E.Cv.Lv (N+1) i (G'.th i,g',w')
  rw[d.th];exact h4
 obtain⟨G',d,c,hl,vN⟩:=h3 g.frame.fn g.frame.place
 refine .inl ⟨g',w',es,G',h1,h2,d.gi,d.n,fun j hj=>⟨d.uM j hj,by show(G'.th j).af=true↔_;rw[d.uM j hj];rfl,fun hl=>d.view j hl hj⟩,c.imp id (fun c=>⟨c.pk,c.cl⟩),d.phi,.inr ⟨?_,dQ,vN,?_⟩⟩
 ·show ¬(G'.th i).af=true
  rw[d.th,hl];simp
 show ∃k,QuitsD E.P k (deafBehind (Gh.th G i).deaf es) g'
 rw[show Gh.th G i=l from ax];exact h4
theorem Tr.KS{g:Goroutine}(hg:Bb g)(bP:l.ch= .no)
  (h: ∀G ae t,GI E G ae t->(G.th i).af=true->G.th i=l->View l.ai w ae->
   (stepG E.P (i==0) g ae= .go {g with status:=.blocked} ae #[]/\G.PK E i)\/
   ∃g' w' es l',stepG E.P (i==0) g ae= .go g' w' es/\g'.status= .running/\(∀fn pos,∃G',oe E i G G' ae w' (t++MemOp.ofEvents i fn pos es) l'/\(mayWake E.P g=true\/Calm E G G')/\l'.af=true)/\Tr E N i l' g' w'):Tr E N i l g w:=by
 refine jI.Lv.fold ⟨hg,.inr (.inr (.inl ⟨bP,fun G ae t fP au ax hv=>?_⟩))⟩
 rcases h G ae t fP au ax hv with h|⟨g',w',es,l',h1,h2,h3,h4⟩
 ·exact .inr (.inl h)
 obtain⟨G',d,c,hl⟩:=h3 g.frame.fn g.frame.place
 refine .inl ⟨g',w',es,G',h1,h2,d.gi,d.n,fun j hj=>⟨d.uM j hj,by show(G'.th j).af=true↔_;rw[d.uM j hj];rfl,fun hl=>d.view j hl hj⟩,c.imp id (fun c=>⟨c.pk,c.cl⟩),d.phi,.inl ⟨?_,.inl ?_⟩⟩
 ·show(G'.th i).af=true
  rw[d.th];exact hl
 show E.Cv.Lv (N+1) i (G'.th i,g',w')
 rw[d.th];exact h4
structure je(P:Program)(f:FuncId)(e:Array Value->Sem Value):Prop where
 out: ∃fn,P.funcs[f]?=some fn/\(fn.name== "runtime.NumGoroutine")=false/\fn.body.isNone=true/\Extern.findNext fn=none/\Extern.find fn=some e
theorem pE{P:Program}{b:Frame}{a:Act}{ops:Array Oper}{j:Nat}{rest:List Nat}{k:List Item}{cs:List Frame}{o:Oper}{f:FuncId}{e:Array Value->Sem Value}{xs:Array Operand}{iQ:Array TypeId}
  (ho:ops[j]?=some o) (aF:o.op= .call {callee:=.value (.func f),args:=xs,argTypes:=iQ}) (h:je P f e):mayWake P (G (b.at a (.inRegion ops (j::rest)::k)) cs)=true:=by
 obtain⟨fn,h1,_,h2,_⟩:=h.out
 have Kt:fn.body=none:=by simpa using h2
 simp[mayWake,G,Frame.at,ho,aF,Frame.eval,h1,Kt]
section
variable{b:Frame}{n:Nat}{env:Nv}{ds:List Deferred}{k:List Item}{cs:List Frame}
def oE(lower:Bool)(E:Geo)(N i:Nat)(l:Lo)(w:World)(b:Frame)(n:Nat)(env:Nv)(ds:List Deferred)(k:List Item)(cs:List Frame):Prop:=
 ∀a,Has n env a->a.defers=ds->if lower=true then TrX E N i l (G (b.at a k) cs) w else Tr E N i l (G (b.at a k) cs) w
theorem oE.same(h:Tk E N i l w b n env ds k cs):oE false E N i l w b n env ds k cs:=fun a ha hd=>h a ha hd
theorem oE.zero:oE true E 0 i l w b n env ds k cs:=fun _a _ha _hd=>trivial
theorem oE.less(h:Tk E N i l w b n env ds k cs):oE true E (N+1) i l w b n env ds k cs:=fun a ha hd=>h a ha hd
theorem Tk.stop(W:Wk E l b){ops:Array Oper}{j:Nat}{rest:List Nat}{o:Oper}(_ho:ops[j]?=some o)(hd:cY n o.dst=true)
  (h: ∀G ae t,GI E G ae t->(G.th i).af=true->G.th i=l->View l.ai w ae->∃v w' es l' lower,
   (∀a,Has n env a->a.defers=ds->stepG E.P (i==0) (Conc.G (b.at a (.inRegion ops (j::rest)::k)) cs) ae= .go (Conc.G (b.at (a.put o.dst v) (.inRegion ops rest::k)) cs) w' es/\
    cQ E i G ae w' t es l' (mayWake E.P (Conc.G (b.at a (.inRegion ops (j::rest)::k)) cs)) lower)/\
   oE lower E N i l' w' b n (env.put o.dst v) ds (.inRegion ops rest::k) cs):Tk E N i l w b n env ds (.inRegion ops (j::rest)::k) cs:=by
 intro a ha dm
 refine Tr.stop (aX _ _) W.ch fun G ae t fP au ax hv=>?_
 obtain⟨v,w',es,l',lower,h1,h2⟩:=h G ae t fP au ax hv
 obtain⟨h3,h4⟩:=h1 a ha dm
 exact⟨_,w',es,l',lower,h3,rfl,h4,h2 _ (ha.put hd v) (by cases o.dst<;>exact dm)⟩
variable{ops:Array Oper}{j:Nat}{rest:List Nat}{o:Oper}{f:FuncId}{iQ:Array TypeId}
theorem Tk.rP(W:Wk E l b){e:Array Value->Sem Value}{xs:Array Operand}(ho:ops[j]?=some o)(hd:cY n o.dst=true)(aF:o.op= .call {callee:=.value (.func f),args:=xs,argTypes:=iQ})(he:je E.P f e)
  (h: ∀G ae t,GI E G ae t->(G.th i).af=true->G.th i=l->View l.ai w ae->∃v w' es l' lower,
   (∀a,Has n env a->a.defers=ds->stepG E.P (i==0) (Conc.G (b.at a (.inRegion ops (j::rest)::k)) cs) ae= .go (Conc.G (b.at (a.put o.dst v) (.inRegion ops rest::k)) cs) w' es)/\
   cQ E i G ae w' t es l' true lower/\oE lower E N i l' w' b n (env.put o.dst v) ds (.inRegion ops rest::k) cs):Tk E N i l w b n env ds (.inRegion ops (j::rest)::k) cs:=by
 refine Tk.stop W ho hd fun G ae t fP au ax hv=>?_
 obtain⟨v,w',es,l',lower,h1,h2,h3⟩:=h G ae t fP au ax hv
 refine⟨v,w',es,l',lower,fun a ha dm=>⟨h1 a ha dm,?_⟩,h3⟩
 rw[pE ho aF he];exact h2
theorem Tk.zY(W:Wk E l b){x:Operand}{kk:IntKind}{ad:Addr}(ho:ops[j]?=some o)(hw:bj ops env o=some true)(hd:cY n o.dst=true)(aF:o.op= .call {callee:=.value (.func f),args:= #[x],argTypes:=iQ})(he:je E.P f (Extern.Atomic.loadT (.int kk)))(hx:env.ev x=some (.pointer (some ad)))
  (h: ∀G ae t,GI E G ae t->(G.th i).af=true->G.th i=l->View l.ai w ae->∃v l' lower,ae.cell? ad=some (.int kk v)/\cQ E i G ae ae t #[⟨.cell ad,false,true⟩] l' true lower/\oE lower E N i l' ae b n (env.put o.dst (.int kk v)) ds (.inRegion ops rest::k) cs):
  Tk E N i l w b n env ds (.inRegion ops (j::rest)::k) cs:=by
 refine Tk.rP W ho hd aF he fun G ae t fP au ax hv=>?_
 obtain⟨v,l',lower,h1,h2,h3⟩:=h G ae t fP au ax hv
 obtain⟨fn,f1,f2,f3,f4,f5⟩:=he.out
 exact⟨_,ae,_,l',lower,fun a ha _=>stepG_load_atomic ho (ha.want hw) W.kind aF f1 f2 f3 f4 kk f5 (ha.ev hx) h1,h2,h3⟩
theorem Tk.BB(W:Wk E l b){x y:Operand}{kk:IntKind}{ad:Addr}{v:Int}(ho:ops[j]?=some o)(hw:bj ops env o=some true)(hd:cY n o.dst=true)(aF:o.op= .call {callee:=.value (.func f),args:= #[x,y],argTypes:=iQ})(he:je E.P f Extern.Atomic.storeT)(hx:env.ev x=some (.pointer (some ad)))(hy:env.ev y=some (.int kk v))
  (h: ∀G ae t,GI E G ae t->(G.th i).af=true->G.th i=l->View l.ai w ae->∃u l' lower,ae.cell? ad=some u/\ae.frozen? ad=false/\cQ E i G ae (ae.setCell ad (.int kk v)) t #[⟨.cell ad,true,true⟩] l' true lower/\oE lower E N i l' (ae.setCell ad (.int kk v)) b n (env.put o.dst (.tuple #[])) ds (.inRegion ops rest::k) cs):
  Tk E N i l w b n env ds (.inRegion ops (j::rest)::k) cs:=by
 refine Tk.rP W ho hd aF he fun G ae t fP au ax hv=>?_
 obtain⟨u,l',lower,h1,oD,h2,h3⟩:=h G ae t fP au ax hv
 obtain⟨fn,f1,f2,f3,f4,f5⟩:=he.out
 exact⟨_,_,_,l',lower,fun a ha _=>stepG_store_atomic ho (ha.want hw) W.kind aF f1 f2 f3 f4 f5 (ha.ev hx) (ha.ev hy) h1 oD,h2,h3⟩
theorem Tk.CU(W:Wk E l b){x y:Operand}{kk:IntKind}{ad:Addr}{d:Int}(ho:ops[j]?=some o)(hw:bj ops env o=some true)(hd:cY n o.dst=true)(aF:o.op= .call {callee:=.value (.func f),args:= #[x,y],argTypes:=iQ})(he:je E.P f (Extern.Atomic.update (Op.intArith .add) kk true))(hx:env.ev x=some (.pointer (some ad)))(hy:env.ev y=some (.int kk d))
  (h: ∀G ae t,GI E G ae t->(G.th i).af=true->G.th i=l->View l.ai w ae->∃v l' lower,ae.cell? ad=some (.int kk v)/\ae.frozen? ad=false/\cQ E i G ae (ae.setCell ad (.int kk (kk.wrap (v+d)))) t (nT ad) l' true lower/\
   oE lower E N i l' (ae.setCell ad (.int kk (kk.wrap (v+d)))) b n (env.put o.dst (.int kk (kk.wrap (v+d)))) ds (.inRegion ops rest::k) cs):
  Tk E N i l w b n env ds (.inRegion ops (j::rest)::k) cs:=by
 refine Tk.rP W ho hd aF he fun G ae t fP au ax hv=>?_
 obtain⟨v,l',lower,h1,oD,h2,h3⟩:=h G ae t fP au ax hv
 obtain⟨fn,f1,f2,f3,f4,f5⟩:=he.out
 exact⟨_,_,_,l',lower,fun a ha _=>stepG_add_atomic ho (ha.want hw) W.kind aF f1 f2 f3 f4 kk f5 (ha.ev hx) (ha.ev hy) h1 oD,h2,h3⟩
theorem Tk.Rh(W:Wk E l b){x y z:Operand}{kk:IntKind}{ad:Addr}{v0 v1:Int}(ho:ops[j]?=some o)(hw:bj ops env o=some true)(hd:cY n o.dst=true)(aF:o.op= .call {callee:=.value (.func f),args:= #[x,y,z],argTypes:=iQ})(he:je E.P f (Extern.Atomic.casT (.int kk)))
  (hx:env.ev x=some (.pointer (some ad))) (hy:env.ev y=some (.int kk v0)) (hz:env.ev z=some (.int kk v1))
  (h: ∀G ae t,GI E G ae t->(G.th i).af=true->G.th i=l->View l.ai w ae->∃v l' lower,ae.cell? ad=some (.int kk v)/\ae.frozen? ad=false/\
   (
   (v=v0/\cQ E i G ae (ae.setCell ad (.int kk v1)) t (nT ad) l' true lower/\oE lower E N i l' (ae.setCell ad (.int kk v1)) b n (env.put o.dst (.bool true)) ds (.inRegion ops rest::k) cs)\/
   (v≠v0/\cQ E i G ae ae t #[⟨.cell ad,false,true⟩] l' true lower/\oE lower E N i l' ae b n (env.put o.dst (.bool false)) ds (.inRegion ops rest::k) cs))):
  Tk E N i l w b n env ds (.inRegion ops (j::rest)::k) cs:=by
 refine Tk.rP W ho hd aF he fun G ae t fP au ax hv=>?_
 obtain⟨v,l',lower,h1,oD,h⟩:=h G ae t fP au ax hv
 obtain⟨fn,f1,f2,f3,f4,f5⟩:=he.out
 rcases h with⟨rfl,h2,h3⟩|⟨cb,h2,h3⟩
 ·exact⟨_,_,_,l',lower,fun a ha _=>stepG_cas_hit ho (ha.want hw) W.kind aF f1 f2 f3 f4 kk f5 (ha.ev hx) (ha.ev hy) (ha.ev hz) h1 oD,h2,h3⟩
 exact⟨_,_,_,l',lower,fun a ha _=>stepG_cas_miss ho (ha.want hw) W.kind aF f1 f2 f3 f4 kk f5 (ha.ev hx) (ha.ev hy) (ha.ev hz) h1 oD cb,h2,h3⟩
theorem Tk.jk(W:Wk E l b){m:Mark}(hm: ∀g,m≠ .extern g){xs:Array Operand}(ho:ops[j]?=some o)(hw:bj ops env o=some true)(hd:cY n o.dst=true)(aF:o.op= .call {callee:=.value (.func f),args:=xs,argTypes:=iQ})(he:je E.P f (fun _=>do mark m;Pure.pure Extern.Race.none_))
  (h: ∀G ae t,GI E G ae t->(G.th i).af=true->G.th i=l->View l.ai w ae->∃l' lower,cQ E i G ae ae t #[⟨.mark m,false,true⟩] l' true lower/\oE lower E N i l' ae b n (env.put o.dst (.tuple #[])) ds (.inRegion ops rest::k) cs):
  Tk E N i l w b n env ds (.inRegion ops (j::rest)::k) cs:=by
 refine Tk.rP W ho hd aF he fun G ae t fP au ax hv=>?_
 obtain⟨l',lower,h2,h3⟩:=h G ae t fP au ax hv
 obtain⟨fn,f1,f2,f3,f4,f5⟩:=he.out
 exact⟨_,_,_,l',lower,fun a ha _=>stepG_mark0 m hm ho (ha.want hw) W.kind aF f1 f2 f3 f4 f5,h2,h3⟩
theorem Tk.l7(W:Wk E l b){mk:Addr->Mark}(hm: ∀ad g,mk ad≠ .extern g){x:Operand}{ad:Addr}(ho:ops[j]?=some o)(hw:bj ops env o=some true)(hd:cY n o.dst=true)(aF:o.op= .call {callee:=.value (.func f),args:= #[x],argTypes:=iQ})(he:je E.P f (Extern.Race.marked mk))(hx:env.ev x=some (.pointer (some ad)))
  (h: ∀G ae t,GI E G ae t->(G.th i).af=true->G.th i=l->View l.ai w ae->∃l' lower,cQ E i G ae ae t #[⟨.mark (mk ad),false,true⟩] l' true lower/\oE lower E N i l' ae b n (env.put o.dst (.tuple #[])) ds (.inRegion ops rest::k) cs):
  Tk E N i l w b n env ds (.inRegion ops (j::rest)::k) cs:=by
 refine Tk.rP W ho hd aF he fun G ae t fP au ax hv=>?_
 obtain⟨l',lower,h2,h3⟩:=h G ae t fP au ax hv
 obtain⟨fn,f1,f2,f3,f4,f5⟩:=he.out
 exact⟨_,_,_,l',lower,fun a ha _=>stepG_markAt mk hm ho (ha.want hw) W.kind aF f1 f2 f3 f4 f5 (by simp[ha.ev hx]),h2,h3⟩
theorem Tk.Bd(W:Wk E l b){x y z:Operand}{ad:Addr}(ho:ops[j]?=some o)(hw:bj ops env o=some true)(hd:cY n o.dst=true)(aF:o.op= .call {callee:=.value (.func f),args:= #[x,y,z],argTypes:=iQ})(he:je E.P f Extern.Sync.semrelease)(hx:env.ev x=some (.pointer (some ad)))
  (h: ∀G ae t,GI E G ae t->(G.th i).af=true->G.th i=l->View l.ai w ae->∃v l' lower,ae.cell? ad=some (.int .u32 v)/\ae.frozen? ad=false/\cQ E i G ae (ae.setCell ad (.int .u32 (IntKind.u32.wrap (v+1)))) t (semEvents ad) l' true lower/\oE lower E N i l' (ae.setCell ad (.int .u32 (IntKind.u32.wrap (v+1)))) b n (env.put o.dst (.tuple #[])) ds (.inRegion ops rest::k) cs):
  Tk E N i l w b n env ds (.inRegion ops (j::rest)::k) cs:=by
 refine Tk.rP W ho hd aF he fun G ae t fP au ax hv=>?_
 obtain⟨v,l',lower,h1,oD,h2,h3⟩:=h G ae t fP au ax hv
 obtain⟨fn,f1,f2,f3,f4,f5⟩:=he.out
 exact⟨_,_,_,l',lower,fun a ha _=>stepG_semrelease ho (ha.want hw) W.kind aF f1 f2 f3 f4 f5 (by simp[ha.ev hx]) h1 oD,h2,h3⟩
theorem Tk.Be(W:Wk E l b){xs:Array Operand}{x:Operand}{ad:Addr}(Ky:xs[0]?=some x)(ho:ops[j]?=some o)(hw:bj ops env o=some true)(hd:cY n o.dst=true)(aF:o.op= .call {callee:=.value (.func f),args:=xs,argTypes:=iQ})(he:je E.P f Extern.Sync.semacquire)(hx:env.ev x=some (.pointer (some ad)))
  (h: ∀G ae t,GI E G ae t->(G.th i).af=true->G.th i=l->View l.ai w ae->∃v:Int,ae.cell? ad=some (.int .u32 v)/\ae.frozen? ad=false/\((v=0/\G.PK E i)\/(v≠0/\∃l',cQ E i G ae (ae.setCell ad (.int .u32 (v-1))) t (semEvents ad) l' true false/\Tk E N i l' (ae.setCell ad (.int .u32 (v-1))) b n (env.put o.dst (.tuple #[])) ds (.inRegion ops rest::k) cs))):
  Tk E N i l w b n env ds (.inRegion ops (j::rest)::k) cs:=by
 intro a ha dm
 obtain⟨fn,f1,f2,f3,f4,f5⟩:=he.out
 have tL:(xs.map a.eval)[0]?=some (.pointer (some ad)):=by simp[Ky,ha.ev hx]
 refine Tr.KS (aX _ _) W.ch fun G ae t fP au ax hv=>?_
 obtain⟨v,h1,oD,h⟩:=h G ae t fP au ax hv
 rcases h with⟨rfl,hp⟩|⟨cb,l',h2,h3⟩
 ·exact .inl ⟨stepG_semacquire_wait ho (ha.want hw) aF f1 f2 f3 f4 f5 tL h1,hp⟩
 refine .inr ⟨_,_,_,l',stepG_semacquire ho (ha.want hw) W.kind aF f1 f2 f3 f4 f5 tL h1 cb oD,rfl,fun fn pos=>?_,h3 _ (ha.put hd _) (by cases o.dst<;>exact dm)⟩
 obtain⟨G',d,c,hl,_⟩:=h2 fn pos
 exact⟨G',d,.inl (pE ho aF he),hl⟩
theorem Tk.nano(W:Wk E l b){xs:Array Operand}(ho:ops[j]?=some o)(hw:bj ops env o=some true)(hd:cY n o.dst=true)(aF:o.op= .call {callee:=.value (.func f),args:=xs,argTypes:=iQ})
  (he: ∃fn,E.P.funcs[f]?=some fn/\(fn.name== "runtime.NumGoroutine")=false/\fn.body.isNone=true/\Extern.findNext fn=none/\Extern.find fn=some Extern.OsHooks.nano/\fn.norace=true)
  (aJ:l.rel=none) (cP:l.af=true) (h: ∀v ae,View l.ai w ae->Tk E N i l ae b n (env.put o.dst (.int .i64 v)) ds (.inRegion ops rest::k) cs):
  Tk E N i l w b n env ds (.inRegion ops (j::rest)::k) cs:=by
 obtain⟨fn,f1,f2,f3,f4,f5,f6⟩:=he
 refine Tk.rP W ho hd aF ⟨fn,f1,f2,f3,f4,f5⟩ fun G ae t fP au ax hv=>?_
 refine⟨.int .i64 ((ae.os.mono+ae.tick:Nat):Int),ae.later,#[],l,false,fun a ha _=>stepG_nanotime ho (ha.want hw) W.kind aF f1 f2 f3 f4 f5 f6,fun fn pos=>?_,oE.same (h _ _ (hv.trans ⟨Nat.le_refl _,fun _ _=>rfl⟩))⟩
 obtain⟨G',d,c⟩:=fP.E3 (w':=ae.later) (es:= #[]) fn pos au (by simp) rfl rfl rfl ⟨ae.tick,rfl⟩ (.inl (by rw[ax];exact aJ))
 refine⟨G',?_,.inr c,cP,fun e=>by cases e⟩
 have:({G.th i with deaf:=deafBehind (G.th i).deaf #[]}:Lo)=l:=by rw[<-ax];rfl
 rw[this]at d;exact d
end
end Go.Co

namespace Go.Co
open Go Go.Conc
open Go.ConcM (OsLater)
open Go.ConcN (sumTo upd sumTo_upd upd_ne upd_same sumTo_congr le_sumTo sumTo_le)
variable{E:Geo}{N i:Nat}{l:Lo}{w:World}
structure ij(P:Program)(f:FuncId)(nt:Nat)(c:Code)(rs:Array ResultVar):Prop where
 out: ∃fn,P.funcs[f]?=some fn/\(fn.name== "runtime.NumGoroutine")=false/\fn.body=some c/\fn.ntmps=nt/\fn.results=rs
def gq:List Value->Nat->Nv
 | [],_=> []
 |v::vs,j=>(j,v)::gq vs (j+1)
theorem vE: ∀ (vs:List Value) (j k:Nat) (v:Value),(gq vs j).get k=some v->j<=k/\vs[k-j]?=some v
 | [],j,k,v,h=>by cases h
 |x::vs,j,k,v,h=>by
  rw[gq,Nv.get_put]at h
  split at h
  ·rename_i e;subst e;cases h;exact⟨Nat.le_refl _,by simp⟩
  rename_i e
  obtain⟨h1,h2⟩:=vE vs (j+1) k v h
  refine⟨by omega,?_⟩
  obtain⟨m,hm⟩: ∃m,k-j=m+1:=⟨k-j-1,by omega⟩
  rw[hm]
  rw[show k- (j+1)=m by omega]at h2
  simpa using h2
theorem pg{nt:Nat}{args:Array Value}(h:args.size<=nt):Has nt (gq args.toList 0) {tmps:=args++Array.replicate (nt-args.size) undef,defers:= []}:=by
 refine⟨by simp;omega,fun k v hk=>?_⟩
 obtain⟨_,h2⟩:=vE _ _ _ _ hk
 simp only[Nat.sub_zero]at h2
 have bA:k<args.size:=by
  have:=(List.getElem?_eq_some_iff.1 h2).1;simpa using this
 rw[Array.getElem?_append_left bA]
 simpa using h2
section
variable{b:Frame}{n:Nat}{env:Nv}{ds:List Deferred}{k:List Item}{cs:List Frame}
variable{ops:Array Oper}{j:Nat}{rest:List Nat}{o:Oper}{f:FuncId}{iQ:Array TypeId}
theorem Tr.enter{nt:Nat}{c:Code}{rs:Array ResultVar}{args:Array Value}(hb:ij E.P f nt c rs)(ha:args.size<=nt)(h:Tk E N i l w (base f) nt (gq args.toList 0) [] [.code c] cs):Tr E N i l (Conc.G (Frame.enter E.P f args .normal) cs) w:=by
 obtain⟨fn,f1,_,f3,f4,_⟩:=hb.out
 rw[enter_at args f1 f3,f4]
 exact h _ (pg ha) rfl
def eD(env:Nv):List Operand->Option (List Value)
 | []=>some []
 |x::xs=>match env.ev x,eD env xs with
  |some v,some vs=>some (v::vs)
  |_,_=>none
theorem Has.eD{a:Act}(h:Has n env a): ∀ {xs:List Operand} {vs:List Value},Co.eD env xs=some vs->xs.map a.eval=vs
 | [],vs,hx=>by cases hx;rfl
 |x::xs,vs,hx=>by
  unfold Co.eD at hx
  cases h1:env.ev x with
  |none=>rw[h1]at hx;cases hx
  |some v=>
   cases h2:Co.eD env xs with
   |none=>rw[h1,h2]at hx;cases hx
   |some ws=>
    rw[h1,h2]at hx;cases hx
    simp only[List.map_cons,h.ev h1,Has.eD h h2]
theorem Tk.call(W:Wk E l b){xs:Array Operand}{vs:List Value}{nt:Nat}{c:Code}{rs:Array ResultVar}(ho:ops[j]?=some o)(hw:bj ops env o=some true)(hd:cY n o.dst=true)(aF:o.op= .call {callee:=.value (.func f),args:=xs,argTypes:=iQ})(hb:ij E.P f nt c rs)
  (hx:eD env xs.toList=some vs) (h: ∀fr:Frame,(∀l' w' v,Tk E N i l' w' b n (env.put o.dst v) ds (.inRegion ops rest::k) cs->Tr E N i l' (Conc.G (fr.finish v) cs) w')->Tr E N i l (Conc.G (Frame.enter E.P f vs.toArray .normal) (fr::cs)) w):
  Tk E N i l w b n env ds (.inRegion ops (j::rest)::k) cs:=by
 intro a ha dm
 obtain⟨fn,f1,f2,f3,_⟩:=hb.out
 have hm:xs.map a.eval=vs.toArray:=by
  apply Array.toList_inj.1
  simp only[Array.toList_map]
  exact ha.eD hx
 refine Tr.still W.fin (aX _ _) (g':=Conc.G (Frame.enter E.P f vs.toArray .normal) (b.at a (.inRegion ops (j::rest)::k)::cs)) rfl W.ch (fun ae _=>?_) (h _ fun l' w' v hk=>?_)
 ·have hr:=run_call_body (a:=a) (P:=E.P) (w:=ae) aF f1 f2 (by rw[f3];rfl)
  rw[stepG_enter ho (ha.want hw) W.kind hr,hm]
  unfold listed
  rw[events_call_body aF f1 f2 (by rw[f3];rfl),seen_none]
 rw[show(b.at a (.inRegion ops (j::rest)::k)).finish v=b.at (a.put o.dst v) (.inRegion ops rest::k) by rw[Frame.finish_at,ho];rfl]
 exact hk _ (ha.put hd v) (by cases o.dst<;>exact dm)
def fE(E:Geo)(N i:Nat)(l:Lo)(w:World)(b:Frame)(n:Nat)(env:Nv)(ds:List Deferred)(cs:List Frame):Prop:=
 ∀a todo,Has n env a->a.defers=ds->Tr E N i l (Conc.G {b.at a todo with mode:=.returning} cs) w
theorem Tk.ret(W:Wk E l b)(h:fE E N i l w b n env ds cs):Tk E N i l w b n env ds (.code .ret::k) cs:=fun a ha hd=>Tr.ret W.fin W.ch (h a _ ha hd)
theorem Tk.ji(W:Wk E l b)(h:fE E N i l w b n env ds cs):Tk E N i l w b n env ds [] cs:=fun a ha hd=>Tr.ji W.fin W.ch (h a _ ha hd)
theorem fE.leave1(W:Wk E l (base f)){nt:Nat}{c:Code}{r:Tmp}{v:Value}{fr:Frame}(hb:ij E.P f nt c #[.tmp r])(hv:env.get r=some v)(h:Tr E N i l (Conc.G (fr.finish v) cs) w):fE E N i l w (base f) n env [] (fr::cs):=by
 intro a todo ha dm
 obtain⟨fn,f1,_,_,_,f5⟩:=hb.out
 have e:a.tmps.getD r undef=v:=by rw[Array.getD_eq_getD_getElem?,ha.2 r v hv];rfl
 refine Tr.still W.fin (aX _ _) (g':=Conc.G (fr.finish v) cs) rfl W.ch (fun ae _=>?_) h
 exact stepG_leave (b:=base f) rfl dm f1 (by rw[results_tmp f5,e]) (events_results_tmp f5 _ _)
theorem fE.leave0(W:Wk E l (base f)){nt:Nat}{c:Code}{fr:Frame}(hb:ij E.P f nt c #[])(h:Tr E N i l (Conc.G (fr.finish (.tuple #[])) cs) w):fE E N i l w (base f) n env [] (fr::cs):=by
 intro a todo ha dm
 obtain⟨fn,f1,_,_,_,f5⟩:=hb.out
 refine Tr.still W.fin (aX _ _) (g':=Conc.G (fr.finish (.tuple #[])) cs) rfl W.ch (fun ae _=>?_) h
 exact stepG_leave (b:=base f) rfl dm f1 (results_none f5 _ _ _) (events_results_none f5 _ _)
theorem fE.leaveD(W:Wk E l (baseD f)){nt:Nat}{c:Code}{fr:Frame}(hb:ij E.P f nt c #[])(hm:fr.mode= .returning)(h:Tr E N i l (Conc.G fr cs) w):fE E N i l w (baseD f) n env [] (fr::cs):=by
 intro a todo ha dm
 obtain⟨fn,f1,_,_,_,f5⟩:=hb.out
 refine Tr.still W.fin (aX _ _) (g':=Conc.G fr cs) rfl W.ch (fun ae _=>?_) h
 exact stepG_leave_deferred (b:=baseD f) rfl dm f1 (results_none f5 _ _ _) (events_results_none f5 _ _) hm
theorem fE.call(W:Wk E l b){args:Array Value}{nt:Nat}{c:Code}{rs:Array ResultVar}(hb:ij E.P f nt c rs)(ha:args.size<=nt)
  (h: ∀fr:Frame,fr.mode= .returning->(∀l' w',fE E N i l' w' b n env ds cs->Tr E N i l' (Conc.G fr cs) w')->Tk E N i l w (baseD f) nt (gq args.toList 0) [] [.code c] (fr::cs)):fE E N i l w b n env (dcall f args::ds) cs:=by
 intro a todo hh dm
 obtain⟨fn,f1,f2,f3,f4,_⟩:=hb.out
 refine Tr.still W.fin (aX _ _) (g':=Conc.G ((baseD f).at {tmps:=args++Array.replicate (fn.ntmps-args.size) undef,defers:= []} [.code c]) ({b.at ⟨a.tmps,ds⟩ todo with mode:=.returning}::cs)) rfl W.ch (fun ae _=>stepG_unwind_enter dm f1 f2 f3) ?_
 rw[f4]
 exact h _ rfl (fun l' w' hr=>hr ⟨a.tmps,ds⟩ todo hh rfl) _ (pg ha) rfl
theorem fE.mark(W:Wk E l b){m:Mark}(hm: ∀g,m≠ .extern g){args:Array Value}(he:je E.P f (fun _=>do Go.mark m;Pure.pure Extern.Race.none_))
  (h: ∀G ae t,GI E G ae t->(G.th i).af=true->G.th i=l->View l.ai w ae->∃l',cQ E i G ae ae t #[⟨.mark m,false,true⟩] l' true false/\fE E N i l' ae b n env ds cs):fE E N i l w b n env (dcall f args::ds) cs:=by
 intro a todo hh dm
 obtain⟨fn,f1,f2,f3,f4,f5⟩:=he.out
 refine Tr.stop (aX _ _) W.ch fun G ae t fP au ax hv=>?_
 obtain⟨l',h2,h3⟩:=h G ae t fP au ax hv
 refine⟨_,ae,#[⟨.mark m,false,true⟩],l',false,stepG_unwind_entry (v:=Extern.Race.none_) dm f1 f2 f3 f4 f5 (by simp[Extern.Race.none_]) (by simp) (by
  intro x hx
  simp at hx;subst hx
  exact⟨rfl,fun g h=>hm g (by cases h;rfl)⟩),rfl,h2,h3 ⟨a.tmps,ds⟩ todo hh rfl⟩
theorem Tk.defer(W:Wk E l b){xs:Array Operand}{vs:List Value}(ho:ops[j]?=some o)(hw:bj ops env o=some true)(hd:cY n o.dst=true)(aF:o.op= .defer {callee:=.value (.func f),args:=xs,argTypes:=iQ})(hx:eD env xs.toList=some vs)
  (h:Tk E N i l w b n (env.put o.dst undef) (dcall f vs.toArray::ds) (.inRegion ops rest::k) cs):Tk E N i l w b n env ds (.inRegion ops (j::rest)::k) cs:=by
 intro a ha dm
 have hm:xs.map a.eval=vs.toArray:=by
  apply Array.toList_inj.1
  simp only[Array.toList_map]
  exact ha.eD hx
 refine Tr.still W.fin (aX _ _) (g':=Conc.G (b.at (Act.put ⟨a.tmps,dcall f vs.toArray::a.defers⟩ o.dst undef) (.inRegion ops rest::k)) cs) rfl W.ch (fun ae _=>by rw[stepG_defer ho (ha.want hw) W.kind aF,hm]) (h _ ?_ ?_)
 ·have:=ha.put hd undef
  exact⟨by cases eR:o.dst<;>simp_all [Act.put,Has],fun q v hq=>by
   have:=this.2 q v hq
   cases eR:o.dst<;>simp_all [Act.put]⟩
 cases o.dst<;>simp[Act.put,dm]
def bW(P:Program)(t:TypeId):Option Bool:=
 match P.underlying t with
 |some (.struct _)=>some true
 |some (.array _ _)=>some true
 |some _=>some false
 |none=>none
theorem bX{P:Program}{t:TypeId}{b:Bool}(h:bW P t=some b)(w:World):(isAgg t).run P w= .ok b w:=by
 unfold bW at h
 cases hu:P.underlying t with
 |none=>simp[hu]at h
 |some d=>
  have hr:=run_underlying hu w
  cases d<;>simp[hu]at h<;>subst h<;>simp[isAgg,hr]
theorem uG{P:Program}{a:Act}{o:Oper}{t:TypeId}{x:Operand}{ad:Addr}{v:Value}{w:World}(ho:o.op= .load t x)(hx:a.eval x= .pointer (some ad))(ha:bW P t=some false)(hc:w.cell? ad=some v):
  (execOp a.eval o).run P w= .ok (.value v) w/\(execOp a.eval o).events P w #[]= #[⟨.cell ad,false,false⟩]:=by
 have hu: ∃d,P.underlying t=some d:=by
  unfold bW at ha
  cases hu:P.underlying t with
  |none=>simp[hu]at ha
  |some d=>exact⟨d,rfl⟩
 obtain⟨d,hd⟩:=hu
 have h1:=run_underlying hd w
 have VJ: ∀w,(isAgg t).run P w= .ok false w:=bX ha
 have gk: ∀es,(isAgg t).events P w es=es:=fun es=>by
  unfold bW at ha
  rw[hd]at ha
  cases d<;>simp at ha<;>simp[isAgg,h1,events_underlying]
 constructor
 ·simp[execOp,ho,hx,Instr.loadAt,Instr.sureAddr,loadVar,VJ,hc]
 simp[execOp,ho,hx,Instr.loadAt,Instr.sureAddr,loadVar,VJ,gk,hc,events_load]
theorem vn{P:Program}{fn:FuncId}{ad:Addr}(hq:(P.funcs[fn]?).any (·.norace)=true):seen P fn #[⟨.cell ad,false,false⟩]= #[]:=by
 rw[seen_def];simp[seenStep,hq]
theorem rz{P:Program}{fn:FuncId}{ad:Addr}{wr:Bool}(hq:(P.funcs[fn]?).any (·.norace)=false):seen P fn #[⟨.cell ad,wr,false⟩]= #[⟨.cell ad,wr,false⟩]:=by
 rw[seen_def];simp[seenStep,hq]
theorem Tk.nX(W:Wk E l b){t:TypeId}{x:Operand}{ad:Addr}(hq:(E.P.funcs[b.fn]?).any (·.norace)=true)(ho:ops[j]?=some o)(hw:bj ops env o=some true)(hd:cY n o.dst=true)(aF:o.op= .load t x)(ht:bW E.P t=some false)(hx:env.ev x=some (.pointer (some ad)))
  (h: ∀G ae u,GI E G ae u->(G.th i).af=true->G.th i=l->View l.ai w ae->∃v l' lower,ae.cell? ad=some v/\(∃G',oe E i G G' ae ae u l'/\Calm E G G'/\l'.af=true/\(lower=true->G'.Φ E.K E.nj<G.Φ E.K E.nj))/\oE lower E N i l' ae b n (env.put o.dst v) ds (.inRegion ops rest::k) cs):
  Tk E N i l w b n env ds (.inRegion ops (j::rest)::k) cs:=by
 refine Tk.stop W ho hd fun G ae u fP au ax hv=>?_
 obtain⟨v,l',lower,h1,⟨G',d,c,e,f⟩,h3⟩:=h G ae u fP au ax hv
 refine⟨v,ae,#[],l',lower,fun a ha _=>⟨?_,fun fn pos=>⟨G',by simpa [MemOp.ofEvents]using d,.inr c,e,f⟩⟩,h3⟩
 obtain⟨r1,r2⟩:=uG (P:=E.P) (a:=a) aF (ha.ev hx) ht h1
 rw[stepG_value ho (ha.want hw) W.kind r1]
 unfold listed
 rw[r2,vn hq]
theorem Tk.Wg(W:Wk E l b){t:TypeId}{x:Operand}{ad:Addr}(hq:(E.P.funcs[b.fn]?).any (·.norace)=false)(ho:ops[j]?=some o)(hw:bj ops env o=some true)(hd:cY n o.dst=true)(aF:o.op= .load t x)(ht:bW E.P t=some false)(hx:env.ev x=some (.pointer (some ad)))
  (h: ∀G ae u,GI E G ae u->(G.th i).af=true->G.th i=l->View l.ai w ae->∃v l' lower,ae.cell? ad=some v/\(∀fn pos,∃G',oe E i G G' ae ae (u++MemOp.ofEvents i fn pos #[⟨.cell ad,false,false⟩]) l'/\Calm E G G'/\l'.af=true/\(lower=true->G'.Φ E.K E.nj<G.Φ E.K E.nj))/\oE lower E N i l' ae b n (env.put o.dst v) ds (.inRegion ops rest::k) cs):
  Tk E N i l w b n env ds (.inRegion ops (j::rest)::k) cs:=by
 refine Tk.stop W ho hd fun G ae u fP au ax hv=>?_
 obtain⟨v,l',lower,h1,h2,h3⟩:=h G ae u fP au ax hv
 refine⟨v,ae,#[⟨.cell ad,false,false⟩],l',lower,fun a ha _=>⟨?_,fun fn pos=>?_⟩,h3⟩
 ·obtain⟨r1,r2⟩:=uG (P:=E.P) (a:=a) aF (ha.ev hx) ht h1
  rw[stepG_value ho (ha.want hw) W.kind r1]
  unfold listed
  rw[r2,rz hq]
 obtain⟨G',d,c,e,f⟩:=h2 fn pos
 exact⟨G',d,.inr c,e,f⟩
theorem Tk.gS(W:Wk E l b){t:TypeId}{x:Operand}{ad:Addr}{v:Value}(aJ:l.rel=none)(ho:ops[j]?=some o)(hw:bj ops env o=some true)(hd:cY n o.dst=true)(aF:o.op= .load t x)(ht:bW E.P t=some false)(hx:env.ev x=some (.pointer (some ad)))
  (aN:l.ai ad.block) (hc:w.cell? ad=some v) (h:Tk E N i l w b n (env.put o.dst v) ds (.inRegion ops rest::k) cs):
  Tk E N i l w b n env ds (.inRegion ops (j::rest)::k) cs:=by
 intro a ha dm
 refine Tr.tS (aX _ _) W.ch fun ae hv=>?_
 have IB:ae.cell? ad=some v:=by
  have:=hv.2 _ aN
  rw[(cE this).1];exact hc
 obtain⟨r1,r2⟩:=uG (P:=E.P) (a:=a) aF (ha.ev hx) ht IB
 refine⟨Conc.G (b.at (a.put o.dst v) (.inRegion ops rest::k)) cs,ae,_,stepG_value ho (ha.want hw) W.kind r1,rfl,⟨Nat.le_refl _,fun _ _ _=>rfl,rfl,rfl,rfl,fun e he=>?_⟩,fun hr=>absurd aJ hr,?_⟩
 ·unfold listed at he
  rw[r2]at he
  have:e=⟨.cell ad,false,false⟩:=by
   cases hq:(E.P.funcs[b.fn]?).any (·.norace)with
   |true=>rw[vn hq]at he;simp at he
   |false=>rw[rz hq]at he;simpa using he
  subst this
  exact .inl ⟨ad,false,false,rfl,.inl aN⟩
 rw[Lo.gJ]
 exact Tr.view W.fin (h _ (ha.put hd v) (by cases o.dst<;>exact dm)) hv
end
end Go.Co

namespace Go.Co
open Go Go.Conc
open Go.ConcM (OsLater)
open Go.ConcN (sumTo upd sumTo_upd upd_ne upd_same sumTo_congr le_sumTo sumTo_le)
variable{E:Geo}{N i:Nat}{l:Lo}{w:World}
structure ay(P:Program)(E:Geo)(l:Lo)(b:Frame):Prop where
 wk:Wk E l b
 hP:E.P=P
def ah(E:Geo)(N i:Nat)(l:Lo)(w:World)(b:Frame)(n:Nat)(env:Nv)(ds:List Deferred)(ops:Array Oper)(j:Nat)(k:List Item)(cs:List Frame):Prop:=
 Tk E N i l w b n env ds (.inRegion ops (List.range' j (ops.size-j))::k) cs
section
variable{P:Program}{b:Frame}{n:Nat}{env:Nv}{ds:List Deferred}{k:List Item}{cs:List Frame}
variable{ops:Array Oper}{j:Nat}{o:Oper}{f:FuncId}{iQ:Array TypeId}
theorem Tk.reg(W:ay P E l b){x:Nat}(h:ah E N i l w b n env ds ops 0 k cs):Tk E N i l w b n env ds (.code (.region x ops false)::k) cs:=by
 refine Tk.region W.wk ?_
 have e:List.range ops.size=List.range' 0 (ops.size-0):=by rw[List.range_eq_range'];rfl
 rw[e];exact h
theorem ah.open(ho:ops[j]?=some o)(h:Tk E N i l w b n env ds (.inRegion ops (j::List.range' (j+1) (ops.size- (j+1)))::k) cs):ah E N i l w b n env ds ops j k cs:=by
 have bA:=(Array.getElem?_eq_some_iff.1 ho).1
 unfold ah
 rw[show ops.size-j=(ops.size- (j+1))+1 by omega,List.range'_succ]
 exact h
theorem ah.done(W:ay P E l b)(ho:ops[j]?=none)(h:Tk E N i l w b n env ds k cs):ah E N i l w b n env ds ops j k cs:=by
 have Yq:=Array.getElem?_eq_none_iff.1 ho
 unfold ah
 rw[show ops.size-j=0 by omega]
 exact Tk.p8 W.wk h
theorem ah.pure(W:ay P E l b){v:Value}(ho:ops[j]?=some o)(hw:bj ops env o=some true)(hd:cY n o.dst=true)(hp:bR P env o v)(h:ah E N i l w b n (env.put o.dst v) ds ops (j+1) k cs):ah E N i l w b n env ds ops j k cs:=
 ah.open ho (Tk.pure W.wk ho hw hd (by rw[W.hP];exact hp) h)
theorem ah.unwanted(W:ay P E l b)(ho:ops[j]?=some o)(hw:bj ops env o=some false)(hd:cY n o.dst=true)(h:ah E N i l w b n (env.put o.dst undef) ds ops (j+1) k cs):ah E N i l w b n env ds ops j k cs:=
 ah.open ho (Tk.unwanted W.wk ho hw hd h)
theorem ah.call(W:ay P E l b){xs:Array Operand}{vs:List Value}{nt:Nat}{c:Code}{rs:Array ResultVar}(ho:ops[j]?=some o)(hw:bj ops env o=some true)(hd:cY n o.dst=true)(aF:o.op= .call {callee:=.value (.func f),args:=xs,argTypes:=iQ})(hb:ij P f nt c rs)
  (hx:eD env xs.toList=some vs) (h: ∀fr:Frame,(∀l' w' v,ah E N i l' w' b n (env.put o.dst v) ds ops (j+1) k cs->Tr E N i l' (Conc.G (fr.finish v) cs) w')->Tr E N i l (Conc.G (Frame.enter P f vs.toArray .normal) (fr::cs)) w):
  ah E N i l w b n env ds ops j k cs:=
 ah.open ho (Tk.call W.wk ho hw hd aF (by rw[W.hP];exact hb) hx (by rw[W.hP];exact h))
theorem Tr.ck(hP:E.P=P){nt:Nat}{c:Code}{rs:Array ResultVar}{args:Array Value}(hb:ij P f nt c rs)(ha:args.size<=nt)(h:Tk E N i l w (base f) nt (gq args.toList 0) [] [.code c] cs):Tr E N i l (Conc.G (Frame.enter P f args .normal) cs) w:=by
 subst hP;exact Tr.enter hb ha h
theorem ah.defer(W:ay P E l b){xs:Array Operand}{vs:List Value}(ho:ops[j]?=some o)(hw:bj ops env o=some true)(hd:cY n o.dst=true)(aF:o.op= .defer {callee:=.value (.func f),args:=xs,argTypes:=iQ})(hx:eD env xs.toList=some vs)
  (h:ah E N i l w b n (env.put o.dst undef) (dcall f vs.toArray::ds) ops (j+1) k cs):ah E N i l w b n env ds ops j k cs:=
 ah.open ho (Tk.defer W.wk ho hw hd aF hx h)
theorem ah.qx(W:ay P E l b){v:Value}{d:Nat}(ho:ops[j]?=some o)(hw:bj ops env o=some true)(eR:o.dst=some d)(hd:Nat.blt d n=true)(hp:bR P env o v)(h:ah E N i l w b n ((d,v)::env) ds ops (j+1) k cs):ah E N i l w b n env ds ops j k cs:=
 ah.pure W ho hw (by rw[eR];exact hd) hp (by rw[eR];exact h)
theorem ah.cj(W:ay P E l b){d:Nat}(ho:ops[j]?=some o)(hw:bj ops env o=some false)(eR:o.dst=some d)(hd:Nat.blt d n=true)(h:ah E N i l w b n ((d,undef)::env) ds ops (j+1) k cs):ah E N i l w b n env ds ops j k cs:=
 ah.unwanted W ho hw (by rw[eR];exact hd) (by rw[eR];exact h)
theorem ah.lay{env':Nv}(e:env=env')(h:ah E N i l w b n env' ds ops j k cs):ah E N i l w b n env ds ops j k cs:=e▸h
theorem Tk.lay{env':Nv}(e:env=env')(h:Tk E N i l w b n env' ds k cs):Tk E N i l w b n env ds k cs:=e▸h
def cd(lower:Bool)(E:Geo)(N i:Nat)(l:Lo)(w:World)(b:Frame)(n:Nat)(env:Nv)(ds:List Deferred)(ops:Array Oper)(j:Nat)(k:List Item)(cs:List Frame):Prop:=
 oE lower E N i l w b n env ds (.inRegion ops (List.range' j (ops.size-j))::k) cs
theorem cd.same(h:ah E N i l w b n env ds ops j k cs):cd false E N i l w b n env ds ops j k cs:=oE.same h
theorem ah.zY(W:ay P E l b){x:Operand}{kk:IntKind}{ad:Addr}(ho:ops[j]?=some o)(hw:bj ops env o=some true)(hd:cY n o.dst=true)(aF:o.op= .call {callee:=.value (.func f),args:= #[x],argTypes:=iQ})(he:je P f (Extern.Atomic.loadT (.int kk)))(hx:env.ev x=some (.pointer (some ad)))
  (h: ∀G ae t,GI E G ae t->(G.th i).af=true->G.th i=l->View l.ai w ae->∃v l' lower,ae.cell? ad=some (.int kk v)/\cQ E i G ae ae t #[⟨.cell ad,false,true⟩] l' true lower/\cd lower E N i l' ae b n (env.put o.dst (.int kk v)) ds ops (j+1) k cs):
  ah E N i l w b n env ds ops j k cs:=ah.open ho (Tk.zY W.wk ho hw hd aF (by rw[W.hP];exact he) hx h)
theorem ah.BB(W:ay P E l b){x y:Operand}{kk:IntKind}{ad:Addr}{v:Int}(ho:ops[j]?=some o)(hw:bj ops env o=some true)(hd:cY n o.dst=true)(aF:o.op= .call {callee:=.value (.func f),args:= #[x,y],argTypes:=iQ})(he:je P f Extern.Atomic.storeT)(hx:env.ev x=some (.pointer (some ad)))(hy:env.ev y=some (.int kk v))
  (h: ∀G ae t,GI E G ae t->(G.th i).af=true->G.th i=l->View l.ai w ae->∃u l' lower,ae.cell? ad=some u/\ae.frozen? ad=false/\cQ E i G ae (ae.setCell ad (.int kk v)) t #[⟨.cell ad,true,true⟩] l' true lower/\cd lower E N i l' (ae.setCell ad (.int kk v)) b n (env.put o.dst (.tuple #[])) ds ops (j+1) k cs):
  ah E N i l w b n env ds ops j k cs:=ah.open ho (Tk.BB W.wk ho hw hd aF (by rw[W.hP];exact he) hx hy h)
theorem ah.CU(W:ay P E l b){x y:Operand}{kk:IntKind}{ad:Addr}{d:Int}(ho:ops[j]?=some o)(hw:bj ops env o=some true)(hd:cY n o.dst=true)(aF:o.op= .call {callee:=.value (.func f),args:= #[x,y],argTypes:=iQ})(he:je P f (Extern.Atomic.update (Op.intArith .add) kk true))(hx:env.ev x=some (.pointer (some ad)))(hy:env.ev y=some (.int kk d))
  (h: ∀G ae t,GI E G ae t->(G.th i).af=true->G.th i=l->View l.ai w ae->∃v l' lower,ae.cell? ad=some (.int kk v)/\ae.frozen? ad=false/\cQ E i G ae (ae.setCell ad (.int kk (kk.wrap (v+d)))) t (nT ad) l' true lower/\
   cd lower E N i l' (ae.setCell ad (.int kk (kk.wrap (v+d)))) b n (env.put o.dst (.int kk (kk.wrap (v+d)))) ds ops (j+1) k cs):
  ah E N i l w b n env ds ops j k cs:=ah.open ho (Tk.CU W.wk ho hw hd aF (by rw[W.hP];exact he) hx hy h)
theorem ah.Rh(W:ay P E l b){x y z:Operand}{kk:IntKind}{ad:Addr}{v0 v1:Int}(ho:ops[j]?=some o)(hw:bj ops env o=some true)(hd:cY n o.dst=true)(aF:o.op= .call {callee:=.value (.func f),args:= #[x,y,z],argTypes:=iQ})(he:je P f (Extern.Atomic.casT (.int kk)))
  (hx:env.ev x=some (.pointer (some ad))) (hy:env.ev y=some (.int kk v0)) (hz:env.ev z=some (.int kk v1))
  (h: ∀G ae t,GI E G ae t->(G.th i).af=true->G.th i=l->View l.ai w ae->∃v l' lower,ae.cell? ad=some (.int kk v)/\ae.frozen? ad=false/\
   (
   (v=v0/\cQ E i G ae (ae.setCell ad (.int kk v1)) t (nT ad) l' true lower/\cd lower E N i l' (ae.setCell ad (.int kk v1)) b n (env.put o.dst (.bool true)) ds ops (j+1) k cs)\/
   (v≠v0/\cQ E i G ae ae t #[⟨.cell ad,false,true⟩] l' true lower/\cd lower E N i l' ae b n (env.put o.dst (.bool false)) ds ops (j+1) k cs))):
  ah E N i l w b n env ds ops j k cs:=ah.open ho (Tk.Rh W.wk ho hw hd aF (by rw[W.hP];exact he) hx hy hz h)
theorem ah.jk(W:ay P E l b){m:Mark}(hm: ∀g,m≠ .extern g){xs:Array Operand}(ho:ops[j]?=some o)(hw:bj ops env o=some true)(hd:cY n o.dst=true)(aF:o.op= .call {callee:=.value (.func f),args:=xs,argTypes:=iQ})(he:je P f (fun _=>do mark m;Pure.pure Extern.Race.none_))
  (h: ∀G ae t,GI E G ae t->(G.th i).af=true->G.th i=l->View l.ai w ae->∃l' lower,cQ E i G ae ae t #[⟨.mark m,false,true⟩] l' true lower/\cd lower E N i l' ae b n (env.put o.dst (.tuple #[])) ds ops (j+1) k cs):
  ah E N i l w b n env ds ops j k cs:=ah.open ho (Tk.jk W.wk hm ho hw hd aF (by rw[W.hP];exact he) h)
theorem ah.l7(W:ay P E l b){mk:Addr->Mark}(hm: ∀ad g,mk ad≠ .extern g){x:Operand}{ad:Addr}(ho:ops[j]?=some o)(hw:bj ops env o=some true)(hd:cY n o.dst=true)(aF:o.op= .call {callee:=.value (.func f),args:= #[x],argTypes:=iQ})(he:je P f (Extern.Race.marked mk))(hx:env.ev x=some (.pointer (some ad)))
  (h: ∀G ae t,GI E G ae t->(G.th i).af=true->G.th i=l->View l.ai w ae->∃l' lower,cQ E i G ae ae t #[⟨.mark (mk ad),false,true⟩] l' true lower/\cd lower E N i l' ae b n (env.put o.dst (.tuple #[])) ds ops (j+1) k cs):
  ah E N i l w b n env ds ops j k cs:=ah.open ho (Tk.l7 W.wk hm ho hw hd aF (by rw[W.hP];exact he) hx h)
theorem ah.Bd(W:ay P E l b){x y z:Operand}{ad:Addr}(ho:ops[j]?=some o)(hw:bj ops env o=some true)(hd:cY n o.dst=true)(aF:o.op= .call {callee:=.value (.func f),args:= #[x,y,z],argTypes:=iQ})(he:je P f Extern.Sync.semrelease)(hx:env.ev x=some (.pointer (some ad)))
  (h: ∀G ae t,GI E G ae t->(G.th i).af=true->G.th i=l->View l.ai w ae->∃v l' lower,ae.cell? ad=some (.int .u32 v)/\ae.frozen? ad=false/\cQ E i G ae (ae.setCell ad (.int .u32 (IntKind.u32.wrap (v+1)))) t (semEvents ad) l' true lower/\cd lower E N i l' (ae.setCell ad (.int .u32 (IntKind.u32.wrap (v+1)))) b n (env.put o.dst (.tuple #[])) ds ops (j+1) k cs):
  ah E N i l w b n env ds ops j k cs:=ah.open ho (Tk.Bd W.wk ho hw hd aF (by rw[W.hP];exact he) hx h)
theorem ah.Be(W:ay P E l b){xs:Array Operand}{x:Operand}{ad:Addr}(Ky:xs[0]?=some x)(ho:ops[j]?=some o)(hw:bj ops env o=some true)(hd:cY n o.dst=true)(aF:o.op= .call {callee:=.value (.func f),args:=xs,argTypes:=iQ})(he:je P f Extern.Sync.semacquire)(hx:env.ev x=some (.pointer (some ad)))
  (h: ∀G ae t,GI E G ae t->(G.th i).af=true->G.th i=l->View l.ai w ae->∃v:Int,ae.cell? ad=some (.int .u32 v)/\ae.frozen? ad=false/\((v=0/\G.PK E i)\/(v≠0/\∃l',cQ E i G ae (ae.setCell ad (.int .u32 (v-1))) t (semEvents ad) l' true false/\ah E N i l' (ae.setCell ad (.int .u32 (v-1))) b n (env.put o.dst (.tuple #[])) ds ops (j+1) k cs))):
  ah E N i l w b n env ds ops j k cs:=ah.open ho (Tk.Be W.wk Ky ho hw hd aF (by rw[W.hP];exact he) hx h)
theorem ah.nX(W:ay P E l b){t:TypeId}{x:Operand}{ad:Addr}(hq:(P.funcs[b.fn]?).any (·.norace)=true)(ho:ops[j]?=some o)(hw:bj ops env o=some true)(hd:cY n o.dst=true)(aF:o.op= .load t x)(ht:bW P t=some false)(hx:env.ev x=some (.pointer (some ad)))
  (h: ∀G ae u,GI E G ae u->(G.th i).af=true->G.th i=l->View l.ai w ae->∃v l' lower,ae.cell? ad=some v/\(∃G',oe E i G G' ae ae u l'/\Calm E G G'/\l'.af=true/\(lower=true->G'.Φ E.K E.nj<G.Φ E.K E.nj))/\cd lower E N i l' ae b n (env.put o.dst v) ds ops (j+1) k cs):
  ah E N i l w b n env ds ops j k cs:=ah.open ho (Tk.nX W.wk (by rw[W.hP];exact hq) ho hw hd aF (by rw[W.hP];exact ht) hx h)
theorem ah.Ff(W:ay P E l b){xs:Array Operand}{e:Array Value->Sem Value}{v:Value}(zaA:l.af=true)(zaG:l.rel=none\/True)(ho:ops[j]?=some o)(hw:bj ops env o=some true)(hd:cY n o.dst=true)(aF:o.op= .call {callee:=.value (.func f),args:=xs,argTypes:=iQ})(he:je P f e)(hv: ∀vs,e vs=Pure.pure v)
  (h:ah E N i l w b n (env.put o.dst v) ds ops (j+1) k cs):ah E N i l w b n env ds ops j k cs:=by
 refine ah.open ho ?_
 intro a ha dm
 obtain⟨fn,f1,f2,f3,f4,f5⟩:=he.out
 refine Tr.still W.wk.fin (aX _ _) (g':=Conc.G (b.at (a.put o.dst v) (.inRegion ops (List.range' (j+1) (ops.size- (j+1)))::k)) cs) rfl W.wk.ch (fun ae _=>?_) (h _ (ha.put hd v) (by cases o.dst<;>exact dm))
 exact stepG_entry ho (ha.want hw) W.wk.kind aF (by rw[W.hP];exact f1) f2 f3 f4 f5 (by rw[hv];rfl) (by rw[hv];simp) (by simp)
end
theorem oe.id{G:Gh}{t:Trace}(h:GI E G w t):oe E i G G w w t (G.th i):=⟨h,rfl,fun _ _=>rfl,rfl,fun _ _ _=>View.refl _ _,Nat.le_refl _⟩
theorem Calm.id(G:Gh):Calm E G G:=⟨fun _ h=>h,rfl⟩
end Go.Co

namespace Go.Co
open Go Go.Conc
open Go.ConcM (OsLater)
open Go.ConcN (sumTo upd sumTo_upd upd_ne upd_same sumTo_congr le_sumTo sumTo_le)
variable{E:Geo}{N i:Nat}{l:Lo}{w:World}
theorem AJ{P:Program}{a:Act}{o:Oper}{s d te:TypeId}{x:Operand}{ad:Addr}{v:Value}{w:World}(ho:o.op= .convert s d x)(hx:a.eval x= .pointer (some ad))(hs:P.underlying s=some (.pointer te))(hd:P.underlying d=some .unsafePointer)(hz:P.cellsOf te≠0)(hc:w.cell? ad=some v):
  (execOp a.eval o).run P w= .ok (.value (.pointer (some ad))) w/\(execOp a.eval o).events P w #[]= #[]:=by
 have h1:=run_underlying hs w
 have h2:=run_underlying hd w
 have hi: ∃i,P.info? te=some i:=by
  unfold Program.cellsOf at hz
  cases hi:P.info? te with
  |none=>simp[hi]at hz
  |some i=>exact⟨i,rfl⟩
 obtain⟨inf,hi⟩:=hi
 have h3:=iK hi w
 have mA: ∃c e f,w.heap[ad.block]?=some (.cells c e f)/\ad.off<c.size:=by
  unfold World.cell? at hc
  split at hc
  ·rename_i c e f hh
   split at hc
   ·cases hc
   exact⟨c,e,f,hh,(Array.getElem?_eq_some_iff.1 hc).1⟩
  cases hc
 obtain⟨c,e,f,hh,bA⟩:=mA
 have Mo:w.shape? ad.block=some (e,c.size):=by unfold World.shape?;rw[hh]
 have za:(shape ad.block).run P w= .ok (some (e,c.size)) w/\∀es,(shape ad.block).events P w es=es:=by
  constructor
  ·simp[shape,Sem.run,Mo]
  intro es;simp[shape,Sem.events,Sem.runT,Mo]
 have hv:(viewAt ad.block).run P w= .ok none w/\∀es,(viewAt ad.block).events P w es=es:=by
  constructor
  ·simp[viewAt,za.1]
  intro es;simp[viewAt,za.1,za.2]
 have Yy:(cellsIn ad.block).run P w= .ok (some c.size) w/\∀es,(cellsIn ad.block).events P w es=es:=by
  constructor
  ·simp[cellsIn,za.1]
  intro es;simp[cellsIn,za.1,za.2]
 have KA: ¬(ad.off>=c.size):=by omega
 constructor
 ·simp[execOp,ho,hx,convert,h1,h2,Conv.unsafePointer,Conv.seenAt,hv.1,Yy.1,h3,hz]
  intro x;omega
 simp[execOp,ho,hx,convert,h1,h2,Conv.unsafePointer,Conv.seenAt,hv.1,hv.2,Yy.1,Yy.2,h3,events_underlying,events_sizeOf]
section
variable{P:Program}{b:Frame}{n:Nat}{env:Nv}{ds:List Deferred}{k:List Item}{cs:List Frame}
variable{ops:Array Oper}{j:Nat}{o:Oper}
theorem ah.conv(W:ay P E l b){s d te:TypeId}{x:Operand}{y:SC}{dd:Nat}(hy:y.ok E.K)(cP:l.af=true)(ho:ops[j]?=some o)(hw:bj ops env o=some true)(eR:o.dst=some dd)(hd:Nat.blt dd n=true)(aF:o.op= .convert s d x)(hs:P.underlying s=some (.pointer te))(hu:P.underlying d=some .unsafePointer)(hz:P.cellsOf te≠0)
  (hx:env.ev x=some (.pointer (some (E.sc y)))) (h:ah E N i l w b n ((dd,.pointer (some (E.sc y)))::env) ds ops (j+1) k cs):ah E N i l w b n env ds ops j k cs:=by
 refine ah.open ho (Tk.stop W.wk ho (by rw[eR];exact hd) fun G ae t hg au ax hv=>?_)
 refine⟨.pointer (some (E.sc y)),ae,#[],l,false,fun a ha _=>⟨?_,fun fn pos=>⟨G,?_,.inr (Calm.id G),cP,fun e=>by cases e⟩⟩,oE.same ?_⟩
 ·obtain⟨r1,r2⟩:=AJ (P:=E.P) (a:=a) aF (ha.ev hx) (by rw[W.hP];exact hs) (by rw[W.hP];exact hu) (by rw[W.hP];exact hz) (hg.m.sync y hy).1
  rw[stepG_value ho (ha.want hw) W.wk.kind r1]
  unfold listed
  rw[r2,seen_none]
 ·have:=oe.id (i:=i) hg
  rw[ax]at this
  simpa [MemOp.ofEvents]using this
 have:=fun a ha dm=>(h a ha dm).view W.wk.fin hv
 intro a ha dm
 refine this a ?_ dm
 rw[eR]at ha;exact ha
end
end Go.Co

namespace Go.Co.F1
open Go Go.Conc Go.Proofs
open Go.Co
variable{E:Geo}{N i:Nat}{l:Lo}{w:World}
noncomputable def c50:Code:=(Try.f72.body).getD .skip
theorem Qd:ij Try.prog 72 8 c50 #[.tmp 2]:=⟨Try.f72,Try.func72,by decide+kernel,rfl,rfl,rfl⟩
theorem e52:je Try.prog 78 (Extern.Atomic.loadT (.int .u32)):=⟨Try.f78,Try.func78,by decide+kernel,rfl,by rfl,by rfl⟩
end Go.Co.F1

namespace Go.Co
open Go Go.Conc
variable{E:Geo}{N i:Nat}{l:Lo}{w:World}{P:Program}{b:Frame}{n:Nat}{env:Nv}{ds:List Deferred}{k:List Item}{cs:List Frame}{ops:Array Oper}{j:Nat}{o:Oper}
theorem ah.pS(W:ay P E l b){v:Value}{d:Nat}(ho:ops[j]?=some o:=by rfl)(hw:bj ops env o=some true:=by rfl)(eR:o.dst=some d:=by rfl)(hd:Nat.blt d n=true:=by rfl)(hp:bR P env o v)(h:ah E N i l w b n ((d,v)::env) ds ops (j+1) k cs):ah E N i l w b n env ds ops j k cs:=ah.qx W ho hw eR hd hp h
theorem ah.dn(W:ay P E l b)(h:Tk E N i l w b n env ds k cs)(ho:ops[j]?=none:=by rfl):ah E N i l w b n env ds ops j k cs:=ah.done W ho h
theorem ah.bx{d:Option Nat}{v:Value}{p:Nat×Value}{r:Nv}(h:ah E N i l w b n (p::r) ds ops j k cs)(e:Nv.put env d v=p::r:=by rfl):ah E N i l w b n (Nv.put env d v) ds ops j k cs:=ah.lay e h
end Go.Co

namespace Go.Co.F1
open Go Go.Conc Go.Proofs
open Go.Co
variable{E:Geo}{N i:Nat}{l:Lo}{w:World}
set_option maxRecDepth 10000
end Go.Co.F1

namespace Go.Co.F1
open Go Go.Conc Go.Proofs
open Go.Co
theorem ca{p:Nat->Bool->Bool->Bool->Prop}(h: ∀ (q:Fin 64) (l w s:Bool),p q.val l w s){q:Nat}(hq:q<64)(l w s:Bool):p q l w s:=h ⟨q,hq⟩ l w s
def EC(r:Option Value)(n:Int):Bool:=match r with
 |some (.int .i32 m)=>m==n
 |_=>false
theorem gU{r:Option Value}{n:Int}(h:EC r n=true):r=some (.int .i32 n):=by
 unfold EC at h
 split at h
 ·rename_i m;simp at h;rw[h]
 cases h
def ie(q:Nat)(l w s:Bool):Int:=((l.toNat+2*w.toNat+4*s.toNat+8*q:Nat):Int)
theorem fV(x:Wd):x.enc=ie x.q x.l x.w x.s:=rfl
theorem zal{x:Wd}(h:x.q<64):cV .and .i32 x.enc 5=some (.int .i32 (x.l.toNat+4*x.s.toNat:Nat)):=by
 rw[fV];exact gU (ca (p:=fun q l w s=>EC (cV .and .i32 (ie q l w s) 5) ((l.toNat+4*s.toNat:Nat))=true) (by decide+kernel) h _ _ _)
theorem zap{x:Wd}(h:x.q<64):cV .and .i32 x.enc 1=some (.int .i32 (x.l.toNat:Nat)):=by
 rw[fV];exact gU (ca (p:=fun q l w s=>EC (cV .and .i32 (ie q l w s) 1) ((l.toNat:Nat))=true) (by decide+kernel) h _ _ _)
theorem zao{x:Wd}(h:x.q<64):cV .and .i32 x.enc 2=some (.int .i32 (2*x.w.toNat:Nat)):=by
 rw[fV];exact gU (ca (p:=fun q l w s=>EC (cV .and .i32 (ie q l w s) 2) ((2*w.toNat:Nat))=true) (by decide+kernel) h _ _ _)
theorem zan{x:Wd}(h:x.q<64):cV .and .i32 x.enc 3=some (.int .i32 (x.l.toNat+2*x.w.toNat:Nat)):=by
 rw[fV];exact gU (ca (p:=fun q l w s=>EC (cV .and .i32 (ie q l w s) 3) ((l.toNat+2*w.toNat:Nat))=true) (by decide+kernel) h _ _ _)
theorem zam{x:Wd}(h:x.q<64):cV .and .i32 x.enc 4=some (.int .i32 (4*x.s.toNat:Nat)):=by
 rw[fV];exact gU (ca (p:=fun q l w s=>EC (cV .and .i32 (ie q l w s) 4) ((4*s.toNat:Nat))=true) (by decide+kernel) h _ _ _)
theorem zak{x:Wd}(h:x.q<64):cV .and .i32 x.enc 7=some (.int .i32 (x.l.toNat+2*x.w.toNat+4*x.s.toNat:Nat)):=by
 rw[fV];exact gU (ca (p:=fun q l w s=>EC (cV .and .i32 (ie q l w s) 7) ((l.toNat+2*w.toNat+4*s.toNat:Nat))=true) (by decide+kernel) h _ _ _)
theorem Y4{x:Wd}(h:x.q<64):oV .shr .i32 x.enc 3=some (.int .i32 (x.q:Nat)):=by
 rw[fV];exact gU (ca (p:=fun q l w s=>EC (oV .shr .i32 (ie q l w s) 3) ((q:Nat))=true) (by decide+kernel) h _ _ _)
theorem or1{x:Wd}(h:x.q<64):cV .or .i32 x.enc 1=some (.int .i32 (Wd.enc {x with l:=true})):=by
 rw[fV];exact gU (ca (p:=fun q l w s=>EC (cV .or .i32 (ie q l w s) 1) (ie q true w s)=true) (by decide+kernel) h _ _ _)
theorem or2{x:Wd}(h:x.q<64):cV .or .i32 x.enc 2=some (.int .i32 (Wd.enc {x with w:=true})):=by
 rw[fV];exact gU (ca (p:=fun q l w s=>EC (cV .or .i32 (ie q l w s) 2) (ie q l true s)=true) (by decide+kernel) h _ _ _)
theorem or4{x:Wd}(h:x.q<64):cV .or .i32 x.enc 4=some (.int .i32 (Wd.enc {x with s:=true})):=by
 rw[fV];exact gU (ca (p:=fun q l w s=>EC (cV .or .i32 (ie q l w s) 4) (ie q l w true)=true) (by decide+kernel) h _ _ _)
theorem zaf{x:Wd}(h:x.q<64):cV .andNot .i32 x.enc 2=some (.int .i32 (Wd.enc {x with w:=false})):=by
 rw[fV];exact gU (ca (p:=fun q l w s=>EC (cV .andNot .i32 (ie q l w s) 2) (ie q l false s)=true) (by decide+kernel) h _ _ _)
theorem zar{x:Wd}(h:x.q<64):cV .add .i32 x.enc 8=some (.int .i32 (Wd.enc {x with q:=x.q+1})):=by
 rw[fV];exact gU (ca (p:=fun q l w s=>EC (cV .add .i32 (ie q l w s) 8) (ie (q+1) l w s)=true) (by decide+kernel) h _ _ _)
theorem Y0{x:Wd}(h:x.q<64)(h0:0<x.q):cV .sub .i32 x.enc 8=some (.int .i32 (Wd.enc {x with q:=x.q-1})):=by
 rw[fV]
 exact gU (ca (p:=fun q l w s=>0<q->EC (cV .sub .i32 (ie q l w s) 8) (ie (q-1) l w s)=true) (by decide+kernel) h _ _ _ h0)
theorem YZ{x:Wd}(h:x.q<64)(hl:x.l=true):IntKind.i32.wrap (x.enc+ -1)=Wd.enc {x with l:=false}:=by
 rw[fV,hl]
 exact ca (p:=fun q l w s=>IntKind.i32.wrap (ie q true w s+ -1)=ie q false w s) (by decide+kernel) h x.l _ _
theorem LS{x:Wd}(h:x.q<64)(h1:x.l=false)(h2:x.w=false)(h3:x.s=true)(h4:1<=x.q)(c:Bool):IntKind.i32.wrap (x.enc+(if c then -11 else -7))=Wd.enc ⟨true,false,!c,x.q-1⟩:=by
 rw[fV,h1,h2,h3]
 cases c with
 |true=>exact ca (p:=fun q l w s=>1<=q->IntKind.i32.wrap (ie q false false true+ -11)=ie (q-1) true false false) (by decide+kernel) h x.l x.w x.s h4
 |false=>exact ca (p:=fun q l w s=>1<=q->IntKind.i32.wrap (ie q false false true+ -7)=ie (q-1) true false true) (by decide+kernel) h x.l x.w x.s h4
end Go.Co.F1

namespace Go.Co.F1
open Go Go.Conc Go.Proofs
open Go.Co
variable{E:Geo}{N i:Nat}{l:Lo}{w:World}
set_option maxRecDepth 10000
noncomputable def c56:Code:=(Try.f82.body).getD .skip
theorem Rj:ij Try.prog 82 13 c56 #[]:=⟨Try.f82,Try.func82,by decide+kernel,rfl,rfl,rfl⟩
noncomputable def c61:Code:=(Try.f87.body).getD .skip
theorem YO:ij Try.prog 87 139 c61 #[]:=⟨Try.f87,Try.func87,by decide+kernel,rfl,rfl,rfl⟩
theorem Rg:je Try.prog 43 (fun _=>do mark .disable;Pure.pure Extern.Race.none_):=⟨Try.f43,Try.func43,by decide+kernel,rfl,by rfl,by rfl⟩
theorem GX:je Try.prog 45 (fun _=>do mark .enable;Pure.pure Extern.Race.none_):=⟨Try.f45,Try.func45,by decide+kernel,rfl,by rfl,by rfl⟩
theorem U6:je Try.prog 46 (Extern.Race.marked .acquire):=⟨Try.f46,Try.func46,by decide+kernel,rfl,by rfl,by rfl⟩
theorem YK:je Try.prog 60 (Extern.Race.marked .releaseMerge):=⟨Try.f60,Try.func60,by decide+kernel,rfl,by rfl,by rfl⟩
theorem U5:je Try.prog 86 (Extern.Atomic.casT (.int .i32)):=⟨Try.f86,Try.func86,by decide+kernel,rfl,by rfl,by rfl⟩
theorem U4:je Try.prog 74 (Extern.Atomic.update (Op.intArith .add) .i32 true):=⟨Try.f74,Try.func74,by decide+kernel,rfl,by rfl,by rfl⟩
def _root_.Go.Co.Lo.hear(l:Lo)(d:Nat):Lo:={l with deaf:=d}
theorem kN{G:Gh}{t:Trace}(h:GI E G w t)(hi:(G.th i).af=true)(ax:G.th i=l):cQ E i G w w t #[⟨.mark .disable,false,true⟩] (l.hear (l.deaf+1)) true false:=by
 subst ax
 intro fn pos
 obtain⟨G',d,c⟩:=h.E3 (w':=w) (es:= #[⟨.mark .disable,false,true⟩]) fn pos hi (by intro e he;simp at he;subst he;exact HP) rfl rfl rfl (Go.ConcM.OsLater.refl _) (.inr fun j e hj=>.inl (by
  have:=Array.mem_of_getElem? hj
  simp at this;subst this;rfl))
 exact⟨G',d,.inl rfl,hi,fun e=>by cases e⟩
theorem iZ{G:Gh}{t:Trace}{d:Nat}(h:GI E G w t)(hi:(G.th i).af=true)(ax:G.th i=l)(hd:l.deaf=d+1):cQ E i G w w t #[⟨.mark .enable,false,true⟩] (l.hear d) true false:=by
 subst ax
 intro fn pos
 obtain⟨G',dd,c⟩:=h.E3 (w':=w) (es:= #[⟨.mark .enable,false,true⟩]) fn pos hi (by intro e he;simp at he;subst he;exact Md) rfl rfl rfl (Go.ConcM.OsLater.refl _) (.inr fun j e hj=>.inl (by
  have:=Array.mem_of_getElem? hj
  simp at this;subst this;rfl))
 have e:deafBehind (G.th i).deaf #[⟨.mark .enable,false,true⟩]=d:=by rw[hd];rfl
 rw[e]at dd
 exact⟨G',dd,.inl rfl,hi,fun e=>by cases e⟩
theorem xQ{G:Gh}{t:Trace}{x:SC}{m:Mark}(hx:x.ok E.K)(hm:m= .acquire (E.sc x)\/m= .releaseMerge (E.sc x))(h:GI E G w t)(hi:(G.th i).af=true)(ax:G.th i=l):cQ E i G w w t #[⟨.mark m,false,true⟩] l true false:=by
 subst ax
 intro fn pos
 have ht:(MemAct.mark m).touch?=none:=by rcases hm with rfl|rfl<;>rfl
 obtain⟨G',dd,c⟩:=h.E3 (w':=w) (es:= #[⟨.mark m,false,true⟩]) fn pos hi (by
  intro e he;simp at he;subst he
  refine pd ht (fun a=>?_) fun B _ hb=>?_
  ·rcases hm with rfl|rfl<;>simp
  ·rcases hm with rfl|rfl<;>exact hb x hx) rfl rfl rfl (Go.ConcM.OsLater.refl _) (.inr fun j e hj=>.inl (by
  have:=Array.mem_of_getElem? hj
  simp at this;subst this;exact ht))
 have e:({G.th i with deaf:=deafBehind (G.th i).deaf #[⟨.mark m,false,true⟩]}:Lo)=G.th i:=by
  have:deafBehind (G.th i).deaf #[⟨.mark m,false,true⟩]=(G.th i).deaf:=by rcases hm with rfl|rfl<;>rfl
  rw[this]
 rw[e]at dd
 exact⟨G',dd,.inl rfl,hi,fun e=>by cases e⟩
structure Lk(E:Geo)(i k:Nat)(l:Lo)(r:Option Ro):Prop where
 i0:i≠0
 kK:k<E.K
 af:l.af=true
 mr:l.mr=r.map (k,·)
 ch:l.ch= .no
 gr:l.gr= .out
 rel:l.rel=none
 run:l.run=none
theorem Lk.at{k:Nat}{r:Option Ro}{G:Gh}(h:Lk E i k l r)(ax:G.th i=l)(hp:l.aP k=false\/∃r',r=some r'):rV E G i k r:=by
 subst ax;exact⟨h.af,h.i0,h.kK,h.mr,h.ch,h.gr,h.rel,hp⟩
theorem Lk.hear{k d:Nat}{r:Option Ro}(h:Lk E i k l r):Lk E i k (l.hear d) r:=⟨h.i0,h.kK,h.af,h.mr,h.ch,h.gr,h.rel,h.run⟩
theorem Lk.mu{k:Nat}{r b:Option Ro}{o:Option Wd}(h:Lk E i k l r):Lk E i k (l.mu k b o) b:=⟨h.i0,h.kK,h.af,rfl,h.ch,h.gr,h.rel,h.run⟩
structure ni(E:Geo)(k B o:Nat):Prop where
 d:E.sc (.done k)=⟨B,o,none⟩
 m:E.sc (.word k)=⟨B,o+1,none⟩
 s:E.sc (.sema k)=⟨B,o+2,none⟩
def D1(E:Geo)(i k B o:Nat):Prop:=∀N l w (fr:Frame) cs,E.da->Lk E i k l none->l.aP k=false->l.deaf=1->
 (∀w',View l.ai w w'->Tr E N i ((l.mu k (some .held) none).hear 0) (Conc.G (fr.finish (.tuple #[])) cs) w')->
 Tr E N i l (Conc.G (Frame.enter Try.prog 87 #[.pointer (some ⟨B,o+1,none⟩)] .normal) (fr::cs)) w
theorem fO{b:Frame}{l l':Lo}(W:ay Try.prog E l b)(h:l'.ch= .no):ay Try.prog E l' b:=⟨⟨W.wk.fin,h,W.wk.kind⟩,W.hP⟩
theorem Tl{k B o:Nat}(hf:E.da)(hP:E.P=Try.prog)(O:ni E k B o)(WH:D1 E i k B o)(A:Lk E i k l none)(hp:l.aP k=false)(fD:l.deaf=0){fr:Frame}{cs:List Frame}
  (h: ∀w',View l.ai w w'->Tr E N i (l.mu k (some .held) none) (Conc.G (fr.finish (.tuple #[])) cs) w'):
  Tr E N i l (Conc.G (Frame.enter Try.prog 82 #[.pointer (some ⟨B,o+1,none⟩)] .normal) (fr::cs)) w:=by
 have W:ay Try.prog E l (base 82):=⟨⟨hf,A.ch,by decide⟩,hP⟩
 refine Tr.ck hP Rj (Nat.le_of_ble_eq_true rfl) ?_
 (repeat(first|refine Tk.seq (ay.wk W) ?_|refine Tk.reg W ?_))
 refine ah.jk W (m:=.disable) (fun g e=>by cases e) (by rfl) (by rfl) (by rfl) (by rfl) Rg fun G ae t hg au ax hv=>?_
 refine⟨_,false,kN hg au ax,cd.same (ah.bx ?_)⟩
 rw[fD]
 have W1:ay Try.prog E (l.hear 1) (base 82):=fO W A.ch
 (repeat(first|refine ah.dn W1 ?_|refine ah.pS W1 (hp:=by first|exact aa (.inl rfl) rfl|exact ak rfl rfl|exact av rfl rfl (by rfl) rfl (by decide+kernel)) (h:=?_)|refine Tk.seq (ay.wk W1) ?_|refine Tk.reg W1 ?_))
 refine ah.Rh W1 (kk:=.i32) (ad:=E.sc (.word k)) (v0:=0) (v1:=1) (by rfl) (by rfl) (by rfl) (by rfl) U5 (by rw[O.m];rfl) rfl rfl fun G du t hg au ax dF=>?_
 have hg2:=hg
 have WW:=au
 have ZG:=ax
 obtain⟨c1,c2,c3⟩:=hg.word A.kK
 by_cases hz:(G.wd k).enc=0
 ·obtain⟨fl⟩:True:=trivial
  refine⟨_,(l.hear 1).mu k (some .held) none,false,c1,c2,.inl ⟨hz,fun fn pos=>?_,cd.same (ah.bx ?_)⟩⟩
  ·obtain⟨G',d,c⟩:=hg.Sf (A.hear.at ax (.inl hp)) (by rw[ax];exact A.run) (by rw[ax];exact hp) hz fn pos
   rw[ax]at d
   exact⟨G',d,.inl rfl,A.af,fun e=>by cases e⟩
  have W2:ay Try.prog E ((l.hear 1).mu k (some .held) none) (base 82):=fO W A.ch
  (repeat(first|refine ah.dn W2 ?_|refine Tk.seq (ay.wk W2) ?_|refine Tk.reg W2 ?_|refine Tk.cp (ay.wk W2) rfl ?_))
  refine ah.jk W2 (m:=.enable) (fun g e=>by cases e) (by rfl) (by rfl) (by rfl) (by rfl) GX fun G eA t hg au ax gh=>?_
  refine⟨_,false,iZ (d:=0) hg au ax rfl,cd.same (ah.bx ?_)⟩
  have W3:ay Try.prog E (((l.hear 1).mu k (some .held) none).hear 0) (base 82):=fO W A.ch
  (repeat(first|refine ah.dn W3 ?_|refine ah.pS W3 (hp:=by exact aa (.inl rfl) rfl) (h:=?_)|refine Tk.reg W3 ?_))
  refine ah.conv W3 (y:=.word k) A.kK A.af (by rfl) (by rfl) (by rfl) (by rfl) (by rfl) (by rfl) (by rfl) (by decide+kernel) (by rw[O.m];rfl) ?_
  refine ah.l7 W3 (mk:=.acquire) (ad:=E.sc (.word k)) (fun ad g e=>by cases e) (by rfl) (by rfl) (by rfl) (by rfl) U6 rfl fun G AX t hg au ax wK=>?_
  refine⟨_,false,xQ (x:=.word k) A.kK (.inl rfl) hg au ax,cd.same (ah.bx ?_)⟩
  (repeat(refine ah.dn W3 ?_))
  refine Tk.ret W3.wk (fE.leave0 W3.wk (hP▸Rj) ?_)
  have e:((l.hear 1).mu k (some .held) none).hear 0=l.mu k (some .held) none:=by unfold Lo.hear Lo.mu;simp[<-fD]
  rw[e]
  have Xq:View l.ai du (du.setCell (E.sc (.word k)) (.int .i32 1)):=by
   have:=hg2.bU (x:=.word k) A.kK (.int .i32 1) i WW
   rw[ZG]at this;exact this
  exact h _ (hv.trans (dF.trans (Xq.trans (gh.trans wK))))
 refine⟨_,l.hear 1,false,c1,c2,.inr ⟨hz,fun fn pos=>?_,cd.same (ah.bx ?_)⟩⟩
 ·obtain⟨G',d,c⟩:=hg.Vl (x:=.word k) A.kK fn pos au (by rw[ax];exact A.rel)
  rw[ax]at d
  exact⟨G',d,.inl rfl,A.af,fun e=>by cases e⟩
 (repeat(first|refine ah.dn W1 ?_|refine ah.pS W1 (hp:=by exact aa (.inl rfl) rfl) (h:=?_)|refine Tk.reg W1 ?_|refine Tk.skip (ay.wk W1) ?_|refine Tk.bC (ay.wk W1) rfl ?_))
 refine ah.call W1 (by rfl) (by rfl) (by rfl) (by rfl) YO rfl fun rM hk=>?_
 refine WH N (l.hear 1) du rM (fr::cs) hf A.hear hp rfl fun eA gh=>hk _ _ _ (ah.bx ?_)
 have W4:ay Try.prog E (((l.hear 1).mu k (some .held) none).hear 0) (base 82):=fO W A.ch
 (repeat(refine ah.dn W4 ?_))
 refine Tk.ji W4.wk (fE.leave0 W4.wk (hP▸Rj) ?_)
 have e:((l.hear 1).mu k (some .held) none).hear 0=l.mu k (some .held) none:=by unfold Lo.hear Lo.mu;simp[<-fD]
 rw[e]
 exact h _ (hv.trans (dF.trans gh))
end Go.Co.F1

namespace Go.Co
open Go Go.Conc
open Go.ConcM (OsLater)
variable{E:Geo}{N i:Nat}{l:Lo}{w:World}{G:Gh}{t:Trace}
theorem GI.Qs(h:GI E G w t){i k:Nat}{r:Ro}(A:rV E G i k (some r))(aS:(G.th i).run=none)(IA:r≠ .bK){o:Wd}(ho:(G.th i).old=some o)(cb:o≠G.wd k)(fn:FuncId)(pos:String):
  ∃G',qZ E i G w w (t++MemOp.ofEvents i fn pos #[⟨.cell (E.sc (.word k)),false,true⟩]) ((G.th i).mu k (some r) (some (G.wd k))) G'/\G'.Φ E.K E.nj<G.Φ E.K E.nj:=by
 have Ob:((G.th i).mu k (some r) (some (G.wd k))).wt k=(G.th i).wt k:=by rw[dD,iR (r:=r) A.mr]
 have EE:((G.th i).mu k (some r) (some (G.wd k))).bh k (G.wd k)=0:=by unfold Lo.bh Lo.mu;simp
 obtain⟨G',d,c,f,q⟩:=h.mu (a:=some r) (b:=some r) (x':=G.wd k) (s':=G.sm k) (o':=some (G.wd k)) (w':=w) (es:= #[⟨.cell (E.sc (.word k)),false,true⟩]) fn pos A.af A.i0 A.kK A.mr
  (fun c' hm=>by
   have:c'=G.cnt k:=by funext r';have:=hm r';omega
   rw[this];exact h.k.mu k A.kK) A.ch A.gr (.inl aS) (.inl ⟨rfl,rfl,rfl⟩) (Bl (x:=.word k) A.kK) rfl A.rel (.inl (by simpa using IA))
  (.inr ⟨by rw[Ob],rfl,by rw[EE];exact Nat.zero_le _⟩)
 refine⟨G',⟨d,f (Nat.le_refl _)⟩,q (.inr ?_)⟩
 rw[EE]
 unfold Lo.bh
 have ee:(G.th i).mr=some (k,r):=A.mr
 simp[ee,ho,A.af,cb]
def bp(env:Nv):Nv->Prop
 | []=>True
 |(k,v)::r=>env.get k=some v/\bp env r
theorem bp.sub{env:Nv}: ∀ {env':Nv},bp env env'->∀k v,env'.get k=some v->env.get k=some v
 | [],_,k,v,h=>by cases h
 |(j,u)::r,⟨h1,h2⟩,k,v,h=>by
  rw[Nv.get_put]at h
  split at h
  ·rename_i e;subst e;cases h;exact h1
  exact bp.sub h2 k v h
section
variable{P:Program}{b:Frame}{n:Nat}{env:Nv}{ds:List Deferred}{k:List Item}{cs:List Frame}
variable{ops:Array Oper}{j:Nat}{o:Oper}{f:FuncId}{iQ:Array TypeId}
theorem ah.KO(W:ay P E l b){x:Operand}{kk:IntKind}{v:Int}{d:Nat}(ho:ops[j]?=some o)(hw:bj ops env o=some true)(eR:o.dst=some d)(hd:Nat.blt d n=true)(aF:o.op= .call {callee:=.value (.func f),args:= #[x],argTypes:=iQ})(he:je P f Extern.Sync.canSpin)(hx:env.ev x=some (.int kk v))
  (h: ∀c:Bool,(c=true->v<4)->ah E N i l w b n ((d,.bool c)::env) ds ops (j+1) k cs):ah E N i l w b n env ds ops j k cs:=by
 refine ah.open ho ?_
 intro a ha dm
 obtain⟨fn,f1,f2,f3,f4,f5⟩:=he.out
 have tL:(#[x]:Array Operand).map a.eval= #[.int kk v]:=by simp[ha.ev hx]
 refine Tr.tS (aX _ _) W.wk.ch fun ae hv=>?_
 have key: ∀c:Bool,(c=true->v<4)->∀w2,View l.ai w w2->Tr E N i l (Conc.G (b.at (a.put o.dst (.bool c)) (.inRegion ops (List.range' (j+1) (ops.size- (j+1)))::k)) cs) w2:=fun c hc w2 dF=>by
  refine Tr.view W.wk.fin (h c hc _ ?_ (by cases o.dst<;>exact dm)) dF
  have:=ha.put (d:=o.dst) (by rw[eR];exact hd) (.bool c)
  rw[eR]at this ⊢;exact this
 by_cases h4:4<=v
 ·refine⟨_,ae,#[],stepG_canSpin_no ho (ha.want hw) W.wk.kind aF (by rw[W.hP];exact f1) f2 f3 f4 f5 tL h4,rfl,⟨Nat.le_refl _,fun _ _ _=>rfl,rfl,rfl,rfl,fun e he=>by simp at he⟩,fun _ e he=>by simp at he,?_⟩
  rw[Lo.gJ];exact key false (fun e=>by cases e) ae hv
 refine⟨_,ae.asked,#[],stepG_canSpin_ask ho (ha.want hw) W.wk.kind aF (by rw[W.hP];exact f1) f2 f3 f4 f5 tL (by omega),rfl,⟨Nat.le_refl _,fun _ _ _=>rfl,rfl,rfl,rfl,fun e he=>by simp at he⟩,fun _ e he=>by simp at he,?_⟩
 show Tr E N i (l.grow ae.heap.size ae.heap.size) _ _
 rw[Lo.gJ];exact key ae.spins (fun _=>by omega) ae.asked (hv.trans ⟨Nat.le_refl _,fun _ _=>rfl⟩)
theorem ah.nano(W:ay P E l b){xs:Array Operand}{d:Nat}(ho:ops[j]?=some o)(hw:bj ops env o=some true)(eR:o.dst=some d)(hd:Nat.blt d n=true)(aF:o.op= .call {callee:=.value (.func f),args:=xs,argTypes:=iQ})
  (he: ∃fn,P.funcs[f]?=some fn/\(fn.name== "runtime.NumGoroutine")=false/\fn.body.isNone=true/\Extern.findNext fn=none/\Extern.find fn=some Extern.OsHooks.nano/\fn.norace=true)
  (aJ:l.rel=none) (cP:l.af=true) (h: ∀v,ah E N i l w b n ((d,.int .i64 v)::env) ds ops (j+1) k cs):ah E N i l w b n env ds ops j k cs:=by
 refine ah.open ho (Tk.nano W.wk ho hw (by rw[eR];exact hd) aF (by rw[W.hP];exact he) aJ cP fun v ae hv=>?_)
 intro a ha dm
 exact(h v a (by rw[eR]at ha;exact ha) dm).view W.wk.fin hv
end
namespace F1
section
variable{P:Program}{env:Nv}{o:Oper}{t yt:TypeId}{y:Operand}{x:Wd}
theorem xn(ho:o.op= .binOp .and t y (.const (.int .i32 5)) yt)(hx:env.ev y=some (.int .i32 x.enc))(h:x.q<64):bR P env o (.int .i32 (x.l.toNat+4*x.s.toNat:Nat)):=al ho hx rfl (zal h)
theorem Fv(ho:o.op= .binOp .and t y (.const (.int .i32 1)) yt)(hx:env.ev y=some (.int .i32 x.enc))(h:x.q<64):bR P env o (.int .i32 (x.l.toNat:Nat)):=al ho hx rfl (zap h)
theorem Bg(ho:o.op= .binOp .and t y (.const (.int .i32 2)) yt)(hx:env.ev y=some (.int .i32 x.enc))(h:x.q<64):bR P env o (.int .i32 (2*x.w.toNat:Nat)):=al ho hx rfl (zao h)
theorem Fu(ho:o.op= .binOp .and t y (.const (.int .i32 3)) yt)(hx:env.ev y=some (.int .i32 x.enc))(h:x.q<64):bR P env o (.int .i32 (x.l.toNat+2*x.w.toNat:Nat)):=al ho hx rfl (zan h)
theorem ri(ho:o.op= .binOp .and t y (.const (.int .i32 4)) yt)(hx:env.ev y=some (.int .i32 x.enc))(h:x.q<64):bR P env o (.int .i32 (4*x.s.toNat:Nat)):=al ho hx rfl (zam h)
theorem Mf(ho:o.op= .binOp .and t y (.const (.int .i32 7)) yt)(hx:env.ev y=some (.int .i32 x.enc))(h:x.q<64):bR P env o (.int .i32 (x.l.toNat+2*x.w.toNat+4*x.s.toNat:Nat)):=al ho hx rfl (zak h)
theorem Ww(ho:o.op= .binOp .or t y (.const (.int .i32 1)) yt)(hx:env.ev y=some (.int .i32 x.enc))(h:x.q<64):bR P env o (.int .i32 (Wd.enc {x with l:=true})):=al ho hx rfl (or1 h)
theorem Qm(ho:o.op= .binOp .or t y (.const (.int .i32 2)) yt)(hx:env.ev y=some (.int .i32 x.enc))(h:x.q<64):bR P env o (.int .i32 (Wd.enc {x with w:=true})):=al ho hx rfl (or2 h)
theorem Wv(ho:o.op= .binOp .or t y (.const (.int .i32 4)) yt)(hx:env.ev y=some (.int .i32 x.enc))(h:x.q<64):bR P env o (.int .i32 (Wd.enc {x with s:=true})):=al ho hx rfl (or4 h)
theorem Te(ho:o.op= .binOp .andNot t y (.const (.int .i32 2)) yt)(hx:env.ev y=some (.int .i32 x.enc))(h:x.q<64):bR P env o (.int .i32 (Wd.enc {x with w:=false})):=al ho hx rfl (zaf h)
theorem Tf(ho:o.op= .binOp .add t y (.const (.int .i32 8)) yt)(hx:env.ev y=some (.int .i32 x.enc))(h:x.q<64):bR P env o (.int .i32 (Wd.enc {x with q:=x.q+1})):=al ho hx rfl (zar h)
theorem mX{y2:Operand}{k':IntKind}(ho:o.op= .binOp .shr t y y2 yt)(h2:env.ev y2=some (.int k' 3))(hx:env.ev y=some (.int .i32 x.enc))(h:x.q<64):bR P env o (.int .i32 (x.q:Nat)):=dB ho hx h2 (Y4 h)
end
end F1
end Go.Co

namespace Go.Co.F1
open Go Go.Conc Go.Proofs
open Go.Co
variable{E:Geo}{N i:Nat}{l:Lo}{w:World}
set_option maxRecDepth 10000
theorem PV:(Try.prog.funcs[87]?).any (·.norace)=true:=by decide+kernel
theorem _root_.Go.Co.Tk.cut{b:Frame}{n:Nat}{env:Nv}{ds:List Deferred}{k:List Item}{cs:List Frame}(h: ∀K,K=k->Tk E N i l w b n env ds K cs):Tk E N i l w b n env ds k cs:=h k rfl
theorem _root_.Go.Co.Tk.Zk{b:Frame}{n:Nat}{env eJ:Nv}{ds:List Deferred}{k:List Item}{cs:List Frame}{x y:Code}(W:Wk E l b)(hy:Tk E N i l w b n eJ ds (.code y::k) cs)(hx:Tk E N i l w b n eJ ds (.code y::k) cs->Tk E N i l w b n env ds (.code x:: .code y::k) cs):
  Tk E N i l w b n env ds (.code (.seq x y)::k) cs:=Tk.seq W (hx hy)
theorem _root_.Go.Co.Tk.Xn{b:Frame}{n:Nat}{env eJ:Nv}{ds:List Deferred}{k:List Item}{cs:List Frame}{x y:Code}(W:Wk E l b)(hx: ∀Y,Tk E N i l w b n eJ ds Y cs->Tk E N i l w b n env ds (.code x::Y) cs)(hy:Tk E N i l w b n eJ ds (.code y::k) cs):
  Tk E N i l w b n env ds (.code (.seq x y)::k) cs:=Tk.seq W (hx _ hy)
theorem _root_.Go.Co.oE.lower{b:Frame}{n:Nat}{env:Nv}{ds:List Deferred}{k:List Item}{cs:List Frame}(h: ∀N',N=N'+1->Tk E N' i l w b n env ds k cs):oE true E N i l w b n env ds k cs:=by
 cases N with
 |zero=>exact oE.zero
 |succ N=>exact oE.less (h N rfl)
theorem _root_.Go.Co.Tk.Z5{b:Frame}{n:Nat}{env:Nv}{ds:List Deferred}{x:Item}{k:List Item}{cs:List Frame}(h: ∀K,K=k->Tk E N i l w b n env ds (x::K) cs):Tk E N i l w b n env ds (x::k) cs:=h k rfl
theorem _root_.Go.Co.Tk.Vm{α:Type}{b:Frame}{n:Nat}{env:Nv}{eJ:α->Nv}{ds:List Deferred}{k:List Item}{cs:List Frame}{x y:Code}(W:Wk E l b)(hx: ∀Y,(∀v,Tk E N i l w b n (eJ v) ds Y cs)->Tk E N i l w b n env ds (.code x::Y) cs)(hy: ∀v,Tk E N i l w b n (eJ v) ds (.code y::k) cs):
  Tk E N i l w b n env ds (.code (.seq x y)::k) cs:=Tk.seq W (hx _ hy)
theorem _root_.Go.Co.GI.VA{G:Gh}{t:Trace}(h:GI E G w t){i k:Nat}{r:Ro}{b:Ro}{x':Wd}(A:rV E G i k (some r))(aS:(G.th i).run=none)(IA:r≠ .bK)(Ob:Iu b<Iu r)(fn:FuncId)(pos:String)
  (Og: ∀c',Mv (G.cnt k) c' (some r) (some b)->gl x' (G.sm k) c') (o':Option Wd):
  ∃G',qZ E i G w (w.setCell (E.sc (.word k)) (.int .i32 x'.enc)) (t++MemOp.ofEvents i fn pos (nT (E.sc (.word k)))) ((G.th i).mu k (some b) o') G'/\G'.Φ E.K E.nj<G.Φ E.K E.nj:=by
 obtain⟨G',d,c,f,q⟩:=h.mu (a:=some r) (b:=some b) (x':=x') (s':=G.sm k) (o':=o') (w':=w.setCell (E.sc (.word k)) (.int .i32 x'.enc)) (es:=nT (E.sc (.word k))) fn pos A.af A.i0 A.kK A.mr
  Og A.ch A.gr (.inl aS) (.inr (.inl ⟨rfl,rfl⟩)) (lE (x:=.word k) A.kK fun k e=>by cases e) rfl A.rel (.inl (by simpa using IA))
  (.inl (by rw[dD,iR (r:=r) A.mr];omega))
 exact⟨G',⟨d,f (Nat.le_refl _)⟩,q (.inl (by rw[dD,iR (r:=r) A.mr];omega))⟩
theorem e67: ∃fn,Try.prog.funcs[92]?=some fn/\(fn.name== "runtime.NumGoroutine")=false/\fn.body.isNone=true/\Extern.findNext fn=none/\Extern.find fn=some Extern.OsHooks.nano/\fn.norace=true:=⟨Try.f92,Try.func92,by decide+kernel,rfl,by rfl,by rfl,rfl⟩
theorem e68:je Try.prog 93 Extern.Sync.semacquire:=⟨Try.f93,Try.func93,by decide+kernel,rfl,by rfl,by rfl⟩
theorem e64:je Try.prog 89 Extern.Sync.canSpin:=⟨Try.f89,Try.func89,by decide+kernel,rfl,by rfl,by rfl⟩
theorem U3:je Try.prog 90 Extern.Sync.nothing:=⟨Try.f90,Try.func90,by decide+kernel,rfl,by rfl,by rfl⟩
set_option maxHeartbeats 4000000 in
theorem SV{k B o:Nat}(hP:E.P=Try.prog)(O:ni E k B o):D1 E i k B o:=by
 intro N l w fr cs hf A hp fD h
 have W:ay Try.prog E l (base 87):=⟨⟨hf,A.ch,by decide⟩,hP⟩
 refine Tr.ck hP YO (Nat.le_of_ble_eq_true rfl) ?_
 (repeat(first|refine ah.dn W ?_|refine ah.pS W (hp:=by first|exact aa (.inl rfl) rfl|exact aa (.inr rfl) rfl|exact ak rfl rfl|exact av rfl rfl (by rfl) rfl (by decide+kernel)) (h:=?_)|refine Tk.seq (ay.wk W) ?_|refine Tk.reg W ?_))
 refine ah.nX W (ad:=E.sc (.word k)) PV (by rfl) (by rfl) (by rfl) (by rfl) (by rfl) (by rw[O.m];rfl) fun G ae u hg au ax hv=>?_
 obtain⟨c1,c2,c3⟩:=hg.word A.kK
 obtain⟨G',d⟩:=hg.Y3 (A.at ax (.inl hp)) (by rw[ax];exact A.run) (by rw[ax];exact hp)
 rw[ax]at d
 refine⟨_,l.mu k (some .fresh) (some (G.wd k)),false,c1,⟨G',d.1,d.2,A.af,fun e=>by cases e⟩,cd.same (ah.bx ?_)⟩
 have W1:ay Try.prog E (l.mu k (some .fresh) (some (G.wd k))) (base 87):=fO W A.ch
 refine ah.pS W1 (hp:=by exact aa (.inr rfl) rfl) (h:=?_)
 refine ah.dn W1 ?_
 refine Tk.seq W1.wk ?_
 refine Tk.Z5 fun R hR=>?_
 have XT: ∀N (env:Nv) (w:World),env.get 0=some (.pointer (some ⟨B,o+1,none⟩))->(∀w',View l.ai w w'->Tr E N i ((l.mu k (some .held) none).hear 0) (Conc.G (fr.finish (.tuple #[])) cs) w')->Tk E N i (l.mu k (some .held) none) w (base 87) 139 env [] R (fr::cs):=by
  intro N env w ZP h
  refine Tk.sub (env':= [(0,.pointer (some ⟨B,o+1,none⟩))]) ?_ (bp.sub ⟨ZP,trivial⟩)
  rw[hR]
  have W5:ay Try.prog E (l.mu k (some .held) none) (base 87):=fO W A.ch
  (repeat(first|refine Tk.seq (ay.wk W5) ?_|refine Tk.reg W5 ?_|refine Tk.cp (ay.wk W5) rfl ?_))
  refine ah.jk W5 (m:=.enable) (fun g e=>by cases e) (by rfl) (by rfl) (by rfl) (by rfl) GX fun G eA t hg au ax gh=>?_
  refine⟨_,false,iZ (d:=0) hg au ax fD,cd.same (ah.bx ?_)⟩
  have W6:ay Try.prog E ((l.mu k (some .held) none).hear 0) (base 87):=fO W A.ch
  (repeat(first|refine ah.dn W6 ?_|refine ah.pS W6 (hp:=by exact aa (.inl rfl) rfl) (h:=?_)|refine Tk.reg W6 ?_))
  refine ah.conv W6 (y:=.word k) A.kK A.af (by rfl) (by rfl) (by rfl) (by rfl) (by rfl) (by rfl) (by rfl) (by decide+kernel) (by rw[O.m];rfl) ?_
  refine ah.l7 W6 (mk:=.acquire) (ad:=E.sc (.word k)) (fun ad g e=>by cases e) (by rfl) (by rfl) (by rfl) (by rfl) U6 rfl fun G AX t hg au ax wK=>?_
  refine⟨_,false,xQ (x:=.word k) A.kK (.inl rfl) hg au ax,cd.same (ah.bx ?_)⟩
  (repeat(refine ah.dn W6 ?_))
  exact Tk.ji W6.wk (fE.leave0 W6.wk (hP▸YO) (h _ (gh.trans wK)))
 refine Tk.block W1.wk ?_
 refine Tk.loop W1.wk ?_
 refine Tk.cut fun K hK=>?_
 have H: ∀N m (o':Wd) (aw st:Bool) (bG it:Int) (w:World),(∀w',View l.ai w w'->Tr E N i ((l.mu k (some .held) none).hear 0) (Conc.G (fr.finish (.tuple #[])) cs) w')->o'.q<=48->(4-it<=(m:Nat)/\0<=it)->(aw=true->o'.w=true/\o'.s=false)->(aw=false->st=false)->
   Tk E N i (l.mu k (some (if aw then .mQ else .fresh)) (some o')) w (base 87) 139 [(0,.pointer (some ⟨B,o+1,none⟩)),(2,.int .i64 bG),(3,.bool st),(4,.bool aw),(5,.int .i64 it),(6,.int .i32 o'.enc)] [] K (fr::cs):=by
  intro N
  induction N using Nat.strongRecOn with
  |ind N Q0=>
  intro m
  induction m using Nat.strongRecOn with
  |ind m Ur=>
  intro o' aw st bG it w h hq hm UT dI
  have A2:Lk E i k (l.mu k (some (if aw then .mQ else .fresh)) (some o')) (some (if aw then .mQ else .fresh)):=A.mu
  have W2:ay Try.prog E (l.mu k (some (if aw then .mQ else .fresh)) (some o')) (base 87):=fO W A.ch
  obtain⟨ol,ow,os,oq⟩:=o'
  have hq:oq<=48:=hq
  have UT:aw=true->ow=true/\os=false:=UT
  rw[hK]
  refine Tk.block W2.wk ?_
  refine Tk.Zk W2.wk (eJ:= [(0,.pointer (some ⟨B,o+1,none⟩)),(2,.int .i64 bG),(3,.bool st),(4,.bool aw),(5,.int .i64 it),(6,.int .i32 (Wd.enc ⟨ol,ow,os,oq⟩))]) ?rest ?KO
  case rest=>
   refine Tk.seq W2.wk ?_
   refine Tk.reg W2 ?_
   (refine ah.pS W2 (hp:=by exact aa (.inl rfl) rfl) (h:=?_))
   (refine ah.pS W2 (hp:=by exact aa (.inr rfl) rfl) (h:=?_))
   (refine ah.dn W2 ?_)
   refine Tk.Xn W2.wk (eJ:= [(0,.pointer (some ⟨B,o+1,none⟩)),(2,.int .i64 bG),(3,.bool st),(4,.bool aw),(5,.int .i64 it),(6,.int .i32 (Wd.enc ⟨ol,ow,os,oq⟩)),(7,.int .i32 (Wd.enc ⟨ol||!os,ow,os,oq⟩))]) (fun Y hY=>?_) ?_
   ·cases ol<;>cases os<;>(repeat(first|refine ah.dn W2 ?_|refine ah.pS W2 (hp:=by first|exact aa (.inl rfl) rfl|exact aa (.inr rfl) rfl|exact ri rfl rfl (by dsimp only;omega)|exact Ww rfl rfl (by dsimp only;omega)|exact al rfl rfl rfl rfl) (h:=?_)|refine Tk.seq (ay.wk W2) ?_|refine Tk.reg W2 ?_|refine Tk.skip (ay.wk W2) ?_|refine Tk.cp (ay.wk W2) rfl ?_|refine Tk.bC (ay.wk W2) rfl ?_))<;>(refine Tk.sub hY (bp.sub ?_);exact⟨rfl,rfl,rfl,rfl,rfl,rfl,rfl,trivial⟩)
   refine Tk.Xn W2.wk (eJ:= [(0,.pointer (some ⟨B,o+1,none⟩)),(2,.int .i64 bG),(3,.bool st),(4,.bool aw),(5,.int .i64 it),(6,.int .i32 (Wd.enc ⟨ol,ow,os,oq⟩)),(7,.int .i32 (Wd.enc ⟨ol||!os,ow,os,if ol||os then oq+1 else oq⟩))]) (fun Y hY=>?_) ?_
   ·cases ol<;>cases os<;>(repeat(first|refine ah.dn W2 ?_|refine ah.pS W2 (hp:=by first|exact aa (.inl rfl) rfl|exact aa (.inr rfl) rfl|exact xn rfl rfl (by dsimp only;omega)|exact Tf rfl rfl (by dsimp only;omega)|exact al rfl rfl rfl rfl) (h:=?_)|refine Tk.seq (ay.wk W2) ?_|refine Tk.reg W2 ?_|refine Tk.skip (ay.wk W2) ?_|refine Tk.cp (ay.wk W2) rfl ?_|refine Tk.bC (ay.wk W2) rfl ?_))<;>(refine Tk.sub hY (bp.sub ?_);exact⟨rfl,rfl,rfl,rfl,rfl,rfl,rfl,trivial⟩)
   refine Tk.Xn W2.wk (eJ:= [(0,.pointer (some ⟨B,o+1,none⟩)),(2,.int .i64 bG),(3,.bool st),(4,.bool aw),(5,.int .i64 it),(6,.int .i32 (Wd.enc ⟨ol,ow,os,oq⟩)),(7,.int .i32 (Wd.enc ⟨ol||!os,ow,if st&&ol then true else os,if ol||os then oq+1 else oq⟩))]) (fun Y hY=>?_) ?_
   ·have P2:(if(ol||os)=true then oq+1 else oq)<64:=by split<;>omega
    generalize(if(ol||os)=true then oq+1 else oq)=q2 at*
    cases st<;>cases ol<;>(repeat(first|refine ah.dn W2 ?_|refine ah.cj W2 (by rfl) (by rfl) (by rfl) (by rfl) ?_|refine ah.pS W2 (hp:=by first|exact aa (.inl rfl) rfl|exact aa (.inr rfl) rfl|exact Fv rfl rfl (by dsimp only;omega)|exact Wv rfl rfl (by dsimp only;omega)|exact al rfl rfl rfl rfl|exact bu rfl rfl rfl|exact bw rfl rfl rfl) (h:=?_)|refine Tk.seq (ay.wk W2) ?_|refine Tk.reg W2 ?_|refine Tk.skip (ay.wk W2) ?_|refine Tk.cp (ay.wk W2) rfl ?_|refine Tk.bC (ay.wk W2) rfl ?_))<;>(refine Tk.sub hY (bp.sub ?_);exact⟨rfl,rfl,rfl,rfl,rfl,rfl,rfl,trivial⟩)
   refine Tk.Xn W2.wk (eJ:= [(0,.pointer (some ⟨B,o+1,none⟩)),(2,.int .i64 bG),(3,.bool st),(4,.bool aw),(5,.int .i64 it),(6,.int .i32 (Wd.enc ⟨ol,ow,os,oq⟩)),(7,.int .i32 (Wd.enc ⟨ol||!os,if aw then false else ow,if st&&ol then true else os,if ol||os then oq+1 else oq⟩))]) (fun Y hY=>?_) ?_
   ·have P2:(if(ol||os)=true then oq+1 else oq)<64:=by split<;>omega
    generalize(if(ol||os)=true then oq+1 else oq)=q2 at*
    generalize(if(st&&ol)=true then true else os)=s2 at*
    cases aw with
    |false=>(repeat(first|refine ah.dn W2 ?_|refine ah.pS W2 (hp:=by exact aa (.inl rfl) rfl) (h:=?_)|refine Tk.seq (ay.wk W2) ?_|refine Tk.reg W2 ?_|refine Tk.skip (ay.wk W2) ?_|refine Tk.bC (ay.wk W2) rfl ?_));(refine Tk.sub hY (bp.sub ?_);exact⟨rfl,rfl,rfl,rfl,rfl,rfl,rfl,trivial⟩)
    |true=>
     obtain⟨rfl,rfl⟩:=UT rfl
     (repeat(first|refine ah.dn W2 ?_|refine ah.pS W2 (hp:=by first|exact aa (.inl rfl) rfl|exact aa (.inr rfl) rfl|exact Bg rfl rfl (by dsimp only;omega)|exact Te rfl rfl (by dsimp only;omega)|exact al rfl rfl rfl rfl) (h:=?_)|refine Tk.seq (ay.wk W2) ?_|refine Tk.reg W2 ?_|refine Tk.skip (ay.wk W2) ?_|refine Tk.cp (ay.wk W2) rfl ?_|refine Tk.bC (ay.wk W2) rfl ?_))
     (refine Tk.sub hY (bp.sub ?_);exact⟨rfl,rfl,rfl,rfl,rfl,rfl,rfl,trivial⟩)
   refine Tk.seq W2.wk ?_
   refine Tk.reg W2 ?_
   (refine ah.pS W2 (hp:=by exact aa (.inl rfl) rfl) (h:=?_))
   (refine ah.pS W2 (hp:=by exact ak rfl rfl) (h:=?_))
   (refine ah.pS W2 (hp:=by exact av rfl rfl (by rfl) rfl (by decide+kernel)) (h:=?_))
   (refine ah.pS W2 (hp:=by exact aa (.inl rfl) rfl) (h:=?_))
   (refine ah.pS W2 (hp:=by exact aa (.inl rfl) rfl) (h:=?_))
   refine ah.Rh W2 (kk:=.i32) (ad:=E.sc (.word k)) (v0:=Wd.enc ⟨ol,ow,os,oq⟩) (v1:=Wd.enc ⟨ol||!os,if aw then false else ow,if st&&ol then true else os,if ol||os then oq+1 else oq⟩) (by rfl) (by rfl) (by rfl) (by rfl) U5 (by rw[O.m];rfl) rfl rfl fun G du t hg au ax dF=>?_
   obtain⟨c1,c2,c3⟩:=hg.word A.kK
   have aS:(G.th i).run=none:=by rw[ax];exact A.run
   have hold:(G.th i).old=some ⟨ol,ow,os,oq⟩:=by rw[ax];rfl
   have AT:=A2.at ax (.inr ⟨_,rfl⟩)
   have IP: ∀v,View l.ai du (du.setCell (E.sc (.word k)) v):=fun v=>by
    have:=hg.bU (x:=.word k) A.kK v i au
    rw[ax]at this;exact this
   have CQ:=hg.k.mu k A.kK
   by_cases hz:G.wd k=⟨ol,ow,os,oq⟩
   ·by_cases oO:ol=false/\os=false
    ·obtain⟨rfl,rfl⟩:=oO
     have R1: ∀fn pos,∃G',qZ E i G du (du.setCell (E.sc (.word k)) (.int .i32 (Wd.enc ⟨false||!false,if aw then false else ow,if st&&false then true else false,if false||false then oq+1 else oq⟩))) (t++MemOp.ofEvents i fn pos (nT (E.sc (.word k)))) ((G.th i).mu k (some .held) none) G':=by
      intro fn pos
      have es:(st&&false)=false:=by cases st<;>rfl
      rw[es]
      cases aw with
      |false=>exact hg.NU (b:=.held) AT aS (by simp) (by decide) fn pos (fun c' hm=>by have:=CQ.acq hm (by rw[hz]) (by rw[hz]);rw[hz]at this;exact this) none
      |true=>exact hg.NU (b:=.held) AT aS (by simp) (by decide) fn pos (fun c' hm=>by have:=CQ.zas hm (by rw[hz]);rw[hz]at this;exact this) none
     refine⟨_,l.mu k (some .held) none,false,c1,c2,.inl ⟨by rw[hz],fun fn pos=>?_,cd.same (ah.bx ?_)⟩⟩
     ·obtain⟨G',d,c⟩:=R1 fn pos
      rw[ax]at d
      exact⟨G',d,.inl rfl,A.af,fun e=>by cases e⟩
     have W3:ay Try.prog E (l.mu k (some .held) none) (base 87):=fO W A.ch
     (repeat(first|refine ah.dn W3 ?_|refine ah.pS W3 (hp:=by first|exact aa (.inl rfl) rfl|exact xn rfl rfl (by dsimp only;omega)|exact al rfl rfl rfl rfl) (h:=?_)|refine Tk.seq (ay.wk W3) ?_|refine Tk.reg W3 ?_|refine Tk.cp (ay.wk W3) rfl ?_|refine Tk.exit (ay.wk W3) rfl ?_))
     exact XT N _ _ rfl fun w' dG=>h w' (dF.trans ((IP _).trans dG))
    have R2: ∀fn pos,∃G',qZ E i G du (du.setCell (E.sc (.word k)) (.int .i32 (Wd.enc ⟨ol||!os,if aw then false else ow,if st&&ol then true else os,if ol||os then oq+1 else oq⟩))) (t++MemOp.ofEvents i fn pos (nT (E.sc (.word k)))) ((G.th i).mu k (some .bK) none) G'/\G'.Φ E.K E.nj<G.Φ E.K E.nj:=by
     intro fn pos
     cases aw with
     |false=>
      have est:st=false:=dI rfl
      subst est
      have hls:(G.wd k).l=true\/(G.wd k).s=true:=by
       rw[hz]
       cases ol with
       |true=>exact .inl rfl
       |false=>cases os with
        |true=>exact .inr rfl
        |false=>exact absurd ⟨rfl,rfl⟩ oO
      refine hg.VA (b:=.bK) AT aS (by simp) (by decide) fn pos (fun c' hm=>?_) none
      have:=CQ.S8 hm hls
      rw[hz]at this
      cases ol<;>cases os<;>first|exact this|exact absurd ⟨rfl,rfl⟩ oO
     |true=>
      obtain⟨rfl,rfl⟩:=UT rfl
      cases ol with
      |false=>exact absurd ⟨rfl,rfl⟩ oO
      |true=>
       refine hg.VA (b:=.bK) AT aS (by simp) (by decide) fn pos (fun c' hm=>?_) none
       have:=CQ.S6 hm (by rw[hz]) st
       rw[hz]at this
       cases st<;>exact this
    have cb:((((Wd.mk ol ow os oq).l.toNat+4*(Wd.mk ol ow os oq).s.toNat:Nat):Int)==0)=false:=by cases ol<;>cases os<;>first|rfl|exact absurd ⟨rfl,rfl⟩ oO
    refine⟨_,l.mu k (some .bK) none,true,c1,c2,.inl ⟨by rw[hz],fun fn pos=>?_,oE.lower fun N' hN=>?_⟩⟩
    ·obtain⟨G',⟨d,c⟩,bA⟩:=R2 fn pos
     rw[ax]at d
     exact⟨G',d,.inl rfl,A.af,fun _=>bA⟩
    subst hN
    refine Tk.sub (env':= [(0,.pointer (some ⟨B,o+1,none⟩)),(2,.int .i64 bG),(3,.bool st),(6,.int .i32 (Wd.enc ⟨ol,ow,os,oq⟩)),(80,.bool true)]) ?_ (bp.sub ⟨rfl,rfl,rfl,rfl,rfl,trivial⟩)
    have W3:ay Try.prog E (l.mu k (some .bK) none) (base 87):=fO W A.ch
    have A3:Lk E i k (l.mu k (some .bK) none) (some .bK):=A.mu
    refine ah.dn W3 ?_
    (repeat(first|refine ah.dn W3 ?_|refine ah.pS W3 (hp:=by first|exact aa (.inl rfl) rfl|exact xn rfl rfl (by dsimp only;omega)|exact al rfl rfl rfl rfl) (h:=?_)|refine Tk.seq (ay.wk W3) ?_|refine Tk.reg W3 ?_|refine Tk.cp (ay.wk W3) rfl ?_))
    refine Tk.bC W3.wk (by show some (Value.bool _)=_;rw[cb]) ?_
    refine Tk.skip W3.wk ?_
    refine Tk.seq W3.wk ?_
    refine Tk.reg W3 ?_
    (refine ah.pS W3 (hp:=by exact aa (.inl rfl) rfl) (h:=?_))
    (refine ah.pS W3 (hp:=by exact al rfl rfl rfl rfl) (h:=?_))
    (refine ah.pS W3 (hp:=by exact aa (.inr rfl) rfl) (h:=?_))
    (refine ah.dn W3 ?_)
    refine Tk.Vm W3.wk (eJ:=fun v:Bool×Int=> [(0,.pointer (some ⟨B,o+1,none⟩)),(2,.int .i64 v.2),(3,.bool st),(8,.bool v.1)]) (fun Y hY=>?_) ?_
    ·refine Tk.seq W3.wk ?_
     refine Tk.reg W3 ?_
     (refine ah.pS W3 (hp:=by exact aa (.inl rfl) rfl) (h:=?_))
     (refine ah.pS W3 (hp:=by exact al rfl rfl rfl rfl) (h:=?_))
     (refine ah.dn W3 ?_)
     by_cases hw0:bG=0
     ·refine Tk.cp W3.wk (by show some (Value.bool _)=_;rw[hw0];rfl) ?_
      refine Tk.reg W3 ?_
      refine ah.nano W3 (by rfl) (by rfl) (by rfl) (by rfl) (by rfl) e67 A.rel A.af fun v=>?_
      (refine ah.pS W3 (hp:=by exact aa (.inr rfl) rfl) (h:=?_))
      (refine ah.dn W3 ?_)
      exact Tk.sub (hY (bG !=0,v)) (bp.sub ⟨rfl,rfl,rfl,rfl,trivial⟩)
     refine Tk.bC W3.wk (by show some (Value.bool _)=_;rw[show(bG==0)=false by simpa using hw0]) ?_
     refine Tk.skip W3.wk ?_
     exact Tk.sub (hY (bG !=0,bG)) (bp.sub ⟨rfl,rfl,rfl,rfl,trivial⟩)
    rintro⟨b8,bG⟩
    (repeat(first|refine ah.pS W3 (hp:=by first|exact aa (.inl rfl) rfl|exact ak rfl rfl|exact av rfl rfl (by rfl) rfl (by decide+kernel)) (h:=?_)|refine Tk.seq (ay.wk W3) ?_|refine Tk.reg W3 ?_))
    refine ah.Be W3 (xs:= #[.tmp 91,.tmp 92,.const (.int .i64 2)]) (x:=.tmp 91) (ad:=E.sc (.sema k)) (by rfl) (by rfl) (by rfl) (by rfl) (by rfl) e68 (by rw[O.s];rfl) fun G eA t hg au ax gh=>?_
    obtain⟨c1,c2,c3⟩:=hg.sema A.kK
    have Vd:=A3.at ax (.inr ⟨_,rfl⟩)
    have C8:(G.th i).run=none:=by rw[ax];exact A.run
    have K2: ∀v,View l.ai eA (eA.setCell (E.sc (.sema k)) v):=fun v=>by
     have:=hg.bU (x:=.sema k) A.kK v i au
     rw[ax]at this;exact this
    refine⟨(G.sm k:Int),c1,c2,?_⟩
    by_cases EE:G.sm k=0
    ·exact .inl ⟨by rw[EE];rfl,(hg.take Vd C8 0 "").1 EE⟩
    refine .inr ⟨by omega,l.mu k (some .tok) none,fun fn pos=>?_,ah.bx ?_⟩
    ·obtain⟨G',d,c⟩:=(hg.take Vd C8 fn pos).2 EE
     rw[ax]at d
     exact⟨G',d,.inl rfl,A.af,fun e=>by cases e⟩
    have W4:ay Try.prog E (l.mu k (some .tok) none) (base 87):=fO W A.ch
    have A4:Lk E i k (l.mu k (some .tok) none) (some .tok):=A.mu
    refine ah.dn W4 ?_
    refine Tk.Vm W4.wk (eJ:=fun v:Bool=> [(0,.pointer (some ⟨B,o+1,none⟩)),(2,.int .i64 bG),(3,.bool v)]) (fun Y hY=>?_) ?_
    ·cases st with
     |true=>
      (repeat(first|refine ah.dn W4 ?_|refine ah.cj W4 (by rfl) (by rfl) (by rfl) (by rfl) ?_|refine ah.pS W4 (hp:=by first|exact aa (.inl rfl) rfl|exact aa (.inr rfl) rfl|exact bu rfl rfl rfl) (h:=?_)|refine Tk.reg W4 ?_))
      exact Tk.sub (hY true) (bp.sub ⟨rfl,rfl,rfl,trivial⟩)
     |false=>
      refine Tk.reg W4 ?_
      (refine ah.pS W4 (hp:=by exact aa (.inl rfl) rfl) (h:=?_))
      (refine ah.pS W4 (hp:=by exact aa (.inl rfl) rfl) (h:=?_))
      refine ah.nano W4 (by rfl) (by rfl) (by rfl) (by rfl) (by rfl) e67 A.rel A.af fun v=>?_
      (repeat(first|refine ah.dn W4 ?_|refine ah.pS W4 (hp:=by first|exact aa (.inl rfl) rfl|exact aa (.inr rfl) rfl|exact al rfl rfl rfl rfl|exact bw rfl rfl rfl) (h:=?_)))
      exact Tk.sub (hY _) (bp.sub ⟨rfl,rfl,rfl,trivial⟩)
    intro st'
    refine Tk.seq W4.wk ?_
    refine Tk.reg W4 ?_
    (refine ah.pS W4 (hp:=by exact aa (.inl rfl) rfl) (h:=?_))
    (refine ah.pS W4 (hp:=by exact ak rfl rfl) (h:=?_))
    (refine ah.pS W4 (hp:=by exact av rfl rfl (by rfl) rfl (by decide+kernel)) (h:=?_))
    refine ah.nX W4 (ad:=E.sc (.word k)) PV (by rfl) (by rfl) (by rfl) (by rfl) (by rfl) (by rw[O.m];rfl) fun G AX u hg au ax wK=>?_
    obtain⟨c1,c2,c3⟩:=hg.word A.kK
    have XU:=A4.at ax (.inr ⟨_,rfl⟩)
    have LC:(G.th i).run=none:=by rw[ax];exact A.run
    have RH:=(hg.k.mu k A.kK).Wc (hg.pY XU)
    have dw: ∀w',View l.ai AX w'->Tr E N' i ((l.mu k (some .held) none).hear 0) (Conc.G (fr.finish (.tuple #[])) cs) w':=fun w' dG=>(h w' (dF.trans ((IP _).trans (gh.trans ((K2 _).trans (wK.trans dG)))))).less
    cases hX:G.wd k with
    |mk xl xw xs xq=>
    rw[hX]at c1 c3 RH
    have c3:xq<=48:=c3
    cases xs with
    |false=>
     obtain⟨G',d⟩:=hg.awake XU LC .mQ (.inl ⟨rfl,by rw[hX]⟩)
     rw[ax,hX]at d
     have X8:xw=true:=by
      rcases RH with⟨_,x⟩|⟨x,_⟩
      ·exact x
      cases x
     refine⟨_,l.mu k (some .mQ) (some ⟨xl,xw,false,xq⟩),false,c1,⟨G',d.1,d.2,A.af,fun e=>by cases e⟩,cd.same (ah.bx ?_)⟩
     have W5:ay Try.prog E (l.mu k (some .mQ) (some ⟨xl,xw,false,xq⟩)) (base 87):=fO W A.ch
     (repeat(first|refine ah.dn W5 ?_|refine ah.pS W5 (hp:=by first|exact aa (.inl rfl) rfl|exact aa (.inr rfl) rfl|exact ri rfl rfl (by dsimp only;omega)|exact al rfl rfl rfl rfl) (h:=?_)|refine Tk.seq (ay.wk W5) ?_|refine Tk.reg W5 ?_|refine Tk.skip (ay.wk W5) ?_|refine Tk.bC (ay.wk W5) rfl ?_))
     refine Tk.inBlock W5.wk ?_
     refine Tk.inLoop W5.wk ?_
     rw[<-hK]
     exact Tk.sub (Q0 N' (Nat.lt_succ_self _) 4 ⟨xl,xw,false,xq⟩ true st' bG 0 AX dw c3 ⟨by omega,by omega⟩ (fun _=>⟨X8,rfl⟩) (fun e=>by cases e)) (bp.sub ⟨rfl,rfl,rfl,rfl,rfl,rfl,trivial⟩)
    |true=>
     obtain⟨GM,X8,hxq⟩:xl=false/\xw=false/\1<=xq:=by
      rcases RH with⟨x,_⟩|⟨_,x⟩
      ·cases x
      exact x
     subst GM X8
     by_cases hc:st'=true/\xq≠1
     ·obtain⟨rfl,T6⟩:=hc
      obtain⟨G',d⟩:=hg.awake XU LC (.hand false) (.inr ⟨false,rfl,by rw[hX],fun _=>by rw[hX];show 2<=xq;omega⟩)
      rw[ax,hX]at d
      refine⟨_,l.mu k (some (.hand false)) (some ⟨false,false,true,xq⟩),false,c1,⟨G',d.1,d.2,A.af,fun e=>by cases e⟩,cd.same (ah.bx ?_)⟩
      have W5:ay Try.prog E (l.mu k (some (.hand false)) (some ⟨false,false,true,xq⟩)) (base 87):=fO W A.ch
      have A5:Lk E i k (l.mu k (some (.hand false)) (some ⟨false,false,true,xq⟩)) (some (.hand false)):=A.mu
      (repeat(first|refine ah.dn W5 ?_|refine ah.pS W5 (hp:=by first|exact aa (.inl rfl) rfl|exact aa (.inr rfl) rfl|exact Fu rfl rfl (by dsimp only;omega)|exact ri rfl rfl (by dsimp only;omega)|exact mX rfl rfl rfl (by dsimp only;omega)|exact al rfl rfl rfl rfl|exact bw rfl rfl rfl) (h:=?_)|refine Tk.seq (ay.wk W5) ?_|refine Tk.reg W5 ?_|refine Tk.cp (ay.wk W5) rfl ?_))
      refine Tk.bC W5.wk (congrArg (fun b=>some (Value.bool b)) (show((xq:Int)==0)=false by rw[beq_eq_false_iff_ne];omega)) ?_
      refine Tk.skip W5.wk ?_
      (repeat(first|refine ah.dn W5 ?_|refine ah.pS W5 (hp:=by first|exact aa (.inl rfl) rfl|exact aa (.inr rfl) rfl|exact mX rfl rfl rfl (by dsimp only;omega)|exact al rfl rfl rfl rfl|exact ft rfl rfl|exact bw rfl rfl rfl) (h:=?_)|refine Tk.seq (ay.wk W5) ?_|refine Tk.reg W5 ?_))
      refine Tk.bC W5.wk (congrArg (fun b=>some (Value.bool b)) (show((xq:Int)==1)=false by rw[beq_eq_false_iff_ne];omega)) ?_
      refine Tk.skip W5.wk ?_
      (repeat(first|refine ah.pS W5 (hp:=by first|exact aa (.inl rfl) rfl|exact ak rfl rfl|exact av rfl rfl (by rfl) rfl (by decide+kernel)) (h:=?_)|refine Tk.seq (ay.wk W5) ?_|refine Tk.reg W5 ?_))
      refine ah.CU W5 (kk:=.i32) (ad:=E.sc (.word k)) (d:= -7) (by rfl) (by rfl) (by rfl) (by rfl) U4 (by rw[O.m];rfl) rfl fun G zd t hg au ax yV=>?_
      obtain⟨c1,c2,c3⟩:=hg.word A.kK
      have Qe:=A5.at ax (.inr ⟨_,rfl⟩)
      have uV:(G.th i).run=none:=by rw[ax];exact A.run
      obtain⟨⟨f1,f2,f3,f4⟩,_⟩:=hg.handOver Qe uV 0 ""
      have e:IntKind.i32.wrap ((G.wd k).enc+ -7)=Wd.enc ⟨true,false,!false,(G.wd k).q-1⟩:=LS (by omega) f1 f2 f3 f4 false
      have K1: ∀v,View l.ai zd (zd.setCell (E.sc (.word k)) v):=fun v=>by
       have:=hg.bU (x:=.word k) A.kK v i au
       rw[ax]at this;exact this
      refine⟨(G.wd k).enc,l.mu k (some .held) none,false,c1,c2,fun fn pos=>?_,cd.same (ah.bx ?_)⟩
      ·obtain⟨_,G',d,c⟩:=hg.handOver Qe uV fn pos
       rw[ax]at d
       rw[e]
       exact⟨G',d,.inl rfl,A.af,fun e=>by cases e⟩
      have W6:ay Try.prog E (l.mu k (some .held) none) (base 87):=fO W A.ch
      (repeat(first|refine ah.dn W6 ?_|refine Tk.exit (ay.wk W6) rfl ?_))
      exact XT N' _ _ rfl fun w' dG=>dw w' (yV.trans ((K1 _).trans dG))
     obtain⟨G',d⟩:=hg.awake XU LC (.hand true) (.inr ⟨true,rfl,by rw[hX],fun e=>by cases e⟩)
     rw[ax,hX]at d
     refine⟨_,l.mu k (some (.hand true)) (some ⟨false,false,true,xq⟩),false,c1,⟨G',d.1,d.2,A.af,fun e=>by cases e⟩,cd.same (ah.bx ?_)⟩
     have W5:ay Try.prog E (l.mu k (some (.hand true)) (some ⟨false,false,true,xq⟩)) (base 87):=fO W A.ch
     have A5:Lk E i k (l.mu k (some (.hand true)) (some ⟨false,false,true,xq⟩)) (some (.hand true)):=A.mu
     cases st' with
     |false=>
      (repeat(first|refine ah.dn W5 ?_|refine ah.pS W5 (hp:=by first|exact aa (.inl rfl) rfl|exact aa (.inr rfl) rfl|exact Fu rfl rfl (by dsimp only;omega)|exact ri rfl rfl (by dsimp only;omega)|exact mX rfl rfl rfl (by dsimp only;omega)|exact al rfl rfl rfl rfl|exact bw rfl rfl rfl) (h:=?_)|refine Tk.seq (ay.wk W5) ?_|refine Tk.reg W5 ?_|refine Tk.cp (ay.wk W5) rfl ?_))
      refine Tk.bC W5.wk (congrArg (fun b=>some (Value.bool b)) (show((xq:Int)==0)=false by rw[beq_eq_false_iff_ne];omega)) ?_
      refine Tk.skip W5.wk ?_
      (repeat(first|refine ah.dn W5 ?_|refine ah.cj W5 (by rfl) (by rfl) (by rfl) (by rfl) ?_|refine ah.pS W5 (hp:=by first|exact aa (.inl rfl) rfl|exact aa (.inr rfl) rfl|exact ak rfl rfl|exact av rfl rfl (by rfl) rfl (by decide+kernel)|exact al rfl rfl rfl rfl|exact ft rfl rfl|exact bu rfl rfl rfl) (h:=?_)|refine Tk.seq (ay.wk W5) ?_|refine Tk.reg W5 ?_|refine Tk.cp (ay.wk W5) rfl ?_))
      refine ah.CU W5 (kk:=.i32) (ad:=E.sc (.word k)) (d:= -11) (by rfl) (by rfl) (by rfl) (by rfl) U4 (by rw[O.m];rfl) rfl fun G zd t hg au ax yV=>?_
      obtain⟨c1,c2,c3⟩:=hg.word A.kK
      have Qe:=A5.at ax (.inr ⟨_,rfl⟩)
      have uV:(G.th i).run=none:=by rw[ax];exact A.run
      obtain⟨⟨f1,f2,f3,f4⟩,_⟩:=hg.handOver Qe uV 0 ""
      have e:IntKind.i32.wrap ((G.wd k).enc+ -11)=Wd.enc ⟨true,false,!true,(G.wd k).q-1⟩:=LS (by omega) f1 f2 f3 f4 true
      have K1: ∀v,View l.ai zd (zd.setCell (E.sc (.word k)) v):=fun v=>by
       have:=hg.bU (x:=.word k) A.kK v i au
       rw[ax]at this;exact this
      refine⟨(G.wd k).enc,l.mu k (some .held) none,false,c1,c2,fun fn pos=>?_,cd.same (ah.bx ?_)⟩
      ·obtain⟨_,G',d,c⟩:=hg.handOver Qe uV fn pos
       rw[ax]at d
       rw[e]
       exact⟨G',d,.inl rfl,A.af,fun e=>by cases e⟩
      have W6:ay Try.prog E (l.mu k (some .held) none) (base 87):=fO W A.ch
      (repeat(first|refine ah.dn W6 ?_|refine Tk.exit (ay.wk W6) rfl ?_))
      exact XT N' _ _ rfl fun w' dG=>dw w' (yV.trans ((K1 _).trans dG))
     |true=>
      obtain rfl:xq=1:=by
       by_cases x:xq=1
       ·exact x
       exact absurd ⟨rfl,x⟩ hc
      (repeat(first|refine ah.dn W5 ?_|refine ah.pS W5 (hp:=by first|exact aa (.inl rfl) rfl|exact aa (.inr rfl) rfl|exact Fu rfl rfl (by dsimp only;omega)|exact ri rfl rfl (by dsimp only;omega)|exact mX rfl rfl rfl (by dsimp only;omega)|exact ak rfl rfl|exact av rfl rfl (by rfl) rfl (by decide+kernel)|exact al rfl rfl rfl rfl|exact ft rfl rfl|exact bw rfl rfl rfl) (h:=?_)|refine Tk.seq (ay.wk W5) ?_|refine Tk.reg W5 ?_|refine Tk.skip (ay.wk W5) ?_|refine Tk.cp (ay.wk W5) rfl ?_|refine Tk.bC (ay.wk W5) rfl ?_))
      refine ah.CU W5 (kk:=.i32) (ad:=E.sc (.word k)) (d:= -11) (by rfl) (by rfl) (by rfl) (by rfl) U4 (by rw[O.m];rfl) rfl fun G zd t hg au ax yV=>?_
      obtain⟨c1,c2,c3⟩:=hg.word A.kK
      have Qe:=A5.at ax (.inr ⟨_,rfl⟩)
      have uV:(G.th i).run=none:=by rw[ax];exact A.run
      obtain⟨⟨f1,f2,f3,f4⟩,_⟩:=hg.handOver Qe uV 0 ""
      have e:IntKind.i32.wrap ((G.wd k).enc+ -11)=Wd.enc ⟨true,false,!true,(G.wd k).q-1⟩:=LS (by omega) f1 f2 f3 f4 true
      have K1: ∀v,View l.ai zd (zd.setCell (E.sc (.word k)) v):=fun v=>by
       have:=hg.bU (x:=.word k) A.kK v i au
       rw[ax]at this;exact this
      refine⟨(G.wd k).enc,l.mu k (some .held) none,false,c1,c2,fun fn pos=>?_,cd.same (ah.bx ?_)⟩
      ·obtain⟨_,G',d,c⟩:=hg.handOver Qe uV fn pos
       rw[ax]at d
       rw[e]
       exact⟨G',d,.inl rfl,A.af,fun e=>by cases e⟩
      have W6:ay Try.prog E (l.mu k (some .held) none) (base 87):=fO W A.ch
      (repeat(first|refine ah.dn W6 ?_|refine Tk.exit (ay.wk W6) rfl ?_))
      exact XT N' _ _ rfl fun w' dG=>dw w' (yV.trans ((K1 _).trans dG))
   -- it misses
   refine⟨_,l.mu k (some (if aw then .mQ else .fresh)) (some (G.wd k)),true,c1,c2,.inr ⟨fun e=>hz (Wd.BW e),fun fn pos=>?_,oE.lower fun N' hN=>?_⟩⟩
   ·obtain⟨G',⟨d,c⟩,bA⟩:=hg.Qs AT aS (by cases aw<;>simp) hold (fun e=>hz e.symm) fn pos
    rw[ax]at d
    exact⟨G',d,.inl rfl,A.af,fun _=>bA⟩
   subst hN
   refine Tk.sub (env':= [(0,.pointer (some ⟨B,o+1,none⟩)),(2,.int .i64 bG),(3,.bool st),(4,.bool aw),(5,.int .i64 it),(80,.bool false)]) ?_ (bp.sub ⟨rfl,rfl,rfl,rfl,rfl,rfl,trivial⟩)
   have W3:ay Try.prog E (l.mu k (some (if aw then .mQ else .fresh)) (some (G.wd k))) (base 87):=fO W A.ch
   have A3:Lk E i k (l.mu k (some (if aw then .mQ else .fresh)) (some (G.wd k))) (some (if aw then .mQ else .fresh)):=A.mu
   refine ah.dn W3 ?_
   (repeat(first|refine ah.pS W3 (hp:=by first|exact aa (.inl rfl) rfl|exact ak rfl rfl|exact av rfl rfl (by rfl) rfl (by decide+kernel)) (h:=?_)|refine Tk.reg W3 ?_|refine Tk.bC (ay.wk W3) rfl ?_))
   refine ah.nX W3 (ad:=E.sc (.word k)) PV (by rfl) (by rfl) (by rfl) (by rfl) (by rfl) (by rw[O.m];rfl) fun G eA u hg au ax gh=>?_
   obtain⟨c1,c2,c3⟩:=hg.word A.kK
   obtain⟨G',d,_⟩:=hg.rh (A3.at ax (.inr ⟨_,rfl⟩)) (by rw[ax];exact A.run) (by cases aw<;>simp)
   have wR:aw=true->(G.wd k).w=true/\(G.wd k).s=false:=fun e=>by
    subst e
    exact(hg.k.mu k A.kK).Li (hg.pY (A3.at ax (.inr ⟨_,rfl⟩)))
   rw[ax]at d
   refine⟨_,l.mu k (some (if aw then .mQ else .fresh)) (some (G.wd k)),false,c1,⟨G',d.1,d.2,A.af,fun e=>by cases e⟩,cd.same (ah.bx ?_)⟩
   have W4:ay Try.prog E (l.mu k (some (if aw then .mQ else .fresh)) (some (G.wd k))) (base 87):=fO W A.ch
   (repeat(first|refine ah.dn W4 ?_|refine ah.pS W4 (hp:=by exact aa (.inr rfl) rfl) (h:=?_)))
   refine Tk.inBlock W4.wk ?_
   refine Tk.inLoop W4.wk ?_
   rw[<-hK]
   exact Tk.sub (Q0 N' (Nat.lt_succ_self _) (4-it).toNat (G.wd k) aw st bG it eA (fun w' dG=>(h w' (dF.trans (gh.trans dG))).less) c3 ⟨by omega,hm.2⟩ wR dI) (bp.sub ⟨rfl,rfl,rfl,rfl,rfl,rfl,trivial⟩)
  case KO=>
   intro Hj
   refine Tk.seq W2.wk ?_
   by_cases KA:ol=true/\os=false
   ·obtain⟨rfl,rfl⟩:=KA
    refine Tk.reg W2 ?_
    (refine ah.pS W2 (hp:=by exact aa (.inl rfl) rfl) (h:=?_))
    ((refine ah.pS W2 (hp:=by(exact xn rfl rfl (by dsimp only;omega))) (h:=?_)))
    (refine ah.pS W2 (hp:=by exact al rfl rfl rfl rfl) (h:=?_))
    (refine ah.pS W2 (hp:=by exact aa (.inl rfl) rfl) (h:=?_))
    (refine ah.pS W2 (hp:=by exact aa (.inl rfl) rfl) (h:=?_))
    refine ah.KO W2 (by rfl) (by rfl) (by rfl) (by rfl) (by rfl) e64 rfl fun c hc=>?_
    cases c with
    |false=>
     (refine ah.pS W2 (hp:=by exact bu rfl rfl rfl) (h:=?_))
     (refine ah.dn W2 ?_)
     refine Tk.bC W2.wk rfl ?_
     refine Tk.skip W2.wk ?_
     exact Tk.sub Hj (bp.sub ⟨rfl,rfl,rfl,rfl,rfl,rfl,trivial⟩)
    |true=>
     have zaM:it<4:=hc rfl
     have zaN:0<=it:=hm.2
     have P5:4-it<=(m:Int):=hm.1
     have U2:IntKind.i64.wrap (it+1)=it+1:=by rw[IntKind.wrap_i64];omega
     (refine ah.pS W2 (hp:=by exact bu rfl rfl rfl) (h:=?_))
     (refine ah.dn W2 ?_)
     refine Tk.cp W2.wk rfl ?_
     cases aw with
     |true=>
      obtain⟨rfl,_⟩:=UT rfl
      (repeat(first|refine ah.dn W2 ?_|refine ah.cj W2 (by rfl) (by rfl) (by rfl) (by rfl) ?_|refine ah.pS W2 (hp:=by first|exact aa (.inl rfl) rfl|exact ft rfl rfl|exact bw rfl rfl rfl) (h:=?_)|refine Tk.seq (ay.wk W2) ?_|refine Tk.reg W2 ?_|refine Tk.skip (ay.wk W2) ?_|refine Tk.bC (ay.wk W2) rfl ?_))
      refine ah.Ff W2 A.af (.inr trivial) (by rfl) (by rfl) (by rfl) (by rfl) U3 (fun _=>rfl) (ah.bx ?_)
      (repeat(first|refine ah.dn W2 ?_|refine ah.pS W2 (hp:=by first|exact aa (.inl rfl) rfl|exact aa (.inr rfl) rfl|exact ak rfl rfl|exact av rfl rfl (by rfl) rfl (by decide+kernel)|exact al rfl rfl rfl rfl) (h:=?_)|refine Tk.seq (ay.wk W2) ?_|refine Tk.reg W2 ?_))
      refine ah.nX W2 (ad:=E.sc (.word k)) PV (by rfl) (by rfl) (by rfl) (by rfl) (by rfl) (by rw[O.m];rfl) fun G eA u hg au ax gh=>?_
      obtain⟨c1,c2,c3⟩:=hg.word A.kK
      have A7:Lk E i k (l.mu k (some .mQ) (some ⟨true,true,false,oq⟩)) (some .mQ):=A.mu
      have KL:=A7.at ax (.inr ⟨_,rfl⟩)
      obtain⟨G',d,_⟩:=hg.rh KL (by rw[ax];exact A.run) (by simp)
      have wR:true=true->(G.wd k).w=true/\(G.wd k).s=false:=fun _=>(hg.k.mu k A.kK).Li (hg.pY KL)
      rw[ax]at d
      refine⟨_,l.mu k (some .mQ) (some (G.wd k)),false,c1,⟨G',d.1,d.2,A.af,fun e=>by cases e⟩,cd.same (ah.bx ?_)⟩
      have W8:ay Try.prog E (l.mu k (some .mQ) (some (G.wd k))) (base 87):=fO W A.ch
      (repeat(first|refine ah.dn W8 ?_|refine ah.pS W8 (hp:=by exact aa (.inr rfl) rfl) (h:=?_)|refine Tk.exit (ay.wk W8) rfl ?_))
      refine Tk.inLoop W8.wk ?_
      rw[<-hK]
      exact Tk.sub (Ur (m-1) (by omega) (G.wd k) true st bG (it+1) eA (fun w' dG=>h w' (gh.trans dG)) c3 ⟨by omega,by omega⟩ wR (fun e=>by cases e)) (bp.sub ⟨rfl,rfl,rfl,rfl,congrArg (fun z=>some (Value.int .i64 z)) U2,rfl,trivial⟩)
     |false=>
      cases ow with
      |true=>
       (repeat(first|refine ah.dn W2 ?_|refine ah.cj W2 (by rfl) (by rfl) (by rfl) (by rfl) ?_|refine ah.pS W2 (hp:=by first|exact aa (.inl rfl) rfl|exact Bg rfl rfl (by dsimp only;omega)|exact al rfl rfl rfl rfl|exact ft rfl rfl|exact bu rfl rfl rfl|exact bw rfl rfl rfl) (h:=?_)|refine Tk.seq (ay.wk W2) ?_|refine Tk.reg W2 ?_|refine Tk.skip (ay.wk W2) ?_|refine Tk.bC (ay.wk W2) rfl ?_))
       refine ah.Ff W2 A.af (.inr trivial) (by rfl) (by rfl) (by rfl) (by rfl) U3 (fun _=>rfl) (ah.bx ?_)
       (repeat(first|refine ah.dn W2 ?_|refine ah.pS W2 (hp:=by first|exact aa (.inl rfl) rfl|exact aa (.inr rfl) rfl|exact ak rfl rfl|exact av rfl rfl (by rfl) rfl (by decide+kernel)|exact al rfl rfl rfl rfl) (h:=?_)|refine Tk.seq (ay.wk W2) ?_|refine Tk.reg W2 ?_))
       refine ah.nX W2 (ad:=E.sc (.word k)) PV (by rfl) (by rfl) (by rfl) (by rfl) (by rfl) (by rw[O.m];rfl) fun G eA u hg au ax gh=>?_
       obtain⟨c1,c2,c3⟩:=hg.word A.kK
       have A7:Lk E i k (l.mu k (some .fresh) (some ⟨true,true,false,oq⟩)) (some .fresh):=A.mu
       have KL:=A7.at ax (.inr ⟨_,rfl⟩)
       obtain⟨G',d,_⟩:=hg.rh KL (by rw[ax];exact A.run) (by simp)
       have wR:false=true->(G.wd k).w=true/\(G.wd k).s=false:=fun e=>by cases e
       rw[ax]at d
       refine⟨_,l.mu k (some .fresh) (some (G.wd k)),false,c1,⟨G',d.1,d.2,A.af,fun e=>by cases e⟩,cd.same (ah.bx ?_)⟩
       have W8:ay Try.prog E (l.mu k (some .fresh) (some (G.wd k))) (base 87):=fO W A.ch
       (repeat(first|refine ah.dn W8 ?_|refine ah.pS W8 (hp:=by exact aa (.inr rfl) rfl) (h:=?_)|refine Tk.exit (ay.wk W8) rfl ?_))
       refine Tk.inLoop W8.wk ?_
       rw[<-hK]
       exact Tk.sub (Ur (m-1) (by omega) (G.wd k) false st bG (it+1) eA (fun w' dG=>h w' (gh.trans dG)) c3 ⟨by omega,by omega⟩ wR (fun _=>dI rfl)) (bp.sub ⟨rfl,rfl,rfl,rfl,congrArg (fun z=>some (Value.int .i64 z)) U2,rfl,trivial⟩)
      |false=>
       cases oq with
       |zero=>
        (repeat(first|refine ah.dn W2 ?_|refine ah.cj W2 (by rfl) (by rfl) (by rfl) (by rfl) ?_|refine ah.pS W2 (hp:=by first|exact aa (.inl rfl) rfl|exact Bg rfl rfl (by dsimp only;omega)|exact mX rfl rfl rfl (by dsimp only;omega)|exact al rfl rfl rfl rfl|exact ft rfl rfl|exact bu rfl rfl rfl|exact bw rfl rfl rfl) (h:=?_)|refine Tk.seq (ay.wk W2) ?_|refine Tk.reg W2 ?_|refine Tk.skip (ay.wk W2) ?_|refine Tk.bC (ay.wk W2) rfl ?_))
        refine ah.Ff W2 A.af (.inr trivial) (by rfl) (by rfl) (by rfl) (by rfl) U3 (fun _=>rfl) (ah.bx ?_)
        (repeat(first|refine ah.dn W2 ?_|refine ah.pS W2 (hp:=by first|exact aa (.inl rfl) rfl|exact aa (.inr rfl) rfl|exact ak rfl rfl|exact av rfl rfl (by rfl) rfl (by decide+kernel)|exact al rfl rfl rfl rfl) (h:=?_)|refine Tk.seq (ay.wk W2) ?_|refine Tk.reg W2 ?_))
        refine ah.nX W2 (ad:=E.sc (.word k)) PV (by rfl) (by rfl) (by rfl) (by rfl) (by rfl) (by rw[O.m];rfl) fun G eA u hg au ax gh=>?_
        obtain⟨c1,c2,c3⟩:=hg.word A.kK
        have A7:Lk E i k (l.mu k (some .fresh) (some ⟨true,false,false,0⟩)) (some .fresh):=A.mu
        have KL:=A7.at ax (.inr ⟨_,rfl⟩)
        obtain⟨G',d,_⟩:=hg.rh KL (by rw[ax];exact A.run) (by simp)
        have wR:false=true->(G.wd k).w=true/\(G.wd k).s=false:=fun e=>by cases e
        rw[ax]at d
        refine⟨_,l.mu k (some .fresh) (some (G.wd k)),false,c1,⟨G',d.1,d.2,A.af,fun e=>by cases e⟩,cd.same (ah.bx ?_)⟩
        have W8:ay Try.prog E (l.mu k (some .fresh) (some (G.wd k))) (base 87):=fO W A.ch
        (repeat(first|refine ah.dn W8 ?_|refine ah.pS W8 (hp:=by exact aa (.inr rfl) rfl) (h:=?_)|refine Tk.exit (ay.wk W8) rfl ?_))
        refine Tk.inLoop W8.wk ?_
        rw[<-hK]
        exact Tk.sub (Ur (m-1) (by omega) (G.wd k) false st bG (it+1) eA (fun w' dG=>h w' (gh.trans dG)) c3 ⟨by omega,by omega⟩ wR (fun _=>dI rfl)) (bp.sub ⟨rfl,rfl,rfl,rfl,congrArg (fun z=>some (Value.int .i64 z)) U2,rfl,trivial⟩)
       |succ q'=>
        (repeat(first|refine ah.pS W2 (hp:=by first|exact aa (.inl rfl) rfl|exact Bg rfl rfl (by dsimp only;omega)|exact Qm rfl rfl (by dsimp only;omega)|exact mX rfl rfl rfl (by dsimp only;omega)|exact ak rfl rfl|exact av rfl rfl (by rfl) rfl (by decide+kernel)|exact al rfl rfl rfl rfl|exact ft rfl rfl|exact bu rfl rfl rfl) (h:=?_)|refine Tk.seq (ay.wk W2) ?_|refine Tk.reg W2 ?_))
        refine ah.Rh W2 (kk:=.i32) (ad:=E.sc (.word k)) (v0:=Wd.enc ⟨true,false,false,q'+1⟩) (v1:=Wd.enc ⟨true,true,false,q'+1⟩) (by rfl) (by rfl) (by rfl) (by rfl) U5 (by rw[O.m];rfl) rfl rfl fun G du t hg au ax dF=>?_
        obtain⟨c1,c2,c3⟩:=hg.word A.kK
        have aS:(G.th i).run=none:=by rw[ax];exact A.run
        have AT:=A2.at ax (.inr ⟨_,rfl⟩)
        have CQ:=hg.k.mu k A.kK
        have IP: ∀v,View l.ai du (du.setCell (E.sc (.word k)) v):=fun v=>by
         have:=hg.bU (x:=.word k) A.kK v i au
         rw[ax]at this;exact this
        by_cases hz:G.wd k=⟨true,false,false,q'+1⟩
        ·refine⟨_,l.mu k (some .mQ) (some ⟨true,true,false,q'+1⟩),false,c1,c2,.inl ⟨by rw[hz],fun fn pos=>?_,cd.same (ah.bx ?_)⟩⟩
         ·obtain⟨G',d,c⟩:=hg.NU (b:=.mQ) (x':=⟨true,true,false,q'+1⟩) AT aS (by simp) (by decide) fn pos (fun c' hm=>by have:=CQ.KO hm (by rw[hz]) (by rw[hz]);rw[hz]at this;exact this) (some ⟨true,true,false,q'+1⟩)
          rw[ax]at d
          exact⟨G',d,.inl rfl,A.af,fun e=>by cases e⟩
         have W9:ay Try.prog E (l.mu k (some .mQ) (some ⟨true,true,false,q'+1⟩)) (base 87):=fO W A.ch
         (repeat(first|refine ah.dn W9 ?_|refine ah.pS W9 (hp:=by first|exact aa (.inr rfl) rfl|exact bu rfl rfl rfl) (h:=?_)|refine Tk.seq (ay.wk W9) ?_|refine Tk.reg W9 ?_|refine Tk.cp (ay.wk W9) rfl ?_))
         refine ah.Ff W9 A.af (.inr trivial) (by rfl) (by rfl) (by rfl) (by rfl) U3 (fun _=>rfl) (ah.bx ?_)
         (repeat(first|refine ah.dn W9 ?_|refine ah.pS W9 (hp:=by first|exact aa (.inl rfl) rfl|exact aa (.inr rfl) rfl|exact ak rfl rfl|exact av rfl rfl (by rfl) rfl (by decide+kernel)|exact al rfl rfl rfl rfl) (h:=?_)|refine Tk.seq (ay.wk W9) ?_|refine Tk.reg W9 ?_))
         refine ah.nX W9 (ad:=E.sc (.word k)) PV (by rfl) (by rfl) (by rfl) (by rfl) (by rfl) (by rw[O.m];rfl) fun G eA u hg au ax gh=>?_
         obtain⟨c1,c2,c3⟩:=hg.word A.kK
         have A7:Lk E i k (l.mu k (some .mQ) (some ⟨true,true,false,q'+1⟩)) (some .mQ):=A.mu
         have KL:=A7.at ax (.inr ⟨_,rfl⟩)
         obtain⟨G',d,_⟩:=hg.rh KL (by rw[ax];exact A.run) (by simp)
         have wR:true=true->(G.wd k).w=true/\(G.wd k).s=false:=fun _=>(hg.k.mu k A.kK).Li (hg.pY KL)
         rw[ax]at d
         refine⟨_,l.mu k (some .mQ) (some (G.wd k)),false,c1,⟨G',d.1,d.2,A.af,fun e=>by cases e⟩,cd.same (ah.bx ?_)⟩
         have W8:ay Try.prog E (l.mu k (some .mQ) (some (G.wd k))) (base 87):=fO W A.ch
         (repeat(first|refine ah.dn W8 ?_|refine ah.pS W8 (hp:=by exact aa (.inr rfl) rfl) (h:=?_)|refine Tk.exit (ay.wk W8) rfl ?_))
         refine Tk.inLoop W8.wk ?_
         rw[<-hK]
         exact Tk.sub (Ur (m-1) (by omega) (G.wd k) true st bG (it+1) eA (fun w' dG=>h w' (dF.trans ((IP _).trans (gh.trans dG)))) c3 ⟨by omega,by omega⟩ wR (fun e=>by cases e)) (bp.sub ⟨rfl,rfl,rfl,rfl,congrArg (fun z=>some (Value.int .i64 z)) U2,rfl,trivial⟩)
        refine⟨_,l.mu k (some .fresh) (some ⟨true,false,false,q'+1⟩),false,c1,c2,.inr ⟨fun e=>hz (Wd.BW e),fun fn pos=>?_,cd.same (ah.bx ?_)⟩⟩
        ·obtain⟨G',d,c⟩:=hg.Vl (x:=.word k) A.kK fn pos au (by rw[ax];exact A.rel)
         rw[ax]at d
         exact⟨G',d,.inl rfl,A.af,fun e=>by cases e⟩
        have W9:ay Try.prog E (l.mu k (some .fresh) (some ⟨true,false,false,q'+1⟩)) (base 87):=fO W A.ch
        (repeat(first|refine ah.dn W9 ?_|refine ah.pS W9 (hp:=by exact bu rfl rfl rfl) (h:=?_)|refine Tk.seq (ay.wk W9) ?_|refine Tk.reg W9 ?_|refine Tk.skip (ay.wk W9) ?_|refine Tk.bC (ay.wk W9) rfl ?_))
        refine ah.Ff W9 A.af (.inr trivial) (by rfl) (by rfl) (by rfl) (by rfl) U3 (fun _=>rfl) (ah.bx ?_)
        (repeat(first|refine ah.dn W9 ?_|refine ah.pS W9 (hp:=by first|exact aa (.inl rfl) rfl|exact aa (.inr rfl) rfl|exact ak rfl rfl|exact av rfl rfl (by rfl) rfl (by decide+kernel)|exact al rfl rfl rfl rfl) (h:=?_)|refine Tk.seq (ay.wk W9) ?_|refine Tk.reg W9 ?_))
        refine ah.nX W9 (ad:=E.sc (.word k)) PV (by rfl) (by rfl) (by rfl) (by rfl) (by rfl) (by rw[O.m];rfl) fun G eA u hg au ax gh=>?_
        obtain⟨c1,c2,c3⟩:=hg.word A.kK
        have A7:Lk E i k (l.mu k (some .fresh) (some ⟨true,false,false,q'+1⟩)) (some .fresh):=A.mu
        have KL:=A7.at ax (.inr ⟨_,rfl⟩)
        obtain⟨G',d,_⟩:=hg.rh KL (by rw[ax];exact A.run) (by simp)
        have wR:false=true->(G.wd k).w=true/\(G.wd k).s=false:=fun e=>by cases e
        rw[ax]at d
        refine⟨_,l.mu k (some .fresh) (some (G.wd k)),false,c1,⟨G',d.1,d.2,A.af,fun e=>by cases e⟩,cd.same (ah.bx ?_)⟩
        have W8:ay Try.prog E (l.mu k (some .fresh) (some (G.wd k))) (base 87):=fO W A.ch
        (repeat(first|refine ah.dn W8 ?_|refine ah.pS W8 (hp:=by exact aa (.inr rfl) rfl) (h:=?_)|refine Tk.exit (ay.wk W8) rfl ?_))
        refine Tk.inLoop W8.wk ?_
        rw[<-hK]
        exact Tk.sub (Ur (m-1) (by omega) (G.wd k) false st bG (it+1) eA (fun w' dG=>h w' (dF.trans (gh.trans dG))) c3 ⟨by omega,by omega⟩ wR (fun _=>dI rfl)) (bp.sub ⟨rfl,rfl,rfl,rfl,congrArg (fun z=>some (Value.int .i64 z)) U2,rfl,trivial⟩)
   cases ol<;>cases os<;>first|exact absurd ⟨rfl,rfl⟩ KA|skip
   all_goals
    refine Tk.reg W2 ?_
    (refine ah.pS W2 (hp:=by exact aa (.inl rfl) rfl) (h:=?_))
    ((refine ah.pS W2 (hp:=by(exact xn rfl rfl (by dsimp only;omega))) (h:=?_)))
    (refine ah.pS W2 (hp:=by exact al rfl rfl rfl rfl) (h:=?_))
    (refine ah.pS W2 (hp:=by exact aa (.inl rfl) rfl) (h:=?_))
    (refine ah.cj W2 (by rfl) (by rfl) (by rfl) (by rfl) ?_)
    (refine ah.cj W2 (by rfl) (by rfl) (by rfl) (by rfl) ?_)
    (refine ah.pS W2 (hp:=by exact bw rfl rfl rfl) (h:=?_))
    (refine ah.dn W2 ?_)
    refine Tk.bC W2.wk rfl ?_
    refine Tk.skip W2.wk ?_
    exact Tk.sub Hj (bp.sub ⟨rfl,rfl,rfl,rfl,rfl,rfl,trivial⟩)
 exact Tk.sub (H N 4 (G.wd k) false false 0 0 ae (fun w' dG=>h w' (hv.trans dG)) c3 ⟨by omega,by omega⟩ (fun e=>by cases e) (fun _=>rfl)) (bp.sub ⟨rfl,rfl,rfl,rfl,rfl,rfl,trivial⟩)
end Go.Co.F1

namespace Go.Co.F1
open Go Go.Conc Go.Proofs
open Go.Co
variable{E:Geo}{N i:Nat}{l:Lo}{w:World}
set_option maxRecDepth 10000
noncomputable def c63:Code:=(Try.f88.body).getD .skip
theorem Ue:ij Try.prog 88 43 c63 #[]:=⟨Try.f88,Try.func88,by decide+kernel,rfl,rfl,rfl⟩
theorem e70:je Try.prog 95 Extern.Sync.semrelease:=⟨Try.f95,Try.func95,by decide+kernel,rfl,by rfl,by rfl⟩
theorem q63:(Try.prog.funcs[88]?).any (·.norace)=true:=by decide+kernel
theorem add1{x:Wd}(h:x.q<64)(h1:x.l=false):cV .add .i32 x.enc 1=some (.int .i32 (Wd.enc {x with l:=true})):=by
 rw[fV,h1];exact gU (ca (p:=fun q l w s=>EC (cV .add .i32 (ie q false w s) 1) (ie q true w s)=true) (by decide+kernel) h x.l _ _)
section
variable{P:Program}{env:Nv}{o:Oper}{t yt:TypeId}{y:Operand}{x:Wd}
theorem Mg(ho:o.op= .binOp .add t y (.const (.int .i32 1)) yt)(hx:env.ev y=some (.int .i32 x.enc))(h1:x.l=false)(h:x.q<64):bR P env o (.int .i32 (Wd.enc {x with l:=true})):=al ho hx rfl (add1 h h1)
theorem Td(ho:o.op= .binOp .sub t y (.const (.int .i32 8)) yt)(hx:env.ev y=some (.int .i32 x.enc))(h1:0<x.q)(h:x.q<64):bR P env o (.int .i32 (Wd.enc {x with q:=x.q-1})):=al ho hx rfl (Y0 h h1)
end
def Kb(E:Geo)(i k B o:Nat):Prop:=∀ (N:Nat) (l:Lo) (X:Wd) (w:World) (fr:Frame) (cs:List Frame),E.da->Lk E i k (l.mu k X.next (some X)) X.next->l.aP k=true->X.l=false->X.q<=48->
 (∀o' w',View l.ai w w'->Tr E N i (l.mu k none o') (Conc.G (fr.finish (.tuple #[])) cs) w')->
 Tr E N i (l.mu k X.next (some X)) (Conc.G (Frame.enter Try.prog 88 #[.pointer (some ⟨B,o+1,none⟩),.int .i32 X.enc] .normal) (fr::cs)) w
theorem DR{k:Nat}{r:Ro}{G:Gh}{t:Trace}{l0:Lo}{oo:Option Wd}(hr:r= .owe\/r= .relS)(A:Lk E i k (l0.mu k (some r) oo) (some r))(hp:l0.aP k=true)(hg:GI E G w t)(ax:G.th i=l0.mu k (some r) oo):
  cQ E i G w (w.setCell (E.sc (.sema k)) (.int .u32 (IntKind.u32.wrap ((G.sm k:Int)+1)))) t (semEvents (E.sc (.sema k))) (l0.mu k none none) true false:=by
 intro fn pos
 obtain⟨G',d⟩:=hg.Wr hr (A.at ax (.inr ⟨_,rfl⟩)) (by rw[ax];exact A.run) (by rw[ax];exact hp) fn pos
 obtain⟨_,_,hs⟩:=hg.sema A.kK
 have e:IntKind.u32.wrap ((G.sm k:Int)+1)=(G.sm k:Int)+1:=by rw[IntKind.wrap_u32];omega
 rw[e]
 rw[ax]at d
 exact⟨G',d,.inl rfl,A.af,fun e=>by cases e⟩
set_option maxHeartbeats 4000000 in
theorem OQ{k B o:Nat}(hP:E.P=Try.prog)(O:ni E k B o):Kb E i k B o:=by
 intro N l X w fr cs hf A hp UX UW h
 obtain⟨xl,xw,xs,xq⟩:=X
 have UX:xl=false:=UX
 subst UX
 have UW:xq<=48:=UW
 have W:ay Try.prog E (l.mu k (Wd.next ⟨false,xw,xs,xq⟩) (some ⟨false,xw,xs,xq⟩)) (base 88):=⟨⟨hf,A.ch,by decide⟩,hP⟩
 refine Tr.ck hP Ue (Nat.le_of_ble_eq_true rfl) ?_
 cases xs with
 |true=>
  (repeat(first|refine ah.pS W (hp:=by(exact Mg rfl rfl rfl (by dsimp only;omega))) (h:=?_)|refine ah.dn W ?_|refine ah.pS W (hp:=by first|exact aa (.inl rfl) rfl|exact Fv rfl rfl (by dsimp only;omega)|exact ri rfl rfl (by dsimp only;omega)|exact ak rfl rfl|exact av rfl rfl (by rfl) rfl (by decide+kernel)|exact al rfl rfl rfl rfl) (h:=?_)|refine Tk.seq (ay.wk W) ?_|refine Tk.reg W ?_|refine Tk.skip (ay.wk W) ?_|refine Tk.bC (ay.wk W) rfl ?_))
  refine ah.Bd W (ad:=E.sc (.sema k)) (by rfl) (by rfl) (by rfl) (by rfl) e70 (by rw[O.s];rfl) fun G eA t hg au ax gh=>?_
  obtain⟨c1,c2,_⟩:=hg.sema A.kK
  have K2: ∀v,View l.ai eA (eA.setCell (E.sc (.sema k)) v):=fun v=>by
   have:=hg.bU (x:=.sema k) A.kK v i au
   rw[ax]at this;exact this
  refine⟨(G.sm k:Int),l.mu k none none,false,c1,c2,DR (r:=.relS) (.inr rfl) A.mu hp hg ax,cd.same (ah.bx ?_)⟩
  have W9:ay Try.prog E (l.mu k none none) (base 88):=⟨⟨hf,A.ch,by decide⟩,hP⟩
  (repeat(refine ah.dn W9 ?_))
  exact Tk.ji W9.wk (fE.leave0 W9.wk (hP▸Ue) (h _ _ (gh.trans (K2 _))))
 |false=>
  (repeat(first|refine ah.pS W (hp:=by(exact Mg rfl rfl rfl (by dsimp only;omega))) (h:=?_)|refine ah.dn W ?_|refine ah.pS W (hp:=by first|exact aa (.inl rfl) rfl|exact aa (.inr rfl) rfl|exact Fv rfl rfl (by dsimp only;omega)|exact ri rfl rfl (by dsimp only;omega)|exact al rfl rfl rfl rfl) (h:=?_)|refine Tk.seq (ay.wk W) ?_|refine Tk.reg W ?_|refine Tk.skip (ay.wk W) ?_|refine Tk.block (ay.wk W) ?_|refine Tk.cp (ay.wk W) rfl ?_|refine Tk.bC (ay.wk W) rfl ?_))
  refine Tk.loop W.wk ?_
  refine Tk.cut fun K hK=>?_
  have H: ∀N (o':Wd) (r:Option Ro) (w:World),(∀o' w',View l.ai w w'->Tr E N i (l.mu k none o') (Conc.G (fr.finish (.tuple #[])) cs) w')->o'.q<=48->
    ((r=none/\(o'.q=0\/o'.l=true\/o'.w=true\/o'.s=true))\/(r=some .relN/\o'.q≠0/\o'.l=false/\o'.w=false/\o'.s=false))->
    Tk E N i (l.mu k r (some o')) w (base 88) 43 [(0,.pointer (some ⟨B,o+1,none⟩)),(4,.int .i32 o'.enc)] [] K (fr::cs):=by
   intro N
   induction N using Nat.strongRecOn with
   |ind N Q0=>
   intro o' r w h hq hr
   obtain⟨ol,ow,os,oq⟩:=o'
   have hq:oq<=48:=hq
   rw[hK]
   rcases hr with⟨rfl,Ys⟩|⟨rfl,hq0,e1,e2,e3⟩
   ·have W2:ay Try.prog E (l.mu k none (some ⟨ol,ow,os,oq⟩)) (base 88):=⟨⟨hf,A.ch,by decide⟩,hP⟩
    cases oq with
    |zero=>
     (repeat(first|refine ah.dn W2 ?_|refine ah.cj W2 (by rfl) (by rfl) (by rfl) (by rfl) ?_|refine ah.pS W2 (hp:=by first|exact aa (.inl rfl) rfl|exact mX rfl rfl rfl (by dsimp only;omega)|exact al rfl rfl rfl rfl|exact bu rfl rfl rfl) (h:=?_)|refine Tk.seq (ay.wk W2) ?_|refine Tk.reg W2 ?_|refine Tk.block (ay.wk W2) ?_|refine Tk.cp (ay.wk W2) rfl ?_))
     exact Tk.ret W2.wk (fE.leave0 W2.wk (hP▸Ue) (h _ _ (View.refl _ _)))
    |succ q'=>
     have Ys:ol=true\/ow=true\/os=true:=by
      rcases Ys with x|x|x|x
      ·cases x
      ·exact .inl x
      ·exact .inr (.inl x)
      exact .inr (.inr x)
     have fin: ∀ (b:Bool),b=true->True:=fun _ _=>trivial
     cases ol<;>cases ow<;>cases os<;>first|(rcases Ys with x|x|x<;>cases x;done)|((repeat(first|refine ah.dn W2 ?_|refine ah.pS W2 (hp:=by first|exact aa (.inl rfl) rfl|exact Mf rfl rfl (by dsimp only;omega)|exact mX rfl rfl rfl (by dsimp only;omega)|exact al rfl rfl rfl rfl|exact bw rfl rfl rfl) (h:=?_)|refine Tk.seq (ay.wk W2) ?_|refine Tk.reg W2 ?_|refine Tk.block (ay.wk W2) ?_|refine Tk.cp (ay.wk W2) rfl ?_));exact Tk.ret W2.wk (fE.leave0 W2.wk (hP▸Ue) (h _ _ (View.refl _ _))))
   have e1:ol=false:=e1
   have e2:ow=false:=e2
   have e3:os=false:=e3
   subst e1 e2 e3
   have W2:ay Try.prog E (l.mu k (some .relN) (some ⟨false,false,false,oq⟩)) (base 88):=⟨⟨hf,A.ch,by decide⟩,hP⟩
   have A2:Lk E i k (l.mu k (some .relN) (some ⟨false,false,false,oq⟩)) (some .relN):=A.mu
   cases oq with
   |zero=>exact absurd rfl hq0
   |succ q'=>
   (repeat(first|refine ah.pS W2 (hp:=by(exact Td rfl rfl (by dsimp only;omega) (by dsimp only;omega))) (h:=?_)|refine ah.dn W2 ?_|refine ah.pS W2 (hp:=by first|exact aa (.inl rfl) rfl|exact aa (.inr rfl) rfl|exact Mf rfl rfl (by dsimp only;omega)|exact Qm rfl rfl (by dsimp only;omega)|exact mX rfl rfl rfl (by dsimp only;omega)|exact ak rfl rfl|exact av rfl rfl (by rfl) rfl (by decide+kernel)|exact al rfl rfl rfl rfl|exact bw rfl rfl rfl) (h:=?_)|refine Tk.seq (ay.wk W2) ?_|refine Tk.reg W2 ?_|refine Tk.skip (ay.wk W2) ?_|refine Tk.block (ay.wk W2) ?_|refine Tk.bC (ay.wk W2) rfl ?_))
   refine ah.Rh W2 (kk:=.i32) (ad:=E.sc (.word k)) (v0:=Wd.enc ⟨false,false,false,q'+1⟩) (v1:=Wd.enc ⟨false,true,false,q'⟩) (by rfl) (by rfl) (by rfl) (by rfl) U5 (by rw[O.m];rfl) rfl rfl fun G du t hg au ax dF=>?_
   obtain⟨c1,c2,c3⟩:=hg.word A.kK
   have aS:(G.th i).run=none:=by rw[ax];exact A.run
   have AT:=A2.at ax (.inr ⟨_,rfl⟩)
   have CQ:=hg.k.mu k A.kK
   have hold:(G.th i).old=some ⟨false,false,false,q'+1⟩:=by rw[ax];rfl
   have IP: ∀v,View l.ai du (du.setCell (E.sc (.word k)) v):=fun v=>by
    have:=hg.bU (x:=.word k) A.kK v i au
    rw[ax]at this;exact this
   by_cases hz:G.wd k=⟨false,false,false,q'+1⟩
   ·refine⟨_,l.mu k (some .owe) none,false,c1,c2,.inl ⟨by rw[hz],fun fn pos=>?_,cd.same (ah.bx ?_)⟩⟩
    ·obtain⟨G',d,c⟩:=hg.NU (b:=.owe) (x':=⟨false,true,false,q'⟩) AT aS (by simp) (by decide) fn pos (fun c' hm=>by have:=CQ.pick hm (by rw[hz]) (by rw[hz]) (by rw[hz];exact Nat.succ_pos _);rw[hz]at this;exact this) none
     rw[ax]at d
     exact⟨G',d,.inl rfl,A.af,fun e=>by cases e⟩
    have W3:ay Try.prog E (l.mu k (some .owe) none) (base 88):=⟨⟨hf,A.ch,by decide⟩,hP⟩
    (repeat(first|refine ah.dn W3 ?_|refine ah.pS W3 (hp:=by first|exact aa (.inl rfl) rfl|exact ak rfl rfl|exact av rfl rfl (by rfl) rfl (by decide+kernel)) (h:=?_)|refine Tk.seq (ay.wk W3) ?_|refine Tk.reg W3 ?_|refine Tk.cp (ay.wk W3) rfl ?_))
    refine ah.Bd W3 (ad:=E.sc (.sema k)) (by rfl) (by rfl) (by rfl) (by rfl) e70 (by rw[O.s];rfl) fun G eA t hg au ax gh=>?_
    obtain⟨c1,c2,_⟩:=hg.sema A.kK
    have K2: ∀v,View l.ai eA (eA.setCell (E.sc (.sema k)) v):=fun v=>by
     have:=hg.bU (x:=.sema k) A.kK v i au
     rw[ax]at this;exact this
    refine⟨(G.sm k:Int),l.mu k none none,false,c1,c2,DR (r:=.owe) (.inl rfl) A.mu hp hg ax,cd.same (ah.bx ?_)⟩
    have W9:ay Try.prog E (l.mu k none none) (base 88):=⟨⟨hf,A.ch,by decide⟩,hP⟩
    (repeat(refine ah.dn W9 ?_))
    exact Tk.ret W9.wk (fE.leave0 W9.wk (hP▸Ue) (h _ _ (dF.trans ((IP _).trans (gh.trans (K2 _))))))
   refine⟨_,l.mu k (some .relN) (some (G.wd k)),true,c1,c2,.inr ⟨fun e=>hz (Wd.BW e),fun fn pos=>?_,oE.lower fun N' hN=>?_⟩⟩
   ·obtain⟨G',⟨d,c⟩,bA⟩:=hg.Qs AT aS (by simp) hold (fun e=>hz e.symm) fn pos
    rw[ax]at d
    exact⟨G',d,.inl rfl,A.af,fun _=>bA⟩
   subst hN
   refine Tk.sub (env':= [(0,.pointer (some ⟨B,o+1,none⟩)),(30,.bool false)]) ?_ (bp.sub ⟨rfl,rfl,trivial⟩)
   have W3:ay Try.prog E (l.mu k (some .relN) (some (G.wd k))) (base 88):=⟨⟨hf,A.ch,by decide⟩,hP⟩
   have A3:Lk E i k (l.mu k (some .relN) (some (G.wd k))) (some .relN):=A.mu
   refine ah.dn W3 ?_
   (repeat(first|refine ah.pS W3 (hp:=by first|exact aa (.inl rfl) rfl|exact ak rfl rfl|exact av rfl rfl (by rfl) rfl (by decide+kernel)) (h:=?_)|refine Tk.reg W3 ?_|refine Tk.skip (ay.wk W3) ?_|refine Tk.bC (ay.wk W3) rfl ?_))
   refine ah.nX W3 (ad:=E.sc (.word k)) q63 (by rfl) (by rfl) (by rfl) (by rfl) (by rfl) (by rw[O.m];rfl) fun G eA u hg au ax gh=>?_
   obtain⟨c1,c2,c3⟩:=hg.word A.kK
   have Vd:=A3.at ax (.inr ⟨_,rfl⟩)
   have C8:(G.th i).run=none:=by rw[ax];exact A.run
   have dw: ∀o' w',View l.ai eA w'->Tr E N' i (l.mu k none o') (Conc.G (fr.finish (.tuple #[])) cs) w':=fun o' w' dG=>(h o' w' (dF.trans (gh.trans dG))).less
   by_cases hD:(G.wd k).q=0\/(G.wd k).l=true\/(G.wd k).w=true\/(G.wd k).s=true
   ·obtain⟨G',d⟩:=hg.TC Vd C8 (by rw[ax];exact hp) hD
    rw[ax]at d
    refine⟨_,l.mu k none (some (G.wd k)),false,c1,⟨G',d.1,d.2,A.af,fun e=>by cases e⟩,cd.same (ah.bx ?_)⟩
    have W4:ay Try.prog E (l.mu k none (some (G.wd k))) (base 88):=⟨⟨hf,A.ch,by decide⟩,hP⟩
    (repeat(first|refine ah.dn W4 ?_|refine ah.pS W4 (hp:=by exact aa (.inr rfl) rfl) (h:=?_)))
    refine Tk.inBlock W4.wk ?_
    refine Tk.inLoop W4.wk ?_
    rw[<-hK]
    exact Tk.sub (Q0 N' (Nat.lt_succ_self _) (G.wd k) none eA dw c3 (.inl ⟨rfl,hD⟩)) (bp.sub ⟨rfl,rfl,trivial⟩)
   obtain⟨G',d,_⟩:=hg.rh Vd C8 (by simp)
   rw[ax]at d
   refine⟨_,l.mu k (some .relN) (some (G.wd k)),false,c1,⟨G',d.1,d.2,A.af,fun e=>by cases e⟩,cd.same (ah.bx ?_)⟩
   have W4:ay Try.prog E (l.mu k (some .relN) (some (G.wd k))) (base 88):=⟨⟨hf,A.ch,by decide⟩,hP⟩
   (repeat(first|refine ah.dn W4 ?_|refine ah.pS W4 (hp:=by exact aa (.inr rfl) rfl) (h:=?_)))
   refine Tk.inBlock W4.wk ?_
   refine Tk.inLoop W4.wk ?_
   rw[<-hK]
   have nb: ∀ {b:Bool},¬b=true->b=false:=fun{b} hb=>by cases b<;>first|rfl|exact absurd rfl hb
   exact Tk.sub (Q0 N' (Nat.lt_succ_self _) (G.wd k) (some .relN) eA dw c3 (.inr ⟨rfl,fun x=>hD (.inl x),nb fun x=>hD (.inr (.inl x)),nb fun x=>hD (.inr (.inr (.inl x))),nb fun x=>hD (.inr (.inr (.inr x)))⟩)) (bp.sub ⟨rfl,rfl,trivial⟩)
  refine Tk.sub (H N ⟨false,xw,false,xq⟩ (Wd.next ⟨false,xw,false,xq⟩) w h UW ?_) (bp.sub ⟨rfl,rfl,trivial⟩)
  have en:Wd.next ⟨false,xw,false,xq⟩=if xq=0\/xw=true then none else some .relN:=rfl
  rw[en]
  by_cases hc:xq=0\/xw=true
  ·rw[if_pos hc];exact .inl ⟨rfl,hc.elim .inl fun x=>.inr (.inr (.inl x))⟩
  rw[if_neg hc]
  refine .inr ⟨rfl,fun x=>hc (.inl x),rfl,?_,rfl⟩
  cases xw with
  |false=>rfl
  |true=>exact absurd (.inr rfl) hc
end Go.Co.F1
