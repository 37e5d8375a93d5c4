/- HashMany returns true for every slice of tuples, in whatever order its goroutines run, and its argument reads as before. No condition. -/
import Derived.Conc.Beside
import Derived.Conc.CrowdComm
import Derived.Conc.CrowdCom2
import Derived.Conc.MuSpec
set_option linter.all false
namespace Go.Co
open Go Go.Conc
open Go.ConcN (sumTo upd sumTo_upd upd_ne upd_same)
section
variable{α:Type}
def jJ(F:(α->Prop)->α->Prop)(a:α):Prop:=∀Q:α->Prop,(∀b,F Q b->Q b)->Q a
variable{F:(α->Prop)->α->Prop}
theorem jJ.fold(mono: ∀Q Q':α->Prop,(∀a,Q a->Q' a)->∀a,F Q a->F Q' a){a:α}(h:F (jJ F) a):jJ F a:=fun Q hQ=>hQ a (mono _ _ (fun _b hb=>hb Q hQ) a h)
theorem jJ.unfold(mono: ∀Q Q':α->Prop,(∀a,Q a->Q' a)->∀a,F Q a->F Q' a){a:α}(h:jJ F a):F (jJ F) a:=h (F (jJ F)) fun _ hb=>mono _ _ (fun _ hc=>jJ.fold mono hc) _ hb
theorem jJ.induct(mono: ∀Q Q':α->Prop,(∀a,Q a->Q' a)->∀a,F Q a->F Q' a){Q:α->Prop}(step: ∀a,F (fun b=>Q b/\jJ F b) a->Q a){a:α}(h:jJ F a):Q a:=by
 have:(fun b=>Q b/\jJ F b) a:=h (fun b=>Q b/\jJ F b) fun b hb=>⟨step b hb,jJ.fold mono (mono (fun b=>Q b/\jJ F b) _ (fun _ hc=>hc.2) b hb)⟩
 exact this.1
end
section
variable{α:Type}(F:Nat->(α->Prop)->α->Prop)
def Below(S:(Nat->α)->Prop)(k:Nat)(f:Nat->α):Prop:=∀h:Nat->α,(∀i,i<k->jJ (F i) (h i))->S (fun i=>if i<k then h i else f i)
variable{F}
theorem Gi(mono: ∀i (Q Q':α->Prop),(∀a,Q a->Q' a)->∀a,F i Q a->F i Q' a){n:Nat}{S:(Nat->α)->Prop}
  (hS: ∀f:Nat->α,(∀j,j<n->jJ (F j) (f j)/\F j (fun a=>S (upd f j a)/\jJ (F j) a) (f j))->S f): ∀k,k<=n->∀f:Nat->α,
  (∀j,k<=j->j<n->jJ (F j) (f j)/\F j (fun a=>Below F S k (upd f j a)/\jJ (F j) a) (f j))->Below F S k f:=by
 intro k
 induction k with
 |zero=>
  intro _ f hf h _
  simp only[Nat.not_lt_zero,if_false]
  refine hS f fun j hj=>?_
  obtain⟨h1,h2⟩:=hf j (Nat.zero_le _) hj
  refine⟨h1,mono j _ _ (fun a ha=>⟨?_,ha.2⟩) _ h2⟩
  have:=ha.1 f (fun i hi=>absurd hi (Nat.not_lt_zero _))
  simpa only[Nat.not_lt_zero,if_false]using this
 |succ k ih=>
  intro hk f hf
  have key: ∀a,jJ (F k) a->Below F S k (upd f k a):=by
   intro a ha
   refine jJ.induct (Q:=fun a=>Below F S k (upd f k a)) (mono k) (fun a YE=>?_) ha
   refine ih (by omega) (upd f k a) fun j hj Kj=>?_
   by_cases Cz:j=k
   ·subst Cz
    rw[upd_same]
    refine⟨jJ.fold (mono j) (mono j _ _ (fun b hb=>hb.2) _ YE),mono j _ _ (fun b hb=>⟨?_,hb.2⟩) _ YE⟩
    have e:upd (upd f j a) j b=upd f j b:=by funext x;unfold upd;split<;>rfl
    rw[e];exact hb.1
   obtain⟨h1,h2⟩:=hf j (by omega) Kj
   rw[upd_ne f a Cz]
   refine⟨h1,mono j _ _ (fun b hb=>⟨?_,hb.2⟩) _ h2⟩
   intro h hh
   have dK: ∀i,i<k+1->jJ (F i) ((fun i=>if i=k then a else h i) i):=fun i hi=>by
    by_cases Kk:i=k
    ·subst Kk
     simp only[if_true]
     exact jJ.fold (mono i) (mono i _ _ (fun b hb=>hb.2) _ YE)
    simp only[if_neg Kk];exact hh i (by omega)
   have:=hb.1 (fun i=>if i=k then a else h i) dK
   refine cast (congrArg S ?_) this
   funext i
   by_cases Kk:i=k
   ·subst Kk
    have: ¬i=j:=fun e=>Cz e.symm
    simp[upd,this]
   by_cases bA:i<k
   ·simp[bA,Kk,show i<k+1 by omega]
   simp[bA,show ¬i<k+1 by omega,upd,Kk]
  intro h hh
  have:=key (h k) (hh k (by omega)) h fun i hi=>hh i (by omega)
  refine cast (congrArg S ?_) this
  funext i
  by_cases Kk:i=k
  ·subst Kk;simp[upd]
  by_cases bA:i<k
  ·simp[bA,show i<k+1 by omega]
  simp[bA,show ¬i<k+1 by omega,upd,Kk]
theorem M3(mono: ∀i (Q Q':α->Prop),(∀a,Q a->Q' a)->∀a,F i Q a->F i Q' a){n:Nat}{S:(Nat->α)->Prop}
  (hS: ∀f:Nat->α,(∀j,j<n->jJ (F j) (f j)/\F j (fun a=>S (upd f j a)/\jJ (F j) a) (f j))->S f) (f:Nat->α) (hf: ∀j,j<n->jJ (F j) (f j)):S f:=by
 have:=Gi mono hS n (Nat.le_refl _) f (fun j h1 h2=>absurd h2 (by omega)) f (fun i hi=>hf i hi)
 simpa only[ite_self]using this
end
end Go.Co

namespace Go.Co
open Go Go.Conc
open Go.ConcN (sumTo upd sumTo_upd upd_ne upd_same)
inductive Ch where
 |no
 |recv
 |send (v:Value)
structure jI where
 P:Program
 Gh:Type
 Lo:Type
 lo:Gh->Nat->Lo
 sz:Gh->Nat
 act:Gh->Nat->Prop
 ai:Lo->Nat->Prop
 deaf:Lo->Nat
 grow:Lo->Nat->Nat->Lo
 qC:Gh->Nat->Nat->Nat->Gh
 ch:Lo->Ch
 c:Nat
 cl:Gh->Bool
 PK:Gh->Nat->Prop
 Φ:Gh->Nat
 GI:Gh->World->Trace->Prop
 fin:Lo->Goroutine->World->Prop
 got:Lo->Value->Lo->Prop
 shut:Lo->Lo->Prop
 CM:Lo->Lo->Prop
 still:Lo->Prop
def View(ai:Nat->Prop)(w w':World):Prop:=w.heap.size<=w'.heap.size/\∀b,ai b->w'.heap[b]?=w.heap[b]?
theorem View.refl(ai:Nat->Prop)(w:World):View ai w w:=⟨Nat.le_refl _,fun _ _=>rfl⟩
theorem View.trans{ai:Nat->Prop}{a b c:World}(h:View ai a b)(k:View ai b c):View ai a c:=⟨Nat.le_trans h.1 k.1,fun x hx=>(k.2 x hx).trans (h.2 x hx)⟩
theorem View.at{ai:Nat->Prop}{a b:World}(h:View ai a b)(d:Nat):View ai a (b.at d):=h
def KJ(ai:Nat->Prop)(e:Event):Prop:=
 (∃a wr s,e=⟨.cell a,wr,s⟩/\ai a.block)\/(∃r wr,e=⟨.obj r,wr,false⟩/\ai r)\/(∃m wr s,e=⟨.mark m,wr,s⟩/\(Neutral m\/∃a,(m= .acquire a\/m= .releaseMerge a)/\ai a.block))
structure I3(ai:Nat->Prop)(w w':World)(es:Array Event):Prop where
 size:w.heap.size<=w'.heap.size
 block: ∀b,¬ai b->b<w.heap.size->w'.heap[b]?=w.heap[b]?
 tape:w'.tape=w.tape
 os:w'.os=w.os
 output:w'.output=w.output
 cJ: ∀e∈es,KJ (fun b=>ai b\/(w.heap.size<=b/\b<w'.heap.size)) e
abbrev jI.Node(Y:jI):=Y.Lo×Goroutine×World
def jI.Out(Y:jI)(X:Nat->Y.Node->Prop)(i:Nat)(Q:Y.Node->Prop)(G:Y.Gh)(g:Goroutine)(w:World)(t:Trace):Prop:=
 (∃g' w' es G',stepG Y.P (i==0) g w= .go g' w' es/\g'.status= .running/\Y.GI G' w' (t++MemOp.ofEvents i g.frame.fn g.frame.place es)/\Y.sz G'=Y.sz G/\
   (∀j,j≠i->Y.lo G' j=Y.lo G j/\(Y.act G' j↔Y.act G j)/\(Y.act G j->View (Y.ai (Y.lo G j)) w w'))/\
   (mayWake Y.P g=true\/((∀j,Y.PK G j->Y.PK G' j)/\Y.cl G'=Y.cl G))/\Y.Φ G'<=Y.Φ G/\
   (
   (Y.act G' i/\(Q (Y.lo G' i,g',w')\/(Y.Φ G'<Y.Φ G/\X i (Y.lo G' i,g',w'))))\/
   (¬Y.act G' i/\i≠0/\Y.Φ G'<Y.Φ G/\∃k,QuitsD Y.P k (deafBehind (Y.deaf (Y.lo G i)) es) g')))\/
 (stepG Y.P (i==0) g w= .go {g with status:=.blocked} w #[]/\Y.PK G i)\/
 (i=0/\∃g' child w' es,stepG Y.P true g w= .spawn g' child w' es/\∀fn:FuncId,∃G',
   Y.GI G' w' (((t++MemOp.ofEvents 0 g.frame.fn g.frame.place es).push {g:=0,fn:=g.frame.fn,pos:=g.frame.place,act:=.go (Y.sz G)}).push {g:=Y.sz G,fn:=fn,pos:=g.frame.place,act:=.start})/\
   Y.sz G'=Y.sz G+1/\Y.act G' 0/\Y.act G' (Y.sz G)/\Y.Φ G'<Y.Φ G/\
   (∀j,j≠0->j≠Y.sz G->Y.lo G' j=Y.lo G j/\(Y.act G' j↔Y.act G j)/\(Y.act G j->View (Y.ai (Y.lo G j)) w w'))/\
   (∀j,j≠Y.sz G->Y.PK G j->Y.PK G' j)/\Y.cl G'=Y.cl G/\X 0 (Y.lo G' 0,g',w')/\X (Y.sz G) (Y.lo G' (Y.sz G),child,w'))
def jI.F(Y:jI)(X:Nat->Y.Node->Prop)(i:Nat)(Q:Y.Node->Prop)(n:Y.Node):Prop:=
 (n.2.1.status= .running/\n.2.1.offers=none/\n.2.1.dying=none)/\
 (
 (i=0/\Y.ch n.1= .no/\Y.fin n.1 n.2.1 n.2.2)\/
 (Y.ch n.1= .no/\∀w,View (Y.ai n.1) n.2.2 w->∃g' w' es,stepG Y.P (i==0) n.2.1 w= .go g' w' es/\g'.status= .running/\I3 (Y.ai n.1) w w' es/\(Y.still n.1->∀e∈es,(MemAct.ofEvent e).touch?=none)/\Q (Y.grow n.1 w.heap.size w'.heap.size,g',w'))\/
 (Y.ch n.1= .no/\∀G w t,Y.GI G w t->Y.act G i->Y.lo G i=n.1->View (Y.ai n.1) n.2.2 w->Y.Out X i Q G n.2.1 w t)\/
 (i≠0/\Y.ch n.1= .recv/\∀w,View (Y.ai n.1) n.2.2 w->∃z,stepG Y.P false n.2.1 w= .comm n.2.1 #[rcase Y.c z] true (.recv true) w #[]/\
   (∀v l',Y.got n.1 v l'->X i (l',Conc.served n.2.1 (recvd true v true),w))/\(∀l',Y.shut n.1 l'->Q (l',Conc.served n.2.1 (recvd true z false),w)))\/
 (i=0/\∃v,Y.ch n.1= .send v/\∀w,View (Y.ai n.1) n.2.2 w->∃z,stepG Y.P true n.2.1 w= .comm n.2.1 #[scase Y.c v z] true .send w #[]/\
   ∀l',Y.CM n.1 l'->X 0 (l',Conc.served n.2.1 undef,w)))
theorem jI.Out.mono{Y:jI}{X X':Nat->Y.Node->Prop}{i:Nat}{Q Q':Y.Node->Prop}{G:Y.Gh}{g:Goroutine}{w:World}{t:Trace}(hX: ∀i a,X i a->X' i a)(hQ: ∀a,Q a->Q' a)(h:Y.Out X i Q G g w t):Y.Out X' i Q' G g w t:=by
 rcases h with⟨g',w',es,G',h1,h2,h3,h4,h5,h6,h7,h8⟩|h|⟨h0,g',child,w',es,h1,h2⟩
 ·refine .inl ⟨g',w',es,G',h1,h2,h3,h4,h5,h6,h7,?_⟩
  rcases h8 with⟨a,b|⟨c,d⟩⟩|h8
  ·exact .inl ⟨a,.inl (hQ _ b)⟩
  ·exact .inl ⟨a,.inr ⟨c,hX _ _ d⟩⟩
  exact .inr h8
 ·exact .inr (.inl h)
 refine .inr (.inr ⟨h0,g',child,w',es,h1,fun fn=>?_⟩)
 obtain⟨G',a1,a2,a3,a4,a5,a6,a7,a8,a9,XR⟩:=h2 fn
 exact⟨G',a1,a2,a3,a4,a5,a6,a7,a8,hX _ _ a9,hX _ _ XR⟩
theorem jI.F.Qr{Y:jI}{X X':Nat->Y.Node->Prop}{i:Nat}{Q Q':Y.Node->Prop}{n:Y.Node}(hX: ∀i a,X i a->X' i a)(hQ: ∀a,Q a->Q' a)(h:Y.F X i Q n):Y.F X' i Q' n:=by
 obtain⟨h0,h⟩:=h
 refine⟨h0,?_⟩
 rcases h with h|⟨hc,h⟩|⟨hc,h⟩|⟨hi,hc,h⟩|⟨hi,v,hc,h⟩
 ·exact .inl h
 ·refine .inr (.inl ⟨hc,fun w hw=>?_⟩)
  obtain⟨g',w',es,a,b,c,e,d⟩:=h w hw
  exact⟨g',w',es,a,b,c,e,hQ _ d⟩
 ·exact .inr (.inr (.inl ⟨hc,fun G w t a b c d=>(h G w t a b c d).mono hX hQ⟩))
 ·refine .inr (.inr (.inr (.inl ⟨hi,hc,fun w hw=>?_⟩)))
  obtain⟨z,a,b,c⟩:=h w hw
  exact⟨z,a,fun v l' hl=>hX _ _ (b v l' hl),fun l' hl=>hQ _ (c l' hl)⟩
 refine .inr (.inr (.inr (.inr ⟨hi,v,hc,fun w hw=>?_⟩)))
 obtain⟨z,a,b⟩:=h w hw
 exact⟨z,a,fun l' hl=>hX _ _ (b l' hl)⟩
theorem jI.F.mono(Y:jI)(X:Nat->Y.Node->Prop)(i:Nat)(Q Q':Y.Node->Prop)(hQ: ∀a,Q a->Q' a)(a:Y.Node)(h:Y.F X i Q a):Y.F X i Q' a:=h.Qr (fun _ _ x=>x) hQ
def jI.Lv(Y:jI):Nat->Nat->Y.Node->Prop
 |0,_,_=>True
 |N+1,i,a=>jJ (Y.F (Y.Lv N) i) a
theorem jI.Lv.less{Y:jI}: ∀ {N i:Nat} {a:Y.Node},Y.Lv (N+1) i a->Y.Lv N i a
 |0,_,_,_=>trivial
 |N+1,i,a,h=>by
  refine jJ.induct (F:=Y.F (Y.Lv (N+1)) i) (jI.F.mono Y _ i) (Q:=Y.Lv (N+1) i) (fun b hb=>?_) h
  exact jJ.fold (jI.F.mono Y _ i) (hb.Qr (fun _ _ x=>jI.Lv.less x) fun _ x=>x.1)
theorem jI.Lv.fold{Y:jI}{N i:Nat}{a:Y.Node}(h:Y.F (Y.Lv N) i (Y.Lv (N+1) i) a):Y.Lv (N+1) i a:=jJ.fold (jI.F.mono Y _ i) h
def jQ(c s r k:Nat)(f0 fk:FuncId)(p0 pk:String):Trace:=
 #[{g:=0,fn:=f0,pos:=p0,act:=.send c s},{g:=k,fn:=fk,pos:=pk,act:=.recv c r 0},{g:=0,fn:=f0,pos:=p0,act:=.sendDone c s},{g:=k,fn:=fk,pos:=pk,act:=.recvDone c r}]
structure jI.Laws(Y:jI):Prop where
 draw: ∀ {G w t} d,Y.GI G w t->Y.GI G (w.at d) t
 tS: ∀ {G w t i w' es} (fn:FuncId) (pos:String),Y.GI G w t->Y.act G i->I3 (Y.ai (Y.lo G i)) w w' es->(Y.still (Y.lo G i)->∀e∈es,(MemAct.ofEvent e).touch?=none)->Y.GI (Y.qC G i w.heap.size w'.heap.size) w' (t++MemOp.ofEvents i fn pos es)
 Ie: ∀G i a b,Y.lo (Y.qC G i a b) i=Y.grow (Y.lo G i) a b
 Ic: ∀G i a b j,j≠i->Y.lo (Y.qC G i a b) j=Y.lo G j
 Ia: ∀G i a b,Y.sz (Y.qC G i a b)=Y.sz G
 pj: ∀G i a b j,Y.act (Y.qC G i a b) j↔Y.act G j
 Ig: ∀G i a b,Y.cl (Y.qC G i a b)=Y.cl G
 Ih: ∀G i a b j,Y.PK G j->Y.PK (Y.qC G i a b) j
 BR: ∀G i a b,Y.Φ (Y.qC G i a b)=Y.Φ G
 M4: ∀l a b c,Y.ai (Y.grow l a b) c↔Y.ai l c\/(a<=c/\c<b)
 apart: ∀ {G w t i j b},Y.GI G w t->Y.act G i->Y.act G j->i≠j->Y.ai (Y.lo G i) b->¬Y.ai (Y.lo G j) b
 old: ∀ {G w t i b},Y.GI G w t->Y.act G i->Y.ai (Y.lo G i) b->b<w.heap.size
 hears: ∀ {G w t i},Y.GI G w t->Y.act G i->Deaf t i=Y.deaf (Y.lo G i)
 mute: ∀ {G w t j es} (fn:FuncId) (pos:String),Y.GI G w t->¬Y.act G j->j≠0->j<Y.sz G->(∀e∈es,Event.mute e=true)->Y.GI G w (t++MemOp.ofEvents j fn pos es)
 chan: ∀ {G w t i},Y.GI G w t->Y.act G i->Y.ch (Y.lo G i)≠ .no->(∃s r,w.heap[Y.c]?=some (.chan 0 #[] (Y.cl G) s r false))/\∀j,Y.act G j->¬Y.ai (Y.lo G j) Y.c
 Lp: ∀ {G w t i v},Y.GI G w t->Y.act G i->Y.ch (Y.lo G i)= .send v->i=0/\Y.cl G=false
 wC: ∀ {G w t v k s r} (d:Nat) (f0 fk:FuncId) (p0 pk:String),Y.GI G w t->Y.act G 0->Y.act G k->k≠0->Y.ch (Y.lo G 0)= .send v->Y.ch (Y.lo G k)= .recv->w.heap[Y.c]?=some (.chan 0 #[] false s r false)->
  ∃G',Y.GI G' ((w.at d).setChan Y.c 0 #[] false (s+1) (r+1) false) (t++jQ Y.c s r k f0 fk p0 pk)/\Y.Φ G'<Y.Φ G/\Y.CM (Y.lo G 0) (Y.lo G' 0)/\Y.got (Y.lo G k) v (Y.lo G' k)/\Y.sz G'=Y.sz G/\Y.cl G'=Y.cl G/\
   (∀j,Y.act G' j↔Y.act G j)/\(∀j,j≠0->j≠k->Y.lo G' j=Y.lo G j)/\(∀j,j≠0->j≠k->Y.PK G j->Y.PK G' j)
 closed: ∀ {G w t k} (fk:FuncId) (pk:String),Y.GI G w t->Y.act G k->k≠0->Y.ch (Y.lo G k)= .recv->Y.cl G=true->
  ∃G',Y.GI G' w (t++ #[{g:=k,fn:=fk,pos:=pk,act:=.recvClosed Y.c}])/\Y.Φ G'<=Y.Φ G/\Y.shut (Y.lo G k) (Y.lo G' k)/\Y.sz G'=Y.sz G/\Y.cl G'=Y.cl G/\(∀j,Y.act G' j↔Y.act G j)/\(∀j,j≠k->Y.lo G' j=Y.lo G j)/\(∀j,j≠k->Y.PK G j->Y.PK G' j)
 Ii: ∀ {l v l' b},Y.got l v l'->Y.ai l' b->Y.ai l b
 Ds: ∀ {l l' b},Y.CM l l'->Y.ai l' b->Y.ai l b
 MU: ∀ {l l' b},Y.shut l l'->Y.ai l' b->Y.ai l b
 size: ∀ {G w t i},Y.GI G w t->Y.act G i->i<Y.sz G
 finish: ∀ {G w t g w0},Y.GI G w t->Y.act G 0->Y.fin (Y.lo G 0) g w0->∀i,Y.act G i->i=0
 prog: ∀ {G w t},Y.GI G w t->Y.act G 0->(∀i,Y.act G i->Y.PK G i\/(i≠0/\Y.ch (Y.lo G i)= .recv/\Y.cl G=false)\/(i=0/\∃v,Y.ch (Y.lo G i)= .send v))->
  (∀v i,Y.ch (Y.lo G 0)= .send v->¬Y.PK G 0->Y.act G i->¬Y.PK G i->Y.ch (Y.lo G i)≠ .recv)->False
end Go.Co

namespace Go.Co
open Go Go.Conc
open Go.ConcN (sumTo upd sumTo_upd upd_ne upd_same sumTo_congr le_sumTo sumTo_le)
theorem Cc{P:Program}{g h:Goroutine}(e:g.frame=h.frame):mayWake P g=mayWake P h:=by unfold mayWake;rw[e]
variable{Y:jI}
def qE(Y:jI)(G:Y.Gh)(i:Nat)(g x:Goroutine):Prop:=
 x.frame=g.frame/\x.callers=g.callers/\x.dying=g.dying/\
  (
  x.status= .running\/(x.status= .blocked/\x.offers=none/\Y.PK G i)\/
  (x.status= .blocked/\i≠0/\Y.ch (Y.lo G i)= .recv/\∃z,x=parked g #[rcase Y.c z] (.recv true))\/
  (x.status= .blocked/\i=0/\∃v z,Y.ch (Y.lo G i)= .send v/\x=parked g #[scase Y.c v z] .send))
structure uP(Y:jI)(f:Nat->Y.Node)(G:Y.Gh)(w:World)(t:Trace)(gs:Array Goroutine)(q:Nat->Nat):Prop where
 gi:Y.GI G w t
 sz:Y.sz G=gs.size
 main:Y.act G 0
 ik: ∀i,Y.act G i->(f i).1=Y.lo G i/\View (Y.ai (Y.lo G i)) (f i).2.2 w/\∃x,gs[i]?=some x/\qE Y G i (f i).2.1 x
 quit: ∀i x,¬Y.act G i->gs[i]?=some x->QuitsD Y.P (q i) (Deaf t i) x
 above: ∀j,gs.size<=j->Deaf t j=0
 meet: ∀k x0 xk,Y.act G k->k≠0->gs[0]?=some x0->gs[k]?=some xk->x0.status= .blocked->x0.offers≠none->xk.status= .blocked->xk.offers≠none->False
 shut: ∀k xk,Y.act G k->k≠0->gs[k]?=some xk->xk.status= .blocked->xk.offers≠none->Y.cl G=false
def Arrives(Y:jI)(gs:Array Goroutine)(w:World)(sl:Option (Nat×Nat))(t:Trace):Prop:=
 ∃ (n:Nat) (GV:Array Goroutine) (w':World) (rK:Option (Nat×Nat)) (t':Trace) (G:Y.Gh) (q:Nat->Nat) (x g:Goroutine) (w0:World),
  runNT Y.P n (crowd gs w sl) t=(.next (crowd GV w' rK),t')/\Y.GI G w' t'/\Y.sz G=GV.size/\GV[0]?=some x/\x.status= .running/\x.frame=g.frame/\x.callers=g.callers/\x.dying=g.dying/\
   Y.act G 0/\Y.fin (Y.lo G 0) g w0/\View (Y.ai (Y.lo G 0)) w0 w'/\(∀i y,0<i->GV[i]?=some y->QuitsD Y.P (q i) (Deaf t' i) y)/\∀j,GV.size<=j->Deaf t' j=0
theorem Arrives.step{gs U1:Array Goroutine}{w w1:World}{sl TU:Option (Nat×Nat)}{t:Trace}{ops:Trace}(h:stepT Y.P (crowd gs w sl)=(.next (crowd U1 w1 TU),ops))(k:Arrives Y U1 w1 TU (t++ops)):Arrives Y gs w sl t:=by
 obtain⟨n,GV,w',rK,t',G,q,x,g,w0,h1,hr⟩:=k
 exact⟨n+1,GV,w',rK,t',G,q,x,g,w0,by simp only[runNT,h];exact h1,hr⟩
def wY(gs:Array Goroutine)(i:Nat):Nat:=match gs[i]? with
 |some x=>if x.status= .running then 1 else 0
 |none=>0
def runs(gs:Array Goroutine):Nat:=sumTo gs.size (wY gs)
theorem Nl(gs:Array Goroutine)(i:Nat):wY gs i<=1:=by unfold wY;split<;>(try split)<;>omega
theorem Pa(gs:Array Goroutine):runs gs<=gs.size:=by
 have:=sumTo_le (f:=wY gs) (c:=1) (j:=gs.size) fun i _=>Nl gs i
 unfold runs;omega
theorem x8{f g:Nat->Nat}{i:Nat}: ∀ {n:Nat},i<n->(∀j,j<n->f j<=g j)->f i<g i->sumTo n f<sumTo n g
 |n+1,hi,hle,bA=>by
  have fb:=hle n (by omega)
  by_cases e:i=n
  ·subst e
   have:sumTo i f<=sumTo i g:=by
    clear hi bA fb
    have hl: ∀j,j<i->f j<=g j:=fun j hj=>hle j (by omega)
    clear hle
    induction i with
    |zero=>exact Nat.le_refl _
    |succ i ih=>simp only[sumTo];have:=ih (fun j hj=>hl j (by omega));have:=hl i (by omega);omega
   simp only[sumTo];omega
  have:=x8 (n:=n) (by omega) (fun j hj=>hle j (by omega)) bA
  simp only[sumTo];omega
theorem xJ{gs:Array Goroutine}{i:Nat}{x y:Goroutine}(hi:gs[i]?=some x)(hx:x.status= .running)(hy:y.status≠ .running):runs (gs.setIfInBounds i y)<runs gs:=by
 obtain⟨bA,_⟩:=Array.getElem?_eq_some_iff.1 hi
 unfold runs
 rw[Array.size_setIfInBounds]
 refine x8 bA (fun j hj=>?_) ?_
 ·by_cases e:i=j
  ·subst e;unfold wY;rw[Array.getElem?_setIfInBounds_self_of_lt bA];simp[hy]
  unfold wY;rw[Array.getElem?_setIfInBounds_ne e];exact Nat.le_refl _
 unfold wY
 rw[Array.getElem?_setIfInBounds_self_of_lt bA,hi]
 simp[hx,hy]
theorem lg{P:Program}{a a' o:Goroutine}{w:World}(ho:o.status= .blocked)(hf:o.offers=none)(hw:mayWake P a=true)(ha:a'.status= .running):woken P a a' w o={o with status:=.running}:=by
 unfold woken
 rw[if_pos (by simp[hw,ha])]
 unfold Goroutine.again
 simp[ho,hf]
theorem ve{P:Program}{a a' o:Goroutine}{w:World}:(woken P a a' w o).frame=o.frame/\(woken P a a' w o).callers=o.callers/\(woken P a a' w o).dying=o.dying:=by
 unfold woken
 split
 ·unfold Goroutine.again
  split
  ·simp only
   split<;>exact⟨rfl,rfl,rfl⟩
  ·exact⟨rfl,rfl,rfl⟩
  ·exact⟨rfl,rfl,rfl⟩
  exact⟨rfl,rfl,rfl⟩
 exact⟨rfl,rfl,rfl⟩
theorem qE.woken{G G':Y.Gh}{j:Nat}{g x a a':Goroutine}{w:World}(h:qE Y G j g x)(ax:Y.lo G' j=Y.lo G j)(ha:a'.status= .running)
  (yW:mayWake Y.P a=true\/(Y.PK G j->Y.PK G' j)) (bP:Y.ch (Y.lo G j)≠ .no->∃s r,w.heap[Y.c]?=some (.chan 0 #[] (Y.cl G') s r false)):qE Y G' j g (Conc.woken Y.P a a' w x):=by
 obtain⟨h1,h2,h3,h4⟩:=h
 obtain⟨w1,w2,w3⟩:=ve (P:=Y.P) (a:=a) (a':=a') (o:=x) (w:=w)
 refine⟨w1.trans h1,w2.trans h2,w3.trans h3,?_⟩
 rcases h4 with h4|⟨h4,h5,h6⟩|⟨h4,h5,h6,z,hz⟩|⟨h4,h5,v,z,h6,hz⟩
 ·rw[woken_run h4];exact .inl h4
 ·rcases yW with hw|hk
  ·rw[lg h4 h5 hw ha];exact .inl rfl
  by_cases hw:mayWake Y.P a=true
  ·rw[lg h4 h5 hw ha];exact .inl rfl
  have:Conc.woken Y.P a a' w x=x:=by unfold Conc.woken;rw[if_neg (by simp[hw])]
  rw[this];exact .inr (.inl ⟨h4,h5,hk h6⟩)
 ·obtain⟨s,r,hc⟩:=bP (by rw[h6];simp)
  by_cases hw:(mayWake Y.P a&&a'.status != .blocked&&a'.status != .waiting)=true
  ·cases dt:Y.cl G' with
   |false=>
    rw[dt]at hc
    have:Conc.woken Y.P a a' w x=x:=by rw[hz];exact woken_recv_open a a' hc
    rw[this,ax];exact .inr (.inr (.inl ⟨h4,h5,h6,z,hz⟩))
   |true=>
    rw[dt]at hc
    have:Conc.woken Y.P a a' w x={parked g #[rcase Y.c z] (.recv true)with status:=.running}:=by
     rw[hz];unfold Conc.woken;rw[if_pos hw];exact again_recv_closed hc
    rw[this];exact .inl rfl
  have:Conc.woken Y.P a a' w x=x:=by unfold Conc.woken;rw[if_neg hw]
  rw[this,ax];exact .inr (.inr (.inl ⟨h4,h5,h6,z,hz⟩))
 obtain⟨s,r,hc⟩:=bP (by rw[h6];simp)
 by_cases hw:(mayWake Y.P a&&a'.status != .blocked&&a'.status != .waiting)=true
 ·cases dt:Y.cl G' with
  |false=>
   rw[dt]at hc
   have:Conc.woken Y.P a a' w x=x:=by rw[hz];exact woken_send_open a a' hc
   rw[this,ax];exact .inr (.inr (.inr ⟨h4,h5,v,z,h6,hz⟩))
  |true=>
   rw[dt]at hc
   have:Conc.woken Y.P a a' w x={parked g #[scase Y.c v z] .send with status:=.running}:=by
    rw[hz];unfold Conc.woken;rw[if_pos hw]
    simp[Goroutine.again,parked,scase,hc]
   rw[this];exact .inl rfl
 have:Conc.woken Y.P a a' w x=x:=by unfold Conc.woken;rw[if_neg hw]
 rw[this,ax];exact .inr (.inr (.inr ⟨h4,h5,v,z,h6,hz⟩))
theorem lH{P:Program}{a a' o:Goroutine}{w:World}(h:(Conc.woken P a a' w o).status= .blocked):o.status= .blocked/\Conc.woken P a a' w o=o:=by
 by_cases hw:(mayWake P a&&a'.status != .blocked&&a'.status != .waiting)=true
 ·have e:Conc.woken P a a' w o=o.again w:=by unfold Conc.woken;rw[if_pos hw]
  rw[e]at h ⊢
  obtain⟨fr,cs,st,dy,QY⟩:=o
  cases st with
  |blocked=>
   cases QY with
   |none=>cases h
   |some v=>
    refine⟨rfl,?_⟩
    unfold Goroutine.again at h ⊢
    simp only at h ⊢
    split at h
    ·cases h
    rename_i hn;exact if_neg hn
  |running=>cases h
  |waiting=>cases QY<;>cases h
  |sleeping t=>cases QY<;>cases h
  |parked=>cases QY<;>cases h
  |finished=>cases QY<;>cases h
 have e:Conc.woken P a a' w o=o:=by unfold Conc.woken;rw[if_neg hw]
 rw[e]at h ⊢
 exact⟨h,rfl⟩
end Go.Co

namespace Go.Co
open Go Go.Conc
open Go.ConcN (sumTo upd sumTo_upd upd_ne upd_same sumTo_congr le_sumTo sumTo_le)
variable{Y:jI}
theorem cn{i:Nat}{fn:FuncId}{pos:String}{es:Array Event}: ∀op∈MemOp.ofEvents i fn pos es,op.g=i:=fun op aF=>by
 rw[ofEvents_eq]at aF
 obtain⟨e,_,rfl⟩:=Array.mem_map.1 aF
 rfl
theorem pn{gs:Array Goroutine}{i:Nat}{fw:Goroutine->Goroutine}{g':Goroutine}{j:Nat}(tP:j≠i):((gs.map fw).setIfInBounds i g')[j]?=(gs[j]?).map fw:=by
 rw[Array.getElem?_setIfInBounds_ne (Ne.symm tP),Array.getElem?_map]
theorem qE.awake{G:Y.Gh}{i:Nat}{g x:Goroutine}(h:qE Y G i g x):x.status= .running\/x.status= .blocked\/x.status= .finished:=by
 obtain⟨_,_,_,h|⟨h,_⟩|⟨h,_⟩|⟨h,_⟩⟩:=h
 ·exact .inl h
 ·exact .inr (.inl h)
 ·exact .inr (.inl h)
 exact .inr (.inl h)
theorem uP.go(L:Y.Laws){f:Nat->Y.Node}{G G':Y.Gh}{w wd w':World}{t:Trace}{gs:Array Goroutine}{q q':Nat->Nat}{i:Nat}{x g':Goroutine}{es:Array Event}{n':Y.Node}{d:Nat}(h:uP Y f G w t gs q)(Uw:wd=w.at d)
  (hx:gs[i]?=some x) (aS:g'.status= .running\/(g'.status= .finished/\¬Y.act G' i)) (fP:Y.GI G' w' (t++MemOp.ofEvents i x.frame.fn x.frame.place es)) (e8:Y.sz G'=Y.sz G)
  (rU: ∀j,j≠i->Y.lo G' j=Y.lo G j/\(Y.act G' j↔Y.act G j)/\(Y.act G j->View (Y.ai (Y.lo G j)) wd w'))
  (ic:(mayWake Y.P x=true/\g'.status= .running)\/((∀j,Y.PK G j->Y.PK G' j)/\Y.cl G'=Y.cl G)) (qA:Y.act G' 0)
  (xb:Y.act G' i->n'.1=Y.lo G' i/\n'.2.1=g'/\n'.2.2=w') (hq: ∀j,j≠i->q' j=q j) (WJ: ¬Y.act G' i->QuitsD Y.P (q' i) (deafBehind (Deaf t i) es) g'):
  uP Y (upd f i n') G' w' (t++MemOp.ofEvents i x.frame.fn x.frame.place es) ((gs.map (Conc.woken Y.P x g' w')).setIfInBounds i g') q':=by
 subst Uw
 have bA:i<gs.size:=(Array.getElem?_eq_some_iff.1 hx).1
 have il:((gs.map (Conc.woken Y.P x g' w')).setIfInBounds i g')[i]?=some g':=by rw[Array.getElem?_setIfInBounds_self_of_lt (by simpa using bA)]
 have oP: ∀j,j≠i->Deaf (t++MemOp.ofEvents i x.frame.fn x.frame.place es) j=Deaf t j:=fun j hj=>Deaf_other t (Ne.symm hj) _ cn
 have Tv: ∀j,j≠i->Y.act G j->∀y,gs[j]?=some y->qE Y G j (f j).2.1 y->qE Y G' j (f j).2.1 (Conc.woken Y.P x g' w' y):=by
  intro j hj ha y hy hs
  obtain⟨e1,e2,_⟩:=rU j hj
  have WT:Y.ch (Y.lo G j)≠ .no->∃s r,w'.heap[Y.c]?=some (.chan 0 #[] (Y.cl G') s r false):=fun hc=>(L.chan fP (e2.2 ha) (by rw[e1];exact hc)).1
  rcases aS with hr|⟨hr,tO⟩
  ·exact hs.woken e1 hr (ic.imp (fun a=>a.1) fun a=>a.1 j) WT
  rcases ic with⟨_,hb⟩|⟨hk,dt⟩
  ·rw[hr]at hb;cases hb
  -- it has ended:it may let others try again all NM same
  obtain⟨h1,h2,h3,h4⟩:=hs
  obtain⟨w1,w2,w3⟩:=ve (P:=Y.P) (a:=x) (a':=g') (o:=y) (w:=w')
  by_cases hb:(Conc.woken Y.P x g' w' y).status= .blocked
  ·obtain⟨_,e⟩:=lH hb
   rw[e,qE,e1]
   exact⟨h1,h2,h3,h4.imp id (.imp (fun a=>⟨a.1,a.2.1,hk j a.2.2⟩) id)⟩
  refine⟨w1.trans h1,w2.trans h2,w3.trans h3,.inl ?_⟩
  have pQ:y.status= .running\/y.status= .blocked:=by
   rcases h4 with h|⟨h,_⟩|⟨h,_⟩|⟨h,_⟩
   ·exact .inl h
   ·exact .inr h
   ·exact .inr h
   exact .inr h
  rcases pQ with pQ|pQ
  ·rw[woken_run pQ];exact pQ
  revert hb
  unfold Conc.woken Goroutine.again
  obtain⟨fr,cs,st,dy,QY⟩:=y
  simp only at pQ
  subst pQ
  split
  ·cases QY with
   |none=>intro _;rfl
   |some v=>
    simp only
    split
    ·intro _;rfl
    intro hb;exact absurd rfl hb
  intro hb;exact absurd rfl hb
 refine⟨fP,by rw[e8,h.sz];simp,qA,fun j ha=>?_,fun j y tO hy=>?_,fun j hj=>?_,?_,?_⟩
 ·by_cases hj:j=i
  ·subst hj
   rw[upd_same]
   obtain⟨e1,e2,e3⟩:=xb ha
   have hr:g'.status= .running:=aS.elim id fun a=>absurd ha a.2
   refine⟨e1,by rw[e3];exact View.refl _ _,g',il,by rw[e2],by rw[e2],by rw[e2],.inl hr⟩
  rw[upd_ne f n' hj]
  obtain⟨e1,e2,e3⟩:=rU j hj
  obtain⟨s1,s2,y,s3,s4⟩:=h.ik j (e2.1 ha)
  refine⟨by rw[e1];exact s1,?_,Conc.woken Y.P x g' w' y,by rw[pn hj,s3];rfl,Tv j hj (e2.1 ha) y s3 s4⟩
  rw[e1]
  exact(s2.at d).trans (e3 (e2.1 ha))
 ·by_cases hj:j=i
  ·subst hj
   rw[il]at hy
   cases hy
   rw[Deaf_own]
   exact WJ tO
  obtain⟨_,e2,_⟩:=rU j hj
  rw[pn hj]at hy
  obtain⟨z,hz,rfl⟩:=Option.map_eq_some_iff.1 hy
  have:=h.quit j z (fun a=>tO (e2.2 a)) hz
  rw[woken_quitsD this,hq j hj,oP j hj]
  exact this
 ·have:j≠i:=by simp at hj;omega
  rw[oP j this]
  exact h.above j (by simpa using hj)
 ·intro k x0 xk ha hk h0 mS b0 o0 bk ok
  have zL:k≠i:=by
   rintro rfl
   rw[il]at mS;cases mS
   rcases aS with a|⟨a,_⟩<;>rw[a]at bk<;>cases bk
  have Ub:(0:Nat)≠i:=by
   rintro rfl
   rw[il]at h0;cases h0
   rcases aS with a|⟨a,_⟩<;>rw[a]at b0<;>cases b0
  rw[pn zL]at mS
  rw[pn Ub]at h0
  obtain⟨z,hz,rfl⟩:=Option.map_eq_some_iff.1 mS
  obtain⟨z0,T0,rfl⟩:=Option.map_eq_some_iff.1 h0
  obtain⟨a1,a2⟩:=lH bk
  obtain⟨a3,a4⟩:=lH b0
  rw[a2]at ok
  rw[a4]at o0
  exact h.meet k z0 z ((rU k zL).2.1.1 ha) hk T0 hz a3 o0 a1 ok
 intro k xk ha hk mS bk ok
 have zL:k≠i:=by
  rintro rfl
  rw[il]at mS;cases mS
  rcases aS with a|⟨a,_⟩<;>rw[a]at bk<;>cases bk
 rw[pn zL]at mS
 obtain⟨z,hz,rfl⟩:=Option.map_eq_some_iff.1 mS
 obtain⟨a1,a2⟩:=lH bk
 have VH:=(rU k zL).2.1.1 ha
 have dt:=h.shut k z VH hk hz a1 (by rw[<-a2];exact ok)
 rcases ic with⟨hw,hr⟩|⟨_,hc⟩
 ·cases hc:Y.cl G' with
  |false=>rfl
  |true=>
   exfalso
   obtain⟨_,_,y,s3,s4⟩:=h.ik k VH
   rw[hz]at s3
   cases s3
   obtain⟨_,_,_,s4⟩:=s4
   rcases s4 with s|⟨_,s,_⟩|⟨_,_,s6,zz,Q1⟩|⟨_,s,_⟩
   ·rw[a1]at s;cases s
   ·exact ok (by rw[a2];exact s)
   ·obtain⟨s,r,bP⟩:=(L.chan fP ha (by rw[(rU k zL).1,s6];simp)).1
    rw[hc]at bP
    have:Conc.woken Y.P x g' w' z={parked (f k).2.1 #[rcase Y.c zz] (.recv true)with status:=.running}:=by
     rw[Q1];unfold Conc.woken;rw[if_pos (by simp[hw,hr])];exact again_recv_closed bP
    rw[this]at bk
    cases bk
   exact hk s
 rw[hc];exact dt
end Go.Co

namespace Go.Co
open Go Go.Conc
open Go.ConcN (sumTo upd sumTo_upd upd_ne upd_same sumTo_congr le_sumTo sumTo_le)
variable{Y:jI}
theorem bE{gs:Array Goroutine}{i:Nat}{p:Goroutine}{j:Nat}(tP:j≠i):(gs.setIfInBounds i p)[j]?=gs[j]?:=Array.getElem?_setIfInBounds_ne (Ne.symm tP)
theorem uP.KS{f:Nat->Y.Node}{G:Y.Gh}{w:World}{t:Trace}{gs:Array Goroutine}{q:Nat->Nat}{i:Nat}{x p:Goroutine}{d:Nat}(L:Y.Laws)(h:uP Y f G w t gs q)(ha:Y.act G i)
  (hx:gs[i]?=some x) (hp:qE Y G i (f i).2.1 p)
  (Hl:p.offers≠none->∀k y,gs[k]?=some y->k≠i->(k=0\/i=0)->(k≠0->Y.act G k)->y.status= .blocked->y.offers≠none->False) (dt:p.offers≠none->i≠0->Y.cl G=false):
  uP Y f G (w.at d) t (gs.setIfInBounds i p) q:=by
 have bA:i<gs.size:=(Array.getElem?_eq_some_iff.1 hx).1
 have il:(gs.setIfInBounds i p)[i]?=some p:=Array.getElem?_setIfInBounds_self_of_lt bA
 refine⟨L.draw d h.gi,by rw[h.sz];simp,h.main,fun j CB=>?_,fun j y tO hy=>?_,fun j hj=>h.above j (by simpa using hj),?_,?_⟩
 ·obtain⟨s1,s2,y,s3,s4⟩:=h.ik j CB
  by_cases hj:j=i
  ·subst hj
   exact⟨s1,s2.at d,p,il,hp⟩
  exact⟨s1,s2.at d,y,by rw[bE hj];exact s3,s4⟩
 ·have hj:j≠i:=fun e=>tO (e▸ha)
  rw[bE hj]at hy
  exact h.quit j y tO hy
 ·intro k x0 xk NX hk h0 mS b0 o0 bk ok
  by_cases zL:k=i
  ·subst zL
   rw[il]at mS;cases mS
   rw[bE (Ne.symm hk)]at h0
   exact Hl ok 0 x0 h0 (Ne.symm hk) (.inl rfl) (fun e=>absurd rfl e) b0 o0
  rw[bE zL]at mS
  by_cases Ub:(0:Nat)=i
  ·subst Ub
   rw[il]at h0;cases h0
   exact Hl o0 k xk mS hk (.inr rfl) (fun _=>NX) bk ok
  rw[bE Ub]at h0
  exact h.meet k x0 xk NX hk h0 mS b0 o0 bk ok
 intro k xk NX hk mS bk ok
 by_cases zL:k=i
 ·subst zL
  rw[il]at mS;cases mS
  exact dt ok hk
 rw[bE zL]at mS
 exact h.shut k xk NX hk mS bk ok
theorem uP.offer{f:Nat->Y.Node}{G:Y.Gh}{w:World}{t:Trace}{gs:Array Goroutine}{q:Nat->Nat}(h:uP Y f G w t gs q){j:Nat}{y:Goroutine}(hy:gs[j]?=some y)(hb:y.status= .blocked)(ho:y.offers≠none):
  Y.act G j/\((j≠0/\Y.ch (Y.lo G j)= .recv/\∃z,y=parked (f j).2.1 #[rcase Y.c z] (.recv true))\/(j=0/\∃v z,Y.ch (Y.lo G j)= .send v/\y=parked (f j).2.1 #[scase Y.c v z] .send)):=by
 by_cases ha:Y.act G j
 ·refine⟨ha,?_⟩
  obtain⟨_,_,y',s3,_,_,_,s4⟩:=h.ik j ha
  rw[hy]at s3;cases s3
  rcases s4 with s|⟨_,s,_⟩|⟨_,s⟩|⟨_,s⟩
  ·rw[hb]at s;cases s
  ·exact absurd s ho
  ·exact .inl s
  exact .inr s
 have:=h.quit j y ha hy
 rcases this.status with s|s<;>rw[hb]at s<;>cases s
theorem jc{y:Goroutine}{r:Nat}{b:Bool}(h:y.status≠ .blocked\/y.offers=none):offersAt y r b= []:=by
 unfold offersAt
 rcases h with h|h
 ·cases hs:y.status<;>first|rfl|exact absurd hs h
 rw[h];cases y.status<;>rfl
theorem uP.O7{f:Nat->Y.Node}{G:Y.Gh}{w:World}{t:Trace}{gs:Array Goroutine}{q:Nat->Nat}(h:uP Y f G w t gs q){j:Nat}{y:Goroutine}(hy:gs[j]?=some y)(hj:j≠0):offersAt y Y.c true= []:=by
 by_cases hb:y.status= .blocked
 ·by_cases ho:y.offers=none
  ·exact jc (.inr ho)
  obtain⟨_,⟨_,_,z,e⟩|⟨e,_⟩⟩:=h.offer hy hb ho
  ·rw[e];exact offersAt_parked_recv' _ _ _ _ _
  exact absurd e hj
 exact jc (.inl hb)
theorem uP.pass(L:Y.Laws){f:Nat->Y.Node}{G:Y.Gh}{w:World}{t:Trace}{gs:Array Goroutine}{q:Nat->Nat}{k:Nat}{v:Value}{s r d:Nat}{x0 xk:Goroutine}{f0 fk:FuncId}{p0 pk:String}(h:uP Y f G w t gs q)(ha:Y.act G k)(hk:k≠0)
  (h0:Y.ch (Y.lo G 0)= .send v) (hr:Y.ch (Y.lo G k)= .recv) (hc:w.heap[Y.c]?=some (.chan 0 #[] false s r false)) (Iy:gs[0]?=some x0) (mS:gs[k]?=some xk):
  ∃G',Y.Φ G'<Y.Φ G/\Y.CM (Y.lo G 0) (Y.lo G' 0)/\Y.got (Y.lo G k) v (Y.lo G' k)/\(∀j,Y.act G' j↔Y.act G j)/\
   uP Y (upd (upd f k (Y.lo G' k,Conc.served (f k).2.1 (recvd true v true),w)) 0 (Y.lo G' 0,Conc.served (f 0).2.1 undef,w)) G' ((w.at d).setChan Y.c 0 #[] false (s+1) (r+1) false) (t++jQ Y.c s r k f0 fk p0 pk)
    ((gs.setIfInBounds k (Conc.served (f k).2.1 (recvd true v true))).setIfInBounds 0 (Conc.served (f 0).2.1 undef)) q:=by
 obtain⟨G',g1,g2,g3,g4,g5,g6,g7,g8,g9⟩:=L.wC d f0 fk p0 pk h.gi h.main ha hk h0 hr hc
 refine⟨G',g2,g3,g4,g7,?_⟩
 have Oh:0<gs.size:=(Array.getElem?_eq_some_iff.1 Iy).1
 have UI:k<gs.size:=(Array.getElem?_eq_some_iff.1 mS).1
 have e0:((gs.setIfInBounds k (Conc.served (f k).2.1 (recvd true v true))).setIfInBounds 0 (Conc.served (f 0).2.1 undef))[0]?=some (Conc.served (f 0).2.1 undef):=Array.getElem?_setIfInBounds_self_of_lt (by simpa using Oh)
 have ek:((gs.setIfInBounds k (Conc.served (f k).2.1 (recvd true v true))).setIfInBounds 0 (Conc.served (f 0).2.1 undef))[k]?=some (Conc.served (f k).2.1 (recvd true v true)):=by
  rw[bE hk,Array.getElem?_setIfInBounds_self_of_lt UI]
 have ej: ∀j,j≠0->j≠k->((gs.setIfInBounds k (Conc.served (f k).2.1 (recvd true v true))).setIfInBounds 0 (Conc.served (f 0).2.1 undef))[j]?=gs[j]?:=fun j h0 hk=>by rw[bE h0,bE hk]
 have aN:=(L.chan h.gi h.main (by rw[h0];simp)).2
 have C6: ∀j,Y.act G j->View (Y.ai (Y.lo G j)) w ((w.at d).setChan Y.c 0 #[] false (s+1) (r+1) false):=by
  intro j CB
  refine⟨by simp[World.setChan,World.at],fun b hb=>?_⟩
  have:b≠Y.c:=fun e=>aN j CB (e▸hb)
  simp only[World.setChan,World.at]
  rw[Array.getElem?_setIfInBounds_ne (Ne.symm this)]
 have oP: ∀j,Deaf (t++jQ Y.c s r k f0 fk p0 pk) j=Deaf t j:=fun j=>Go.ConcN.Deaf_still t j _ (by intro op aF;simp[jQ]at aF;rcases aF with rfl|rfl|rfl|rfl<;>simp)
 refine⟨g1,by rw[g5,h.sz];simp,(g7 0).2 h.main,fun j CB=>?_,fun j y tO hy=>?_,fun j hj=>by rw[oP];exact h.above j (by simpa using hj),?_,?_⟩
 ·have Ba:=(g7 j).1 CB
  by_cases vI:j=0
  ·subst vI
   rw[upd_same]
   exact⟨rfl,⟨(C6 0 Ba).1,fun b hb=>(C6 0 Ba).2 b (L.Ds g3 hb)⟩,_,e0,rfl,rfl,rfl,.inl rfl⟩
  by_cases Cz:j=k
  ·subst Cz
   rw[upd_ne _ _ vI,upd_same]
   exact⟨rfl,⟨(C6 j Ba).1,fun b hb=>(C6 j Ba).2 b (L.Ii g4 hb)⟩,_,ek,rfl,rfl,rfl,.inl rfl⟩
  rw[upd_ne _ _ vI,upd_ne _ _ Cz]
  obtain⟨s1,s2,y,s3,s4,s5,s6,s7⟩:=h.ik j Ba
  rw[g8 j vI Cz]
  refine⟨s1,s2.trans (C6 j Ba),y,by rw[ej j vI Cz];exact s3,s4,s5,s6,?_⟩
  rw[g8 j vI Cz]
  exact s7.imp id (.imp (fun a=>⟨a.1,a.2.1,g9 j vI Cz a.2.2⟩) id)
 ·have vI:j≠0:=fun e=>tO (e▸(g7 0).2 h.main)
  have Cz:j≠k:=fun e=>tO (e▸(g7 k).2 ha)
  rw[ej j vI Cz]at hy
  rw[oP]
  exact h.quit j y (fun a=>tO ((g7 j).2 a)) hy
 ·intro m y0 ym _ _ PZ _ b0 _ _ _
  rw[e0]at PZ;cases PZ
  cases b0
 intro m ym ham hm Xp bm om
 by_cases hmk:m=k
 ·subst hmk;rw[ek]at Xp;cases Xp;cases bm
 rw[ej m hm hmk]at Xp
 rw[g6]
 exact h.shut m ym ((g7 m).1 ham) hm Xp bm om
end Go.Co

namespace Go.Co
open Go Go.Conc
open Go.ConcN (sumTo upd sumTo_upd upd_ne upd_same sumTo_congr le_sumTo sumTo_le)
variable{Y:jI}
def Goal(Y:jI)(N n:Nat)(A:Nat->Prop)(f:Nat->Y.Node):Prop:=
 ∀ (M:Nat) (G:Y.Gh) (w:World) (t:Trace) (gs:Array Goroutine) (sl:Option (Nat×Nat)) (q:Nat->Nat),uP Y f G w t gs q->Y.Φ G<=N->(∀i,Y.act G i->A i/\i<n)->(gs.size+1)*sumTo gs.size q+runs gs<=M->Arrives Y gs w sl t
def FA(Y:jI)(A:Nat->Prop)(X:Nat->Y.Node->Prop)(i:Nat)(Q:Y.Node->Prop)(a:Y.Node):Prop:=A i->Y.F X i Q a
theorem FA.mono(A:Nat->Prop)(X:Nat->Y.Node->Prop)(i:Nat)(Q Q':Y.Node->Prop)(h: ∀a,Q a->Q' a)(a:Y.Node)(k:FA Y A X i Q a):FA Y A X i Q' a:=fun ha=>jI.F.mono Y X i Q Q' h a (k ha)
theorem FA.of{A:Nat->Prop}{X:Nat->Y.Node->Prop}{i:Nat}{a:Y.Node}(h:A i->jJ (Y.F X i) a):jJ (FA Y A X i) a:=by
 by_cases ha:A i
 ·intro Q hQ
  exact h ha Q fun b hb=>hQ b fun _=>hb
 exact jJ.fold (FA.mono A X i) fun hb=>absurd hb ha
theorem FA.get{A:Nat->Prop}{X:Nat->Y.Node->Prop}{i:Nat}{a:Y.Node}(ha:A i)(h:jJ (FA Y A X i) a):jJ (Y.F X i) a:=fun Q hQ=>h Q fun b hb=>hQ b (hb ha)
theorem Gk{sz i k:Nat}{q:Nat->Nat}(hi:i<sz)(hq:q i=k+1){r r' M:Nat}(hr:r'<=sz)(hM:(sz+1)*sumTo sz q+r<=M): ∃M',M'<M/\(sz+1)*sumTo sz (upd q i k)+r'<=M':=by
 have h:=sumTo_upd q k id hi
 simp only[id]at h
 have e:sumTo sz (fun a=>upd q i k a)=sumTo sz (upd q i k):=rfl
 have e2:sumTo sz (fun a=>q a)=sumTo sz q:=rfl
 rw[hq,e,e2]at h
 have h2:sumTo sz q=sumTo sz (upd q i k)+1:=by omega
 rw[h2,Nat.mul_add]at hM
 exact⟨_,by omega,Nat.le_refl _⟩
theorem qa{N i:Nat}{a:Y.Node}(h:jJ (Y.F (Y.Lv (N+1)) i) a):jJ (Y.F (Y.Lv N) i) a:=(show Y.Lv (N+2) i a from h).less
theorem Gy(L:Y.Laws){f:Nat->Y.Node}{G:Y.Gh}{w:World}{t:Trace}{gs:Array Goroutine}{q:Nat->Nat}{sl:Option (Nat×Nat)}(h:uP Y f G w t gs q){x:Goroutine}(hx:gs[0]?=some x)(hr:x.status= .running)
  (hf:Y.fin (f 0).1 (f 0).2.1 (f 0).2.2):Arrives Y gs w sl t:=by
 obtain⟨s1,s2,y,s3,s4,s5,s6,_⟩:=h.ik 0 h.main
 rw[hx]at s3;cases s3
 rw[s1]at hf
 refine⟨0,gs,w,sl,t,G,q,x,(f 0).2.1,(f 0).2.2,rfl,h.gi,h.sz,hx,hr,s4,s5,s6,h.main,hf,s2,fun i y hi hy=>?_,h.above⟩
 have tO: ¬Y.act G i:=fun a=>by have:=L.finish h.gi h.main hf i a;omega
 exact h.quit i y tO hy
theorem uP.TM(L:Y.Laws){f:Nat->Y.Node}{G:Y.Gh}{w:World}{t:Trace}{gs:Array Goroutine}{q:Nat->Nat}(h:uP Y f G w t gs q): ∃ (i:Nat) (x:Goroutine),gs[i]?=some x/\x.status= .running:=by
 apply Classical.byContradiction
 intro hn
 have nr: ∀ (i:Nat) (x:Goroutine),gs[i]?=some x->x.status≠ .running:=fun i x hx hr=>hn ⟨i,x,hx,hr⟩
 refine L.prog h.gi h.main (fun i ha=>?_) (fun v i h0 UF ha hp hr=>?_)
 ·obtain⟨_,_,x,hx,_,_,_,s⟩:=h.ik i ha
  rcases s with s|⟨_,_,s⟩|⟨sb,s1,s2,z,s3⟩|⟨_,s1,v,z,s2,s3⟩
  ·exact absurd s (nr i x hx)
  ·exact .inl s
  ·exact .inr (.inl ⟨s1,s2,h.shut i x ha s1 hx sb (by rw[s3];simp[parked])⟩)
  exact .inr (.inr ⟨s1,v,s2⟩)
 obtain⟨_,_,x0,Iy,_,_,_,s0⟩:=h.ik 0 h.main
 obtain⟨_,_,x,hx,_,_,_,s⟩:=h.ik i ha
 have hi:i≠0:=by rintro rfl;rw[h0]at hr;cases hr
 rcases s0 with s0|⟨_,_,s0⟩|⟨_,s0,_⟩|⟨b0,_,v0,z0,_,e0⟩
 ·exact nr 0 x0 Iy s0
 ·exact UF s0
 ·exact s0 rfl
 rcases s with s|⟨_,_,s⟩|⟨sb,_,_,z,e⟩|⟨_,s,_⟩
 ·exact nr i x hx s
 ·exact hp s
 ·exact h.meet i x0 x ha hi Iy hx b0 (by rw[e0];simp[parked]) sb (by rw[e];simp[parked])
 exact hi s
theorem uP.awake{f:Nat->Y.Node}{G:Y.Gh}{w:World}{t:Trace}{gs:Array Goroutine}{q:Nat->Nat}(h:uP Y f G w t gs q): ∀g∈gs,Conc.awake g:=by
 intro g hg
 obtain⟨i,hi,rfl⟩:=Array.mem_iff_getElem.1 hg
 have hx:=Array.getElem?_eq_getElem hi
 by_cases ha:Y.act G i
 ·obtain⟨_,_,x,s3,s4⟩:=h.ik i ha
  rw[hx]at s3;cases s3
  exact awake_of s4.awake
 exact awake_of ((h.quit i _ ha hx).status.elim .inl fun a=>.inr (.inr a))
theorem zu{g g':Goroutine}{cs wi:Array CommCase}{sh sh':CommShape}(h:parked g cs sh=parked g' wi sh')(v:Value):Conc.served g v=Conc.served g' v/\sh=sh'/\cs=wi/\g.frame=g'.frame:=by
 obtain⟨a,b,c,d,e⟩:=g
 obtain⟨a',b',c',d',e'⟩:=g'
 simp only[parked,Goroutine.mk.injEq,Option.some.injEq,Prod.mk.injEq]at h
 obtain⟨rfl,rfl,_,rfl,rfl,rfl⟩:=h
 exact⟨rfl,rfl,rfl,rfl⟩
theorem set_comm{gs:Array Goroutine}{i j:Nat}(h:i≠j)(x y:Goroutine):(gs.setIfInBounds i x).setIfInBounds j y=(gs.setIfInBounds j y).setIfInBounds i x:=by
 apply Array.ext_getElem?
 intro k
 by_cases hk:k=i
 ·subst hk
  rw[bE h]
  by_cases hl:k<gs.size
  ·rw[Array.getElem?_setIfInBounds_self_of_lt hl,Array.getElem?_setIfInBounds_self_of_lt (by simpa using hl)]
  rw[Array.getElem?_eq_none (by simpa using hl),Array.getElem?_eq_none (by simpa using hl)]
 rw[bE hk]
 by_cases hj:k=j
 ·subst hj
  by_cases hl:k<gs.size
  ·rw[Array.getElem?_setIfInBounds_self_of_lt (by simpa using hl),Array.getElem?_setIfInBounds_self_of_lt hl]
  rw[Array.getElem?_eq_none (by simpa using hl),Array.getElem?_eq_none (by simpa using hl)]
 rw[bE hj,bE hj,bE hk]
theorem uP.put(_L:Y.Laws){f:Nat->Y.Node}{G G':Y.Gh}{w w':World}{t u:Trace}{gs:Array Goroutine}{q:Nat->Nat}{i:Nat}{x g':Goroutine}{n':Y.Node}(h:uP Y f G w t gs q)(ha:Y.act G i)
  (hx:gs[i]?=some x) (aS:g'.status= .running) (fP:Y.GI G' w' (t++u)) (e8:Y.sz G'=Y.sz G) (hu: ∀op∈u,op.act≠ .mark .disable/\op.act≠ .mark .enable)
  (rU: ∀j,j≠i->Y.lo G' j=Y.lo G j/\(Y.act G j->View (Y.ai (Y.lo G j)) w w')) (au: ∀j,Y.act G' j↔Y.act G j) (yW: ∀j,j≠i->Y.PK G j->Y.PK G' j) (dt:Y.cl G'=Y.cl G)
  (xb:n'.1=Y.lo G' i/\n'.2.1=g'/\View (Y.ai (Y.lo G' i)) n'.2.2 w'):
  uP Y (upd f i n') G' w' (t++u) (gs.setIfInBounds i g') q:=by
 have bA:i<gs.size:=(Array.getElem?_eq_some_iff.1 hx).1
 have il:(gs.setIfInBounds i g')[i]?=some g':=by rw[Array.getElem?_setIfInBounds_self_of_lt bA]
 have oP: ∀j,Deaf (t++u) j=Deaf t j:=fun j=>Go.ConcN.Deaf_still t j _ hu
 refine⟨fP,by rw[e8,h.sz];simp,(au 0).2 h.main,fun j CB=>?_,fun j y tO hy=>?_,fun j hj=>by rw[oP];exact h.above j (by simpa using hj),?_,?_⟩
 ·have Ba:=(au j).1 CB
  by_cases hj:j=i
  ·subst hj
   rw[upd_same]
   exact⟨xb.1,xb.2.2,g',il,by rw[xb.2.1],by rw[xb.2.1],by rw[xb.2.1],.inl aS⟩
  rw[upd_ne f n' hj]
  obtain⟨e1,e3⟩:=rU j hj
  obtain⟨s1,s2,y,s3,s4,s5,s6,s7⟩:=h.ik j Ba
  refine⟨by rw[e1];exact s1,by rw[e1];exact s2.trans (e3 Ba),y,by rw[bE hj];exact s3,s4,s5,s6,?_⟩
  rw[e1]
  exact s7.imp id (.imp (fun a=>⟨a.1,a.2.1,yW j hj a.2.2⟩) id)
 ·have hj:j≠i:=fun e=>tO (e▸(au i).2 ha)
  rw[bE hj]at hy
  rw[oP]
  exact h.quit j y (fun a=>tO ((au j).2 a)) hy
 ·intro k x0 xk NX hk h0 mS b0 o0 bk ok
  have zL:k≠i:=by rintro rfl;rw[il]at mS;cases mS;rw[aS]at bk;cases bk
  have Ub:(0:Nat)≠i:=by rintro rfl;rw[il]at h0;cases h0;rw[aS]at b0;cases b0
  rw[bE zL]at mS
  rw[bE Ub]at h0
  exact h.meet k x0 xk ((au k).1 NX) hk h0 mS b0 o0 bk ok
 intro k xk NX hk mS bk ok
 have zL:k≠i:=by rintro rfl;rw[il]at mS;cases mS;rw[aS]at bk;cases bk
 rw[bE zL]at mS
 rw[dt]
 exact h.shut k xk ((au k).1 NX) hk mS bk ok
theorem uP.spawn{f:Nat->Y.Node}{G G':Y.Gh}{w wd w':World}{t u:Trace}{gs:Array Goroutine}{q:Nat->Nat}{x g' child:Goroutine}{n' nc:Y.Node}{d:Nat}(h:uP Y f G w t gs q)(Uw:wd=w.at d)
  (hx:gs[0]?=some x) (aS:g'.status= .running) (QC:child.status= .running) (fP:Y.GI G' w' (t++u)) (e8:Y.sz G'=Y.sz G+1) (hu: ∀j,Deaf (t++u) j=if j=0 then Deaf (t++u) 0 else Deaf t j)
  (rU: ∀j,j≠0->j≠Y.sz G->Y.lo G' j=Y.lo G j/\(Y.act G' j↔Y.act G j)/\(Y.act G j->View (Y.ai (Y.lo G j)) wd w')) (h0:Y.act G' 0) (hc:Y.act G' (Y.sz G)) (yW: ∀j,j≠Y.sz G->Y.PK G j->Y.PK G' j) (dt:Y.cl G'=Y.cl G)
  (we:n'.1=Y.lo G' 0/\n'.2.1=g'/\n'.2.2=w') (CH:nc.1=Y.lo G' (Y.sz G)/\nc.2.1=child/\nc.2.2=w'):
  uP Y (upd (upd f 0 n') (Y.sz G) nc) G' w' (t++u) ((gs.setIfInBounds 0 g').push child) q:=by
 subst Uw
 have bA:0<gs.size:=(Array.getElem?_eq_some_iff.1 hx).1
 have Zv:=h.sz
 have e0:((gs.setIfInBounds 0 g').push child)[0]?=some g':=by
  rw[Array.getElem?_push,if_neg (by simp;omega),Array.getElem?_setIfInBounds_self_of_lt bA]
 have ec:((gs.setIfInBounds 0 g').push child)[Y.sz G]?=some child:=by
  rw[Array.getElem?_push,if_pos (by simp[Zv])]
 have ej: ∀j,j≠0->j≠Y.sz G->((gs.setIfInBounds 0 g').push child)[j]?=gs[j]?:=fun j h0 hc=>by
  rw[Array.getElem?_push,if_neg (by simp;omega),bE h0]
 refine⟨fP,by rw[e8,h.sz];simp,h0,fun j CB=>?_,fun j y tO hy=>?_,fun j hj=>?_,?_,?_⟩
 ·by_cases ER:j=Y.sz G
  ·subst ER
   rw[upd_same]
   exact⟨CH.1,by rw[CH.2.2];exact View.refl _ _,child,ec,by rw[CH.2.1],by rw[CH.2.1],by rw[CH.2.1],.inl QC⟩
  rw[upd_ne _ _ ER]
  by_cases hj:j=0
  ·subst hj
   rw[upd_same]
   exact⟨we.1,by rw[we.2.2];exact View.refl _ _,g',e0,by rw[we.2.1],by rw[we.2.1],by rw[we.2.1],.inl aS⟩
  rw[upd_ne _ _ hj]
  obtain⟨e1,e2,e3⟩:=rU j hj ER
  obtain⟨s1,s2,y,s3,s4,s5,s6,s7⟩:=h.ik j (e2.1 CB)
  refine⟨by rw[e1];exact s1,by rw[e1];exact(s2.at d).trans (e3 (e2.1 CB)),y,by rw[ej j hj ER];exact s3,s4,s5,s6,?_⟩
  rw[e1]
  exact s7.imp id (.imp (fun a=>⟨a.1,a.2.1,yW j ER a.2.2⟩) id)
 ·have hj:j≠0:=fun e=>tO (e▸h0)
  have ER:j≠Y.sz G:=fun e=>tO (e▸hc)
  rw[ej j hj ER]at hy
  rw[hu,if_neg hj]
  exact h.quit j y (fun a=>tO ((rU j hj ER).2.1.2 a)) hy
 ·simp at hj
  rw[hu,if_neg (by omega)]
  exact h.above j (by omega)
 ·intro k y0 yk _ _ PZ _ b0 _ _ _
  rw[e0]at PZ;cases PZ
  rw[aS]at b0;cases b0
 intro k xk NX hk mS bk ok
 have hkc:k≠Y.sz G:=by rintro rfl;rw[ec]at mS;cases mS;rw[QC]at bk;cases bk
 rw[ej k hk hkc]at mS
 rw[dt]
 exact h.shut k xk ((rU k hk hkc).2.1.1 NX) hk mS bk ok
end Go.Co

namespace Go.Co
open Go Go.Conc
open Go.ConcN (sumTo upd sumTo_upd upd_ne upd_same sumTo_congr le_sumTo sumTo_le)
variable{Y:jI}
theorem Az(L:Y.Laws){N n:Nat}{A:Nat->Prop}{f:Nat->Y.Node}(ih: ∀N',N'<N->∀ (A:Nat->Prop) (n:Nat) (f:Nat->Y.Node),(∀i,A i->jJ (Y.F (Y.Lv N') i) (f i))->Goal Y N' n A f)
  (hf: ∀i,A i->i<n->jJ (Y.F (Y.Lv N) i) (f i)) {G:Y.Gh} {w:World} {t:Trace} {gs:Array Goroutine} {q:Nat->Nat} {sl:Option (Nat×Nat)} {k d s r:Nat} {v:Value} {x0 xk:Goroutine} {f0 fk:FuncId} {p0 pk:String}
  (h:uP Y f G w t gs q) (PY:Y.Φ G<=N) (hn: ∀i,Y.act G i->A i/\i<n) (ha:Y.act G k) (hk:k≠0)
  (h0:Y.ch (Y.lo G 0)= .send v) (hr:Y.ch (Y.lo G k)= .recv) (hc:w.heap[Y.c]?=some (.chan 0 #[] false s r false)) (Iy:gs[0]?=some x0) (mS:gs[k]?=some xk)
  (n0: ∀l',Y.CM (Y.lo G 0) l'->Y.Lv N 0 (l',Conc.served (f 0).2.1 undef,w)) (nk: ∀l',Y.got (Y.lo G k) v l'->Y.Lv N k (l',Conc.served (f k).2.1 (recvd true v true),w)):
  Arrives Y ((gs.setIfInBounds k (Conc.served (f k).2.1 (recvd true v true))).setIfInBounds 0 (Conc.served (f 0).2.1 undef)) ((w.at d).setChan Y.c 0 #[] false (s+1) (r+1) false) sl (t++jQ Y.c s r k f0 fk p0 pk):=by
 obtain⟨G',g1,g2,g3,g4,g5⟩:=h.pass L (d:=d) (f0:=f0) (fk:=fk) (p0:=p0) (pk:=pk) ha hk h0 hr hc Iy mS
 obtain⟨N',rfl⟩: ∃N',N=N'+1:=⟨N-1,by omega⟩
 refine ih N' (by omega) (fun i=>A i/\i<n) n _ (fun i hi=>?_) _ G' _ _ _ sl q g5 (by omega) (fun i hi=>⟨hn i ((g4 i).1 hi),(hn i ((g4 i).1 hi)).2⟩) (Nat.le_refl _)
 by_cases dQ:i=0
 ·subst dQ
  rw[upd_same]
  exact n0 _ g2
 by_cases Kk:i=k
 ·subst Kk
  rw[upd_ne _ _ dQ,upd_same]
  exact nk _ g3
 rw[upd_ne _ _ dQ,upd_ne _ _ Kk]
 exact qa (hf i hi.1 hi.2)
theorem Cm(L:Y.Laws){N n:Nat}{A:Nat->Prop}(ih: ∀N',N'<N->∀ (A:Nat->Prop) (n:Nat) (f:Nat->Y.Node),(∀i,A i->jJ (Y.F (Y.Lv N') i) (f i))->Goal Y N' n A f)
  (f:Nat->Y.Node) (hf: ∀j,j<n->jJ (FA Y A (Y.Lv N) j) (f j)/\FA Y A (Y.Lv N) j (fun a=>Goal Y N n A (upd f j a)/\jJ (FA Y A (Y.Lv N) j) a) (f j)):Goal Y N n A f:=by
 intro M
 induction M using Nat.strongRecOn with
 |_ M Xo=>
 intro G w t gs sl q h PY hn hM
 obtain⟨i,x,d,rK,hx,ED,dI⟩:=crowd_pick (P:=Y.P) (w:=w) (sl:=sl) h.awake (h.TM L)
 have bA:i<gs.size:=(Array.getElem?_eq_some_iff.1 hx).1
 have Vy: ∀ (fw:Goroutine->Goroutine) (y:Goroutine),((gs.map fw).setIfInBounds i y).size=gs.size:=fun fw y=>by simp
 by_cases ha:Y.act G i
 ·-- ONE AT WORK
  obtain⟨hA,ll⟩:=hn i ha
  obtain⟨hl,hF⟩:=hf i ll
  have hF:=hF hA
  obtain⟨s1,s2,x',s3,e1,e2,e3,_⟩:=h.ik i ha
  rw[hx]at s3
  cases s3
  have oN: ∀w,stepG Y.P (i==0) x w=stepG Y.P (i==0) (f i).2.1 w:=fun w=>stepG_same e1 e2 e3 w
  have Xw:mayWake Y.P x=mayWake Y.P (f i).2.1:=Cc e1
  have KB:=L.draw d h.gi
  obtain⟨⟨r1,r2,r3⟩,hF⟩:=hF
  rcases hF with⟨rfl,_,dw⟩|⟨bP,hp⟩|⟨bP,hs⟩|⟨dQ,bP,hr⟩|⟨rfl,v,bP,hsd⟩
  ·exact Gy L h hx ED dw
  ·-- a step YX Xh zaz else
   obtain⟨g',w',es,g1,g2,g3,g3t,g4,_⟩:=hp (w.at d) (by rw[s1];exact s2.at d)
   have eU:=runT_crowd_go (P:=Y.P) (sl:=rK) (i:=i) hx ((oN _).trans g1)
   have XI:=g3
   rw[s1]at XI
   refine Arrives.step (dI.trans eU) ?_
   refine g4 _ (Y.qC G i (w.at d).heap.size w'.heap.size) w' _ _ rK q (h.go L rfl hx (.inl g2) (L.tS _ _ KB ha XI (by rw[<-s1];exact g3t)) (L.Ia ..) (fun j hj=>⟨L.Ic _ _ _ _ _ hj,L.pj ..,fun CB=>⟨XI.size,fun b hb=>?_⟩⟩)
    (.inr ⟨fun j hj=>L.Ih _ _ _ _ _ hj,L.Ig ..⟩) ((L.pj ..).2 h.main) (fun _=>⟨by rw[s1,L.Ie],rfl,rfl⟩) (fun _ _=>rfl) (fun tO=>absurd ((L.pj ..).2 ha) tO))
    (by rw[L.BR];exact PY) (fun j hj=>hn j ((L.pj ..).1 hj)) (Nat.le_refl _)
   exact XI.block b (fun hi=>L.apart KB ha CB (Ne.symm hj) hi hb) (L.old KB CB hb)
  ·-- a step YX touches what is shared
   rcases hs G (w.at d) t KB ha s1.symm (by rw[s1];exact s2.at d)with⟨g',w',es,G',g1,g2,g3,g4,g5,g6,g7,g8⟩|⟨g1,g2⟩|⟨rfl,g',child,w',es,g1,g2⟩
   ·have eU:=runT_crowd_go (P:=Y.P) (sl:=rK) (i:=i) hx ((oN _).trans g1)
    refine Arrives.step (dI.trans eU) ?_
    have e4:MemOp.ofEvents i x.frame.fn x.frame.place es=MemOp.ofEvents i (f i).2.1.frame.fn (f i).2.1.frame.place es:=by rw[e1]
    have au: ∀j,j≠i->(Y.act G' j↔Y.act G j):=fun j hj=>(g5 j hj).2.1
    have qA:Y.act G' 0:=by
     rcases g8 with⟨a,_⟩|⟨_,b,_⟩
     ·by_cases e:(0:Nat)=i
      ·rw[e];exact a
      exact(au 0 e).2 h.main
     exact(au 0 (Ne.symm b)).2 h.main
    have ic:(mayWake Y.P x=true/\g'.status= .running)\/((∀j,Y.PK G j->Y.PK G' j)/\Y.cl G'=Y.cl G):=g6.imp (fun a=>⟨Xw.trans a,g2⟩) id
    have oz: ∀j,Y.act G' j->A j/\j<n:=fun j hj=>by
     by_cases e:j=i
     ·rw[e];exact⟨hA,ll⟩
     exact hn j ((au j e).1 hj)
    rcases g8 with⟨a,b|⟨b,c⟩⟩|⟨a,b,c⟩
    ·exact b.1 _ G' w' _ _ rK q (h.go L rfl hx (.inl g2) (by rw[e4];exact g3) g4 g5 ic qA (fun _=>⟨rfl,rfl,rfl⟩) (fun _ _=>rfl) (fun tO=>absurd a tO)) (by omega) oz (Nat.le_refl _)
    ·obtain⟨N',rfl⟩: ∃N',N=N'+1:=⟨N-1,by omega⟩
     refine ih N' (by omega) (fun i=>A i/\i<n) n (upd f i (Y.lo G' i,g',w')) (fun j hj=>?_) _ G' w' _ _ rK q (h.go L rfl hx (.inl g2) (by rw[e4];exact g3) g4 g5 ic qA (fun _=>⟨rfl,rfl,rfl⟩) (fun _ _=>rfl) (fun tO=>absurd a tO)) (by omega) (fun j hj=>⟨oz j hj,(oz j hj).2⟩) (Nat.le_refl _)
     by_cases e:j=i
     ·subst e;rw[upd_same];exact c
     rw[upd_ne _ _ e];exact qa (FA.get hj.1 (hf j hj.2).1)
    -- it only leaves from now on
    obtain⟨hd,k,c⟩:=c
    obtain⟨N',rfl⟩: ∃N',N=N'+1:=⟨N-1,by omega⟩
    refine ih N' (by omega) (fun j=>(A j/\j<n)/\j≠i) n (upd f i (f i)) (fun j hj=>?_) _ G' w' _ _ rK (upd q i k) (h.go L rfl hx (.inl g2) (by rw[e4];exact g3) g4 g5 ic qA (fun tO=>absurd tO a) (fun j hj=>upd_ne q k hj) (fun _=>?_)) (by omega)
     (fun j hj=>⟨⟨oz j hj,fun e=>a (e▸hj)⟩,(oz j hj).2⟩) (Nat.le_refl _)
    ·rw[upd_ne _ _ hj.2];exact qa (FA.get hj.1.1 (hf j hj.1.2).1)
    rw[upd_same,L.hears h.gi ha];exact c
   ·-- it is blocked
    have eU:=runT_crowd_go (P:=Y.P) (sl:=rK) (i:=i) hx ((oN _).trans g1)
    have ew:(gs.map (Conc.woken Y.P x {(f i).2.1 with status:=.blocked} (w.at d)))=gs:=by
     have:Conc.woken Y.P x {(f i).2.1 with status:=.blocked} (w.at d)=id:=by funext o;unfold Conc.woken;simp
     rw[this];simp
    rw[ew,ofEvents_none]at eU
    refine Arrives.step (dI.trans eU) ?_
    rw[Array.append_empty]
    have hr:=xJ hx ED (y:={(f i).2.1 with status:=.blocked}) (by simp)
    refine Xo _ (Nat.lt_of_lt_of_le (Nat.add_lt_add_left hr _) hM) G (w.at d) t _ rK q (h.KS L (p:={(f i).2.1 with status:=.blocked}) ha hx ⟨rfl,rfl,rfl,.inr (.inl ⟨rfl,r2,g2⟩)⟩ (fun ho=>absurd r2 ho) (fun ho=>absurd r2 ho)) PY hn ?_
    rw[Array.size_setIfInBounds]
    exact Nat.le_refl _
   -- a go Uk
   have eU:=runT_crowd_spawn (P:=Y.P) (sl:=rK) (i:=0) hx ((oN _).trans g1)
   refine Arrives.step (dI.trans eU) ?_
   obtain⟨G',a1,a2,a3,a4,a5,a6,a7,a8,a9,XR⟩:=g2 child.frame.fn
   obtain⟨N',rfl⟩: ∃N',N=N'+1:=⟨N-1,by omega⟩
   have e8:=h.sz
   have zaK:0<Y.sz G:=by omega
   have a9':=jJ.unfold (jI.F.mono Y (Y.Lv N') 0) (show jJ (Y.F (Y.Lv N') 0) _ from a9)
   have zat:=jJ.unfold (jI.F.mono Y (Y.Lv N') (Y.sz G)) (show jJ (Y.F (Y.Lv N') (Y.sz G)) _ from XR)
   have etr:t++((MemOp.ofEvents 0 x.frame.fn x.frame.place es).push {g:=0,fn:=x.frame.fn,pos:=x.frame.place,act:=.go gs.size} |>.push {g:=gs.size,fn:=child.frame.fn,pos:=x.frame.place,act:=.start})=
     ((t++MemOp.ofEvents 0 (f 0).2.1.frame.fn (f 0).2.1.frame.place es).push {g:=0,fn:=(f 0).2.1.frame.fn,pos:=(f 0).2.1.frame.place,act:=.go (Y.sz G)}).push {g:=Y.sz G,fn:=child.frame.fn,pos:=(f 0).2.1.frame.place,act:=.start}:=by
    rw[e1,e8,Array.append_push,Array.append_push]
   have hu: ∀j,Deaf (t++((MemOp.ofEvents 0 x.frame.fn x.frame.place es).push {g:=0,fn:=x.frame.fn,pos:=x.frame.place,act:=.go gs.size} |>.push {g:=gs.size,fn:=child.frame.fn,pos:=x.frame.place,act:=.start})) j=
     if j=0 then Deaf (t++((MemOp.ofEvents 0 x.frame.fn x.frame.place es).push {g:=0,fn:=x.frame.fn,pos:=x.frame.place,act:=.go gs.size} |>.push {g:=gs.size,fn:=child.frame.fn,pos:=x.frame.place,act:=.start})) 0 else Deaf t j:=by
    intro j
    by_cases hj:j=0
    ·rw[if_pos hj,hj]
    rw[if_neg hj]
    have e5:((MemOp.ofEvents 0 x.frame.fn x.frame.place es).push {g:=0,fn:=x.frame.fn,pos:=x.frame.place,act:=.go gs.size} |>.push {g:=gs.size,fn:=child.frame.fn,pos:=x.frame.place,act:=.start})=
     MemOp.ofEvents 0 x.frame.fn x.frame.place es++ #[{g:=0,fn:=x.frame.fn,pos:=x.frame.place,act:=.go gs.size},{g:=gs.size,fn:=child.frame.fn,pos:=x.frame.place,act:=.start}]:=by
     apply Array.toList_inj.1;simp
    rw[e5,<-Array.append_assoc,Go.ConcN.Deaf_still _ _ _ (by intro op aF;simp at aF;rcases aF with rfl|rfl<;>simp)]
    exact Deaf_other t (fun e=>hj e.symm) _ cn
   refine ih N' (by omega) (fun j=>(A j/\j<n)\/j=0\/j=Y.sz G) (max n (Y.sz G+1)) (upd (upd f 0 (Y.lo G' 0,g',w')) (Y.sz G) (Y.lo G' (Y.sz G),child,w')) (fun j hj=>?_) _ G' w' _ _ rK q
    (h.spawn rfl hx a9'.1.1 zat.1.1 (by rw[etr];exact a1) a2 hu a6 a3 a4 a7 a8 ⟨rfl,rfl,rfl⟩ ⟨rfl,rfl,rfl⟩) (by omega) (fun j hj=>?_) (Nat.le_refl _)
   ·by_cases ER:j=Y.sz G
    ·subst ER;rw[upd_same];exact XR
    rw[upd_ne _ _ ER]
    by_cases vI:j=0
    ·subst vI;rw[upd_same];exact a9
    rw[upd_ne _ _ vI]
    rcases hj with hj|hj|hj
    ·exact qa (FA.get hj.1 (hf j hj.2).1)
    ·exact absurd hj vI
    exact absurd hj ER
   by_cases ER:j=Y.sz G
   ·exact⟨.inr (.inr ER),by omega⟩
   by_cases vI:j=0
   ·exact⟨.inr (.inl vI),by omega⟩
   have:=hn j ((a6 j vI ER).2.1.1 hj)
   exact⟨.inl this,by omega⟩
  ·-- A RECEIVE
   rw[s1]at bP
   obtain⟨⟨cs,cr,hc⟩,WS⟩:=L.chan KB ha (by rw[bP];simp)
   have P7:(i==0)=false:=by simpa using dQ
   obtain⟨z,z1,z2,z3⟩:=hr (w.at d) (by rw[s1];exact s2.at d)
   have zV:stepG Y.P (i==0) x (w.at d)= .comm (f i).2.1 #[rcase Y.c z] true (.recv true) (w.at d) #[]:=by rw[oN,P7];exact z1
   obtain⟨_,_,x0,Iy,t1,t2,t3,st0⟩:=h.ik 0 h.main
   have H7: ∀k y,(gs.setIfInBounds i ph)[k]?=some y->k≠0->offersAt y Y.c true= []:=by
    intro k y hy hk
    rcases getElem?_stand gs i k y hy with⟨_,rfl⟩|⟨_,hy⟩
    ·rfl
    exact h.O7 hy hk
   by_cases yW:x0.status= .blocked/\x0.offers≠none
   ·-- goroutine 0 waits with a value
    obtain⟨Q9,ho0⟩:=yW
    obtain⟨_,⟨e,_⟩|⟨_,v,z0,hv,Vq⟩⟩:=h.offer Iy Q9 ho0
    ·exact absurd rfl e
    obtain⟨_,R7⟩:=L.Lp KB h.main hv
    rw[R7]at hc
    have rR:partners (gs.setIfInBounds i ph) Y.c true= [(0,0)]:=by
     rw[partners_one (j:=0) (g:=x0) (by rw[bE (Ne.symm dQ)];exact Iy) (fun k y hk hy=>H7 k y hy hk),Vq,offersAt_parked_send]
     simp
    have eU:=crowd_recv_meets (P:=Y.P) (sl:=rK) hx zV hc (Ne.symm dQ) (by rw[Iy,Vq]) rR
    rw[finishComm_send,finishComm_recv,ofEvents_none]at eU
    refine Arrives.step (dI.trans eU) ?_
    obtain⟨YF,y6⟩:=hn 0 h.main
    obtain⟨P5,tM⟩:=hf 0 y6
    have m1:=(h.ik 0 h.main).1
    have m2:=(h.ik 0 h.main).2.1
    have hsend: ∀l',Y.CM (Y.lo G 0) l'->Y.Lv N 0 (l',Conc.served (f 0).2.1 undef,w):=by
     obtain⟨_,hF0⟩:=tM YF
     rcases hF0 with⟨_,e,_⟩|⟨e,_⟩|⟨e,_⟩|⟨e,_⟩|⟨_,v',_,EE⟩
     ·rw[m1,hv]at e;cases e
     ·rw[m1,hv]at e;cases e
     ·rw[m1,hv]at e;cases e
     ·exact absurd rfl e
     obtain⟨_,_,b⟩:=EE w (by rw[m1];exact m2)
     rw[m1]at b;exact b
    have R4: ∀l',Y.got (Y.lo G i) v l'->Y.Lv N i (l',Conc.served (f i).2.1 (recvd true v true),w):=by
     obtain⟨zz,_,b,_⟩:=hr w (by rw[s1];exact s2)
     intro l' hl
     exact b v l' (by rw[s1];exact hl)
    have:=Az L ih (fun j hA hj=>FA.get hA (hf j hj).1) (sl:=rK) (d:=d) (f0:=(f 0).2.1.frame.fn) (fk:=(f i).2.1.frame.fn) (p0:=(f 0).2.1.frame.place) (pk:=(f i).2.1.frame.place) h PY hn ha dQ hv bP hc Iy hx hsend R4
    rw[set_comm dQ]at this
    rw[Array.empty_append]
    exact this
   have ZC:offersAt x0 Y.c true= []:=jc (by
    by_cases hb:x0.status= .blocked
    ·exact .inr (Classical.byContradiction fun ho=>yW ⟨hb,ho⟩)
    exact .inl hb)
   have rR:partners (gs.setIfInBounds i ph) Y.c true= []:=partners_nil fun k y hy=>by
    by_cases hk:k=0
    ·subst hk
     rw[bE (Ne.symm dQ),Iy]at hy
     cases hy
     exact ZC
    exact H7 k y hy hk
   cases dt:Y.cl G with
   |true=>
    rw[dt]at hc
    have eU:=crowd_recv_closed (P:=Y.P) (sl:=rK) hx zV hc rR
    rw[finishComm_recv,ofEvents_none]at eU
    refine Arrives.step (dI.trans eU) ?_
    obtain⟨G',c1,c2,c3,c4,c5,c6,c7,c8⟩:=L.closed (f i).2.1.frame.fn (f i).2.1.frame.place KB ha dQ bP dt
    rw[Array.empty_append]
    refine(z3 (Y.lo G' i) (by rw[s1];exact c3)).1 _ G' (w.at d) _ _ rK q (h.put L ha hx rfl c1 c4 (by intro op aF;simp at aF;subst aF;simp) (fun j hj=>⟨c7 j hj,fun _=>View.refl _ _⟩) c6 c8 c5 ⟨rfl,rfl,View.refl _ _⟩) (by omega)
     (fun j hj=>hn j ((c6 j).1 hj)) (Nat.le_refl _)
   |false=>
    rw[dt]at hc
    have eU:=crowd_waits (P:=Y.P) (sl:=rK) hx zV (by intro cc UQ;simp at UQ;subst UQ;exact ways_recv_none hc rR)
    rw[ofEvents_none]at eU
    refine Arrives.step (dI.trans eU) ?_
    rw[Array.append_empty]
    have lX:=xJ hx ED (y:=parked (f i).2.1 #[rcase Y.c z] (.recv true)) (by simp[parked])
    refine Xo _ (Nat.lt_of_lt_of_le (Nat.add_lt_add_left lX _) hM) G (w.at d) t _ rK q (h.KS L ha hx ⟨rfl,rfl,rfl,.inr (.inr (.inl ⟨rfl,dQ,bP,z,rfl⟩))⟩ (fun _ k y hy hk GQ _ hb ho=>?_) (fun _ _=>dt)) PY hn ?_
    ·rcases GQ with rfl|e
     ·rw[Iy]at hy;cases hy
      exact yW ⟨hb,ho⟩
     exact dQ e
    rw[Array.size_setIfInBounds];exact Nat.le_refl _
  -- A zaX
  rw[s1]at bP
  obtain⟨⟨cs,cr,hc⟩,WS⟩:=L.chan KB ha (by rw[bP];simp)
  obtain⟨_,R7⟩:=L.Lp KB ha bP
  rw[R7]at hc
  obtain⟨z,z1,z2⟩:=hsd (w.at d) (by rw[s1];exact s2.at d)
  have zV:stepG Y.P (0==0) x (w.at d)= .comm (f 0).2.1 #[scase Y.c v z] true .send (w.at d) #[]:=by rw[oN];exact z1
  by_cases rR:partners (gs.setIfInBounds 0 ph) Y.c false= []
  ·have eU:=crowd_waits (P:=Y.P) (sl:=rK) hx zV (by intro cc UQ;simp at UQ;subst UQ;exact ways_send_none hc (Nat.zero_le _) rR)
   rw[ofEvents_none]at eU
   refine Arrives.step (dI.trans eU) ?_
   rw[Array.append_empty]
   have lX:=xJ hx ED (y:=parked (f 0).2.1 #[scase Y.c v z] .send) (by simp[parked])
   refine Xo _ (Nat.lt_of_lt_of_le (Nat.add_lt_add_left lX _) hM) G (w.at d) t _ rK q (h.KS L ha hx ⟨rfl,rfl,rfl,.inr (.inr (.inr ⟨rfl,rfl,v,z,bP,rfl⟩))⟩ (fun _ k y hy hk _ _ hb ho=>?_) (fun _ e=>absurd rfl e)) PY hn ?_
   ·obtain⟨_,⟨_,_,zz,T1⟩|⟨e,_⟩⟩:=h.offer hy hb ho
    ·have:(k,0)∈partners (gs.setIfInBounds 0 ph) Y.c false:=mem_partners.2 ⟨y,by rw[bE hk];exact hy,by rw[T1,offersAt_parked_recv];simp⟩
     rw[rR]at this;cases this
    exact hk e
   rw[Array.size_setIfInBounds];exact Nat.le_refl _
  have dK: ∀j k,(j,k)∈partners (gs.setIfInBounds 0 ph) Y.c false->k=0/\j≠0/\∃gj zj shj,gs[j]?=some (parked gj #[rcase Y.c zj] shj):=by
   intro j k hm
   obtain⟨y,hy,hk⟩:=mem_partners.1 hm
   rcases getElem?_stand gs 0 j y hy with⟨_,rfl⟩|⟨hj,hy⟩
   ·rw[offersAt_ph]at hk;cases hk
   by_cases hb:y.status= .blocked/\y.offers≠none
   ·obtain⟨_,⟨_,_,zz,T1⟩|⟨e,_⟩⟩:=h.offer hy hb.1 hb.2
    ·rw[T1,offersAt_parked_recv,if_pos rfl]at hk
     simp at hk
     exact⟨hk,hj,_,zz,_,by rw[hy,T1]⟩
    exact absurd e hj
   rw[jc (by
    by_cases h1:y.status= .blocked
    ·exact .inr (Classical.byContradiction fun ho=>hb ⟨h1,ho⟩)
    exact .inl h1)]at hk
   cases hk
  obtain⟨j,gj,zj,shj,d',vI,hgj,eU⟩:=crowd_send_meets_some (P:=Y.P) (sl:=rK) hx zV hc rR dK
  obtain⟨CB,⟨_,Xu,zz,T1⟩|⟨e,_⟩⟩:=h.offer hgj (by simp[parked]) (by simp[parked])
  ·obtain⟨q1,q2,_,q4⟩:=zu T1 (recvd true v true)
   subst q2
   rw[finishComm_send,finishComm_recv,ofEvents_none,q1]at eU
   refine Arrives.step (dI.trans eU) ?_
   obtain⟨hAj,Kj⟩:=hn j CB
   obtain⟨P5,tM⟩:=hf j Kj
   have m1:=(h.ik j CB).1
   have m2:=(h.ik j CB).2.1
   have R4: ∀l',Y.got (Y.lo G j) v l'->Y.Lv N j (l',Conc.served (f j).2.1 (recvd true v true),w):=by
    obtain⟨_,hFj⟩:=tM hAj
    rcases hFj with⟨_,e,_⟩|⟨e,_⟩|⟨e,_⟩|⟨_,_,EE⟩|⟨e,_⟩
    ·rw[m1,Xu]at e;cases e
    ·rw[m1,Xu]at e;cases e
    ·rw[m1,Xu]at e;cases e
    ·obtain⟨_,_,b,_⟩:=EE w (by rw[m1];exact m2)
     intro l' hl
     exact b v l' (by rw[m1];exact hl)
    exact absurd e vI
   have hsend: ∀l',Y.CM (Y.lo G 0) l'->Y.Lv N 0 (l',Conc.served (f 0).2.1 undef,w):=by
    obtain⟨zz',_,b⟩:=hsd w (by rw[s1];exact s2)
    intro l' hl
    exact b l' (by rw[s1];exact hl)
   have:=Az L ih (fun k hA hk=>FA.get hA (hf k hk).1) (sl:=rK) (d:=d') (f0:=(f 0).2.1.frame.fn) (fk:=gj.frame.fn) (p0:=(f 0).2.1.frame.place) (pk:=gj.frame.place) h PY hn CB vI bP Xu (s:=cs) (r:=cr) (by simpa [World.at]using hc) hx hgj hsend R4
   rw[Array.empty_append]
   exact this
  exact absurd e vI
 -- ONE THAT ONLY LEAVES
 have hq:=h.quit i x ha hx
 have dQ:i≠0:=fun e=>ha (e▸h.main)
 cases hqi:q i with
 |zero=>rw[hqi]at hq;rw[hq.1]at ED;cases ED
 |succ k=>
  rw[hqi]at hq
  rcases hq with⟨hfi,_⟩|⟨_,g',es,hm,Zw,hq'⟩
  ·rw[hfi]at ED;cases ED
  have hb:(i==0)=false:=by simpa using dQ
  have eU:=runT_crowd_go (P:=Y.P) (sl:=rK) (i:=i) hx (by rw[hb];exact Zw (w.at d))
  refine Arrives.step (dI.trans eU) ?_
  obtain⟨M',ET,hle⟩:=Gk bA hqi (r':=runs ((gs.map (Conc.woken Y.P x g' (w.at d))).setIfInBounds i g')) (by have:=Pa ((gs.map (Conc.woken Y.P x g' (w.at d))).setIfInBounds i g');rw[Vy]at this;exact this) hM
  refine Xo M' ET G (w.at d) _ _ rK (upd q i k) ?_ PY hn (by rw[Vy];exact hle)
  have:=h.go L (q':=upd q i k) (n':=f i) rfl hx (hq'.status.imp id fun a=>⟨a,ha⟩) (L.mute x.frame.fn x.frame.place (L.draw d h.gi) ha dQ (by rw[h.sz];exact bA) hm) rfl (fun j _=>⟨rfl,Iff.rfl,fun _=>View.refl _ _⟩) (.inr ⟨fun _ a=>a,rfl⟩) h.main (fun a=>absurd a ha)
   (fun j hj=>upd_ne q k hj) (fun _=>by rw[upd_same];exact hq')
  have e:upd f i (f i)=f:=by funext j;by_cases e:j=i<;>simp[upd,e]
  rw[e]at this
  exact this
theorem Il(L:Y.Laws): ∀ (N:Nat) (A:Nat->Prop) (n:Nat) (f:Nat->Y.Node),(∀i,A i->jJ (Y.F (Y.Lv N) i) (f i))->Goal Y N n A f:=by
 intro N
 induction N using Nat.strongRecOn with
 |_ N ih=>
 intro A n f hf
 exact M3 (F:=fun i=>FA Y A (Y.Lv N) i) (fun i=>FA.mono A _ i) (n:=n) (fun f h=>Cm L ih f h) f fun j _=>FA.of (hf j)
end Go.Co

namespace Go.Co
open Go Go.Conc
structure Oo where
 W:Nat->Loc->Prop
 R:Nat->Loc->Prop
 A:Nat->Loc->Prop
 S:Nat->Loc->Prop
structure TI(D:Oo)(B:Nat)(t:Trace):Prop where
 clean: ∀said,¬Race said t
 W: ∀g l i a,D.W g l->touchAt t i=some a->a.loc=l->Knows t g i
 R: ∀g l i a,D.R g l->touchAt t i=some a->a.loc=l->a.write=true->Knows t g i
 A: ∀g l i a,D.A g l->touchAt t i=some a->a.loc=l->a.kind= .plain->Knows t g i
 S: ∀g l i a,D.S g l->touchAt t i=some a->a.loc=l->a.kind= .said->Knows t g i
 seen: ∀op∈t,op.act.low B
def Leg(D:Oo)(g:Nat)(b:Touch):Prop:=
 (D.W g b.loc\/(b.kind= .plain/\b.write=false/\D.R g b.loc)\/(b.kind= .atomic/\D.A g b.loc)\/(b.kind= .said/\D.A g b.loc/\D.S g b.loc))/\
 ∀j,j≠g->¬D.W j b.loc/\(b.write=true->¬D.R j b.loc)/\(b.kind= .plain->¬D.A j b.loc)/\(b.kind= .said->¬D.S j b.loc)
theorem TI.step{D:Oo}{B B':Nat}{t u:Trace}{g:Nat}(h:TI D B t)(hu: ∀op∈u,op.g=g)(hl: ∀op∈u,∀b,op.act.touch?=some b->Leg D g b)(hB:B<=B')(vN: ∀op∈u,op.act.low B'):TI D B' (t++u):=by
 have split: ∀i a,touchAt (t++u) i=some a->(touchAt t i=some a)\/(∃op∈u,op.act.touch?=some a/\(t++u)[i]?=some op):=by
  intro i a ha
  obtain⟨x,hx,tL⟩:=touch_of ha
  rcases getElem?_append_cases hx with⟨_,GN⟩|⟨_,X9⟩
  ·exact .inl (by rw[touchAt_of GN];exact tL)
  exact .inr ⟨x,X9,tL,hx⟩
 refine⟨fun said=>noRace_append (h.clean said) hu fun i a ha op aF b hb hc=>?_,?_,?_,?_,?_,fun op aF=>(Array.mem_append.1 aF).elim (fun x=>MemAct.low_mono hB (h.seen op x)) (vN op)⟩
 ·obtain⟨h1,_⟩:=hl op aF b hb
  obtain⟨c1,c2,c3,c4⟩:=hc
  rcases h1 with k|⟨k1,k2,k3⟩|⟨k1,k2⟩|⟨k1,k2,k3⟩
  ·exact h.W g b.loc i a k ha c1
  ·refine h.R g b.loc i a k3 ha c1 ?_
   rcases c3 with c|c
   ·exact c
   rw[k2]at c;cases c
  ·refine h.A g b.loc i a k2 ha c1 ?_
   rw[k1]at c4
   rcases c4 with c|c|⟨_,_,c⟩
   ·exact c
   ·cases c
   cases c
  rcases c4 with c|c|⟨_,c,_⟩
  ·exact h.A g b.loc i a k2 ha c1 c
  ·rw[k1]at c;cases c
  exact h.S g b.loc i a k3 ha c1 c
 ·intro j l i a hw ha oy
  rcases split i a ha with ha|⟨op,aF,EG,hi⟩
  ·exact(h.W j l i a hw ha oy).app u
  by_cases e:j=g
  ·have:=knows_own hi;rw[hu op aF]at this;rw[e];exact this
  exact absurd (oy▸hw) ((hl op aF a EG).2 j e).1
 ·intro j l i a hw ha oy Kd
  rcases split i a ha with ha|⟨op,aF,EG,hi⟩
  ·exact(h.R j l i a hw ha oy Kd).app u
  by_cases e:j=g
  ·have:=knows_own hi;rw[hu op aF]at this;rw[e];exact this
  exact absurd (oy▸hw) (((hl op aF a EG).2 j e).2.1 Kd)
 ·intro j l i a hw ha oy Kd
  rcases split i a ha with ha|⟨op,aF,EG,hi⟩
  ·exact(h.A j l i a hw ha oy Kd).app u
  by_cases e:j=g
  ·have:=knows_own hi;rw[hu op aF]at this;rw[e];exact this
  exact absurd (oy▸hw) (((hl op aF a EG).2 j e).2.2.1 Kd)
 intro j l i a hw ha oy Kd
 rcases split i a ha with ha|⟨op,aF,EG,hi⟩
 ·exact(h.S j l i a hw ha oy Kd).app u
 by_cases e:j=g
 ·have:=knows_own hi;rw[hu op aF]at this;rw[e];exact this
 exact absurd (oy▸hw) (((hl op aF a EG).2 j e).2.2.2 Kd)
theorem TI.mute{D:Oo}{B B':Nat}{t u:Trace}(h:TI D B t)(hu: ∀op∈u,op.act.touch?=none)(hB:B<=B')(vN: ∀op∈u,op.act.low B'):TI D B' (t++u):=by
 have split: ∀i a,touchAt (t++u) i=some a->touchAt t i=some a:=by
  intro i a ha
  obtain⟨x,hx,tL⟩:=touch_of ha
  rcases getElem?_append_cases hx with⟨_,GN⟩|⟨_,X9⟩
  ·rw[touchAt_of GN];exact tL
  rw[hu x X9]at tL;cases tL
 refine⟨fun said=>?_,fun j l i a hw ha oy=>(h.W j l i a hw (split i a ha) oy).app u,fun j l i a hw ha oy k=>(h.R j l i a hw (split i a ha) oy k).app u,fun j l i a hw ha oy k=>(h.A j l i a hw (split i a ha) oy k).app u,
  fun j l i a hw ha oy k=>(h.S j l i a hw (split i a ha) oy k).app u,fun op aF=>(Array.mem_append.1 aF).elim (fun x=>MemAct.low_mono hB (h.seen op x)) (vN op)⟩
 rintro⟨i,j,tP,⟨a,b,ha,hb,hc⟩,n1,n2⟩
 have yZ:=split i a ha
 have P9:=split j b hb
 exact h.clean said ⟨i,j,tP,⟨a,b,yZ,P9,hc⟩,fun e=>n1 (hb_app u e),fun e=>n2 (hb_app u e)⟩
theorem TI.change{D D':Oo}{B:Nat}{t:Trace}(h:TI D B t)(hW: ∀g l,D'.W g l->D.W g l\/∀i a,touchAt t i=some a->a.loc=l->Knows t g i)
  (hR: ∀g l,D'.R g l->D.R g l\/∀i a,touchAt t i=some a->a.loc=l->a.write=true->Knows t g i)
  (hA: ∀g l,D'.A g l->D.A g l\/∀i a,touchAt t i=some a->a.loc=l->a.kind= .plain->Knows t g i)
  (hS: ∀g l,D'.S g l->D.S g l\/∀i a,touchAt t i=some a->a.loc=l->a.kind= .said->Knows t g i):TI D' B t:=
 ⟨h.clean,fun g l i a k=>(hW g l k).elim (fun k=>h.W g l i a k) fun k=>k i a,fun g l i a k=>(hR g l k).elim (fun k=>h.R g l i a k) fun k=>k i a,
 fun g l i a k=>(hA g l k).elim (fun k=>h.A g l i a k) fun k=>k i a,fun g l i a k=>(hS g l k).elim (fun k=>h.S g l i a k) fun k=>k i a,h.seen⟩
theorem TI.fresh{D:Oo}{B:Nat}{t:Trace}(h:TI D B t){i:Nat}{a:Touch}(ha:touchAt t i=some a):a.loc.low B:=by
 obtain⟨x,hx,tL⟩:=touch_of ha
 have hs:=h.seen x (Array.mem_of_getElem? hx)
 obtain⟨g,fn,pos,act⟩:=x
 cases act with
 |access e=>simp only[MemAct.touch?,Option.some.injEq]at tL;subst tL;exact hs
 |mark m=>cases m<;>simp[MemAct.touch?]at tL<;>(subst tL;exact hs)
 |_=>simp[MemAct.touch?]at tL
theorem TI.at{D:Oo}{B B':Nat}{t:Trace}(h:TI D B t)(hB:B<=B'):TI D B' t:=⟨h.clean,h.W,h.R,h.A,h.S,fun op aF=>MemAct.low_mono hB (h.seen op aF)⟩
theorem heard_new{t u:Trace}{y:MemOp}(hy:(t++u)[t.size]?=some y)(hd:Deaf t y.g=0):(t++u).heard t.size:=by
 refine⟨y.g,?_,?_⟩
 ·unfold Trace.g?;rw[hy];rfl
 rw[deaf_old (Nat.le_refl _)];exact hd
theorem Knows.spawn{t:Trace}{i g k:Nat}{x y:MemOp}(h:Knows t g i)(hx:x.g=g/\x.act= .go k)(hy:y.g=k/\y.act= .start)(hd:Deaf t g=0)(hk:Deaf t k=0)(hgk:g≠k):Knows ((t.push x).push y) k i:=by
 have e:(t.push x).push y=t++ #[x,y]:=by apply Array.toList_inj.1;simp
 rw[e]
 have GN:(t++ #[x,y])[t.size]?=some x:=by rw[Array.getElem?_append_right (Nat.le_refl _)];simp
 have pQ:(t++ #[x,y])[t.size+1]?=some y:=by rw[Array.getElem?_append_right (by omega)];simp
 have e1:(t++ #[x,y]).heard t.size:=⟨g,by simp[Trace.g?,hx.1],by rw[deaf_old (Nat.le_refl _)];exact hd⟩
 have e2:(t++ #[x,y]).heard (t.size+1):=by
  refine⟨k,by simp[Trace.g?,hy.1],?_⟩
  have e4:t++ #[x,y]=(t++ #[x])++ #[y]:=by apply Array.toList_inj.1;simp
  have h3:(t++ #[x,y]).deaf k (t.size+1)=Deaf (t++ #[x]) k:=by
   rw[e4]
   have:(t++ #[x]).size=t.size+1:=by simp
   rw[<-this,deaf_old (Nat.le_refl _)];rfl
  rw[h3,Deaf_other t (g':=g) hgk _ (by intro op aF;simp at aF;subst aF;exact hx.1)]
  exact hk
 refine⟨t.size+1,y,pQ,hy.1,.inr ((h.hb_new (Nat.le_refl _) GN hx.1).trans (.single (.inr ⟨.spawn (child:=k) (by rw[act?_of GN,hx.2]) (by rw[act?_of pQ,hy.2]) (by simp[Trace.g?,hy.1]),e1,e2⟩)))⟩
theorem LastWrite.Tq{t:Trace}{a:Addr}{p:Nat}{y:MemOp}(h:LastWrite t a p)(hp:t.heard p)(hd:Deaf t y.g=0)(hy:y.act= .access ⟨.cell a,false,true⟩):Knows (t++ #[y]) y.g p:=by
 have fb:(t++ #[y])[t.size]?=some y:=by rw[Array.getElem?_append_right (Nat.le_refl _)];simp
 have rR:=lt_of_act? h.1
 have e1:(t++ #[y]).heard p:=by
  obtain⟨g,hg,fD⟩:=hp
  refine⟨g,?_,by rw[deaf_old (Nat.le_of_lt rR)];exact fD⟩
  unfold Trace.g? at hg ⊢
  rw[getElem?_append_old rR];exact hg
 have e2:(t++ #[y]).heard t.size:=⟨y.g,by simp[Trace.g?],by rw[deaf_old (Nat.le_refl _)];exact hd⟩
 exact⟨t.size,y,fb,rfl,.inr (.single (.inr ⟨.atomic (a:=a) rR (by rw[act?_old rR];exact h.1) (by rw[act?_of fb,hy]) (fun k sync h1 h2=>by rw[act?_old h2];exact h.2 k sync h1),e1,e2⟩))⟩
end Go.Co

namespace Go.Co
structure Wd where
 l:Bool
 w:Bool
 s:Bool
 q:Nat
 deriving DecidableEq
def Wd.enc(x:Wd):Int:=((x.l.toNat+2*x.w.toNat+4*x.s.toNat+8*x.q:Nat):Int)
inductive Ro where
 |fresh|bK|tok|mQ|hand (clear:Bool)|held|relN|owe|relS
 deriving DecidableEq
structure gl(x:Wd)(s:Nat)(c:Ro->Nat):Prop where
 l:x.l.toNat=c .held
 norm:x.s=false->c (.hand true)=0/\c (.hand false)=0/\c .relS=0/\x.w.toNat=c .owe+s+c .tok+c .mQ/\c .bK=x.q+c .owe+s/\(0<c .bK->1<=x.l.toNat+x.w.toNat+c .relN)
 jK:x.s=true->x.w=false/\c .mQ=0/\c .owe=0/\x.l.toNat+c .relS+s+c .tok+c (.hand true)+c (.hand false)=1/\c .bK+c .tok+c (.hand true)+c (.hand false)=x.q/\1<=x.q/\(1<=c (.hand false)->2<=x.q)
def iq(a:Option Ro)(r:Ro):Nat:=if a=some r then 1 else 0
def Mv(c c':Ro->Nat)(a b:Option Ro):Prop:=∀r,c' r+iq a r=c r+iq b r
theorem Mv.all{c c':Ro->Nat}{a b:Option Ro}(h:Mv c c' a b):c' .held+iq a .held=c .held+iq b .held/\c' .bK+iq a .bK=c .bK+iq b .bK/\c' .tok+iq a .tok=c .tok+iq b .tok/\c' .mQ+iq a .mQ=c .mQ+iq b .mQ/\
  c' (.hand true)+iq a (.hand true)=c (.hand true)+iq b (.hand true)/\c' (.hand false)+iq a (.hand false)=c (.hand false)+iq b (.hand false)/\c' .relN+iq a .relN=c .relN+iq b .relN/\c' .owe+iq a .owe=c .owe+iq b .owe/\c' .relS+iq a .relS=c .relS+iq b .relS:=
 ⟨h _,h _,h _,h _,h _,h _,h _,h _,h _⟩
section
variable{x:Wd}{s:Nat}{c c':Ro->Nat}
theorem gl.enter(h:gl x s c)(hm:Mv c c' none (some .fresh)):gl x s c':=by
 obtain⟨m1,m2,m3,m4,m5,m6,m7,m8,m9⟩:=hm.all
 simp[iq]at m1 m2 m3 m4 m5 m6 m7 m8 m9
 exact⟨by rw[m1];exact h.l,by rw[m2,m3,m4,m5,m6,m7,m8,m9];exact h.norm,by rw[m2,m3,m4,m5,m6,m8,m9];exact h.jK⟩
theorem gl.Sf(h:gl x s c)(hm:Mv c c' none (some .held))(hl:x.l=false)(hs:x.s=false):gl {x with l:=true} s c':=by
 obtain⟨m1,m2,m3,m4,m5,m6,m7,m8,m9⟩:=hm.all
 simp[iq]at m1 m2 m3 m4 m5 m6 m7 m8 m9
 have hn:=h.norm hs
 have vH:=h.l
 refine⟨by rw[hl]at vH;simp at vH ⊢;omega,fun _=>?_,fun e=>by simp[hs]at e⟩
 simp only[Bool.toNat_true]
 rw[m2,m3,m4,m5,m6,m8,m9];exact⟨hn.1,hn.2.1,hn.2.2.1,hn.2.2.2.1,hn.2.2.2.2.1,fun _=>by omega⟩
theorem gl.acq(h:gl x s c)(hm:Mv c c' (some .fresh) (some .held))(hl:x.l=false)(hs:x.s=false):gl {x with l:=true} s c':=by
 obtain⟨m1,m2,m3,m4,m5,m6,m7,m8,m9⟩:=hm.all
 simp[iq]at m1 m2 m3 m4 m5 m6 m7 m8 m9
 have hn:=h.norm hs
 have vH:=h.l
 refine⟨by rw[hl]at vH;simp at vH ⊢;omega,fun _=>?_,fun e=>by simp[hs]at e⟩
 simp only[Bool.toNat_true]
 rw[m2,m3,m4,m5,m6,m8,m9];exact⟨hn.1,hn.2.1,hn.2.2.1,hn.2.2.2.1,hn.2.2.2.2.1,fun _=>by omega⟩
theorem gl.KO(h:gl x s c)(hm:Mv c c' (some .fresh) (some .mQ))(hw:x.w=false)(hs:x.s=false):gl {x with w:=true} s c':=by
 obtain⟨m1,m2,m3,m4,m5,m6,m7,m8,m9⟩:=hm.all
 simp[iq]at m1 m2 m3 m4 m5 m6 m7 m8 m9
 have hn:=h.norm hs
 rw[hw]at hn
 simp only[Bool.toNat_false]at hn
 refine⟨by rw[m1];exact h.l,fun _=>?_,fun e=>by simp[hs]at e⟩
 simp only[Bool.toNat_true]
 refine⟨by omega,by omega,by omega,by omega,by omega,fun _=>by omega⟩
theorem gl.S8(h:gl x s c)(hm:Mv c c' (some .fresh) (some .bK))(hl:x.l=true\/x.s=true):gl {x with q:=x.q+1} s c':=by
 obtain⟨m1,m2,m3,m4,m5,m6,m7,m8,m9⟩:=hm.all
 simp[iq]at m1 m2 m3 m4 m5 m6 m7 m8 m9
 refine⟨by rw[m1];exact h.l,fun e=>?_,fun e=>?_⟩
 ·have hn:=h.norm e
  have:x.l=true:=hl.elim id fun e'=>by simp at e;rw[e]at e';cases e'
  rw[this]at hn ⊢
  simp only[Bool.toNat_true]at hn ⊢
  exact⟨by omega,by omega,by omega,by omega,by omega,fun _=>by omega⟩
 have hn:=h.jK e
 exact⟨hn.1,by omega,by omega,by simp only;omega,by simp only;omega,by simp only;omega,fun _=>by simp only;omega⟩
theorem gl.zas(h:gl x s c)(hm:Mv c c' (some .mQ) (some .held))(hl:x.l=false):gl {x with l:=true,w:=false} s c':=by
 obtain⟨m1,m2,m3,m4,m5,m6,m7,m8,m9⟩:=hm.all
 simp[iq]at m1 m2 m3 m4 m5 m6 m7 m8 m9
 have hs:x.s=false:=by
  cases e:x.s with
  |false=>rfl
  |true=>have:=(h.jK e).2.1;omega
 have hn:=h.norm hs
 have vH:=h.l
 have hw:x.w.toNat<=1:=Bool.toNat_le _
 refine⟨by rw[hl]at vH;simp at vH ⊢;omega,fun _=>?_,fun e=>by simp[hs]at e⟩
 simp only[Bool.toNat_true,Bool.toNat_false]
 exact⟨by omega,by omega,by omega,by omega,by omega,fun _=>by omega⟩
theorem gl.S6(h:gl x s c)(hm:Mv c c' (some .mQ) (some .bK))(hl:x.l=true)(b:Bool):gl {x with w:=false,s:=b,q:=x.q+1} s c':=by
 obtain⟨m1,m2,m3,m4,m5,m6,m7,m8,m9⟩:=hm.all
 simp[iq]at m1 m2 m3 m4 m5 m6 m7 m8 m9
 have hs:x.s=false:=by
  cases e:x.s with
  |false=>rfl
  |true=>have:=(h.jK e).2.1;omega
 have hn:=h.norm hs
 have hw:x.w.toNat<=1:=Bool.toNat_le _
 refine⟨by rw[m1];exact h.l,fun _=>?_,fun e=>?_⟩
 ·simp only[hl,Bool.toNat_true,Bool.toNat_false]
  exact⟨by omega,by omega,by omega,by omega,by omega,fun _=>by omega⟩
 simp only[hl,Bool.toNat_true]
 exact⟨trivial,by omega,by omega,by omega,by omega,by omega,fun _=>by omega⟩
theorem gl.take(h:gl x (s+1) c)(hm:Mv c c' (some .bK) (some .tok)):gl x s c':=by
 obtain⟨m1,m2,m3,m4,m5,m6,m7,m8,m9⟩:=hm.all
 simp[iq]at m1 m2 m3 m4 m5 m6 m7 m8 m9
 refine⟨by rw[m1];exact h.l,fun e=>?_,fun e=>?_⟩
 ·have hn:=h.norm e
  have hw:x.w.toNat<=1:=Bool.toNat_le _
  exact⟨by omega,by omega,by omega,by omega,by omega,fun _=>by omega⟩
 have hn:=h.jK e
 exact⟨hn.1,by omega,by omega,by omega,by omega,by omega,fun _=>by omega⟩
theorem gl.YU(h:gl x s c)(hm:Mv c c' (some .tok) (some .mQ))(hs:x.s=false):gl x s c':=by
 obtain⟨m1,m2,m3,m4,m5,m6,m7,m8,m9⟩:=hm.all
 simp[iq]at m1 m2 m3 m4 m5 m6 m7 m8 m9
 refine⟨by rw[m1];exact h.l,fun e=>?_,fun e=>by rw[hs]at e;cases e⟩
 have hn:=h.norm e
 exact⟨by omega,by omega,by omega,by omega,by omega,fun _=>by omega⟩
theorem gl.handed(h:gl x s c)(b:Bool)(hm:Mv c c' (some .tok) (some (.hand b)))(hs:x.s=true)(hq:b=false->2<=x.q):gl x s c':=by
 obtain⟨m1,m2,m3,m4,m5,m6,m7,m8,m9⟩:=hm.all
 have hl:x.l.toNat=c' .held:=by simp[iq]at m1;rw[m1];exact h.l
 refine⟨hl,fun e=>?_,fun e=>?_⟩
 ·rw[hs]at e;cases e
 have hn:=h.jK e
 cases b<;>simp[iq]at m1 m2 m3 m4 m5 m6 m7 m8 m9 hq<;>exact⟨hn.1,by omega,by omega,by omega,by omega,by omega,fun _=>by omega⟩
theorem gl.H9(h:gl x s c)(b:Bool)(hm:Mv c c' (some (.hand b)) (some .held)):x.l=false/\x.w=false/\x.s=true/\1<=x.q/\gl ⟨true,false,!b,x.q-1⟩ s c':=by
 obtain⟨m1,m2,m3,m4,m5,m6,m7,m8,m9⟩:=hm.all
 have hs:x.s=true:=by
  cases e:x.s with
  |true=>rfl
  |false=>have hn:=h.norm e;cases b<;>simp[iq]at m5 m6<;>omega
 have hn:=h.jK hs
 have hl:=h.l
 have Oh:x.l.toNat=0:=by cases b<;>simp[iq]at m5 m6<;>omega
 have T8:x.l=false:=by cases e:x.l with
  |false=>rfl
  |true=>rw[e]at Oh;cases Oh
 refine⟨T8,hn.1,hs,hn.2.2.2.2.2.1,?_⟩
 cases b
 ·simp[iq]at m1 m2 m3 m4 m5 m6 m7 m8 m9
  refine⟨by simp only[Bool.toNat_true];omega,fun e=>by simp at e,fun _=>⟨rfl,by omega,by omega,by simp only[Bool.toNat_true];omega,by simp only;omega,by simp only;omega,fun _=>by omega⟩⟩
 simp[iq]at m1 m2 m3 m4 m5 m6 m7 m8 m9
 refine⟨by simp only[Bool.toNat_true];omega,fun _=>⟨by omega,by omega,by omega,by simp only[Bool.toNat_false];omega,by simp only;omega,fun _=>by simp only[Bool.toNat_true];omega⟩,fun e=>by simp at e⟩
def Wd.next(x:Wd):Option Ro:=if x.s then some .relS else if x.q=0\/x.w=true then none else some .relN
theorem gl.unlock(h:gl x s c)(hm:Mv c c' (some .held) x.next):x.l=true/\gl {x with l:=false} s c':=by
 obtain⟨m1,m2,m3,m4,m5,m6,m7,m8,m9⟩:=hm.all
 have hl:=h.l
 have bA:x.l=true:=by
  cases e:x.l with
  |true=>rfl
  |false=>
   rw[e]at hl
   unfold Wd.next at m1
   split at m1<;>(try split at m1)<;>simp[iq]at m1<;>simp at hl<;>omega
 refine⟨bA,?_⟩
 rw[bA]at hl
 simp only[Bool.toNat_true]at hl
 unfold Wd.next at m1 m2 m3 m4 m5 m6 m7 m8 m9
 cases hs:x.s with
 |true=>
  have hn:=h.jK hs
  rw[bA]at hn
  simp only[Bool.toNat_true]at hn
  simp[iq,hs]at m1 m2 m3 m4 m5 m6 m7 m8 m9
  exact⟨by simp only[Bool.toNat_false];omega,fun e=>by simp at e,fun _=>⟨hn.1,by(omega),by(omega),by simp only[Bool.toNat_false];omega,by(((simp only;omega))),by(((simp only;omega))),fun _=>by(omega)⟩⟩
 |false=>
  have hn:=h.norm hs
  rw[bA]at hn
  simp only[Bool.toNat_true]at hn
  by_cases hq:x.q=0\/x.w=true
  ·simp[iq,hs,hq]at m1 m2 m3 m4 m5 m6 m7 m8 m9
   refine⟨by simp only[Bool.toNat_false];omega,fun _=>⟨by(omega),by(omega),by(omega),by(((simp only;omega))),by(((simp only;omega))),fun hp=>?_⟩,fun e=>by simp at e⟩
   simp only[Bool.toNat_false]
   rcases hq with hq|hq
   ·omega
   rw[hq];simp
  simp[iq,hs,hq]at m1 m2 m3 m4 m5 m6 m7 m8 m9
  refine⟨by simp only[Bool.toNat_false];omega,fun _=>⟨by(omega),by(omega),by(omega),by(((simp only;omega))),by(((simp only;omega))),fun hp=>by simp only[Bool.toNat_false];omega⟩,fun e=>by simp at e⟩
theorem gl.drop(h:gl x s c)(hm:Mv c c' (some .relN) none)(hd:x.q=0\/x.l=true\/x.w=true\/x.s=true):gl x s c':=by
 obtain⟨m1,m2,m3,m4,m5,m6,m7,m8,m9⟩:=hm.all
 simp[iq]at m1 m2 m3 m4 m5 m6 m7 m8 m9
 refine⟨by rw[m1];exact h.l,fun e=>?_,fun e=>?_⟩
 ·have hn:=h.norm e
  have hw:x.w.toNat<=1:=Bool.toNat_le _
  refine⟨by(omega),by(omega),by(omega),by(omega),by(omega),fun _=>?_⟩
  rcases hd with hd|hd|hd|hd
  ·omega
  ·rw[hd];simp only[Bool.toNat_true];omega
  ·rw[hd];simp only[Bool.toNat_true];omega
  rw[hd]at e;cases e
 have hn:=h.jK e
 exact⟨hn.1,by(omega),by(omega),by(omega),by(omega),by(omega),fun _=>by(omega)⟩
theorem gl.pick(h:gl x s c)(hm:Mv c c' (some .relN) (some .owe))(hw:x.w=false)(hs:x.s=false)(hq:0<x.q):gl {x with w:=true,q:=x.q-1} s c':=by
 obtain⟨m1,m2,m3,m4,m5,m6,m7,m8,m9⟩:=hm.all
 simp[iq]at m1 m2 m3 m4 m5 m6 m7 m8 m9
 have hn:=h.norm hs
 rw[hw]at hn
 simp only[Bool.toNat_false]at hn
 refine⟨by rw[m1];exact h.l,fun _=>⟨by(omega),by(omega),by(omega),by simp only[Bool.toNat_true];omega,by simp only;omega,fun _=>by simp only[Bool.toNat_true];omega⟩,fun e=>by simp[hs]at e⟩
theorem gl.pay(h:gl x s c)(hm:Mv c c' (some .owe) none):gl x (s+1) c':=by
 obtain⟨m1,m2,m3,m4,m5,m6,m7,m8,m9⟩:=hm.all
 simp[iq]at m1 m2 m3 m4 m5 m6 m7 m8 m9
 refine⟨by rw[m1];exact h.l,fun e=>?_,fun e=>?_⟩
 ·have hn:=h.norm e
  exact⟨by(omega),by(omega),by(omega),by(omega),by(omega),fun _=>by(omega)⟩
 have hn:=h.jK e;omega
theorem gl.Za(h:gl x s c)(hm:Mv c c' (some .relS) none):gl x (s+1) c':=by
 obtain⟨m1,m2,m3,m4,m5,m6,m7,m8,m9⟩:=hm.all
 simp[iq]at m1 m2 m3 m4 m5 m6 m7 m8 m9
 refine⟨by rw[m1];exact h.l,fun e=>?_,fun e=>?_⟩
 ·have hn:=h.norm e;omega
 have hn:=h.jK e
 exact⟨hn.1,by(omega),by(omega),by(omega),by(omega),by(omega),fun _=>by(omega)⟩
theorem gl.Li(h:gl x s c)(hc:0<c .mQ):x.w=true/\x.s=false:=by
 have hs:x.s=false:=by
  cases e:x.s with
  |false=>rfl
  |true=>have:=(h.jK e).2.1;omega
 have hn:=h.norm hs
 refine⟨?_,hs⟩
 cases e:x.w with
 |true=>rfl
 |false=>rw[e]at hn;simp at hn;omega
theorem gl.Wc(h:gl x s c)(hc:0<c .tok):(x.s=false/\x.w=true)\/(x.s=true/\x.l=false/\x.w=false/\1<=x.q):=by
 cases hs:x.s with
 |false=>
  have hn:=h.norm hs
  refine .inl ⟨rfl,?_⟩
  cases e:x.w with
  |true=>rfl
  |false=>rw[e]at hn;simp at hn;omega
 |true=>
  have hn:=h.jK hs
  refine .inr ⟨rfl,?_,hn.1,hn.2.2.2.2.2.1⟩
  cases e:x.l with
  |false=>rfl
  |true=>rw[e]at hn;simp at hn;omega
theorem gl.alive(h:gl x s c)(hq:0<c .bK):0<s\/0<c .held+c .tok+c .mQ+c (.hand true)+c (.hand false)+c .relN+c .owe+c .relS:=by
 have hl:=h.l
 cases hs:x.s with
 |false=>
  have hn:=h.norm hs
  have:=hn.2.2.2.2.2 hq
  omega
 |true=>
  have hn:=h.jK hs
  omega
theorem Wd.DV{x:Wd}(h:x.enc=0):x=⟨false,false,false,0⟩:=by
 obtain⟨l,w,st,q⟩:=x
 unfold Wd.enc at h
 simp only at h
 cases l<;>cases w<;>cases st<;>simp at h<;>first|omega|(have hq:q=0:=(by omega);rw[hq])
end
def Iu:Ro->Nat
 |.fresh=>14|.bK=>10|.tok=>14|.mQ=>13|.hand _=>13|.held=>9|.relN=>7|.owe=>6|.relS=>6
end Go.Co

namespace Go.Co
open Go Go.Conc
open Go.ConcM (OsLater)
open Go.ConcN (sumTo upd sumTo_upd upd_ne upd_same sumTo_congr le_sumTo sumTo_le)
inductive Gr where
 |out|said|last|gT|y8 (n:Nat)|waits|cK|aT
 deriving DecidableEq
structure Me where
 left:Nat
 pend:Nat
 pos:Nat
 cl:Bool
structure Lo where
 af:Bool
 wk:Bool
 ai:Nat->Prop
 deaf:Nat
 mr:Option (Nat×Ro)
 old:Option Wd
 aP:Nat->Bool
 run:Option Nat
 ch:Ch
 rel:Option Nat
 gr:Gr
 bZ:Option Nat
 kn:Addr->Option Value
 me:Me
 sc:Bool
inductive Gd where
 |ro|dq (k:Nat)|bM (k:Nat)|zc (k:Nat)|out (j:Nat)
 deriving DecidableEq
structure Gh where
 n:Nat
 th:Nat->Lo
 left:Nat
 wd:Nat->Wd
 sm:Nat->Nat
 dn:Nat->Bool
 app:Addr->Option (Value×Gd)
 wn:Nat
 ww:Nat
 ws:Nat
 pend:Nat
 cl:Bool
 pos:Nat
 cv:Nat->Nat
 tk:Nat->Option Nat
inductive SC where
 |done (k:Nat)|word (k:Nat)|sema (k:Nat)|bG|fX
 deriving DecidableEq
structure Geo where
 P:Program
 K:Nat
 sc:SC->Addr
 c:Nat
 eg:Bool
 n0:Nat
 jz:Nat->Prop
 nj:Nat
 jv:Nat->Value
 rs:Nat->Option Nat
 w0:World
 qU:Addr->Option (Value×Nat)
 App:(Addr->Option (Value×Gd))->(Nat->Bool)->(Nat->Nat)->Prop
 keep:Nat->Prop
 fin:Lo->Goroutine->World->Prop
 lY: ∀l g w,fin l g w->l.gr= .aT
def SC.ok(K:Nat):SC->Prop
 |.done k|.word k|.sema k=>k<K
 |.bG|.fX=>0<K
def Gh.val(G:Gh):SC->Value
 |.done k=>.int .u32 (G.dn k).toNat
 |.word k=>.int .i32 (G.wd k).enc
 |.sema k=>.int .u32 (G.sm k)
 |.bG=>.int .u64 ((G.wn*4294967296+G.ww:Nat):Int)
 |.fX=>.int .u32 (G.ws:Int)
def Lo.at(l:Lo)(k:Nat)(r:Ro):Nat:=if l.af=true/\l.mr=some (k,r)then 1 else 0
def Gh.cnt(G:Gh)(k:Nat)(r:Ro):Nat:=sumTo G.n fun i=>(G.th i).at k r
def Lo.fg(l:Lo):Nat:=l.af.toNat
def Lo.busy(l:Lo):Nat:=if l.af=true/\l.wk=true/\(l.gr= .out\/l.gr= .said)then 1 else 0
def Lo.ba(l:Lo):Nat:=if l.af=true/\l.gr= .last then 1 else 0
def Lo.bf(l:Lo):Nat:=if l.af=true/\l.gr= .gT then 1 else 0
def Lo.holds(rs:Nat->Option Nat)(r:Nat)(l:Lo):Nat:=match l.bZ with
 |some j=>if l.af=true/\rs j=some r then 1 else 0
 |none=>0
def dL(rs:Nat->Option Nat)(r:Nat)(pos:Nat):Nat:=sumTo pos fun j=>if rs j=some r then 1 else 0
def Lo.wt(l:Lo)(k:Nat):Nat:=match l.mr with
 |some (k',r)=>if k'=k then Iu r else if l.wk=true/\l.aP k=false then 15 else 0
 |none=>if l.wk=true/\l.aP k=false then 15 else 0
def Lo.bh(l:Lo)(k:Nat)(x:Wd):Nat:=match l.mr,l.old with
 |some (k',_),some o=>if l.af=true/\k'=k/\o≠x then 1 else 0
 |_,_=>0
def Lo.φ(K:Nat)(l:Lo):Nat:=if l.af=true then 1+2*l.busy+l.ba+(match l.gr with|.out=>4|.y8 _=>3|.waits=>2|.cK=>1|_=>0)+sumTo K fun k=>64*l.wt k else 0
def Lo.aO(l:Lo)(n:Nat):Nat:=match l.gr with
 |.y8 m=>if m=n then 0 else 2
 |_=>0
def Gh.Φ(K nj:Nat)(G:Gh):Nat:=
 sumTo G.n (fun i=>(G.th i).φ K)+sumTo K (fun k=>320*G.sm k+sumTo G.n fun i=>(G.th i).bh k (G.wd k))+8192*G.left+(nj-G.pos)+(!G.cl).toNat+(G.th 0).aO G.wn
structure KH(G:Gh):Prop where
 n:G.wn=G.pend+sumTo G.n fun i=>(G.th i).busy
 m:(if(G.th 0).gr= .waits then 1 else 0)=G.ww+(sumTo G.n fun i=>(G.th i).bf)+G.ws
 a:(sumTo G.n fun i=>(G.th i).ba)<=G.ww
 z:0<(sumTo G.n fun i=>(G.th i).ba)->G.wn=0
 zs:0<(sumTo G.n fun i=>(G.th i).bf)+G.ws->G.wn=0
 w:G.ww=1->G.wn=0->0<sumTo G.n fun i=>(G.th i).ba
 cK:(G.th 0).gr= .cK\/(G.th 0).gr= .aT->G.wn=0/\G.pend=0/\G.left=0
 small:G.wn<=48
 role: ∀i,(G.th i).af=true->(i=0->(G.th i).wk=false/\((G.th i).gr= .out\/(∃m,(G.th i).gr= .y8 m)\/(G.th i).gr= .waits\/(G.th i).gr= .cK\/(G.th i).gr= .aT))/\
  (i≠0->(G.th i).wk=true/\((G.th i).gr= .out\/(G.th i).gr= .said\/(G.th i).gr= .last\/(G.th i).gr= .gT))
 wV:((∃m,(G.th 0).gr= .y8 m)\/(G.th 0).gr= .waits)->G.pend=0/\G.left=0
def Gh.kW(G:Gh)(i:Nat)(a:Addr):Prop:=
 (G.th i).ai a.block\/(∃v k,G.app a=some (v,.bM k)/\((G.th i).run=some k\/∀j,(G.th j).af=true->(G.th j).run≠some k))\/
  (∃v j,G.app a=some (v,.out j)/\(G.tk j=some i\/G.tk j=none))
def Gh.kR(G:Gh)(i:Nat)(a:Addr):Prop:=∃v,G.app a=some (v,.ro)\/∃k,G.app a=some (v,.dq k)/\(G.th i).aP k=true
def Geo.kA(E:Geo)(G:Gh)(i:Nat)(a:Addr):Prop:=(∃x,x.ok E.K/\a=E.sc x)\/∃v k,G.app a=some (v,.zc k)/\(G.th i).aP k=true
def Geo.AV(E:Geo)(G:Gh):Oo where
 W:=fun i l=>(G.th i).af=true/\match l with
  |.cell a=>G.kW i a
  |.obj r=>(G.th i).ai r
  |_=>False
 R:=fun i l=>(G.th i).af=true/\match l with
  |.cell a=>G.kR i a
  |_=>False
 A:=fun i l=>(G.th i).af=true/\match l with
  |.cell a=>E.kA G i a
  |.obj r=>E.eg=true/\r=E.c
  |_=>False
 S:=fun i l=>i=0/\match l with
  |.cell a=>a=E.sc .fX
  |_=>False
def Geo.ours(E:Geo)(G:Gh)(g:Nat):Prop:=E.n0<=g/\g<G.n
structure kv(E:Geo)(G:Gh)(t:Trace):Prop where
 known: ∀i op a,t[i]?=some op->op.act.touch?=some a->a.loc.isMemory=true->E.ours G op.g\/Knows t 0 i\/(∃b,a.loc= .cell b/\E.jz b.block/\a.kind= .atomic)
 over: ∀i op,t[i]?=some op->op.g≠0->t.counts i->E.ours G op.g\/Knows t 0 i
 norel: ∀i a,t.act? i=some (.mark (.release a))->a.block<E.w0.heap.size/\a≠E.sc .bG
 rel: ∀g,E.ours G g->(((G.th g).rel=none/\(G.th g).af=true/\(G.th g).gr= .out)\/∃r,(G.th g).rel=some r/\t.act? r=some (.mark (.releaseMerge (E.sc .bG)))/\t.g? r=some g/\t.heard r/\
  ∀i op a,r<i->t[i]?=some op->op.g=g->op.act.touch?=some a->a.kind= .atomic/\(a.loc= .cell (E.sc .bG)\/a.loc= .cell (E.sc .fX))/\¬t.heard i)
 dq: ∀k,k<E.K->G.dn k=true->∃p,LastWrite t (E.sc (.done k)) p/\t.heard p/\(∀i op a ad v,t[i]?=some op->op.act.touch?=some a->a.loc= .cell ad->(G.app ad=some (v,.dq k)/\a.write=true)\/(G.app ad=some (v,.zc k)/\a.kind= .plain)->Before t i p)/\
  ∀i,(G.th i).af=true->(G.th i).aP k=true->Knows t i p
 join:(G.th 0).gr= .aT->∀g r,E.ours G g->(G.th g).rel=some r->Knows t 0 r
structure EX(E:Geo)(G:Gh):Prop where
 qn:0<E.n0/\E.n0<=G.n
 bl:(G.th 0).af=true
 db: ∀i,(G.th i).af=true->i<G.n/\(i=0\/E.n0<=i)
 Rb:sumTo G.n (fun i=>(G.th i).fg)+G.left<=48
 alone:E.K=0->G.left=0/\G.n=E.n0
structure Rr(E:Geo)(G:Gh)(B:Nat):Prop where
 apart: ∀i j b,(G.th i).af=true->(G.th j).af=true->i≠j->(G.th i).ai b->¬(G.th j).ai b
 old: ∀i b,(G.th i).af=true->(G.th i).ai b->b<B
 qT: ∀i b,(G.th i).af=true->(G.th i).ai b->(∀x,x.ok E.K->(E.sc x).block≠b)/\(∀a v,G.app a=some v->a.block≠b)/\(E.eg=true->b≠E.c)/\¬E.jz b
 jz: ∀b,E.jz b->b<E.w0.heap.size
 size:E.w0.heap.size<=B
 IM: ∀a v,G.app a=some v->¬E.jz a.block
structure oS(E:Geo)(G:Gh)(w:World)(b:Nat):Prop where
 same:w.heap[b]?=E.w0.heap[b]?
 sc: ∀x,x.ok E.K->(E.sc x).block≠b
 ch:E.eg=true->b≠E.c
 ro: ∃a v,G.app a=some (v,.ro)/\a.block=b
 all: ∀a v d,G.app a=some (v,d)->a.block=b->d= .ro
theorem oS.to{E:Geo}{G G':Gh}{w w':World}{b:Nat}(h:oS E G w b)(hw:w'.heap[b]?=w.heap[b]?)(h1: ∀a v,G.app a=some (v,.ro)->G'.app a=some (v,.ro))(h2: ∀a v d,G'.app a=some (v,d)->a.block=b->d= .ro):oS E G' w' b:=
 ⟨hw.trans h.same,h.sc,h.ch,by obtain⟨a,v,e,e2⟩:=h.ro;exact⟨a,v,h1 a v e,e2⟩,h2⟩
theorem oS.tr{E:Geo}{G G':Gh}{w w':World}{b:Nat}(h:oS E G w b)(hw:w'.heap[b]?=w.heap[b]?)(ha:G'.app=G.app):oS E G' w' b:=
 h.to hw (fun a v e=>by rw[ha];exact e) fun a v d e=>h.all a v d (by rw[<-ha];exact e)
theorem oS.at{E:Geo}{G G':Gh}{w:World}{b:Nat}(h:oS E G w b){a:Addr}{v v':Value}{d:Gd}(ha:G.app a=some (v,d))(hd:d≠ .ro)(hG:G'.app=fun x=>if x=a then some (v',d)else G.app x):oS E G' (w.setCell a v') b:=by
 have hb:a.block≠b:=fun e=>hd (h.all a v d ha e)
 refine h.to ?_ (fun x u e=>?_) fun x u d' e e2=>?_
 ·unfold World.setCell
  simp only[Array.getElem?_modify,if_neg hb]
 ·rw[hG]
  simp only
  rw[if_neg fun e2=>hd (by subst e2;rw[ha]at e;cases e;rfl)];exact e
 rw[hG]at e
 simp only at e
 split at e
 ·rename_i e3;subst e3;exact absurd e2 hb
 exact h.all x u d' e e2
structure EK(E:Geo)(G:Gh)(w:World):Prop where
 sync: ∀x,x.ok E.K->w.cell? (E.sc x)=some (G.val x)/\w.frozen? (E.sc x)=false
 app: ∀a v d,G.app a=some (v,d)->w.cell? a=some v/\w.frozen? a=false/\∀x,x.ok E.K->a≠E.sc x
 inj: ∀x y,x.ok E.K->y.ok E.K->E.sc x=E.sc y->x=y
 chan:E.eg=true->(∃s r,w.heap[E.c]?=some (.chan 0 #[] G.cl s r false))/\(∀x,x.ok E.K->(E.sc x).block≠E.c)/\∀a v,G.app a=some v->a.block≠E.c
 tape:w.tape=E.w0.tape
 output:w.output=E.w0.output
 os:OsLater E.w0.os w.os
 keep: ∀b,E.keep b->oS E G w b
structure Rs(E:Geo)(G:Gh):Prop where
 mu: ∀k,k<E.K->gl (G.wd k) (G.sm k) (G.cnt k)
 CE: ∀i k r,(G.th i).af=true->(G.th i).mr=some (k,r)->k<E.K/\i≠0
 run: ∀i k,(G.th i).af=true->(G.th i).run=some k->(G.th i).mr=some (k,.held)/\G.dn k=false
 aP: ∀i k,(G.th i).af=true->(G.th i).aP k=true->(k<E.K/\G.dn k=true)\/(E.K<=k/\(i=0\/k=E.K+i))
 bM: ∀a v k,G.app a=some (v,.bM k)->k<E.K/\G.dn k=false/\((∃i,(G.th i).af=true/\(G.th i).run=some k/\(G.th i).kn a=some v)\/((∀i,(G.th i).af=true->(G.th i).run≠some k)/\E.qU a=some (v,k)))
 qU: ∀a v k,E.qU a=some (v,k)->G.dn k=false->∃v',G.app a=some (v',.bM k)
 kn: ∀i a v,(G.th i).af=true->(G.th i).kn a=some v->(∃d,G.app a=some (v,d)/\(d= .ro\/(∃k,d= .dq k/\(G.th i).aP k=true)\/∃k,d= .bM k/\(G.th i).run=some k))
 mT: ∀a v k,(G.app a=some (v,.dq k)\/G.app a=some (v,.zc k))->k<E.K\/(G.th 0).aP k=true
theorem Rs.Rx{E:Geo}{G:Gh}(h:Rs E G){i k:Nat}(hi:(G.th i).af=true)(hp:(G.th i).aP k=true)(hk:k<E.K):G.dn k=true:=(h.aP i k hi hp).elim And.right fun x=>absurd x.1 (by omega)
structure XS(E:Geo)(G:Gh):Prop where
 Iw:E.eg=false->∀i,(G.th i).af=true->(G.th i).ch= .no
 EV: ∀i v,(G.th i).af=true->(G.th i).ch= .send v->i=0/\G.pos<E.nj/\v=E.jv G.pos/\G.cl=false/\G.left=0/\(G.th i).gr= .out
 Kv: ∀i,(G.th i).af=true->(G.th i).ch= .recv->i≠0/\(∀j,(G.th i).bZ=some j->E.rs j=none)/\(G.th i).mr=none/\(G.th i).gr= .out
 cl:G.cl=true->G.pos=E.nj/\G.left=0/\G.pend=0
 CO:G.pos<=E.nj
 cnt: ∀r,G.cv r+(sumTo G.n fun i=>(G.th i).holds E.rs r)=dL E.rs r G.pos
 rT: ∀i j,(G.th i).af=true->(G.th i).bZ=some j->j<G.pos/\G.tk j=some i
 EL:(∀j,G.pos<=j->G.tk j=none)/\∀j i,G.tk j=some i->i<G.n
 stay:E.eg=true->G.cl=false->∀i,E.ours G i->(G.th i).af=true/\(G.th i).gr= .out
 any:E.eg=true->G.left=0->E.n0<G.n
 qw:E.eg=true->(G.th 0).gr≠ .out->G.cl=true
 NN: ∀i,(G.th i).af=true->(G.th i).mr≠none->(G.th i).gr= .out
 me:(G.th 0).me=⟨G.left,G.pend,G.pos,G.cl⟩
 sc: ∀i,(G.th i).af=true->(G.th i).sc=true->G.cl=true
structure AW(E:Geo)(G:Gh)(B:Nat)(t:Trace):Prop where
 ti:TI (E.AV G) B t
 deaf: ∀i,(G.th i).af=true->Deaf t i=(G.th i).deaf
 quiet: ∀j,G.n<=j->Deaf t j=0
 tell:kv E G t
structure GI(E:Geo)(G:Gh)(w:World)(t:Trace):Prop where
 a:EX E G
 s:Rr E G w.heap.size
 m:EK E G w
 k:Rs E G
 g:KH G
 j:XS E G
 more:E.App G.app G.dn G.cv
 t:AW E G w.heap.size t
def Gh.PK(_E:Geo)(G:Gh)(i:Nat):Prop:=(∃k,(G.th i).mr=some (k,.bK)/\G.sm k=0)\/(i=0/\(G.th 0).gr= .waits/\G.ws=0)
def Lo.grow(l:Lo)(a b:Nat):Lo:={l with ai:=fun c=>l.ai c\/(a<=c/\c<b)}
def Geo.Cv(E:Geo):jI where
 P:=E.P
 Gh:=Gh
 Lo:=Lo
 lo:=Gh.th
 sz:=Gh.n
 act:=fun G i=>(G.th i).af=true
 ai:=Lo.ai
 deaf:=Lo.deaf
 grow:=Lo.grow
 qC:=fun G i a b=>{G with th:=upd G.th i ((G.th i).grow a b)}
 ch:=Lo.ch
 c:=E.c
 cl:=Gh.cl
 PK:=Gh.PK E
 Φ:=Gh.Φ E.K E.nj
 GI:=GI E
 fin:=E.fin
 got:=fun l v l'=>∃j,v=E.jv j/\l'={l with ch:=.no,bZ:=some j}
 shut:=fun l l'=>l'={l with ch:=.no,sc:=true}
 CM:=fun l l'=>l'={l with ch:=.no,me:={l.me with pos:=l.me.pos+1}}
 still:=fun l=>l.rel≠none
theorem fH{n i:Nat}(h:i<n)(th:Nat->Lo)(l:Lo)(φ:Lo->Nat):sumTo n (fun a=>φ (upd th i l a))+φ (th i)=sumTo n (fun a=>φ (th a))+φ l:=sumTo_upd th l φ h
theorem bI{n i:Nat}{th:Nat->Lo}{l:Lo}{φ:Lo->Nat}(h:φ l=φ (th i)):sumTo n (fun a=>φ (upd th i l a))=sumTo n (fun a=>φ (th a)):=
 sumTo_congr fun a _=>by
  by_cases e:a=i
  ·subst e;rw[upd_same,h]
  rw[upd_ne _ _ e]
theorem aW{α:Type}{th:Nat->Lo}{i:Nat}{l:Lo}(f:Lo->α)(h:f l=f (th i))(j:Nat):f (upd th i l j)=f (th j):=by
 by_cases e:j=i
 ·subst e;rw[upd_same,h]
 rw[upd_ne _ _ e]
end Go.Co

namespace Go.Co
open Go Go.Conc
open Go.ConcM (OsLater)
open Go.ConcN (sumTo upd sumTo_upd upd_ne upd_same sumTo_congr le_sumTo sumTo_le)
variable{E:Geo}{G G':Gh}{w w':World}{t u:Trace}{B B':Nat}
theorem EX.tr(h:EX E G)(hn:G'.n=G.n)(hl:G'.left=G.left)(h1: ∀j,(G'.th j).af=(G.th j).af):EX E G':=by
 refine⟨by rw[hn];exact h.qn,by rw[h1];exact h.bl,fun i hi=>by rw[hn];exact h.db i (by rw[<-h1];exact hi),?_,by rw[hl,hn];exact h.alone⟩
 rw[hn,hl,sumTo_congr (g:=fun i=>(G.th i).fg) fun i _=>by unfold Lo.fg;rw[h1]]
 exact h.Rb
theorem Rr.tr(h:Rr E G B)(hB:B<=B')(ha: ∀a v,G'.app a=some v->∃v',G.app a=some v')(h1: ∀j,(G'.th j).af=true->(G.th j).af=true/\(G'.th j).ai=(G.th j).ai):Rr E G' B':=by
 refine⟨fun i j b hi hj=>?_,fun i b hi hb=>?_,fun i b hi hb=>?_,h.jz,Nat.le_trans h.size hB,fun a v hv=>(ha a v hv).elim fun v' dG=>h.IM a v' dG⟩
 ·rw[(h1 i hi).2,(h1 j hj).2];exact h.apart i j b (h1 i hi).1 (h1 j hj).1
 ·rw[(h1 i hi).2]at hb;exact Nat.lt_of_lt_of_le (h.old i b (h1 i hi).1 hb) hB
 rw[(h1 i hi).2]at hb
 obtain⟨a1,a2,a3,a4⟩:=h.qT i b (h1 i hi).1 hb
 exact⟨a1,fun a v hv=>(ha a v hv).elim fun v' dG=>a2 a v' dG,a3,a4⟩
theorem EK.tr(h:EK E G w)(hv: ∀x,G'.val x=G.val x)(ha:G'.app=G.app)(hc:G'.cl=G.cl):EK E G' w:=
 ⟨fun x hx=>by rw[hv];exact h.sync x hx,fun a v d=>by rw[ha];exact h.app a v d,h.inj,fun hC=>by rw[hc,ha];exact h.chan hC,h.tape,h.output,h.os,fun b hb=>(h.keep b hb).tr rfl ha⟩
theorem EK.world(h:EK E G w)(hs: ∀a,((∃x,x.ok E.K/\a=E.sc x)\/∃v,G.app a=some v)->w'.cell? a=w.cell? a/\w'.frozen? a=w.frozen? a)(hc:E.eg=true->w'.heap[E.c]?=w.heap[E.c]?)
  (ht:w'.tape=w.tape) (ho:w'.output=w.output) (hos:OsLater w.os w'.os) (hk: ∀b,oS E G w b->w'.heap[b]?=w.heap[b]?):EK E G w':=by
 refine⟨fun x hx=>?_,fun a v d ha=>?_,h.inj,fun hC=>?_,ht.trans h.tape,ho.trans h.output,h.os.trans hos,fun b hb=>(h.keep b hb).tr (hk b (h.keep b hb)) rfl⟩
 ·obtain⟨a1,a2⟩:=hs _ (.inl ⟨x,hx,rfl⟩);rw[a1,a2];exact h.sync x hx
 ·obtain⟨a1,a2⟩:=hs _ (.inr ⟨_,ha⟩);rw[a1,a2];exact h.app a v d ha
 obtain⟨⟨s,r,a⟩,b⟩:=h.chan hC
 exact⟨⟨s,r,(hc hC).trans a⟩,b⟩
theorem Rs.tr(h:Rs E G)(hn:G'.n=G.n)(hw:G'.wd=G.wd)(hs:G'.sm=G.sm)(hd:G'.dn=G.dn)(ha:G'.app=G.app)
  (h1: ∀j,(G'.th j).af=(G.th j).af/\(G'.th j).mr=(G.th j).mr/\(G'.th j).run=(G.th j).run/\(G'.th j).aP=(G.th j).aP/\(G'.th j).kn=(G.th j).kn):Rs E G':=by
 refine⟨fun k hk=>?_,fun i k r hi hm=>?_,fun i k hi hr=>?_,fun i k hi hp=>?_,fun a v k hv=>?_,fun a v k hv hk=>?_,fun i a v hi hv=>?_,fun a v k hv=>by rw[ha]at hv;rw[(h1 0).2.2.2.1];exact h.mT a v k hv⟩
 ·have:G'.cnt k=G.cnt k:=by
   funext r
   unfold Gh.cnt
   rw[hn]
   exact sumTo_congr fun i _=>by unfold Lo.at;rw[(h1 i).1,(h1 i).2.1]
  rw[this,hw,hs];exact h.mu k hk
 ·rw[(h1 i).1]at hi;rw[(h1 i).2.1]at hm;exact h.CE i k r hi hm
 ·rw[(h1 i).1]at hi;rw[(h1 i).2.2.1]at hr;rw[(h1 i).2.1,hd];exact h.run i k hi hr
 ·rw[(h1 i).1]at hi;rw[(h1 i).2.2.2.1]at hp;rw[hd];exact h.aP i k hi hp
 ·rw[ha]at hv
  obtain⟨a1,a2,a3⟩:=h.bM a v k hv
  refine⟨a1,by rw[hd];exact a2,?_⟩
  rcases a3 with⟨i,b1,b2,b3⟩|⟨b1,b2⟩
  ·exact .inl ⟨i,by rw[(h1 i).1];exact b1,by rw[(h1 i).2.2.1];exact b2,by rw[(h1 i).2.2.2.2];exact b3⟩
  exact .inr ⟨fun i hi=>by rw[(h1 i).2.2.1];exact b1 i (by rw[<-(h1 i).1];exact hi),b2⟩
 ·rw[ha];rw[hd]at hk;exact h.qU a v k hv hk
 rw[(h1 i).1]at hi;rw[(h1 i).2.2.2.2]at hv
 rw[ha,(h1 i).2.2.2.1,(h1 i).2.2.1];exact h.kn i a v hi hv
theorem KH.tr(h:KH G)(hn:G'.n=G.n)(h1:G'.wn=G.wn)(h2:G'.ww=G.ww)(h3:G'.ws=G.ws)(h4:G'.pend=G.pend)(h5:G'.left=G.left)
  (hj: ∀j,(G'.th j).af=(G.th j).af/\(G'.th j).wk=(G.th j).wk/\(G'.th j).gr=(G.th j).gr):KH G':=by
 have e1:(sumTo G'.n fun i=>(G'.th i).busy)=sumTo G.n fun i=>(G.th i).busy:=by rw[hn];exact sumTo_congr fun i _=>by unfold Lo.busy;rw[(hj i).1,(hj i).2.1,(hj i).2.2]
 have e2:(sumTo G'.n fun i=>(G'.th i).ba)=sumTo G.n fun i=>(G.th i).ba:=by rw[hn];exact sumTo_congr fun i _=>by unfold Lo.ba;rw[(hj i).1,(hj i).2.2]
 have e3:(sumTo G'.n fun i=>(G'.th i).bf)=sumTo G.n fun i=>(G.th i).bf:=by rw[hn];exact sumTo_congr fun i _=>by unfold Lo.bf;rw[(hj i).1,(hj i).2.2]
 have e0:=(hj 0).2.2
 refine⟨by rw[h1,h4,e1];exact h.n,by rw[e0,h2,h3,e3];exact h.m,by rw[e2,h2];exact h.a,by rw[e2,h1];exact h.z,by rw[e3,h1,h3];exact h.zs,by rw[e2,h1,h2];exact h.w,by rw[e0,h1,h4,h5];exact h.cK,by rw[h1];exact h.small,fun i hi=>?_,by rw[e0,h4,h5];exact h.wV⟩
 rw[(hj i).2.1,(hj i).2.2]
 exact h.role i (by rw[<-(hj i).1];exact hi)
theorem XS.tr(h:XS E G)(hn:G'.n=G.n)(h1:G'.pos=G.pos)(h2:G'.cl=G.cl)(h3:G'.left=G.left)(h4:G'.cv=G.cv)(h5:G'.tk=G.tk)
  (h6:G'.pend=G.pend)
  (hj: ∀j,(G'.th j).af=(G.th j).af/\(G'.th j).ch=(G.th j).ch/\(G'.th j).bZ=(G.th j).bZ/\(G'.th j).mr=(G.th j).mr/\(G'.th j).gr=(G.th j).gr/\(G'.th j).me=(G.th j).me/\(G'.th j).sc=(G.th j).sc):XS E G':=by
 refine⟨fun hC i hi=>?_,fun i v hi hv=>?_,fun i hi hv=>?_,by rw[h1,h2,h3,h6];exact h.cl,by rw[h1];exact h.CO,fun r=>?_,fun i j hi CA=>?_,by rw[h1,h5,hn];exact h.EL,fun hC hc i hi=>?_,by rw[hn,h3];exact h.any,by rw[h2,(hj 0).2.2.2.2.1];exact h.qw,fun i hi hm=>?_,by rw[(hj 0).2.2.2.2.2.1,h1,h2,h3,h6];exact h.me,fun i hi hs=>?_⟩
 ·rw[(hj i).1]at hi;rw[(hj i).2.1];exact h.Iw hC i hi
 ·rw[(hj i).1]at hi;rw[(hj i).2.1]at hv;rw[h1,h2,h3,(hj i).2.2.2.2.1];exact h.EV i v hi hv
 ·rw[(hj i).1]at hi;rw[(hj i).2.1]at hv;rw[(hj i).2.2.1,(hj i).2.2.2.1,(hj i).2.2.2.2.1];exact h.Kv i hi hv
 ·rw[h1,h4,hn,sumTo_congr (g:=fun i=>(G.th i).holds E.rs r) fun i _=>by unfold Lo.holds;rw[(hj i).1,(hj i).2.2.1]];exact h.cnt r
 ·rw[(hj i).1]at hi;rw[(hj i).2.2.1]at CA;rw[h1,h5];exact h.rT i j hi CA
 ·rw[h2]at hc;rw[(hj i).1,(hj i).2.2.2.2.1];exact h.stay hC hc i (by unfold Geo.ours at hi ⊢;rw[<-hn];exact hi)
 ·rw[(hj i).1]at hi;rw[(hj i).2.2.2.1]at hm;rw[(hj i).2.2.2.2.1];exact h.NN i hi hm
 rw[(hj i).1]at hi;rw[(hj i).2.2.2.2.2.2]at hs;rw[h2];exact h.sc i hi hs
structure zZ(G G':Gh):Prop where
 n:G'.n=G.n
 app:G'.app=G.app
 dn:G'.dn=G.dn
 tk:G'.tk=G.tk
 th: ∀j,(G'.th j).af=(G.th j).af/\(G'.th j).ai=(G.th j).ai/\(G'.th j).run=(G.th j).run/\(G'.th j).aP=(G.th j).aP/\(G'.th j).rel=(G.th j).rel/\((G'.th j).gr= .out↔(G.th j).gr= .out)/\((G'.th j).gr= .aT↔(G.th j).gr= .aT)
theorem zZ.AV(h:zZ G G'):E.AV G'=E.AV G:=by
 have e1: ∀i a,G'.kW i a=G.kW i a:=fun i a=>by
  unfold Gh.kW
  rw[h.app,h.tk,(h.th i).2.1,(h.th i).2.2.1]
  have:(fun j=>(G'.th j).af)=fun j=>(G.th j).af:=funext fun j=>(h.th j).1
  have e2: ∀k,(∀j,(G'.th j).af=true->(G'.th j).run≠some k)=∀j,(G.th j).af=true->(G.th j).run≠some k:=fun k=>by
   apply propext
   exact forall_congr' fun j=>by rw[(h.th j).1,(h.th j).2.2.1]
  simp only[e2]
 have e2: ∀i a,G'.kR i a=G.kR i a:=fun i a=>by unfold Gh.kR;rw[h.app,(h.th i).2.2.2.1]
 have e3: ∀i a,E.kA G' i a=E.kA G i a:=fun i a=>by unfold Geo.kA;rw[h.app,(h.th i).2.2.2.1]
 unfold Geo.AV
 congr 1
 ·funext i l;cases l<;>simp only[e1,(h.th i).1,(h.th i).2.1]
 ·funext i l;cases l<;>simp only[e2,(h.th i).1]
 funext i l;cases l<;>simp only[e3,(h.th i).1]
theorem kv.XX(h:kv E G t)(hn:G'.n=G.n)(ha:G'.app=G.app)(Kn:G'.dn=G.dn)
  (mP: ∀j,(G'.th j).af=(G.th j).af/\(G'.th j).aP=(G.th j).aP/\(G'.th j).rel=(G.th j).rel/\((G'.th j).gr= .out↔(G.th j).gr= .out)/\((G'.th j).gr= .aT↔(G.th j).gr= .aT)):kv E G' t:=by
 have eo: ∀g,E.ours G' g↔E.ours G g:=fun g=>by unfold Geo.ours;rw[hn]
 refine⟨fun i op a h1 h2 h3=>?_,fun i op h1 h2 h3=>?_,h.norel,fun g hg=>?_,fun k hk hd=>?_,fun hj g r hg hr=>?_⟩
 ·rw[eo];exact h.known i op a h1 h2 h3
 ·rw[eo];exact h.over i op h1 h2 h3
 ·rw[(mP g).2.2.1,(mP g).1,(mP g).2.2.2.1];exact h.rel g ((eo g).1 hg)
 ·rw[Kn]at hd
  obtain⟨p,a1,a2,a3,a4⟩:=h.dq k hk hd
  exact⟨p,a1,a2,by rw[ha];exact a3,fun i hi hp=>a4 i (by rw[<-(mP i).1];exact hi) (by rw[<-(mP i).2.1];exact hp)⟩
 rw[(mP g).2.2.1]at hr;exact h.join ((mP 0).2.2.2.2.1 hj) g r ((eo g).1 hg) hr
theorem kv.tr(h:kv E G t)(s:zZ G G'):kv E G' t:=
 h.XX s.n s.app s.dn fun j=>⟨(s.th j).1,(s.th j).2.2.2.1,(s.th j).2.2.2.2.1,(s.th j).2.2.2.2.2.1,(s.th j).2.2.2.2.2.2⟩
theorem AW.tr(h:AW E G B t)(s:zZ G G')(hd: ∀j,(G'.th j).deaf=(G.th j).deaf)(hB:B<=B'):AW E G' B' t:=
 ⟨by rw[s.AV];exact h.ti.at hB,fun i hi=>by rw[hd];exact h.deaf i (by rw[<-(s.th i).1];exact hi),fun j hj=>h.quiet j (by rw[<-s.n];exact hj),h.tell.tr s⟩
end Go.Co

namespace Go.Co
open Go Go.Conc
open Go.ConcM (OsLater)
open Go.ConcN (sumTo upd sumTo_upd upd_ne upd_same sumTo_congr le_sumTo sumTo_le)
variable{E:Geo}{G G':Gh}{w w':World}{t u:Trace}{B B':Nat}
theorem heard_old{t u:Trace}{r:Nat}(hr:r<t.size):(t++u).heard r↔t.heard r:=by
 unfold Trace.heard Trace.g?
 rw[getElem?_append_old hr]
 constructor<;>(rintro⟨g,a,b⟩;refine⟨g,a,?_⟩)
 ·rwa [deaf_old (Nat.le_of_lt hr)]at b
 rwa [deaf_old (Nat.le_of_lt hr)]
theorem rG{t u:Trace}{r:Nat}(hr:r<t.size):(t++u).counts r↔t.counts r:=by
 unfold Trace.counts Trace.act?
 rw[getElem?_append_old hr]
 constructor<;>(rintro⟨x,a,b,c⟩;refine⟨x,a,b,c.imp id ?_⟩)
 ·exact(heard_old hr).1
 exact(heard_old hr).2
theorem ep{t u:Trace}{i:Nat}{op:MemOp}(h:(t++u)[i]?=some op):(i<t.size/\t[i]?=some op)\/(t.size<=i/\op∈u):=getElem?_append_cases h
theorem kv.app(h:kv E G t){i:Nat}(hg: ∀op∈u,op.g=i)(hi:i=0\/E.ours G i)(hr: ∀op∈u,∀a,op.act≠ .mark (.release a))
  (hw: ∀op∈u,∀a,op.act.touch?=some a->a.write=true->(∀k,k<E.K->a.loc≠ .cell (E.sc (.done k)))/\∀ad v k,a.loc= .cell ad->G.app ad≠some (v,.dq k))
  (hc: ∀op∈u,∀a,op.act.touch?=some a->a.kind= .plain->∀ad v k,a.loc= .cell ad->G.app ad≠some (v,.zc k))
  (hq:E.ours G i->(G.th i).rel=none\/∀j op a,t.size<=j->(t++u)[j]?=some op->op.act.touch?=some a->a.kind= .atomic/\(a.loc= .cell (E.sc .bG)\/a.loc= .cell (E.sc .fX))/\¬(t++u).heard j):kv E G (t++u):=by
 refine⟨fun j op a h1 h2 h3=>?_,fun j op h1 h2 h3=>?_,fun j ra hj=>?_,fun g hgo=>?_,fun k hk hd=>?_,fun hj g r hgo Kg=>(h.join hj g r hgo Kg).app u⟩
 ·rcases ep h1 with⟨hl,h1⟩|⟨hl,hu⟩
  ·rcases h.known j op a h1 h2 h3 with k|k|k
   ·exact .inl k
   ·exact .inr (.inl (k.app u))
   exact .inr (.inr k)
  rcases hi with rfl|hi
  ·right;left
   have:=knows_own h1
   rw[hg op hu]at this;exact this
  left;rw[hg op hu];exact hi
 ·rcases ep h1 with⟨hl,h1⟩|⟨hl,hu⟩
  ·exact(h.over j op h1 h2 ((rG hl).1 h3)).imp id (·.app u)
  rcases hi with rfl|hi
  ·exact absurd (hg op hu) h2
  left;rw[hg op hu];exact hi
 ·obtain⟨op,ho,EG⟩:=Option.map_eq_some_iff.1 hj
  rcases ep ho with⟨hl,ho⟩|⟨hl,hu⟩
  ·exact h.norel j ra (by rw[act?_of ho,EG])
  exact absurd EG (hr op hu ra)
 ·rcases h.rel g hgo with a|⟨r,a1,a2,a3,a4,a5⟩
  ·exact .inl a
  have rQ:r<t.size:=lt_of_act? a2
  refine .inr ⟨r,a1,by rw[act?_old rQ];exact a2,?_,(heard_old rQ).2 a4,fun j op a hj h1 h2 h3=>?_⟩
  ·unfold Trace.g? at a3 ⊢;rw[getElem?_append_old rQ];exact a3
  rcases ep h1 with⟨hl,oD⟩|⟨hl,hu⟩
  ·obtain⟨b1,b2,b3⟩:=a5 j op a hj oD h2 h3
   exact⟨b1,b2,fun e=>b3 ((heard_old hl).1 e)⟩
  have:g=i:=by rw[<-h2];exact hg op hu
  subst this
  rcases hq hgo with e|e
  ·rw[e]at a1;cases a1
  exact e j op a hl h1 h3
 obtain⟨p,a1,a2,a3,a4⟩:=h.dq k hk hd
 refine⟨p,a1.app fun op aF sync e=>?_,(heard_old (lt_of_act? a1.1)).2 a2,fun j op a ad v h1 h2 h3 h4=>?_,fun j hj hp=>(a4 j hj hp).app u⟩
 ·exact(hw op aF ⟨.cell (E.sc (.done k)),true,if sync then .atomic else .plain⟩ (by rw[e];rfl) rfl).1 k hk rfl
 rcases ep h1 with⟨hl,h1⟩|⟨hl,hu⟩
 ·exact(a3 j op a ad v h1 h2 h3 h4).app u
 rcases h4 with⟨h4,h5⟩|⟨h4,h5⟩
 ·exact absurd h4 ((hw op hu a h2 h5).2 ad v k h3)
 exact absurd h4 (hc op hu a h2 h5 ad v k h3)
theorem kv.mute(h:kv E G t)(hn: ∀op∈u,op.act.touch?=none)(hr: ∀op∈u,∀a,op.act≠ .mark (.release a)):kv E G (t++u):=by
 refine⟨fun j op a h1 h2 h3=>?_,fun j op h1 h2 h3=>?_,fun j ra hj=>?_,fun g hgo=>?_,fun k hk hd=>?_,fun hj g r hgo Kg=>(h.join hj g r hgo Kg).app u⟩
 ·rcases ep h1 with⟨hl,h1⟩|⟨hl,hu⟩
  ·rcases h.known j op a h1 h2 h3 with k|k|k
   ·exact .inl k
   ·exact .inr (.inl (k.app u))
   exact .inr (.inr k)
  rw[hn op hu]at h2;cases h2
 ·rcases ep h1 with⟨hl,h1⟩|⟨hl,hu⟩
  ·exact(h.over j op h1 h2 ((rG hl).1 h3)).imp id (·.app u)
  obtain⟨x,hx,_⟩:=h3
  rw[act?_of h1]at hx
  simp only[Option.bind_some]at hx
  rw[hn op hu]at hx;cases hx
 ·obtain⟨op,ho,EG⟩:=Option.map_eq_some_iff.1 hj
  rcases ep ho with⟨hl,ho⟩|⟨hl,hu⟩
  ·exact h.norel j ra (by rw[act?_of ho,EG])
  exact absurd EG (hr op hu ra)
 ·rcases h.rel g hgo with a|⟨r,a1,a2,a3,a4,a5⟩
  ·exact .inl a
  have rQ:r<t.size:=lt_of_act? a2
  refine .inr ⟨r,a1,by rw[act?_old rQ];exact a2,?_,(heard_old rQ).2 a4,fun j op a hj h1 h2 h3=>?_⟩
  ·unfold Trace.g? at a3 ⊢;rw[getElem?_append_old rQ];exact a3
  rcases ep h1 with⟨hl,oD⟩|⟨hl,hu⟩
  ·obtain⟨b1,b2,b3⟩:=a5 j op a hj oD h2 h3
   exact⟨b1,b2,fun e=>b3 ((heard_old hl).1 e)⟩
  rw[hn op hu]at h3;cases h3
 obtain⟨p,a1,a2,a3,a4⟩:=h.dq k hk hd
 refine⟨p,a1.app fun op aF sync e=>?_,(heard_old (lt_of_act? a1.1)).2 a2,fun j op a ad v h1 h2 h3 h4=>?_,fun j hj hp=>(a4 j hj hp).app u⟩
 ·have:=hn op aF
  rw[e]at this
  simp[MemAct.touch?]at this
 rcases ep h1 with⟨hl,h1⟩|⟨hl,hu⟩
 ·exact(a3 j op a ad v h1 h2 h3 h4).app u
 rw[hn op hu]at h2;cases h2
theorem cg{i:Nat}{fn:FuncId}{pos:String}{es:Array Event}{op:MemOp}(h:op∈MemOp.ofEvents i fn pos es): ∃e∈es,op={g:=i,fn,pos,act:=.ofEvent e}:=by
 rw[ofEvents_eq]at h
 obtain⟨e,he,rfl⟩:=Array.mem_map.1 h
 exact⟨e,he,rfl⟩
theorem KJ.touch{ai:Nat->Prop}{e:Event}(h:KJ ai e):(MemAct.ofEvent e).touch?=none\/(∃a wr kd,(MemAct.ofEvent e).touch?=some ⟨.cell a,wr,kd⟩/\kd≠ .said/\ai a.block)\/∃r wr,(MemAct.ofEvent e).touch?=some ⟨.obj r,wr,.plain⟩/\ai r:=by
 rcases h with⟨a,wr,s,rfl,h⟩|⟨r,wr,rfl,h⟩|⟨m,wr,s,rfl,h⟩
 ·exact .inr (.inl ⟨a,wr,if s then .atomic else .plain,by cases s<;>rfl,by cases s<;>simp,h⟩)
 ·exact .inr (.inr ⟨r,wr,by cases wr<;>rfl,h⟩)
 left
 rcases h with h|⟨a,rfl|rfl,_⟩
 ·exact Neutral.touch h
 ·cases wr<;>cases s<;>rfl
 cases wr<;>cases s<;>rfl
theorem KJ.act{ai:Nat->Prop}{e:Event}(h:KJ ai e):MemAct.ofEvent e≠ .mark .disable/\MemAct.ofEvent e≠ .mark .enable/\(∀a,MemAct.ofEvent e≠ .mark (.release a)):=by
 rcases h with⟨a,wr,s,rfl,h⟩|⟨r,wr,rfl,h⟩|⟨m,wr,s,rfl,h⟩
 ·exact⟨by simp[MemAct.ofEvent],by simp[MemAct.ofEvent],by simp[MemAct.ofEvent]⟩
 ·cases wr<;>exact⟨by simp[MemAct.ofEvent],by simp[MemAct.ofEvent],by simp[MemAct.ofEvent]⟩
 rcases h with h|⟨a,rfl|rfl,_⟩
 ·unfold Neutral at h;subst h
  exact⟨by simp[MemAct.ofEvent],by simp[MemAct.ofEvent],by simp[MemAct.ofEvent]⟩
 ·exact⟨by simp[MemAct.ofEvent],by simp[MemAct.ofEvent],by simp[MemAct.ofEvent]⟩
 exact⟨by simp[MemAct.ofEvent],by simp[MemAct.ofEvent],by simp[MemAct.ofEvent]⟩
theorem KJ.low{ai:Nat->Prop}{e:Event}{B:Nat}(h:KJ ai e)(hB: ∀b,ai b->b<B):(MemAct.ofEvent e).low B:=by
 rcases h with⟨a,wr,s,rfl,h⟩|⟨r,wr,rfl,h⟩|⟨m,wr,s,rfl,h⟩
 ·exact hB _ h
 ·cases wr<;>exact hB _ h
 rcases h with h|⟨a,rfl|rfl,h⟩
 ·unfold Neutral at h;subst h;trivial
 ·exact hB _ h
 exact hB _ h
theorem bT{w:World}{a:Addr}{v:Value}(h:w.cell? a=some v):a.block<w.heap.size:=by
 unfold World.cell? at h
 split at h
 ·rename_i hb;exact(Array.getElem?_eq_some_iff.1 hb).1
 cases h
theorem cE{w w':World}{a:Addr}(h:w'.heap[a.block]?=w.heap[a.block]?):w'.cell? a=w.cell? a/\w'.frozen? a=w.frozen? a:=by
 unfold World.cell? World.frozen?;rw[h];exact⟨rfl,rfl⟩
theorem GI.xM(h:GI E G w t){i b:Nat}(hi:(G.th i).af=true)(hb:(G.th i).ai b\/w.heap.size<=b){a:Addr}(ha:a.block=b):
  (∀j,j≠i->¬((E.AV G).W j (.cell a)))/\(∀j,¬(E.AV G).R j (.cell a))/\(∀j,¬(E.AV G).A j (.cell a))/\G.app a=none:=by
 have fF:G.app a=none:=by
  cases e:G.app a with
  |none=>rfl
  |some p=>
   rcases hb with hb|hb
   ·exact absurd ha ((h.s.qT i b hi hb).2.1 a p e)
   have:=bT (h.m.app a p.1 p.2 e).1;omega
 have gQ: ∀x,x.ok E.K->a≠E.sc x:=by
  intro x hx e
  rcases hb with hb|hb
  ·exact(h.s.qT i b hi hb).1 x hx (e▸ha)
  have:=bT (h.m.sync x hx).1;rw[<-e]at this;omega
 refine⟨fun j hj hw=>?_,fun j hr=>?_,fun j hr=>?_,fF⟩
 ·obtain⟨hl,hw⟩:=hw
  rcases hw with hw|⟨v,k,hv,_⟩|⟨v,k,hv,_⟩
  ·rcases hb with hb|hb
   ·exact h.s.apart i j b hi hl (Ne.symm hj) hb (ha▸hw)
   have:=h.s.old j _ hl hw;omega
  ·rw[fF]at hv;cases hv
  rw[fF]at hv;cases hv
 ·obtain⟨_,v,hv|⟨k,hv,_⟩⟩:=hr<;>rw[fF]at hv<;>cases hv
 obtain⟨_,⟨x,hx,e⟩|⟨v,_,hv,_⟩⟩:=hr
 ·exact gQ x hx e
 rw[fF]at hv;cases hv
end Go.Co

namespace Go.Co
open Go Go.Conc
open Go.ConcM (OsLater)
open Go.ConcN (sumTo upd sumTo_upd upd_ne upd_same sumTo_congr le_sumTo sumTo_le)
variable{E:Geo}{G G':Gh}{w w':World}{t u:Trace}{B B':Nat}
theorem GI.ours(h:GI E G w t){i:Nat}(hi:(G.th i).af=true):i=0\/E.ours G i:=by
 obtain⟨h1,h2⟩:=h.a.db i hi
 exact h2.imp id fun h2=>⟨h2,h1⟩
theorem v9{e:Event}{m:Mark}(h:MemAct.ofEvent e= .mark m):e.loc= .mark m:=Go.ConcR.loc_of_ofEvent h
theorem GI.tS(h:GI E G w t){i:Nat}{es:Array Event}(fn:FuncId)(pos:String)(hi:(G.th i).af=true)(aJ:(G.th i).rel=none\/∀e∈es,(MemAct.ofEvent e).touch?=none)(p:I3 (G.th i).ai w w' es):
  GI E {G with th:=upd G.th i ((G.th i).grow w.heap.size w'.heap.size)} w' (t++MemOp.ofEvents i fn pos es):=by
 have hg: ∀op∈MemOp.ofEvents i fn pos es,op.g=i:=cn
 have bA:=(h.a.db i hi).1
 refine⟨?_,?_,?_,?_,?_,?_,h.more,?_⟩
 ·exact h.a.tr rfl rfl fun j=>aW Lo.af (by rfl) j
 ·-- whose blocks
  have aN: ∀j b,(upd G.th i ((G.th i).grow w.heap.size w'.heap.size) j).ai b->(G.th j).ai b\/(j=i/\w.heap.size<=b/\b<w'.heap.size):=by
   intro j b hb
   by_cases e:j=i
   ·subst e
    rw[upd_same]at hb
    exact hb.imp id fun x=>⟨rfl,x⟩
   rw[upd_ne _ _ e]at hb;exact .inl hb
  have cP: ∀j,(upd G.th i ((G.th i).grow w.heap.size w'.heap.size) j).af=(G.th j).af:=fun j=>aW Lo.af (by rfl) j
  refine⟨fun a b c ha hb Kr YB Yz=>?_,fun a b ha Kr=>?_,fun a b ha Kr=>?_,h.s.jz,Nat.le_trans h.s.size p.size,h.s.IM⟩
  ·simp only[cP]at ha hb
   rcases aN a c YB with x|⟨x1,x2,x3⟩<;>rcases aN b c Yz with y|⟨y1,y2,y3⟩
   ·exact h.s.apart a b c ha hb Kr x y
   ·have:=h.s.old a c ha x;omega
   ·have:=h.s.old b c hb y;omega
   omega
  ·simp only[cP]at ha
   rcases aN a b Kr with x|⟨_,_,x3⟩
   ·exact Nat.lt_of_lt_of_le (h.s.old a b ha x) p.size
   exact x3
  simp only[cP]at ha
  rcases aN a b Kr with x|⟨_,x2,_⟩
  ·exact h.s.qT a b ha x
  refine⟨fun x hx e=>?_,fun ad v hv e=>?_,fun hC e=>?_,fun hs=>?_⟩
  ·have:=bT (h.m.sync x hx).1;omega
  ·have:=bT (h.m.app ad v.1 v.2 hv).1;omega
  ·obtain⟨⟨s,r,hc⟩,_⟩:=h.m.chan hC
   have:=(Array.getElem?_eq_some_iff.1 hc).1;omega
  have:=h.s.jz b hs;have:=h.s.size;omega
 ·refine EK.tr (G:=G) ?_ (fun x=>by cases x<;>rfl) rfl rfl
  refine h.m.world (fun a ha=>?_) (fun hC=>?_) p.tape p.output (by rw[p.os];exact OsLater.refl _) fun b kb=>by
   obtain⟨a,v,e1,e2⟩:=kb.ro
   exact p.block _ (fun e=>(h.s.qT i _ hi e).2.1 a _ e1 e2) (by rw[<-e2];exact bT (h.m.app a v _ e1).1)
  ·have hb: ¬(G.th i).ai a.block/\a.block<w.heap.size:=by
    rcases ha with⟨x,hx,rfl⟩|⟨v,hv⟩
    ·exact⟨fun e=>(h.s.qT i _ hi e).1 x hx rfl,bT (h.m.sync x hx).1⟩
    exact⟨fun e=>(h.s.qT i _ hi e).2.1 a v hv rfl,bT (h.m.app a v.1 v.2 hv).1⟩
   exact cE (p.block _ hb.1 hb.2)
  obtain⟨⟨s,r,hc⟩,_⟩:=h.m.chan hC
  exact p.block _ (fun e=>(h.s.qT i _ hi e).2.2.1 hC rfl) (Array.getElem?_eq_some_iff.1 hc).1
 ·exact h.k.tr rfl rfl rfl rfl rfl fun j=>⟨aW Lo.af (by rfl) j,aW Lo.mr (by rfl) j,aW Lo.run (by rfl) j,aW Lo.aP (by rfl) j,aW Lo.kn (by rfl) j⟩
 ·exact h.g.tr rfl rfl rfl rfl rfl rfl fun j=>⟨aW Lo.af (by rfl) j,aW Lo.wk (by rfl) j,aW Lo.gr (by rfl) j⟩
 ·exact h.j.tr rfl rfl rfl rfl rfl rfl rfl fun j=>⟨aW Lo.af (by rfl) j,aW Lo.ch (by rfl) j,aW Lo.bZ (by rfl) j,aW Lo.mr (by rfl) j,aW Lo.gr (by rfl) j,aW Lo.me (by rfl) j,aW Lo.sc (by rfl) j⟩
 have mP: ∀j,(upd G.th i ((G.th i).grow w.heap.size w'.heap.size) j).af=(G.th j).af/\(upd G.th i ((G.th i).grow w.heap.size w'.heap.size) j).run=(G.th j).run/\(upd G.th i ((G.th i).grow w.heap.size w'.heap.size) j).aP=(G.th j).aP/\
   (upd G.th i ((G.th i).grow w.heap.size w'.heap.size) j).rel=(G.th j).rel/\(upd G.th i ((G.th i).grow w.heap.size w'.heap.size) j).gr=(G.th j).gr/\(upd G.th i ((G.th i).grow w.heap.size w'.heap.size) j).deaf=(G.th j).deaf:=
  fun j=>⟨aW Lo.af (by rfl) j,aW Lo.run (by rfl) j,aW Lo.aP (by rfl) j,aW Lo.rel (by rfl) j,aW Lo.gr (by rfl) j,aW Lo.deaf (by rfl) j⟩
 have oP: ∀op∈MemOp.ofEvents i fn pos es,op.act≠ .mark .disable/\op.act≠ .mark .enable:=fun op aF=>by
  obtain⟨e,he,rfl⟩:=cg aF
  exact⟨(p.cJ e he).act.1,(p.cJ e he).act.2.1⟩
 refine⟨?_,fun j hj=>?_,fun j hj=>?_,?_⟩
 ·-- rights
  have NP:TI (E.AV {G with th:=upd G.th i ((G.th i).grow w.heap.size w'.heap.size)}) w.heap.size t:=by
   refine h.t.ti.change (fun g l hw=>?_) (fun g l hw=>?_) (fun g l hw=>?_) (fun g l hw=>.inl hw)
   ·obtain⟨hl,hw⟩:=hw
    simp only[(mP g).1]at hl
    cases l with
    |cell a=>
     rcases hw with hw|⟨v,k,hv,hw⟩|hw
     ·by_cases e:g=i
      ·subst e
       simp only[upd_same]at hw
       rcases hw with hw|hw
       ·exact .inl ⟨hl,.inl hw⟩
       right
       intro j b hb rS
       have:=h.t.ti.fresh hb
       rw[rS]at this
       simp only[Loc.low]at this
       omega
      simp only[upd_ne _ _ e]at hw;exact .inl ⟨hl,.inl hw⟩
     ·left
      refine⟨hl,.inr (.inl ⟨v,k,hv,?_⟩)⟩
      rcases hw with hw|hw
      ·exact .inl (by rw[<-(mP g).2.1];exact hw)
      exact .inr fun j hj=>by have:=hw j (by rw[(mP j).1];exact hj);rwa [(mP j).2.1]at this
     exact .inl ⟨hl,.inr (.inr hw)⟩
    |obj r=>
     by_cases e:g=i
     ·subst e
      simp only[upd_same]at hw
      rcases hw with hw|hw
      ·exact .inl ⟨hl,hw⟩
      right
      intro j b hb rS
      have:=h.t.ti.fresh hb
      rw[rS]at this
      simp only[Loc.low]at this
      omega
     simp only[upd_ne _ _ e]at hw;exact .inl ⟨hl,hw⟩
    |_=>exact hw.elim
   ·obtain⟨hl,hw⟩:=hw
    simp only[(mP g).1]at hl
    left
    cases l with
    |cell a=>exact⟨hl,by
                 obtain⟨v,hv|⟨k,hv,hp⟩⟩:=hw
                 ·exact⟨v,.inl hv⟩
                 exact⟨v,.inr ⟨k,hv,by rw[<-(mP g).2.2.1];exact hp⟩⟩⟩
    |_=>exact hw.elim
   obtain⟨hl,hw⟩:=hw
   simp only[(mP g).1]at hl
   left
   cases l with
   |cell a=>
    refine⟨hl,?_⟩
    rcases hw with hw|⟨v,k,hv,hp⟩
    ·exact .inl hw
    exact .inr ⟨v,k,hv,by rw[<-(mP g).2.2.1];exact hp⟩
   |obj r=>exact⟨hl,hw⟩
   |_=>exact hw.elim
  refine NP.step hg (fun op aF b hb=>?_) p.size (fun op aF=>?_)
  ·obtain⟨e,he,rfl⟩:=cg aF
   have QI: ∀c,((G.th i).ai c\/(w.heap.size<=c/\c<w'.heap.size))->(upd G.th i ((G.th i).grow w.heap.size w'.heap.size) i).ai c:=fun c hc=>by rw[upd_same];exact hc
   have hli:(upd G.th i ((G.th i).grow w.heap.size w'.heap.size) i).af=true:=by rw[(mP i).1];exact hi
   rcases(p.cJ e he).touch with k|⟨a,wr,kd,k,hs,ho⟩|⟨r,wr,k,ho⟩
   ·rw[k]at hb;cases hb
   ·rw[k]at hb;cases hb
    obtain⟨a1,a2,a3,a4⟩:=h.xM hi (ho.imp id fun x=>x.1) rfl
    refine⟨.inl ⟨hli,.inl (QI _ ho)⟩,fun j hj=>⟨fun hw=>?_,fun _ hw=>?_,fun _ hw=>?_,fun hk=>absurd hk hs⟩⟩
    ·obtain⟨hl,hw⟩:=hw
     simp only[(mP j).1]at hl
     refine a1 j hj ⟨hl,?_⟩
     rcases hw with hw|⟨v,k,hv,_⟩|⟨v,k,hv,_⟩
     ·simp only[upd_ne _ _ hj]at hw;exact .inl hw
     ·rw[a4]at hv;cases hv
     rw[a4]at hv;cases hv
    ·obtain⟨_,v,hv|⟨k,hv,_⟩⟩:=hw<;>rw[a4]at hv<;>cases hv
    obtain⟨hl,hw⟩:=hw
    simp only[(mP j).1]at hl
    refine a3 j ⟨hl,?_⟩
    rcases hw with hw|⟨v,k,hv,hp⟩
    ·exact .inl hw
    rw[a4]at hv;cases hv
   rw[k]at hb;cases hb
   refine⟨.inl ⟨hli,QI _ ho⟩,fun j hj=>⟨fun hw=>?_,fun _ hw=>hw.2.elim,fun _ hw=>?_,fun hk=>by cases hk⟩⟩
   ·obtain⟨hl,hw⟩:=hw
    simp only[(mP j).1]at hl
    simp only[upd_ne _ _ hj]at hw
    rcases ho with ho|⟨ho,_⟩
    ·exact h.s.apart i j r hi hl (Ne.symm hj) ho hw
    have:=h.s.old j r hl hw;omega
   obtain⟨_,hC,rfl⟩:=hw
   rcases ho with ho|⟨ho,_⟩
   ·exact(h.s.qT i _ hi ho).2.2.1 hC rfl
   obtain⟨⟨s,r,hc⟩,_⟩:=h.m.chan hC
   have:=(Array.getElem?_eq_some_iff.1 hc).1;omega
  obtain⟨e,he,rfl⟩:=cg aF
  refine(p.cJ e he).low fun b hb=>?_
  rcases hb with hb|hb
  ·exact Nat.lt_of_lt_of_le (h.s.old i b hi hb) p.size
  exact hb.2
 ·simp only[(mP j).1]at hj
  rw[(mP j).2.2.2.2.2,Go.ConcN.Deaf_still _ _ _ oP]
  exact h.t.deaf j hj
 ·rw[Go.ConcN.Deaf_still _ _ _ oP]
  exact h.t.quiet j hj
 refine(h.t.tell.app hg (h.ours hi) (fun op aF=>?_) (fun op aF a ha Kd=>?_) (fun op aF a ha hk ad v k el=>?_) (fun ho=>?_)).XX rfl rfl rfl fun j=>⟨(mP j).1,(mP j).2.2.1,(mP j).2.2.2.1,by rw[(mP j).2.2.2.2.1],by rw[(mP j).2.2.2.2.1]⟩
 ·obtain⟨e,he,rfl⟩:=cg aF;exact fun a=>(p.cJ e he).act.2.2 a
 ·obtain⟨e,he,rfl⟩:=cg aF
  rcases(p.cJ e he).touch with k|⟨ad,wr,kd,k,_,CG⟩|⟨r,wr,k,CG⟩
  ·rw[k]at ha;cases ha
  ·rw[k]at ha;cases ha
   obtain⟨_,_,a3,a4⟩:=h.xM hi (CG.imp id fun x=>x.1) rfl
   refine⟨fun k hk e=>?_,fun ad' v k e=>?_⟩
   ·simp only[Loc.cell.injEq]at e
    exact a3 i ⟨hi,.inl ⟨.done k,hk,e⟩⟩
   simp only[Loc.cell.injEq]at e
   subst e;rw[a4];simp
  rw[k]at ha;cases ha
  exact⟨fun k hk e=>(by cases e),fun ad v k e=>(by cases e)⟩
 ·obtain⟨e,he,rfl⟩:=cg aF
  rcases(p.cJ e he).touch with k'|⟨ad',wr,kd,k',_,CG⟩|⟨r,wr,k',CG⟩
  ·rw[k']at ha;cases ha
  ·rw[k']at ha;cases ha
   obtain⟨_,_,a3,a4⟩:=h.xM hi (CG.imp id fun x=>x.1) rfl
   simp only[Loc.cell.injEq]at el
   subst el;rw[a4];simp
  rw[k']at ha;cases ha
  cases el
 rcases aJ with x|x
 ·exact .inl x
 right
 intro j op a hj aF ha
 obtain⟨_,hu⟩:=(ep aF).resolve_left (fun y=>by omega)
 obtain⟨e,he,rfl⟩:=cg hu
 simp only at ha
 rw[x e he]at ha;cases ha
end Go.Co

namespace Go.Co
open Go Go.Conc
open Go.ConcM (OsLater)
open Go.ConcN (sumTo upd sumTo_upd upd_ne upd_same sumTo_congr le_sumTo sumTo_le)
variable{E:Geo}{G G':Gh}{w w':World}{t u:Trace}{B B':Nat}
theorem uu{f:Nat->Nat}: ∀ {n:Nat},0<sumTo n f->∃i,i<n/\0<f i
 |n+1,h=>by
  by_cases e:0<f n
  ·exact⟨n,by omega,e⟩
  simp only[sumTo]at h
  obtain⟨i,hi,hf⟩:=uu (n:=n) (f:=f) (by omega)
  exact⟨i,by omega,hf⟩
theorem GI.draw(h:GI E G w t)(d:Nat):GI E G (w.at d) t:=
 ⟨h.a,h.s,h.m.world (fun _ _=>⟨rfl,rfl⟩) (fun _=>rfl) rfl rfl (OsLater.refl _) (fun _ _=>rfl),h.k,h.g,h.j,h.more,h.t⟩
theorem M7{j:Nat}{fn:FuncId}{pos:String}{es:Array Event}(hm: ∀e∈es,Event.mute e=true): ∀op∈MemOp.ofEvents j fn pos es,op.act.touch?=none/\(∀a,op.act≠ .mark (.release a))/\∀B,op.act.low B:=by
 intro op aF
 obtain⟨e,he,rfl⟩:=cg aF
 refine⟨touch_mute (hm e he),fun a h=>?_,fun B=>low_mute (hm e he) B⟩
 have:=v9 h
 have h2:=hm e he
 obtain⟨l,wr,s⟩:=e
 simp only at this
 subst this
 cases h2
theorem GI.mute(h:GI E G w t){j:Nat}{es:Array Event}(fn:FuncId)(pos:String)(hj: ¬(G.th j).af=true)(hn:j<G.n)(hm: ∀e∈es,Event.mute e=true):GI E G w (t++MemOp.ofEvents j fn pos es):=by
 have hu:=M7 (j:=j) (fn:=fn) (pos:=pos) hm
 refine⟨h.a,h.s,h.m,h.k,h.g,h.j,h.more,h.t.ti.mute (fun op aF=>(hu op aF).1) (Nat.le_refl _) (fun op aF=>(hu op aF).2.2 _),fun i hi=>?_,fun i hi=>?_,h.t.tell.mute (fun op aF=>(hu op aF).1) (fun op aF a=>(hu op aF).2.1 a)⟩
 ·rw[Deaf_other t (g':=j) (fun e=>hj (e▸hi)) _ cn];exact h.t.deaf i hi
 rw[Deaf_other t (g':=j) (by omega) _ cn];exact h.t.quiet i hi
theorem GI.alone(h:GI E G w t)(hg:(G.th 0).gr= .cK\/(G.th 0).gr= .aT): ∀i,(G.th i).af=true->i=0:=by
 intro i hi
 apply Classical.byContradiction
 intro h0
 obtain⟨ll,_⟩:=h.a.db i hi
 obtain⟨Q3,hp,hl⟩:=h.g.cK hg
 have hn:=h.g.n
 have hm:=h.g.m
 have ha:=h.g.a
 have e0: ¬(G.th 0).gr= .waits:=by rcases hg with e|e<;>rw[e]<;>simp
 rw[if_neg e0]at hm
 obtain⟨ic,cx⟩:=(h.g.role i hi).2 h0
 have b1:=le_sumTo (f:=fun i=>(G.th i).busy) ll
 have b2:=le_sumTo (f:=fun i=>(G.th i).ba) ll
 have b3:=le_sumTo (f:=fun i=>(G.th i).bf) ll
 rcases cx with e|e|e|e
 ·have:(G.th i).busy=1:=by unfold Lo.busy;rw[if_pos ⟨hi,ic,.inl e⟩]
  omega
 ·have:(G.th i).busy=1:=by unfold Lo.busy;rw[if_pos ⟨hi,ic,.inr e⟩]
  omega
 ·have:(G.th i).ba=1:=by unfold Lo.ba;rw[if_pos ⟨hi,e⟩]
  omega
 have:(G.th i).bf=1:=by unfold Lo.bf;rw[if_pos ⟨hi,e⟩]
 omega
theorem GI.free(h:GI E G w t){i k:Nat}(hi:(G.th i).af=true)(hm:(G.th i).mr=some (k,.bK))(hs:G.sm k=0): ∃j r,(G.th j).af=true/\(G.th j).mr=some (k,r)/\r≠ .bK:=by
 obtain⟨hk,_⟩:=h.k.CE i k _ hi hm
 have Og:=h.k.mu k hk
 have hc:0<G.cnt k .bK:=by
  have:=le_sumTo (f:=fun i=>(G.th i).at k .bK) (h.a.db i hi).1
  have e:(G.th i).at k .bK=1:=by unfold Lo.at;rw[if_pos ⟨hi,hm⟩]
  simp only[e]at this
  exact this
 have get: ∀r,0<G.cnt k r->r≠ .bK->∃j r,(G.th j).af=true/\(G.th j).mr=some (k,r)/\r≠ .bK:=by
  intro r hr cb
  obtain⟨j,_,hj⟩:=uu hr
  unfold Lo.at at hj
  split at hj
  ·rename_i hx;exact⟨j,r,hx.1,hx.2,cb⟩
  omega
 rcases Og.alive hc with h0|h0
 ·omega
 have:0<G.cnt k .held\/0<G.cnt k .tok\/0<G.cnt k .mQ\/0<G.cnt k (.hand true)\/0<G.cnt k (.hand false)\/0<G.cnt k .relN\/0<G.cnt k .owe\/0<G.cnt k .relS:=by omega
 rcases this with x|x|x|x|x|x|x|x<;>exact get _ x (by simp)
theorem GI.prog(h:GI E G w t)(dK: ∀i,(G.th i).af=true->G.PK E i\/(i≠0/\(G.th i).ch= .recv/\G.cl=false)\/(i=0/\∃v,(G.th i).ch= .send v))
  (Hl: ∀v i,(G.th 0).ch= .send v->¬G.PK E 0->(G.th i).af=true->¬G.PK E i->(G.th i).ch≠ .recv):False:=by
 have RA: ∀i k,(G.th i).af=true->(G.th i).mr=some (k,.bK)->G.sm k=0->False:=by
  intro i k hi hm hs
  obtain⟨j,r,hj,P4,hr⟩:=h.free hi hm hs
  obtain⟨_,vI⟩:=h.k.CE j k r hj P4
  rcases dK j hj with(⟨k',e,_⟩|⟨e,_⟩)|⟨_,e,_⟩|⟨e,_⟩
  ·rw[P4]at e;cases e;exact hr rfl
  ·exact vI e
  ·have:=(h.j.Kv j hj e).2.2.1;rw[P4]at this;cases this
  exact vI e
 have Lq: ∀i,(G.th i).af=true->i≠0->¬G.PK E i:=by
  rintro i hi h0 (⟨k,e,hs⟩|⟨e,_⟩)
  ·exact RA i k hi e hs
  exact h0 e
 rcases dK 0 h.a.bl with(⟨k,e,hs⟩|⟨_,hw,hs⟩)|⟨e,_⟩|⟨_,v,hv⟩
 ·exact RA 0 k h.a.bl e hs
 ·-- goroutine 0 waits for NM group
  have hm:=h.g.m
  rw[if_pos hw,hs]at hm
  have hC: ∀i,(G.th i).af=true->i≠0->False:=by
   intro i hi h0
   rcases dK i hi with x|⟨_,x,y⟩|⟨x,_⟩
   ·exact Lq i hi h0 x
   ·by_cases hc:E.eg=true
    ·have:=h.j.qw hc (by rw[hw];simp)
     rw[y]at this;cases this
    have:=h.j.Iw (by simpa using hc) i hi
    rw[x]at this;cases this
   exact h0 x
  have Ls: ∀ (f:Lo->Nat),(∀l,0<f l->l.af=true/\l.gr≠ .waits)->0<sumTo G.n (fun i=>f (G.th i))->False:=by
   intro f hf hp
   obtain⟨i,_,hi⟩:=uu hp
   obtain⟨a,b⟩:=hf _ hi
   refine hC i a fun e=>?_
   subst e
   exact b hw
  have NS: ¬0<sumTo G.n fun i=>(G.th i).ba:=Ls Lo.ba fun l hl=>by
   unfold Lo.ba at hl;split at hl
   ·rename_i x;exact⟨x.1,by rw[x.2];simp⟩
   omega
  have EP: ¬0<sumTo G.n fun i=>(G.th i).bf:=Ls Lo.bf fun l hl=>by
   unfold Lo.bf at hl;split at hl
   ·rename_i x;exact⟨x.1,by rw[x.2];simp⟩
   omega
  have Q6: ¬0<sumTo G.n fun i=>(G.th i).busy:=Ls Lo.busy fun l hl=>by
   unfold Lo.busy at hl;split at hl
   ·rename_i x;exact⟨x.1,by rcases x.2.2 with e|e<;>rw[e]<;>simp⟩
   omega
  obtain⟨hp,_⟩:=h.g.wV (.inr hw)
  have hn:=h.g.n
  exact NS (h.g.w (by omega) (by omega))
 ·exact e rfl
 -- goroutine 0 has something to send
 obtain⟨_,_,_,dt,hl,_⟩:=h.j.EV 0 v h.a.bl hv
 by_cases hc:E.eg=true
 ·have ZU:=h.j.any hc hl
  have ho:E.ours G E.n0:=⟨Nat.le_refl _,ZU⟩
  obtain⟨hi,_⟩:=h.j.stay hc dt E.n0 ho
  have h0:E.n0≠0:=by have:=h.a.qn.1;omega
  rcases dK E.n0 hi with x|⟨_,x,_⟩|⟨x,_⟩
  ·exact Lq _ hi h0 x
  ·refine Hl v E.n0 hv ?_ hi (Lq _ hi h0) x
   rintro(⟨k,e,hs⟩|⟨_,e,_⟩)
   ·exact RA 0 k h.a.bl e hs
   have:=(h.j.EV 0 v h.a.bl hv).2.2.2.2.2;rw[this]at e;cases e
  exact h0 x
 have:=h.j.Iw (by simpa using hc) 0 h.a.bl
 rw[hv]at this;cases this
end Go.Co

namespace Go.Co
open Go Go.Conc
open Go.ConcM (OsLater)
open Go.ConcN (sumTo upd sumTo_upd upd_ne upd_same sumTo_congr le_sumTo sumTo_le)
variable{E:Geo}{G G':Gh}{w w':World}{t u:Trace}{B B':Nat}
theorem pP{w:World}{r:Nat}{o:Obj}{a:Addr}(h:a.block≠r){w':World}(hw:w'.heap=w.heap.setIfInBounds r o):w'.cell? a=w.cell? a/\w'.frozen? a=w.frozen? a:=
 cE (by rw[hw,Array.getElem?_setIfInBounds_ne (Ne.symm h)])
theorem Jw{c s r k:Nat}{f0 fk:FuncId}{p0 pk:String}: ∀op∈jQ c s r k f0 fk p0 pk,op.act.touch?=none/\(∀m,op.act≠ .mark m)/\(c<B->op.act.low B):=by
 intro op aF
 simp only[jQ,List.mem_toArray,List.mem_cons,List.not_mem_nil,or_false]at aF
 rcases aF with rfl|rfl|rfl|rfl<;>exact⟨rfl,fun m=>by simp,id⟩
theorem Ed(rs:Nat->Option Nat)(r p:Nat):dL rs r (p+1)=dL rs r p+if rs p=some r then 1 else 0:=rfl
theorem ZZ{α:Type}{th:Nat->Lo}{i k:Nat}{l m:Lo}(f:Lo->α)(h:f l=f (th i))(h2:f m=f (th k))(j:Nat):f (upd (upd th i l) k m j)=f (th j):=by
 by_cases e:j=k
 ·subst e;rw[upd_same,h2]
 rw[upd_ne _ _ e];exact aW f h j
theorem GI.wC(h:GI E G w t){k s r:Nat}{v:Value}(d:Nat)(f0 fk:FuncId)(p0 pk:String)(hk:(G.th k).af=true)(GQ:k≠0)(h0:(G.th 0).ch= .send v)(hr:(G.th k).ch= .recv)(hc:w.heap[E.c]?=some (.chan 0 #[] false s r false)):
  ∃G',GI E G' ((w.at d).setChan E.c 0 #[] false (s+1) (r+1) false) (t++jQ E.c s r k f0 fk p0 pk)/\G'.Φ E.K E.nj<G.Φ E.K E.nj/\G'.th 0={G.th 0 with ch:=.no,me:={(G.th 0).me with pos:=(G.th 0).me.pos+1}}/\(∃j,v=E.jv j/\G'.th k={G.th k with ch:=.no,bZ:=some j})/\G'.n=G.n/\G'.cl=G.cl/\
   (∀j,(G'.th j).af=(G.th j).af)/\(∀j,j≠0->j≠k->G'.th j=G.th j)/\(∀j,G.PK E j->G'.PK E j):=by
 have Oh:=h.a.bl
 obtain⟨_,vL,hv,dt,QJ,zaQ⟩:=h.j.EV 0 v Oh h0
 obtain⟨_,mV,ee,zaO⟩:=h.j.Kv k hk hr
 have hC:E.eg=true:=by
  by_cases e:E.eg=true
  ·exact e
  have:=h.j.Iw (by simpa using e) 0 Oh;rw[h0]at this;cases this
 have XE:E.c<w.heap.size:=(Array.getElem?_eq_some_iff.1 hc).1
 have yX:=(h.a.db k hk).1
 have y6:=(h.a.db 0 Oh).1
 let mR:=upd (upd G.th 0 {G.th 0 with ch:=.no,me:={(G.th 0).me with pos:=(G.th 0).me.pos+1}}) k {G.th k with ch:=.no,bZ:=some G.pos}
 let G':Gh:={G with th:=mR,pos:=G.pos+1,tk:=upd G.tk G.pos (some k)}
 have t0:mR 0={G.th 0 with ch:=.no,me:={(G.th 0).me with pos:=(G.th 0).me.pos+1}}:=by show upd _ _ _ 0=_;rw[upd_ne _ _ (Ne.symm GQ),upd_same]
 have tk:mR k={G.th k with ch:=.no,bZ:=some G.pos}:=upd_same ..
 have tj: ∀j,j≠0->j≠k->mR j=G.th j:=fun j a b=>by show upd _ _ _ j=_;rw[upd_ne _ _ b,upd_ne _ _ a]
 have F: ∀ {α:Type} (f:Lo->α),(f {G.th 0 with ch:=.no,me:={(G.th 0).me with pos:=(G.th 0).me.pos+1}}=f (G.th 0))->(f {G.th k with ch:=.no,bZ:=some G.pos}=f (G.th k))->∀j,f (mR j)=f (G.th j):=fun f a b j=>ZZ f a b j
 have S: ∀ (f:Lo->Nat),(f {G.th 0 with ch:=.no,me:={(G.th 0).me with pos:=(G.th 0).me.pos+1}}=f (G.th 0))->(f {G.th k with ch:=.no,bZ:=some G.pos}=f (G.th k))->(sumTo G.n fun i=>f (mR i))=sumTo G.n fun i=>f (G.th i):=fun f a b=>sumTo_congr fun j _=>F f a b j
 refine⟨G',?_,?_,t0,⟨G.pos,hv,tk⟩,rfl,rfl,fun j=>F Lo.af (by rfl) (by rfl) j,tj,fun j hj=>?_⟩
 ·have hu:=fun op aF=>Jw (B:=w.heap.size) (c:=E.c) (s:=s) (r:=r) (k:=k) (f0:=f0) (fk:=fk) (p0:=p0) (pk:=pk) op aF
  refine⟨h.a.tr rfl rfl fun j=>F Lo.af (by rfl) (by rfl) j,?_,?_,?_,?_,?_,h.more,?_⟩
  ·refine h.s.tr (by simp[World.setChan,World.at]) (fun a v hv=>⟨v,hv⟩) fun j hj=>⟨by rw[<-F Lo.af (by rfl) (by rfl) j];exact hj,F Lo.ai (by rfl) (by rfl) j⟩
  ·obtain⟨_,c2,c3⟩:=h.m.chan hC
   have hw:((w.at d).setChan E.c 0 #[] false (s+1) (r+1) false).heap=w.heap.setIfInBounds E.c (.chan 0 #[] false (s+1) (r+1) false):=rfl
   refine⟨fun x hx=>?_,fun a v dd hv=>?_,h.m.inj,fun _=>⟨⟨s+1,r+1,?_⟩,c2,c3⟩,h.m.tape,h.m.output,h.m.os,fun b hb=>(h.m.keep b hb).tr (by rw[hw,Array.getElem?_setIfInBounds_ne (Ne.symm ((h.m.keep b hb).ch hC))]) rfl⟩
   ·obtain⟨a1,a2⟩:=pP (w:=w) (c2 x hx) hw
    rw[a1,a2]
    have:=h.m.sync x hx
    cases x<;>exact this
   ·obtain⟨a1,a2⟩:=pP (w:=w) (c3 a _ hv) hw
    rw[a1,a2];exact h.m.app a v dd hv
   rw[hw,Array.getElem?_setIfInBounds_self_of_lt XE]
   show _=some (Obj.chan 0 #[] G.cl (s+1) (r+1) false)
   rw[dt]
  ·exact h.k.tr rfl rfl rfl rfl rfl fun j=>⟨F Lo.af (by rfl) (by rfl) j,F Lo.mr (by rfl) (by rfl) j,F Lo.run (by rfl) (by rfl) j,F Lo.aP (by rfl) (by rfl) j,F Lo.kn (by rfl) (by rfl) j⟩
  ·exact h.g.tr rfl rfl rfl rfl rfl rfl fun j=>⟨F Lo.af (by rfl) (by rfl) j,F Lo.wk (by rfl) (by rfl) j,F Lo.gr (by rfl) (by rfl) j⟩
  ·have bq: ∀j,(mR j).af=(G.th j).af:=fun j=>F Lo.af (by rfl) (by rfl) j
   have cx: ∀j,(mR j).gr=(G.th j).gr:=fun j=>F Lo.gr (by rfl) (by rfl) j
   have ZD: ∀j,(mR j).mr=(G.th j).mr:=fun j=>F Lo.mr (by rfl) (by rfl) j
   refine⟨fun e=>?_,fun i v hi hv=>?_,fun i hi hv=>?_,fun e=>?_,?_,fun rr=>?_,fun i j hi hj=>?_,?_,fun a b i hi=>?_,h.j.any,fun a=>?_,fun i hi hm=>?_,?_,fun i hi hs=>?_⟩
   ·rw[hC]at e;cases e
   ·exfalso
    have yY:(G.th i).af=true:=by rw[<-bq];exact hi
    by_cases e:i=0
    ·subst e;have:(mR 0).ch= .send v:=hv
     rw[t0]at this;cases this
    by_cases e2:i=k
    ·subst e2;have:(mR i).ch= .send v:=hv
     rw[tk]at this;cases this
    have:(mR i).ch= .send v:=hv
    rw[tj i e e2]at this
    exact e (h.j.EV i v yY this).1
   ·have yY:(G.th i).af=true:=by rw[<-bq];exact hi
    by_cases e:i=0
    ·subst e;have:(mR 0).ch= .recv:=hv
     rw[t0]at this;cases this
    by_cases e2:i=k
    ·subst e2;have:(mR i).ch= .recv:=hv
     rw[tk]at this;cases this
    have:(mR i).ch= .recv:=hv
    show i≠0/\(∀j,(mR i).bZ=some j->E.rs j=none)/\(mR i).mr=none/\(mR i).gr= .out
    rw[tj i e e2]at this ⊢
    exact h.j.Kv i yY this
   ·have:G.cl=true:=e
    rw[dt]at this;cases this
   ·exact vL
   ·have hc:=h.j.cnt rr
    have hs:=fH yX (upd G.th 0 {G.th 0 with ch:=.no,me:={(G.th 0).me with pos:=(G.th 0).me.pos+1}}) {G.th k with ch:=.no,bZ:=some G.pos} (fun l=>l.holds E.rs rr)
    have EE:(sumTo G.n fun a=>(upd G.th 0 {G.th 0 with ch:=.no,me:={(G.th 0).me with pos:=(G.th 0).me.pos+1}} a).holds E.rs rr)=sumTo G.n fun a=>(G.th a).holds E.rs rr:=bI (φ:=fun l=>l.holds E.rs rr) rfl
    have hold:((upd G.th 0 {G.th 0 with ch:=.no,me:={(G.th 0).me with pos:=(G.th 0).me.pos+1}} k).holds E.rs rr)=0:=by
     rw[upd_ne _ _ GQ]
     unfold Lo.holds
     cases e:(G.th k).bZ with
     |none=>rfl
     |some j=>simp[mV j e]
    have jh:({G.th k with ch:=.no,bZ:=some G.pos}:Lo).holds E.rs rr=if E.rs G.pos=some rr then 1 else 0:=by
     unfold Lo.holds;simp[hk]
    rw[hold,jh,EE]at hs
    show G.cv rr+(sumTo G.n fun i=>(mR i).holds E.rs rr)=dL E.rs rr (G.pos+1)
    rw[Ed]
    have e:(sumTo G.n fun i=>(mR i).holds E.rs rr)=sumTo G.n fun a=>(upd (upd G.th 0 {G.th 0 with ch:=.no,me:={(G.th 0).me with pos:=(G.th 0).me.pos+1}}) k {G.th k with ch:=.no,bZ:=some G.pos} a).holds E.rs rr:=rfl
    rw[e]
    omega
   ·have yY:(G.th i).af=true:=by rw[<-bq];exact hi
    by_cases e:i=k
    ·subst e
     have:(mR i).bZ=some j:=hj
     rw[tk]at this
     cases this
     exact⟨Nat.lt_succ_self _,upd_same ..⟩
    have kg:(G.th i).bZ=some j:=by
     have:(mR i).bZ=some j:=hj
     by_cases e0:i=0
     ·subst e0;rw[t0]at this;exact this
     rw[tj i e0 e]at this;exact this
    obtain⟨a1,a2⟩:=h.j.rT i j yY kg
    exact⟨Nat.lt_succ_of_lt a1,(upd_ne _ _ (by omega)).trans a2⟩
   ·refine⟨fun j hj=>?_,fun j i hj=>?_⟩
    ·have hj2:G.pos+1<=j:=hj
     exact(upd_ne _ _ (by omega)).trans (h.j.EL.1 j (by omega))
    by_cases e:j=G.pos
    ·subst e
     have:upd G.tk G.pos (some k) G.pos=some i:=hj
     rw[upd_same]at this;cases this
     exact(h.a.db _ hk).1
    have:upd G.tk G.pos (some k) j=some i:=hj
    rw[upd_ne _ _ e]at this
    exact h.j.EL.2 j i this
   ·show(mR i).af=true/\(mR i).gr= .out
    rw[bq,cx]
    exact h.j.stay a b i hi
   ·show(mR 0).gr≠ .out->_
    rw[cx];exact h.j.qw a
   ·have yY:(G.th i).af=true:=by rw[<-bq];exact hi
    have Ki:(G.th i).mr≠none:=by rw[<-ZD];exact hm
    show(mR i).gr= .out
    rw[cx];exact h.j.NN i yY Ki
   ·show(mR 0).me=_
    rw[t0]
    show({(G.th 0).me with pos:=(G.th 0).me.pos+1}:Me)=_
    rw[h.j.me]
   have yY:(G.th i).af=true:=by rw[<-bq];exact hi
   have AS:(G.th i).sc=true:=by rw[<-F Lo.sc (by rfl) (by rfl) i];exact hs
   exact h.j.sc i yY AS
  have bq: ∀j,(mR j).af=(G.th j).af:=fun j=>F Lo.af (by rfl) (by rfl) j
  have e8:((w.at d).setChan E.c 0 #[] false (s+1) (r+1) false).heap.size=w.heap.size:=by simp[World.setChan,World.at]
  have dI: ∀op∈jQ E.c s r k f0 fk p0 pk,op.act≠ .mark .disable/\op.act≠ .mark .enable:=fun op aF=>⟨(hu op aF).2.1 _,(hu op aF).2.1 _⟩
  refine⟨?_,fun j hj=>?_,fun j hj=>?_,?_⟩
  ·have:TI (E.AV G') w.heap.size t:=by
    refine h.t.ti.change (fun g l hw=>.inl ?_) (fun g l hw=>.inl ?_) (fun g l hw=>.inl ?_) (fun g l hw=>.inl hw)
    ·obtain⟨hl,hw⟩:=hw
     have vH:(G.th g).af=true:=by rw[<-bq];exact hl
     refine⟨vH,?_⟩
     cases l with
     |cell a=>
      rcases hw with hw|⟨vv,kk,hv,hw⟩|⟨vv,jj,hv,hw⟩
      ·exact .inl (by rw[<-F Lo.ai (by rfl) (by rfl) g];exact hw)
      ·refine .inr (.inl ⟨vv,kk,hv,hw.imp (fun hw=>by rw[<-F Lo.run (by rfl) (by rfl) g];exact hw) fun hw j hj=>?_⟩)
       rw[<-F Lo.run (by rfl) (by rfl) j];exact hw j (by rw[show(G'.th j).af=(mR j).af from rfl,bq];exact hj)
      refine .inr (.inr ⟨vv,jj,hv,?_⟩)
      by_cases e:jj=G.pos
      ·subst e;exact .inr (h.j.EL.1 _ (Nat.le_refl _))
      have:G'.tk jj=G.tk jj:=upd_ne _ _ e
      rw[<-this];exact hw
     |obj b=>exact(by rw[<-F Lo.ai (by rfl) (by rfl) g];exact hw)
     |_=>exact hw.elim
    ·obtain⟨hl,hw⟩:=hw
     have vH:(G.th g).af=true:=by rw[<-bq];exact hl
     refine⟨vH,?_⟩
     cases l with
     |cell a=>
      obtain⟨vv,hv|⟨kk,hv,hp⟩⟩:=hw
      ·exact⟨vv,.inl hv⟩
      exact⟨vv,.inr ⟨kk,hv,by rw[<-F Lo.aP (by rfl) (by rfl) g];exact hp⟩⟩
     |_=>exact hw.elim
    obtain⟨hl,hw⟩:=hw
    refine⟨by rw[<-bq];exact hl,?_⟩
    cases l with
    |cell a=>
     rcases hw with hw|⟨vv,kk,hv,hp⟩
     ·exact .inl hw
     exact .inr ⟨vv,kk,hv,by rw[<-F Lo.aP (by rfl) (by rfl) g];exact hp⟩
    |obj r=>exact hw
    |_=>exact hw.elim
   rw[e8]
   exact this.mute (fun op aF=>(hu op aF).1) (Nat.le_refl _) fun op aF=>(hu op aF).2.2 XE
  ·show Deaf _ j=(mR j).deaf
   rw[F Lo.deaf (by rfl) (by rfl) j,Go.ConcN.Deaf_still _ _ _ dI]
   exact h.t.deaf j (by rw[<-bq];exact hj)
  ·rw[Go.ConcN.Deaf_still _ _ _ dI];exact h.t.quiet j hj
  exact(h.t.tell.mute (fun op aF=>(hu op aF).1) fun op aF a=>(hu op aF).2.1 _).XX rfl rfl rfl fun j=>⟨bq j,F Lo.aP (by rfl) (by rfl) j,F Lo.rel (by rfl) (by rfl) j,by show(mR j).gr= .out↔_;rw[F Lo.gr (by rfl) (by rfl) j],by show(mR j).gr= .aT↔_;rw[F Lo.gr (by rfl) (by rfl) j]⟩
 ·have e1:=S (fun l=>l.φ E.K) (by rfl) (by rfl)
  have e2: ∀k',(sumTo G.n fun i=>(mR i).bh k' (G.wd k'))=sumTo G.n fun i=>(G.th i).bh k' (G.wd k'):=fun k'=>S (fun l=>l.bh k' (G.wd k')) (by rfl) (by rfl)
  have e3:(mR 0).aO G.wn=(G.th 0).aO G.wn:=F (fun l=>l.aO G.wn) (by rfl) (by rfl) 0
  show sumTo G.n (fun i=>(mR i).φ E.K)+sumTo E.K (fun k=>320*G.sm k+sumTo G.n fun i=>(mR i).bh k (G.wd k))+8192*G.left+(E.nj- (G.pos+1))+(!G.cl).toNat+(mR 0).aO G.wn<_
  unfold Gh.Φ
  simp only[e1,e2,e3]
  omega
 rcases hj with⟨kk,e,hs⟩|⟨e,e1,e2⟩
 ·exact .inl ⟨kk,by show(mR j).mr=_;rw[F Lo.mr (by rfl) (by rfl) j];exact e,hs⟩
 exact .inr ⟨e,by show(mR 0).gr=_;rw[F Lo.gr (by rfl) (by rfl) 0];exact e1,e2⟩
theorem GI.closed(h:GI E G w t){k:Nat}(fk:FuncId)(pk:String)(hk:(G.th k).af=true)(GQ:k≠0)(hr:(G.th k).ch= .recv)(dt:G.cl=true):
  GI E {G with th:=upd G.th k {G.th k with ch:=.no,sc:=true}} w (t++ #[{g:=k,fn:=fk,pos:=pk,act:=.recvClosed E.c}]):=by
 have hC:E.eg=true:=by
  by_cases e:E.eg=true
  ·exact e
  have:=h.j.Iw (by simpa using e) k hk;rw[hr]at this;cases this
 have XE:E.c<w.heap.size:=by obtain⟨⟨s,r,hc⟩,_⟩:=h.m.chan hC;exact(Array.getElem?_eq_some_iff.1 hc).1
 have hu: ∀op∈(#[{g:=k,fn:=fk,pos:=pk,act:=.recvClosed E.c}]:Trace),op.act.touch?=none/\(∀m,op.act≠ .mark m)/\op.act.low w.heap.size:=fun op aF=>by
  simp at aF;subst aF;exact⟨rfl,fun m=>by simp,XE⟩
 have dI: ∀op∈(#[{g:=k,fn:=fk,pos:=pk,act:=.recvClosed E.c}]:Trace),op.act≠ .mark .disable/\op.act≠ .mark .enable:=fun op aF=>⟨(hu op aF).2.1 _,(hu op aF).2.1 _⟩
 have s:zZ G {G with th:=upd G.th k {G.th k with ch:=.no,sc:=true}}:=⟨rfl,rfl,rfl,rfl,fun j=>⟨aW Lo.af (by rfl) j,aW Lo.ai (by rfl) j,aW Lo.run (by rfl) j,aW Lo.aP (by rfl) j,aW Lo.rel (by rfl) j,by show(upd G.th k {G.th k with ch:=.no,sc:=true} j).gr=_↔_;rw[aW Lo.gr (by rfl) j],by show(upd G.th k {G.th k with ch:=.no,sc:=true} j).gr=_↔_;rw[aW Lo.gr (by rfl) j]⟩⟩
 refine⟨h.a.tr rfl rfl fun j=>aW Lo.af (by rfl) j,h.s.tr (Nat.le_refl _) (fun a v hv=>⟨v,hv⟩) fun j hj=>⟨by rw[<-aW (i:=k) (l:={G.th k with ch:=.no,sc:=true}) Lo.af (by rfl) j];exact hj,aW Lo.ai (by rfl) j⟩,
  h.m.tr (fun x=>by cases x<;>rfl) rfl rfl,h.k.tr rfl rfl rfl rfl rfl fun j=>⟨aW Lo.af (by rfl) j,aW Lo.mr (by rfl) j,aW Lo.run (by rfl) j,aW Lo.aP (by rfl) j,aW Lo.kn (by rfl) j⟩,
  h.g.tr rfl rfl rfl rfl rfl rfl fun j=>⟨aW Lo.af (by rfl) j,aW Lo.wk (by rfl) j,aW Lo.gr (by rfl) j⟩,?_,h.more,?_⟩
 ·have bq: ∀j,(upd G.th k {G.th k with ch:=.no,sc:=true} j).af=(G.th j).af:=fun j=>aW Lo.af (by rfl) j
  have cx: ∀j,(upd G.th k {G.th k with ch:=.no,sc:=true} j).gr=(G.th j).gr:=fun j=>aW Lo.gr (by rfl) j
  have ee: ∀j,(upd G.th k {G.th k with ch:=.no,sc:=true} j).mr=(G.th j).mr:=fun j=>aW Lo.mr (by rfl) j
  have CA: ∀j,(upd G.th k {G.th k with ch:=.no,sc:=true} j).bZ=(G.th j).bZ:=fun j=>aW Lo.bZ (by rfl) j
  have bP: ∀j,(upd G.th k {G.th k with ch:=.no,sc:=true} j).ch≠ .no->(upd G.th k {G.th k with ch:=.no,sc:=true} j).ch=(G.th j).ch:=fun j hj=>by
   by_cases e:j=k
   ·subst e;rw[upd_same]at hj;exact absurd rfl hj
   rw[upd_ne _ _ e]
  refine⟨fun e=>(by rw[hC]at e;cases e),fun i v hi hv=>?_,fun i hi hv=>?_,h.j.cl,h.j.CO,fun rr=>?_,fun i j hi hj=>?_,h.j.EL,fun a b i hi=>?_,h.j.any,?_,fun i hi hm=>?_,?_,fun _ _ _=>dt⟩
  ·have dG:(upd G.th k {G.th k with ch:=.no,sc:=true} i).ch= .send v:=hv
   have:=bP i (by rw[dG];simp)
   show _/\_/\_/\_/\_/\(upd G.th k {G.th k with ch:=.no,sc:=true} i).gr= .out
   rw[cx]
   exact h.j.EV i v (by rw[<-bq];exact hi) (by rw[<-this];exact dG)
  ·have dG:(upd G.th k {G.th k with ch:=.no,sc:=true} i).ch= .recv:=hv
   have:=bP i (by rw[dG];simp)
   show i≠0/\(∀j,(upd G.th k {G.th k with ch:=.no,sc:=true} i).bZ=some j->E.rs j=none)/\(upd G.th k {G.th k with ch:=.no,sc:=true} i).mr=none/\(upd G.th k {G.th k with ch:=.no,sc:=true} i).gr= .out
   rw[cx,ee,CA]
   exact h.j.Kv i (by rw[<-bq];exact hi) (by rw[<-this];exact dG)
  ·have:(sumTo G.n fun a=>(upd G.th k {G.th k with ch:=.no,sc:=true} a).holds E.rs rr)=sumTo G.n fun a=>(G.th a).holds E.rs rr:=bI (φ:=fun l=>l.holds E.rs rr) rfl
   show G.cv rr+(sumTo G.n fun a=>(upd G.th k {G.th k with ch:=.no,sc:=true} a).holds E.rs rr)=_
   rw[this];exact h.j.cnt rr
  ·exact h.j.rT i j (by rw[<-bq];exact hi) (by rw[<-CA];exact hj)
  ·show(upd G.th k {G.th k with ch:=.no,sc:=true} i).af=true/\(upd G.th k {G.th k with ch:=.no,sc:=true} i).gr= .out
   rw[bq,cx];exact h.j.stay a b i hi
  ·intro a
   show(upd G.th k {G.th k with ch:=.no,sc:=true} 0).gr≠ .out->_
   rw[cx];exact h.j.qw a
  ·show(upd G.th k {G.th k with ch:=.no,sc:=true} i).gr= .out
   rw[cx];exact h.j.NN i (by rw[<-bq];exact hi) (by rw[<-ee];exact hm)
  show(upd G.th k {G.th k with ch:=.no,sc:=true} 0).me=_
  rw[upd_ne _ _ (Ne.symm GQ)];exact h.j.me
 have:=h.t.tr s (fun j=>aW Lo.deaf (by rfl) j) (Nat.le_refl _)
 refine⟨this.ti.mute (fun op aF=>(hu op aF).1) (Nat.le_refl _) fun op aF=>(hu op aF).2.2,fun j hj=>?_,fun j hj=>?_,this.tell.mute (fun op aF=>(hu op aF).1) fun op aF a=>(hu op aF).2.1 _⟩
 ·rw[Go.ConcN.Deaf_still _ _ _ dI];exact this.deaf j hj
 rw[Go.ConcN.Deaf_still _ _ _ dI];exact this.quiet j hj
theorem Geo.RE(E:Geo):E.Cv.Laws where
 draw:=fun d h=>GI.draw h d
 tS:=fun{G w t i w' es} fn pos h hi p hs=>by
  refine GI.tS h fn pos hi ?_ p
  by_cases e:(G.th i).rel=none
  ·exact .inl e
  exact .inr (hs e)
 Ie:=fun G i a b=>upd_same _ _ _
 Ic:=fun G i a b j hj=>upd_ne _ _ hj
 Ia:=fun _ _ _ _=>rfl
 pj:=fun G i a b j=>by
  show(upd G.th i ((G.th i).grow a b) j).af=true↔(G.th j).af=true
  rw[aW Lo.af (by rfl) j]
 Ig:=fun _ _ _ _=>rfl
 Ih:=fun G i a b j hj=>by
  rcases hj with⟨kk,e,hs⟩|⟨e,e1,e2⟩
  ·exact .inl ⟨kk,by show(upd G.th i ((G.th i).grow a b) j).mr=_;rw[aW Lo.mr (by rfl) j];exact e,hs⟩
  exact .inr ⟨e,by show(upd G.th i ((G.th i).grow a b) 0).gr=_;rw[aW Lo.gr (by rfl) 0];exact e1,e2⟩
 BR:=fun G i a b=>by
  have e1:(sumTo G.n fun j=>(upd G.th i ((G.th i).grow a b) j).φ E.K)=sumTo G.n fun j=>(G.th j).φ E.K:=bI (φ:=fun l=>l.φ E.K) rfl
  have e2: ∀k',(sumTo G.n fun j=>(upd G.th i ((G.th i).grow a b) j).bh k' (G.wd k'))=sumTo G.n fun j=>(G.th j).bh k' (G.wd k'):=fun k'=>bI (φ:=fun l=>l.bh k' (G.wd k')) rfl
  have e3:(upd G.th i ((G.th i).grow a b) 0).aO G.wn=(G.th 0).aO G.wn:=aW (fun l=>l.aO G.wn) (by rfl) 0
  show sumTo G.n (fun j=>(upd G.th i ((G.th i).grow a b) j).φ E.K)+sumTo E.K (fun k=>320*G.sm k+sumTo G.n fun j=>(upd G.th i ((G.th i).grow a b) j).bh k (G.wd k))+8192*G.left+(E.nj-G.pos)+(!G.cl).toNat+(upd G.th i ((G.th i).grow a b) 0).aO G.wn=G.Φ E.K E.nj
  unfold Gh.Φ
  simp only[e1,e2,e3]
 M4:=fun _ _ _ _=>Iff.rfl
 apart:=fun h hi hj tP hb=>Rr.apart (GI.s h) _ _ _ hi hj tP hb
 old:=fun h hi hb=>Rr.old (GI.s h) _ _ hi hb
 hears:=fun h hi=>AW.deaf (GI.t h) _ hi
 mute:=fun fn pos h hj _ hn hm=>GI.mute h fn pos hj hn hm
 chan:=fun{G w t i} h hi hc=>by
  have h:GI E G w t:=h
  have hC:E.eg=true:=by
   by_cases e:E.eg=true
   ·exact e
   exact absurd (h.j.Iw (by simpa using e) i hi) hc
  exact⟨(h.m.chan hC).1,fun j hj hb=>(h.s.qT j _ hj hb).2.2.1 hC rfl⟩
 Lp:=fun{G w t i v} h hi hv=>by
  have h:GI E G w t:=h
  exact⟨(h.j.EV i v hi hv).1,(h.j.EV i v hi hv).2.2.2.1⟩
 wC:=fun{G w t v k s r} d f0 fk p0 pk h _ hk GQ h0 hr hc=>by
  obtain⟨G',a1,a2,a3,a4,a5,a6,a7,a8,a9⟩:=GI.wC h d f0 fk p0 pk hk GQ h0 hr hc
  exact⟨G',a1,a2,a3,a4,a5,a6,fun j=>by show(G'.th j).af=true↔(G.th j).af=true;rw[a7],a8,fun j _ _ hj=>a9 j hj⟩
 closed:=fun{G w t k} fk pk h hk GQ hr dt=>by
  refine⟨_,GI.closed h fk pk hk GQ hr dt,?_,upd_same _ _ _,rfl,rfl,fun j=>?_,fun j hj=>upd_ne _ _ hj,fun j _ hj=>?_⟩
  ·have e1:(sumTo G.n fun j=>(upd G.th k {G.th k with ch:=.no,sc:=true} j).φ E.K)=sumTo G.n fun j=>(G.th j).φ E.K:=bI (φ:=fun l=>l.φ E.K) rfl
   have e2: ∀k',(sumTo G.n fun j=>(upd G.th k {G.th k with ch:=.no,sc:=true} j).bh k' (G.wd k'))=sumTo G.n fun j=>(G.th j).bh k' (G.wd k'):=fun k'=>bI (φ:=fun l=>l.bh k' (G.wd k')) rfl
   have e3:(upd G.th k {G.th k with ch:=.no,sc:=true} 0).aO G.wn=(G.th 0).aO G.wn:=aW (fun l=>l.aO G.wn) (by rfl) 0
   show sumTo G.n (fun j=>(upd G.th k {G.th k with ch:=.no,sc:=true} j).φ E.K)+sumTo E.K (fun k'=>320*G.sm k'+sumTo G.n fun j=>(upd G.th k {G.th k with ch:=.no,sc:=true} j).bh k' (G.wd k'))+8192*G.left+(E.nj-G.pos)+(!G.cl).toNat+(upd G.th k {G.th k with ch:=.no,sc:=true} 0).aO G.wn<=G.Φ E.K E.nj
   unfold Gh.Φ
   simp only[e1,e2,e3]
   exact Nat.le_refl _
  ·show(upd G.th k {G.th k with ch:=.no,sc:=true} j).af=true↔(G.th j).af=true
   rw[aW Lo.af (by rfl) j]
  rcases hj with⟨kk,e,hs⟩|⟨e,e1,e2⟩
  ·exact .inl ⟨kk,by show(upd G.th k {G.th k with ch:=.no,sc:=true} j).mr=_;rw[aW Lo.mr (by rfl) j];exact e,hs⟩
  exact .inr ⟨e,by show(upd G.th k {G.th k with ch:=.no,sc:=true} 0).gr=_;rw[aW Lo.gr (by rfl) 0];exact e1,e2⟩
 Ii:=fun{l v l' b} h hb=>by obtain⟨j,_,rfl⟩:=h;exact hb
 Ds:=fun{l l' b} h hb=>by have h:l'=_:=h;subst h;exact hb
 MU:=fun{l l' b} h hb=>by have h:l'=_:=h;subst h;exact hb
 size:=fun h hi=>(EX.db (GI.a h) _ hi).1
 finish:=fun{G w t g w0} h _ hf i hi=>GI.alone h (.inr (E.lY _ _ _ hf)) i hi
 prog:=fun h _ ha hm=>GI.prog h ha hm
end Go.Co

namespace Go.Co
open Go Go.Conc
open Go.ConcM (OsLater)
open Go.ConcN (sumTo upd sumTo_upd upd_ne upd_same sumTo_congr le_sumTo sumTo_le)
variable{E:Geo}{G G':Gh}{w w':World}{t u:Trace}{B B':Nat}
def wN(E:Geo)(e:Event):Prop:=
 (∃x wr,x.ok E.K/\e=⟨.cell (E.sc x),wr,true⟩/\(wr=true->∀k,x≠ .done k))\/(∃m s b,e=⟨.mark m,s,b⟩/\(MemAct.mark m).touch?=none/\(∀a,m≠ .release a)/\∀B,E.w0.heap.size<=B->(∀x,x.ok E.K->(E.sc x).block<B)->(MemAct.mark m).low B)
theorem wN.touch{e:Event}(h:wN E e):(MemAct.ofEvent e).touch?=none\/∃x wr,x.ok E.K/\(MemAct.ofEvent e).touch?=some ⟨.cell (E.sc x),wr,.atomic⟩/\(wr=true->∀k,x≠ .done k):=by
 rcases h with⟨x,wr,hx,rfl,hw⟩|⟨m,s,b,rfl,hm,_⟩
 ·exact .inr ⟨x,wr,hx,rfl,hw⟩
 exact .inl hm
theorem wN.norel{e:Event}(h:wN E e): ∀a,MemAct.ofEvent e≠ .mark (.release a):=by
 rcases h with⟨x,wr,hx,rfl,hw⟩|⟨m,s,b,rfl,hm,hr,_⟩
 ·simp[MemAct.ofEvent]
 intro a e
 exact hr a (by cases s<;>cases b<;>(simp only[MemAct.ofEvent,MemAct.mark.injEq]at e;exact e))
theorem wN.low{e:Event}(h:wN E e){B:Nat}(hB:E.w0.heap.size<=B)(hb: ∀x,x.ok E.K->(E.sc x).block<B):(MemAct.ofEvent e).low B:=by
 rcases h with⟨x,wr,hx,rfl,hw⟩|⟨m,s,b,rfl,_,_,hl⟩
 ·exact hb x hx
 exact hl B hB hb
theorem GI.pW(h:GI E G w t){x:SC}(hx:x.ok E.K)(j:Nat): ¬(E.AV G).W j (.cell (E.sc x))/\¬(E.AV G).R j (.cell (E.sc x)):=by
 have fF: ∀v d,G.app (E.sc x)≠some (v,d):=fun v d hv=>(h.m.app _ v d hv).2.2 x hx rfl
 refine⟨fun hw=>?_,fun hr=>?_⟩
 ·obtain⟨hl,hw⟩:=hw
  rcases hw with hw|⟨v,k,hv,_⟩|⟨v,k,hv,_⟩
  ·exact(h.s.qT j _ hl hw).1 x hx rfl
  ·exact fF _ _ hv
  exact fF _ _ hv
 obtain⟨_,v,hv|⟨k,hv,_⟩⟩:=hr
 ·exact fF _ _ hv
 exact fF _ _ hv
theorem GI.cJ(h:GI E G w t){i:Nat}{es:Array Event}(fn:FuncId)(pos:String)(hi:(G.th i).af=true)(he: ∀e∈es,wN E e)(s:zZ G G')
  (hd: ∀j,(G'.th j).deaf=if j=i then deafBehind ((G.th i).deaf) es else(G.th j).deaf)
  (hq:(G.th i).rel=none\/∀j e,es[j]?=some e->(MemAct.ofEvent e).touch?=none\/((e.loc= .cell (E.sc .bG)\/e.loc= .cell (E.sc .fX))/\0<deafBehind (G.th i).deaf (es.extract 0 j))):
  AW E G' w.heap.size (t++MemOp.ofEvents i fn pos es):=by
 have hb: ∀x,x.ok E.K->(E.sc x).block<w.heap.size:=fun x hx=>bT (h.m.sync x hx).1
 have hg: ∀op∈MemOp.ofEvents i fn pos es,op.g=i:=cn
 refine⟨?_,fun j hj=>?_,fun j hj=>?_,?_⟩
 ·rw[s.AV]
  refine h.t.ti.step hg (fun op aF b XF=>?_) (Nat.le_refl _) fun op aF=>?_
  ·obtain⟨e,Km,rfl⟩:=cg aF
   rcases(he e Km).touch with k|⟨x,wr,hx,k,_⟩
   ·rw[k]at XF;cases XF
   rw[k]at XF;cases XF
   refine⟨.inr (.inr (.inl ⟨rfl,hi,.inl ⟨x,hx,rfl⟩⟩)),fun j hj=>⟨(h.pW hx j).1,fun _=>(h.pW hx j).2,fun e=>(by cases e),fun e=>(by cases e)⟩⟩
  obtain⟨e,Km,rfl⟩:=cg aF
  exact(he e Km).low h.s.size hb
 ·have kg:(G.th j).af=true:=by rw[<-(s.th j).1];exact hj
  rw[hd]
  by_cases e:j=i
  ·subst e;rw[if_pos rfl,Deaf_own,h.t.deaf j kg]
  rw[if_neg e,Deaf_other t (g':=i) (fun x=>e x.symm) _ cn];exact h.t.deaf j kg
 ·rw[s.n]at hj
  have:=(h.a.db i hi).1
  rw[Deaf_other t (g':=i) (by omega) _ cn];exact h.t.quiet j hj
 refine(h.t.tell.app hg (h.ours hi) (fun op aF=>?_) (fun op aF a ha Kd=>?_) (fun op aF a ha hk=>?_) (fun ho=>?_)).tr s
 ·obtain⟨e,Km,rfl⟩:=cg aF;exact fun a=>(he e Km).norel a
 ·obtain⟨e,Km,rfl⟩:=cg aF
  rcases(he e Km).touch with k|⟨x,wr,hx,k,hw⟩
  ·rw[k]at ha;cases ha
  rw[k]at ha;cases ha
  simp only at Kd
  refine⟨fun kk hk e=>?_,fun ad v kk e=>?_⟩
  ·simp only[Loc.cell.injEq]at e
   exact hw Kd kk (h.m.inj x (.done kk) hx hk e)
  simp only[Loc.cell.injEq]at e
  intro hv
  exact(h.m.app _ v _ hv).2.2 x hx e.symm
 ·obtain⟨e,Km,rfl⟩:=cg aF
  rcases(he e Km).touch with k|⟨x,wr,hx,k,hw⟩
  ·rw[k]at ha;cases ha
  rw[k]at ha;cases ha;cases hk
 rcases hq with hq|hq
 ·exact .inl hq
 right
 intro j op a hj aF ha
 have hjx:(MemOp.ofEvents i fn pos es)[j-t.size]?=some op:=by
  rw[Array.getElem?_append]at aF
  simpa [Nat.not_lt.2 hj]using aF
 rw[ofEvents_eq,Array.getElem?_map]at hjx
 obtain⟨e,Yu,rfl⟩:=Option.map_eq_some_iff.1 hjx
 have Km:e∈es:=Array.mem_of_getElem? Yu
 simp only at ha
 rcases hq _ e Yu with k|⟨k,kd⟩
 ·rw[k]at ha;cases ha
 rcases(he e Km).touch with k2|⟨x,wr,hx,k2,hw⟩
 ·rw[k2]at ha;cases ha
 rw[k2]at ha;cases ha
 have ZF:e.loc= .cell (E.sc x):=by
  rcases he e Km with⟨x',wr',GN,rfl,_⟩|⟨m,s',b',rfl,hm,_⟩
  ·simp only[MemAct.ofEvent,MemAct.touch?,Option.some.injEq,Touch.mk.injEq]at k2
   exact k2.1
  have Ki:(MemAct.ofEvent ⟨.mark m,s',b'⟩).touch?=none:=hm
  rw[Ki]at k2;cases k2
 refine⟨rfl,by rw[<-ZF];exact k,?_⟩
 rintro⟨g,Xy,KB⟩
 have Oi:j-t.size<=es.size:=by
  have:=(Array.getElem?_eq_some_iff.1 Yu).1;omega
 have fP:g=i:=by
  unfold Trace.g? at Xy
  rw[aF]at Xy
  simp at Xy
  exact Xy.symm
 subst fP
 have:=deaf_inside t g fn pos es (j-t.size) Oi
 rw[show t.size+(j-t.size)=j by omega,KB]at this
 have fD:Deaf t g=(G.th g).deaf:=h.t.deaf g hi
 rw[fD]at this
 omega
theorem EK.set(h:EK E G w){x:SC}(hx:x.ok E.K)(v:Value)(hv: ∀y,y.ok E.K->G'.val y=if y=x then v else G.val y)(ha:G'.app=G.app)(hc:G'.cl=G.cl):EK E G' (w.setCell (E.sc x) v):=by
 obtain⟨Ko,hfx⟩:=h.sync x hx
 have other: ∀a,a≠E.sc x->(w.setCell (E.sc x) v).cell? a=w.cell? a:=by
  intro a cb
  unfold World.setCell World.cell?
  by_cases hb:(E.sc x).block=a.block
  ·simp only[Array.getElem?_modify,hb,if_true]
   unfold World.cell? at Ko
   rw[hb]at Ko
   split at Ko
   ·rename_i c e f hh
    rw[hh]
    simp only[Option.map_some]
    by_cases hs:a.spot.isSome=true
    ·simp[hs]
    split at Ko
    ·cases Ko
    rename_i pR
    have ho:(E.sc x).off≠a.off:=fun ho=>cb (by
     have h1:(E.sc x).spot=none:=by simpa using pR
     have h2:a.spot=none:=by simpa using hs
     cases hA:E.sc x
     rw[hA]at hb ho h1
     cases a
     simp_all)
    simp[hs,pR,Array.getElem?_setIfInBounds_ne ho]
   cases Ko
  simp only[Array.getElem?_modify,if_neg hb]
 have XJ: ∀a,(w.setCell (E.sc x) v).frozen? a=w.frozen? a:=by
  intro a
  unfold World.setCell World.frozen?
  by_cases hb:(E.sc x).block=a.block
  ·simp only[Array.getElem?_modify,hb,if_true]
   cases w.heap[a.block]? with
   |none=>rfl
   |some o=>cases o<;>rfl
  simp only[Array.getElem?_modify,if_neg hb]
 have self:(w.setCell (E.sc x) v).cell? (E.sc x)=some v:=by
  unfold World.cell? at Ko
  unfold World.setCell World.cell?
  simp only[Array.getElem?_modify,if_true]
  split at Ko
  ·rename_i c e f hh
   rw[hh]
   split at Ko
   ·cases Ko
   rename_i pR
   simp only[Option.map_some,pR]
   have:=(Array.getElem?_eq_some_iff.1 Ko).1
   simp[this]
  cases Ko
 refine⟨fun y hy=>?_,fun a v' d dG=>?_,h.inj,fun hC=>?_,h.tape,h.output,h.os,fun b hb=>(h.keep b hb).tr (by
  unfold World.setCell
  simp only[Array.getElem?_modify,if_neg ((h.keep b hb).sc x hx)]) ha⟩
 ·rw[XJ,hv y hy]
  by_cases e:y=x
  ·subst e;rw[if_pos rfl];exact⟨self,hfx⟩
  rw[if_neg e,other _ (fun q=>e (h.inj y x hy hx q))];exact h.sync y hy
 ·rw[ha]at dG
  obtain⟨a1,a2,a3⟩:=h.app a v' d dG
  rw[XJ,other a (a3 x hx)]
  exact⟨a1,a2,a3⟩
 obtain⟨⟨s,r,c1⟩,c2,c3⟩:=h.chan hC
 rw[ha,hc]
 refine⟨⟨s,r,?_⟩,c2,c3⟩
 unfold World.setCell
 simp only[Array.getElem?_modify,if_neg (c2 x hx)]
 exact c1
theorem aD(w:World)(a:Addr)(v:Value):(w.setCell a v).heap.size=w.heap.size:=by simp[World.setCell]
theorem GI.bU(h:GI E G w t){x:SC}(hx:x.ok E.K)(v:Value)(j:Nat)(hj:(G.th j).af=true):View (G.th j).ai w (w.setCell (E.sc x) v):=by
 refine⟨by rw[aD];exact Nat.le_refl _,fun b hb=>?_⟩
 have:=(h.s.qT j b hj hb).1 x hx
 unfold World.setCell
 simp only[Array.getElem?_modify,if_neg this]
end Go.Co

namespace Go.Co
open Go Go.Conc
open Go.ConcM (OsLater)
open Go.ConcN (sumTo upd sumTo_upd upd_ne upd_same sumTo_congr le_sumTo sumTo_le)
variable{E:Geo}{G G':Gh}{w w':World}{t u:Trace}{B B':Nat}
theorem uv{k:Nat}{f g:Nat->Nat}(h: ∀j,j≠k->f j=g j): ∀ {n:Nat},k<n->sumTo n f+g k=sumTo n g+f k
 |n+1,hk=>by
  by_cases e:k=n
  ·subst e
   simp only[sumTo]
   rw[sumTo_congr (g:=g) fun j hj=>h j (by omega)]
   omega
  simp only[sumTo]
  have:=uv h (n:=n) (by omega)
  rw[h n (fun q=>e q.symm)]
  omega
def Gh.St(G:Gh)(k:Nat):Nat:=sumTo G.n fun j=>(G.th j).bh k (G.wd k)
theorem MK(l:Lo)(k:Nat)(x:Wd):l.bh k x<=l.fg:=by
 unfold Lo.bh Lo.fg
 split
 ·split
  ·rename_i h;rw[h.1];exact Nat.le_refl _
  exact Nat.zero_le _
 exact Nat.zero_le _
theorem iJ{f g:Nat->Nat}: ∀ {n:Nat},(∀j,j<n->f j<=g j)->sumTo n f<=sumTo n g
 |0,_=>Nat.le_refl _
 |n+1,h=>by
  have:=iJ (n:=n) fun j hj=>h j (by omega)
  have:=h n (by omega)
  simp only[sumTo];omega
theorem EX.We(h:EX E G)(k:Nat):G.St k<=48:=by
 have:=iJ (n:=G.n) (f:=fun j=>(G.th j).bh k (G.wd k)) (g:=fun j=>(G.th j).fg) fun j _=>MK _ _ _
 have:=h.Rb
 unfold Gh.St
 omega
def N4(l:Lo)(k:Nat):Prop:=l.mr=none\/∃r,l.mr=some (k,r)
theorem N4.wt{l l':Lo}{k k':Nat}(h:N4 l k)(h':N4 l' k)(hw:l'.wk=l.wk)(hp:k'≠k->l'.aP k'=l.aP k')(hk:k'≠k):l'.wt k'=l.wt k':=by
 unfold Lo.wt
 rcases h with h|⟨r,h⟩<;>rcases h' with h'|⟨r',h'⟩<;>simp only[h,h',hw,hp hk,if_neg (Ne.symm hk)]
theorem N4.bh{l:Lo}{k k':Nat}(h:N4 l k)(hk:k'≠k)(x:Wd):l.bh k' x=0:=by
 unfold Lo.bh
 rcases h with h|⟨r,h⟩
 ·rw[h]
 rw[h];split
 ·rename_i a b c e _
  simp only[Option.some.injEq,Prod.mk.injEq]at e
  rw[if_neg (fun q=>hk (by rw[<-q.2.1,<-e.1]))]
 rfl
theorem Gh.Ta(h:EX E G){i k:Nat}{l':Lo}{x':Wd}{s':Nat}(hi:(G.th i).af=true)(hk:k<E.K)(a:N4 (G.th i) k)(a':N4 l' k)(hl:l'.af=(G.th i).af)(ic:l'.wk=(G.th i).wk)(cx:l'.gr=(G.th i).gr)
  (hp: ∀k',k'≠k->l'.aP k'=(G.th i).aP k') (mP:G'.th=upd G.th i l') (Uw:G'.wd=upd G.wd k x') (NQ:G'.sm=upd G.sm k s') (hn:G'.n=G.n) (QJ:G'.left=G.left) (vL:G'.pos=G.pos) (dt:G'.cl=G.cl) (Q3:G'.wn=G.wn):
  G'.Φ E.K E.nj+64*(G.th i).wt k+320*G.sm k+G.St k=G.Φ E.K E.nj+64*l'.wt k+320*s'+G'.St k:=by
 have ll:=(h.db i hi).1
 have e1:=fH ll G.th l' (fun l=>l.φ E.K)
 have e2:=uv (k:=k) (f:=fun k'=>64*l'.wt k') (g:=fun k'=>64*(G.th i).wt k') (fun k' cC=>by simp only[a.wt a' ic (hp k') cC]) hk
 have eφ:l'.φ E.K+64*(G.th i).wt k=(G.th i).φ E.K+64*l'.wt k:=by
  have hb:l'.busy=(G.th i).busy:=by unfold Lo.busy;rw[hl,ic,cx]
  have UJ:l'.ba=(G.th i).ba:=by unfold Lo.ba;rw[hl,cx]
  unfold Lo.φ
  rw[hl,if_pos hi,if_pos hi,hb,UJ,cx]
  omega
 have dI: ∀k',k'≠k->(sumTo G.n fun j=>(upd G.th i l' j).bh k' (upd G.wd k x' k'))=sumTo G.n fun j=>(G.th j).bh k' (G.wd k'):=fun k' cC=>by
  rw[upd_ne _ _ cC]
  exact bI (φ:=fun l=>l.bh k' (G.wd k')) (by simp only[a'.bh cC,a.bh cC])
 have e3:=uv (k:=k) (f:=fun k'=>320*(upd G.sm k s') k'+sumTo G.n fun j=>(upd G.th i l' j).bh k' (upd G.wd k x' k')) (g:=fun k'=>320*G.sm k'+sumTo G.n fun j=>(G.th j).bh k' (G.wd k'))
  (fun k' cC=>by have:=dI k' cC;simp only[upd_ne _ _ cC]at this ⊢;rw[this]) hk
 simp only[upd_same]at e3
 have e4:(upd G.th i l' 0).aO G.wn=(G.th 0).aO G.wn:=aW (fun l=>l.aO G.wn) (by simp only[Lo.aO,cx]) 0
 unfold Gh.Φ Gh.St
 rw[mP,Uw,NQ,hn,QJ,vL,dt,Q3,e4]
 simp only[upd_same]at e1 e3 ⊢
 omega
theorem GI.mutex(h:GI E G w t){i k:Nat}{a b:Option Ro}{x':Wd}{s':Nat}{o':Option Wd}{es:Array Event}(fn:FuncId)(pos:String)(hi:(G.th i).af=true)(dQ:i≠0)(hk:k<E.K)(ee:(G.th i).mr=a.map (k,·))
  (Og: ∀c',Mv (G.cnt k) c' a b->gl x' s' c') (bP:(G.th i).ch= .no) (cx:(G.th i).gr= .out) (aS:(G.th i).run=none\/b=some .held)
  (hw:(w'=w/\x'=G.wd k/\s'=G.sm k)\/(w'=w.setCell (E.sc (.word k)) (.int .i32 x'.enc)/\s'=G.sm k)\/(w'=w.setCell (E.sc (.sema k)) (.int .u32 s')/\x'=G.wd k))
  (he: ∀e∈es,wN E e) (aJ:(G.th i).rel=none):
  ∃G':Gh,G'={G with th:=upd G.th i {G.th i with mr:=b.map (k,·),old:=o',deaf:=deafBehind (G.th i).deaf es},wd:=upd G.wd k x',sm:=upd G.sm k s'}/\GI E G' w' (t++MemOp.ofEvents i fn pos es)/\
   (∀j,(G.th j).af=true->View (G.th j).ai w w')/\
   G'.Φ E.K E.nj+64*(G.th i).wt k+320*G.sm k+G.St k=G.Φ E.K E.nj+64*(G'.th i).wt k+320*s'+G'.St k/\G'.St k<=48:=by
 refine⟨_,rfl,?_⟩
 have UU:N4 (G.th i) k:=by cases a with
  |none=>exact .inl ee
  |some r=>exact .inr ⟨_,ee⟩
 have VG:N4 {G.th i with mr:=b.map (k,·),old:=o',deaf:=deafBehind (G.th i).deaf es} k:=by cases b with
  |none=>exact .inl rfl
  |some r=>exact .inr ⟨_,rfl⟩
 have ll:=(h.a.db i hi).1
 have fY:w'.heap.size=w.heap.size:=by
  rcases hw with⟨rfl,_⟩|⟨rfl,_⟩|⟨rfl,_⟩
  ·rfl
  ·exact aD ..
  exact aD ..
 have yZ:EX E {G with th:=upd G.th i {G.th i with mr:=b.map (k,·),old:=o',deaf:=deafBehind (G.th i).deaf es},wd:=upd G.wd k x',sm:=upd G.sm k s'}:=h.a.tr rfl rfl fun j=>aW Lo.af (by rfl) j
 refine⟨⟨yZ,?_,?_,?_,?_,?_,h.more,?_⟩,fun j hj=>?_,?_,yZ.We k⟩
 ·refine h.s.tr (by rw[fY];exact Nat.le_refl _) (fun ad v hv=>⟨v,hv⟩) fun j hj=>⟨?_,aW Lo.ai (by rfl) j⟩
  have:(upd G.th i {G.th i with mr:=b.map (k,·),old:=o',deaf:=deafBehind (G.th i).deaf es} j).af=true:=hj
  rw[aW Lo.af (by rfl) j]at this;exact this
 ·have vJ: ∀y,y≠ .word k->y≠ .sema k->Gh.val {G with th:=upd G.th i {G.th i with mr:=b.map (k,·),old:=o',deaf:=deafBehind (G.th i).deaf es},wd:=upd G.wd k x',sm:=upd G.sm k s'} y=G.val y:=by
   intro y h1 h2
   cases y with
   |word k'=>show Value.int .i32 (upd G.wd k x' k').enc=_;rw[upd_ne _ _ (fun e=>h1 (by rw[e]))];rfl
   |sema k'=>show Value.int .u32 ((upd G.sm k s' k':Nat):Int)=_;rw[upd_ne _ _ (fun e=>h2 (by rw[e]))];rfl
   |_=>rfl
  rcases hw with⟨rfl,hx,hs⟩|⟨rfl,hs⟩|⟨rfl,hx⟩
  ·refine h.m.tr (fun y=>?_) rfl rfl
   by_cases e1:y= .word k
   ·subst e1;show Value.int .i32 (upd G.wd k x' k).enc=Value.int .i32 (G.wd k).enc;rw[upd_same,hx]
   by_cases e2:y= .sema k
   ·subst e2;show Value.int .u32 ((upd G.sm k s' k:Nat):Int)=Value.int .u32 (G.sm k);rw[upd_same,hs]
   exact vJ y e1 e2
  ·refine h.m.set (x:=.word k) hk _ (fun y _=>?_) rfl rfl
   by_cases e1:y= .word k
   ·subst e1;rw[if_pos rfl];show Value.int .i32 (upd G.wd k x' k).enc=_;rw[upd_same]
   rw[if_neg e1]
   by_cases e2:y= .sema k
   ·subst e2;show Value.int .u32 ((upd G.sm k s' k:Nat):Int)=Value.int .u32 (G.sm k);rw[upd_same,hs]
   exact vJ y e1 e2
  refine h.m.set (x:=.sema k) hk _ (fun y _=>?_) rfl rfl
  by_cases e1:y= .sema k
  ·subst e1;rw[if_pos rfl];show Value.int .u32 ((upd G.sm k s' k:Nat):Int)=_;rw[upd_same]
  rw[if_neg e1]
  by_cases e2:y= .word k
  ·subst e2;show Value.int .i32 (upd G.wd k x' k).enc=Value.int .i32 (G.wd k).enc;rw[upd_same,hx]
  exact vJ y e2 e1
 ·-- NM mutexes
  have E9:Mv (G.cnt k) (Gh.cnt {G with th:=upd G.th i {G.th i with mr:=b.map (k,·),old:=o',deaf:=deafBehind (G.th i).deaf es},wd:=upd G.wd k x',sm:=upd G.sm k s'} k) a b:=by
   intro r
   have:=fH ll G.th {G.th i with mr:=b.map (k,·),old:=o',deaf:=deafBehind (G.th i).deaf es} (fun l=>l.at k r)
   have e1:(G.th i).at k r=iq a r:=by
    unfold Lo.at iq;rw[ee,hi];cases a<;>simp
   have e2:({G.th i with mr:=b.map (k,·),old:=o',deaf:=deafBehind (G.th i).deaf es}:Lo).at k r=iq b r:=by
    unfold Lo.at iq;simp only[hi];cases b<;>simp
   rw[e1,e2]at this
   exact this
  have rU: ∀k',k'≠k->Gh.cnt {G with th:=upd G.th i {G.th i with mr:=b.map (k,·),old:=o',deaf:=deafBehind (G.th i).deaf es},wd:=upd G.wd k x',sm:=upd G.sm k s'} k'=G.cnt k':=by
   intro k' cC
   funext r
   refine bI (φ:=fun l=>l.at k' r) ?_
   have z: ∀l:Lo,N4 l k->l.at k' r=0:=fun l hl=>by
    unfold Lo.at
    rcases hl with hl|⟨r',hl⟩
    ·rw[hl];simp
    rw[hl,if_neg (fun q=>by simp at q;exact cC q.2.1.symm)]
   simp only[z _ UU,z _ VG]
  have bq: ∀j,(upd G.th i {G.th i with mr:=b.map (k,·),old:=o',deaf:=deafBehind (G.th i).deaf es} j).af=(G.th j).af:=fun j=>aW Lo.af (by rfl) j
  have AU: ∀j,(upd G.th i {G.th i with mr:=b.map (k,·),old:=o',deaf:=deafBehind (G.th i).deaf es} j).run=(G.th j).run:=fun j=>aW Lo.run (by rfl) j
  have UE: ∀j,(upd G.th i {G.th i with mr:=b.map (k,·),old:=o',deaf:=deafBehind (G.th i).deaf es} j).aP=(G.th j).aP:=fun j=>aW Lo.aP (by rfl) j
  have yX: ∀j,(upd G.th i {G.th i with mr:=b.map (k,·),old:=o',deaf:=deafBehind (G.th i).deaf es} j).kn=(G.th j).kn:=fun j=>aW Lo.kn (by rfl) j
  refine⟨fun k' cC=>?_,fun j k' r hj hm=>?_,fun j k' hj hr=>?_,fun j k' hj hp=>?_,fun ad v k' hv=>?_,h.k.qU,fun j ad v hj hv=>?_,fun a v k hv=>by rw[show(Gh.th _ 0).aP=_ from UE 0];exact h.k.mT a v k hv⟩
  ·by_cases e:k'=k
   ·subst e
    show gl (upd G.wd k' x' k') (upd G.sm k' s' k') _
    rw[upd_same,upd_same]
    exact Og _ E9
   show gl (upd G.wd k x' k') (upd G.sm k s' k') _
   rw[upd_ne _ _ e,upd_ne _ _ e,rU k' e]
   exact h.k.mu k' cC
  ·have kg:(G.th j).af=true:=by rw[<-bq];exact hj
   by_cases e:j=i
   ·subst e
    have:(upd G.th j {G.th j with mr:=b.map (k,·),old:=o',deaf:=deafBehind (G.th j).deaf es} j).mr=some (k',r):=hm
    rw[upd_same]at this
    cases b with
    |none=>cases this
    |some rb=>simp at this;exact⟨by omega,dQ⟩
   have:(upd G.th i {G.th i with mr:=b.map (k,·),old:=o',deaf:=deafBehind (G.th i).deaf es} j).mr=some (k',r):=hm
   rw[upd_ne _ _ e]at this
   exact h.k.CE j k' r kg this
  ·have kg:(G.th j).af=true:=by rw[<-bq];exact hj
   have lX:(G.th j).run=some k':=by rw[<-AU];exact hr
   obtain⟨r1,r2⟩:=h.k.run j k' kg lX
   refine⟨?_,r2⟩
   show(upd G.th i {G.th i with mr:=b.map (k,·),old:=o',deaf:=deafBehind (G.th i).deaf es} j).mr=_
   by_cases e:j=i
   ·subst e
    rw[upd_same]
    rcases aS with aS|rfl
    ·rw[aS]at lX;cases lX
    rw[ee]at r1
    cases a with
    |none=>cases r1
    |some ra=>simp at r1;simp[r1.1]
   rw[upd_ne _ _ e];exact r1
  ·exact h.k.aP j k' (by rw[<-bq];exact hj) (by rw[<-UE];exact hp)
  ·obtain⟨p1,p2,p3⟩:=h.k.bM ad v k' hv
   refine⟨p1,p2,?_⟩
   rcases p3 with⟨j,q1,q2,q3⟩|⟨q1,q2⟩
   ·exact .inl ⟨j,by rw[show(Gh.th _ j).af=_ from bq j];exact q1,by rw[show(Gh.th _ j).run=_ from AU j];exact q2,by rw[show(Gh.th _ j).kn=_ from yX j];exact q3⟩
   exact .inr ⟨fun j hj=>by rw[show(Gh.th _ j).run=_ from AU j];exact q1 j (by rw[<-bq];exact hj),q2⟩
  have:=h.k.kn j ad v (by rw[<-bq];exact hj) (by rw[<-yX];exact hv)
  rw[show(Gh.th _ j).run=_ from AU j,show(Gh.th _ j).aP=_ from UE j]
  exact this
 ·exact h.g.tr rfl rfl rfl rfl rfl rfl fun j=>⟨aW Lo.af (by rfl) j,aW Lo.wk (by rfl) j,aW Lo.gr (by rfl) j⟩
 ·-- NM rT
  have bq: ∀j,(upd G.th i {G.th i with mr:=b.map (k,·),old:=o',deaf:=deafBehind (G.th i).deaf es} j).af=(G.th j).af:=fun j=>aW Lo.af (by rfl) j
  have OB: ∀j,(upd G.th i {G.th i with mr:=b.map (k,·),old:=o',deaf:=deafBehind (G.th i).deaf es} j).gr=(G.th j).gr:=fun j=>aW Lo.gr (by rfl) j
  have R9: ∀j,(upd G.th i {G.th i with mr:=b.map (k,·),old:=o',deaf:=deafBehind (G.th i).deaf es} j).ch=(G.th j).ch:=fun j=>aW Lo.ch (by rfl) j
  have CA: ∀j,(upd G.th i {G.th i with mr:=b.map (k,·),old:=o',deaf:=deafBehind (G.th i).deaf es} j).bZ=(G.th j).bZ:=fun j=>aW Lo.bZ (by rfl) j
  refine⟨fun hC j hj=>?_,fun j v hj hv=>?_,fun j hj hv=>?_,h.j.cl,h.j.CO,fun r=>?_,fun j jj hj ov=>?_,h.j.EL,fun c1 c2 j hj=>?_,h.j.any,?_,fun j hj hm=>?_,?_,fun j hj hs=>?_⟩
  ·rw[show(Gh.th _ j).ch=_ from R9 j];exact h.j.Iw hC j (by rw[<-bq];exact hj)
  ·rw[show(Gh.th _ j).gr=_ from OB j];exact h.j.EV j v (by rw[<-bq];exact hj) (by rw[<-R9];exact hv)
  ·have kg:(G.th j).af=true:=by rw[<-bq];exact hj
   have dG:(G.th j).ch= .recv:=by rw[<-R9];exact hv
   have e:j≠i:=by rintro rfl;rw[bP]at dG;cases dG
   show j≠0/\(∀jj,(upd G.th i {G.th i with mr:=b.map (k,·),old:=o',deaf:=deafBehind (G.th i).deaf es} j).bZ=some jj->E.rs jj=none)/\(upd G.th i {G.th i with mr:=b.map (k,·),old:=o',deaf:=deafBehind (G.th i).deaf es} j).mr=none/\(upd G.th i {G.th i with mr:=b.map (k,·),old:=o',deaf:=deafBehind (G.th i).deaf es} j).gr= .out
   rw[upd_ne _ _ e]
   exact h.j.Kv j kg dG
  ·have:(sumTo G.n fun j=>(upd G.th i {G.th i with mr:=b.map (k,·),old:=o',deaf:=deafBehind (G.th i).deaf es} j).holds E.rs r)=sumTo G.n fun j=>(G.th j).holds E.rs r:=bI (φ:=fun l=>l.holds E.rs r) rfl
   show G.cv r+(sumTo G.n fun j=>(upd G.th i {G.th i with mr:=b.map (k,·),old:=o',deaf:=deafBehind (G.th i).deaf es} j).holds E.rs r)=_
   rw[this];exact h.j.cnt r
  ·exact h.j.rT j jj (by rw[<-bq];exact hj) (by rw[<-CA];exact ov)
  ·rw[show(Gh.th _ j).af=_ from bq j,show(Gh.th _ j).gr=_ from OB j];exact h.j.stay c1 c2 j hj
  ·intro c;rw[show(Gh.th _ 0).gr=_ from OB 0];exact h.j.qw c
  ·rw[show(Gh.th _ j).gr=_ from OB j]
   by_cases e:j=i
   ·subst e;exact cx
   refine h.j.NN j (by rw[<-bq];exact hj) ?_
   have:(upd G.th i {G.th i with mr:=b.map (k,·),old:=o',deaf:=deafBehind (G.th i).deaf es} j).mr≠none:=hm
   rw[upd_ne _ _ e]at this;exact this
  ·rw[show(Gh.th _ 0).me=(G.th 0).me from aW (i:=i) (l:={G.th i with mr:=b.map (k,·),old:=o',deaf:=deafBehind (G.th i).deaf es}) Lo.me (by rfl) 0];exact h.j.me
  exact h.j.sc j (by rw[<-bq];exact hj) (by rw[<-aW (i:=i) (l:={G.th i with mr:=b.map (k,·),old:=o',deaf:=deafBehind (G.th i).deaf es}) Lo.sc (by rfl) j];exact hs)
 ·rw[fY]
  refine h.cJ fn pos hi he ⟨rfl,rfl,rfl,rfl,fun j=>⟨aW Lo.af (by rfl) j,aW Lo.ai (by rfl) j,aW Lo.run (by rfl) j,aW Lo.aP (by rfl) j,aW Lo.rel (by rfl) j,?_,?_⟩⟩ (fun j=>?_) (.inl aJ)
  ·rw[show(Gh.th _ j).gr=(G.th j).gr from aW (i:=i) (l:={G.th i with mr:=b.map (k,·),old:=o',deaf:=deafBehind (G.th i).deaf es}) Lo.gr (by rfl) j]
  ·rw[show(Gh.th _ j).gr=(G.th j).gr from aW (i:=i) (l:={G.th i with mr:=b.map (k,·),old:=o',deaf:=deafBehind (G.th i).deaf es}) Lo.gr (by rfl) j]
  show(upd G.th i {G.th i with mr:=b.map (k,·),old:=o',deaf:=deafBehind (G.th i).deaf es} j).deaf=_
  by_cases e:j=i
  ·subst e;rw[upd_same,if_pos rfl]
  rw[upd_ne _ _ e,if_neg e]
 ·rcases hw with⟨rfl,_⟩|⟨rfl,_⟩|⟨rfl,_⟩
  ·exact View.refl _ _
  ·exact h.bU (x:=.word k) hk _ j hj
  exact h.bU (x:=.sema k) hk _ j hj
 have:=Gh.Ta (E:=E) (G':={G with th:=upd G.th i {G.th i with mr:=b.map (k,·),old:=o',deaf:=deafBehind (G.th i).deaf es},wd:=upd G.wd k x',sm:=upd G.sm k s'}) h.a hi hk UU VG rfl rfl rfl (fun _ _=>rfl) rfl rfl rfl rfl rfl rfl rfl rfl
 have e:(Gh.th {G with th:=upd G.th i {G.th i with mr:=b.map (k,·),old:=o',deaf:=deafBehind (G.th i).deaf es},wd:=upd G.wd k x',sm:=upd G.sm k s'} i)={G.th i with mr:=b.map (k,·),old:=o',deaf:=deafBehind (G.th i).deaf es}:=upd_same _ _ _
 rw[e]
 exact this
end Go.Co

namespace Go.Co
open Go Go.Conc
open Go.ConcM (OsLater)
open Go.ConcN (sumTo upd sumTo_upd upd_ne upd_same sumTo_congr le_sumTo sumTo_le)
variable{E:Geo}{G G':Gh}{w w':World}{t t' u:Trace}{B B':Nat}
structure Xe(l l':Lo):Prop where
 af:l'.af=l.af
 wk:l'.wk=l.wk
 ai:l'.ai=l.ai
 mr:l'.mr=l.mr
 old:l'.old=l.old
 run:l'.run=l.run
 rel:l'.rel=l.rel
 gr:l'.gr=l.gr
 bZ:l'.bZ=l.bZ
 me:l'.me=l.me
 sc:l'.sc=l.sc
theorem GI.XY(h:GI E G w t){i:Nat}{l':Lo}(hi:(G.th i).af=true)(s:Xe (G.th i) l')(dR: ∀k,l'.aP k=true->(G.th i).aP k=true\/(k<E.K/\G.dn k=true))(UD: ∀k,(G.th i).aP k=true->l'.aP k=true)
  (yX: ∀a v,l'.kn a=some v->(G.th i).kn a=some v\/∃d,G.app a=some (v,d)/\(d= .ro\/(∃k,d= .dq k/\l'.aP k=true)\/∃k,d= .bM k/\l'.run=some k)) (hkm: ∀a v,(G.th i).kn a=some v->l'.kn a=some v)
  (bP:l'.ch=(G.th i).ch\/l'.ch= .no\/(l'.ch= .recv/\E.eg=true/\i≠0/\(∀j,(G.th i).bZ=some j->E.rs j=none)/\(G.th i).mr=none/\(G.th i).gr= .out)\/
   (∃v,l'.ch= .send v/\E.eg=true/\i=0/\G.pos<E.nj/\v=E.jv G.pos/\G.cl=false/\G.left=0/\(G.th i).gr= .out))
  (hm:EK E G w') (hB:w'.heap.size=w.heap.size) (ht:AW E {G with th:=upd G.th i l'} w.heap.size t'):
  GI E {G with th:=upd G.th i l'} w' t'/\Gh.Φ E.K E.nj {G with th:=upd G.th i l'}<=G.Φ E.K E.nj:=by
 have bq: ∀j,(upd G.th i l' j).af=(G.th j).af:=fun j=>aW Lo.af s.af j
 have cx: ∀j,(upd G.th i l' j).gr=(G.th j).gr:=fun j=>aW Lo.gr s.gr j
 have ee: ∀j,(upd G.th i l' j).mr=(G.th j).mr:=fun j=>aW Lo.mr s.mr j
 have CA: ∀j,(upd G.th i l' j).bZ=(G.th j).bZ:=fun j=>aW Lo.bZ s.bZ j
 have AU: ∀j,(upd G.th i l' j).run=(G.th j).run:=fun j=>aW Lo.run s.run j
 have UE: ∀j k,(upd G.th i l' j).aP k=true->(G.th j).aP k=true\/(j=i/\k<E.K/\G.dn k=true):=fun j k hp=>by
  by_cases e:j=i
  ·subst e;rw[upd_same]at hp;exact(dR k hp).imp id fun x=>⟨rfl,x⟩
  rw[upd_ne _ _ e]at hp;exact .inl hp
 have hpb: ∀j k,(G.th j).aP k=true->(upd G.th i l' j).aP k=true:=fun j k hp=>by
  by_cases e:j=i
  ·subst e;rw[upd_same];exact UD k hp
  rw[upd_ne _ _ e];exact hp
 have ZJ: ∀j a v,(G.th j).kn a=some v->(upd G.th i l' j).kn a=some v:=fun j a v hp=>by
  by_cases e:j=i
  ·subst e;rw[upd_same];exact hkm a v hp
  rw[upd_ne _ _ e];exact hp
 refine⟨⟨h.a.tr rfl rfl bq,?_,hm.tr (fun x=>by cases x<;>rfl) rfl rfl,?_,h.g.tr rfl rfl rfl rfl rfl rfl fun j=>⟨bq j,aW Lo.wk s.wk j,cx j⟩,?_,h.more,by rw[hB];exact ht⟩,?_⟩
 ·rw[hB]
  refine h.s.tr (Nat.le_refl _) (fun a v hv=>⟨v,hv⟩) fun j hj=>⟨?_,aW Lo.ai s.ai j⟩
  have:(upd G.th i l' j).af=true:=hj
  rw[bq]at this;exact this
 ·refine⟨fun k hk=>?_,fun j k r hj hm=>?_,fun j k hj hr=>?_,fun j k hj hp=>?_,fun a v k hv=>?_,h.k.qU,fun j a v hj hv=>?_,fun a v k hv=>(h.k.mT a v k hv).imp id (hpb 0 k)⟩
  ·have:Gh.cnt {G with th:=upd G.th i l'} k=G.cnt k:=by
    funext r
    exact bI (φ:=fun l=>l.at k r) (by simp only[Lo.at,s.af,s.mr])
   rw[this];exact h.k.mu k hk
  ·exact h.k.CE j k r (by rw[<-bq];exact hj) (by rw[<-ee];exact hm)
  ·have:=h.k.run j k (by rw[<-bq];exact hj) (by rw[<-AU];exact hr)
   rw[show(Gh.th _ j).mr=_ from ee j];exact this
  ·rcases UE j k hp with x|⟨_,x⟩
   ·exact h.k.aP j k (by rw[<-bq];exact hj) x
   exact .inl x
  ·obtain⟨p1,p2,p3⟩:=h.k.bM a v k hv
   refine⟨p1,p2,?_⟩
   rcases p3 with⟨j,q1,q2,q3⟩|⟨q1,q2⟩
   ·exact .inl ⟨j,by rw[show(Gh.th _ j).af=_ from bq j];exact q1,by rw[show(Gh.th _ j).run=_ from AU j];exact q2,ZJ j a v q3⟩
   exact .inr ⟨fun j hj=>by rw[show(Gh.th _ j).run=_ from AU j];exact q1 j (by rw[<-bq];exact hj),q2⟩
  have kg:(G.th j).af=true:=by rw[<-bq];exact hj
  by_cases e:j=i
  ·subst e
   have dG:l'.kn a=some v:=by
    have:(upd G.th j l' j).kn a=some v:=hv
    rw[upd_same]at this;exact this
   show ∃d,G.app a=some (v,d)/\(d= .ro\/(∃k,d= .dq k/\(upd G.th j l' j).aP k=true)\/∃k,d= .bM k/\(upd G.th j l' j).run=some k)
   rw[upd_same]
   rcases yX a v dG with x|x
   ·obtain⟨d,d1,d2⟩:=h.k.kn j a v kg x
    refine⟨d,d1,d2.imp id (.imp (fun⟨k,k1,k2⟩=>⟨k,k1,UD k k2⟩) fun⟨k,k1,k2⟩=>⟨k,k1,by rw[s.run];exact k2⟩)⟩
   exact x
  have dG:(G.th j).kn a=some v:=by
   have:(upd G.th i l' j).kn a=some v:=hv
   rw[upd_ne _ _ e]at this;exact this
  show ∃d,G.app a=some (v,d)/\(d= .ro\/(∃k,d= .dq k/\(upd G.th i l' j).aP k=true)\/∃k,d= .bM k/\(upd G.th i l' j).run=some k)
  rw[upd_ne _ _ e]
  exact h.k.kn j a v kg dG
 ·refine⟨fun hC j hj=>?_,fun j v hj hv=>?_,fun j hj hv=>?_,h.j.cl,h.j.CO,fun r=>?_,fun j jj hj ov=>?_,h.j.EL,fun c1 c2 j hj=>?_,h.j.any,?_,fun j hj hm=>?_,?_,fun j hj hs=>?_⟩
  ·have kg:(G.th j).af=true:=by rw[<-bq];exact hj
   by_cases e:j=i
   ·subst e
    show(upd G.th j l' j).ch= .no
    rw[upd_same]
    rcases bP with x|x|⟨_,x,_⟩|⟨_,_,x,_⟩
    ·rw[x];exact h.j.Iw hC j kg
    ·exact x
    ·rw[hC]at x;cases x
    rw[hC]at x;cases x
   show(upd G.th i l' j).ch= .no
   rw[upd_ne _ _ e];exact h.j.Iw hC j kg
  ·have kg:(G.th j).af=true:=by rw[<-bq];exact hj
   show j=0/\G.pos<E.nj/\v=E.jv G.pos/\G.cl=false/\G.left=0/\(upd G.th i l' j).gr= .out
   rw[cx]
   by_cases e:j=i
   ·subst e
    have dG:l'.ch= .send v:=by
     have:(upd G.th j l' j).ch= .send v:=hv
     rw[upd_same]at this;exact this
    rcases bP with x|x|⟨x,_⟩|⟨v',x,_,x1,x2,x3,x4,x5,x6⟩
    ·exact h.j.EV j v kg (by rw[<-x];exact dG)
    ·rw[x]at dG;cases dG
    ·rw[x]at dG;cases dG
    rw[x]at dG;cases dG;exact⟨x1,x2,x3,x4,x5,x6⟩
   have dG:(G.th j).ch= .send v:=by
    have:(upd G.th i l' j).ch= .send v:=hv
    rw[upd_ne _ _ e]at this;exact this
   exact h.j.EV j v kg dG
  ·have kg:(G.th j).af=true:=by rw[<-bq];exact hj
   show j≠0/\(∀jj,(upd G.th i l' j).bZ=some jj->E.rs jj=none)/\(upd G.th i l' j).mr=none/\(upd G.th i l' j).gr= .out
   rw[CA,ee,cx]
   by_cases e:j=i
   ·subst e
    have dG:l'.ch= .recv:=by
     have:(upd G.th j l' j).ch= .recv:=hv
     rw[upd_same]at this;exact this
    rcases bP with x|x|⟨x,_,x1⟩|⟨v',x,_⟩
    ·exact h.j.Kv j kg (by rw[<-x];exact dG)
    ·rw[x]at dG;cases dG
    ·exact x1
    rw[x]at dG;cases dG
   have dG:(G.th j).ch= .recv:=by
    have:(upd G.th i l' j).ch= .recv:=hv
    rw[upd_ne _ _ e]at this;exact this
   exact h.j.Kv j kg dG
  ·have:(sumTo G.n fun j=>(upd G.th i l' j).holds E.rs r)=sumTo G.n fun j=>(G.th j).holds E.rs r:=bI (φ:=fun l=>l.holds E.rs r) (by simp only[Lo.holds,s.bZ,s.af])
   show G.cv r+(sumTo G.n fun j=>(upd G.th i l' j).holds E.rs r)=_
   rw[this];exact h.j.cnt r
  ·exact h.j.rT j jj (by rw[<-bq];exact hj) (by rw[<-CA];exact ov)
  ·rw[show(Gh.th _ j).af=_ from bq j,show(Gh.th _ j).gr=_ from cx j];exact h.j.stay c1 c2 j hj
  ·intro c;rw[show(Gh.th _ 0).gr=_ from cx 0];exact h.j.qw c
  ·rw[show(Gh.th _ j).gr=_ from cx j]
   exact h.j.NN j (by rw[<-bq];exact hj) (by rw[<-ee];exact hm)
  ·rw[show(Gh.th _ 0).me=(G.th 0).me from aW (i:=i) (l:=l') Lo.me s.me 0];exact h.j.me
  exact h.j.sc j (by rw[<-bq];exact hj) (by rw[<-aW (i:=i) (l:=l') Lo.sc s.sc j];exact hs)
 have ll:=(h.a.db i hi).1
 have Ob: ∀k,l'.wt k<=(G.th i).wt k:=fun k=>by
  unfold Lo.wt
  rw[s.mr,s.wk]
  have:(if(G.th i).wk=true/\l'.aP k=false then 15 else 0)<=(if(G.th i).wk=true/\(G.th i).aP k=false then 15 else 0):=by
   by_cases e:(G.th i).aP k=true
   ·simp[UD k e]
   have:(G.th i).aP k=false:=by simpa using e
   rw[this];split<;>split<;>simp_all
  split
  ·split
   ·exact Nat.le_refl _
   exact this
  exact this
 have e1:=fH ll G.th l' (fun l=>l.φ E.K)
 have e2:l'.φ E.K<=(G.th i).φ E.K:=by
  have hb:l'.busy=(G.th i).busy:=by unfold Lo.busy;rw[s.af,s.wk,s.gr]
  have UJ:l'.ba=(G.th i).ba:=by unfold Lo.ba;rw[s.af,s.gr]
  have:=iJ (n:=E.K) (f:=fun k=>64*l'.wt k) (g:=fun k=>64*(G.th i).wt k) fun k _=>Nat.mul_le_mul_left _ (Ob k)
  unfold Lo.φ
  rw[s.af,if_pos hi,if_pos hi,hb,UJ,s.gr]
  omega
 have e3: ∀k',(sumTo G.n fun j=>(upd G.th i l' j).bh k' (G.wd k'))=sumTo G.n fun j=>(G.th j).bh k' (G.wd k'):=fun k'=>bI (φ:=fun l=>l.bh k' (G.wd k')) (by simp only[Lo.bh,s.mr,s.old,s.af])
 have e4:(upd G.th i l' 0).aO G.wn=(G.th 0).aO G.wn:=aW (fun l=>l.aO G.wn) (by simp only[Lo.aO,s.gr]) 0
 unfold Gh.Φ
 simp only[e3,e4]
 omega
theorem GI.said(h:GI E G w t){i:Nat}{es:Array Event}(fn:FuncId)(pos:String)(hi:(G.th i).af=true)(he: ∀e∈es,wN E e)(hh:w'.heap=w.heap)(h1:w'.tape=w.tape)(h2:w'.output=w.output)(h3:OsLater w.os w'.os)
  (hq:(G.th i).rel=none\/∀j e,es[j]?=some e->(MemAct.ofEvent e).touch?=none\/((e.loc= .cell (E.sc .bG)\/e.loc= .cell (E.sc .fX))/\0<deafBehind (G.th i).deaf (es.extract 0 j))):
  GI E {G with th:=upd G.th i {G.th i with deaf:=deafBehind (G.th i).deaf es}} w' (t++MemOp.ofEvents i fn pos es)/\Gh.Φ E.K E.nj {G with th:=upd G.th i {G.th i with deaf:=deafBehind (G.th i).deaf es}}<=G.Φ E.K E.nj:=by
 refine h.XY hi ⟨rfl,rfl,rfl,rfl,rfl,rfl,rfl,rfl,rfl,rfl,rfl⟩ (fun k hk=>.inl hk) (fun k hk=>hk) (fun a v hv=>.inl hv) (fun a v hv=>hv) (.inl rfl) ?_ (by rw[hh]) ?_
 ·exact h.m.world (fun a _=>cE (by rw[hh])) (fun _=>by rw[hh]) h1 h2 h3 fun _ _=>by rw[hh]
 refine h.cJ fn pos hi he ⟨rfl,rfl,rfl,rfl,fun j=>⟨aW Lo.af (by rfl) j,aW Lo.ai (by rfl) j,aW Lo.run (by rfl) j,aW Lo.aP (by rfl) j,aW Lo.rel (by rfl) j,?_,?_⟩⟩ (fun j=>?_) hq
 ·rw[show(Gh.th _ j).gr=(G.th j).gr from aW (i:=i) (l:={G.th i with deaf:=deafBehind (G.th i).deaf es}) Lo.gr (by rfl) j]
 ·rw[show(Gh.th _ j).gr=(G.th j).gr from aW (i:=i) (l:={G.th i with deaf:=deafBehind (G.th i).deaf es}) Lo.gr (by rfl) j]
 show(upd G.th i {G.th i with deaf:=deafBehind (G.th i).deaf es} j).deaf=_
 by_cases e:j=i
 ·subst e;rw[upd_same,if_pos rfl]
 rw[upd_ne _ _ e,if_neg e]
end Go.Co

namespace Go.Co
open Go Go.Conc
open Go.ConcM (OsLater)
open Go.ConcN (sumTo upd sumTo_upd upd_ne upd_same sumTo_congr le_sumTo sumTo_le)
variable{E:Geo}{G G':Gh}{w w':World}{t t' u:Trace}{B B':Nat}
structure oe(E:Geo)(i:Nat)(G G':Gh)(w w':World)(t':Trace)(l':Lo):Prop where
 gi:GI E G' w' t'
 th:G'.th i=l'
 uM: ∀j,j≠i->G'.th j=G.th j
 n:G'.n=G.n
 view: ∀j,(G.th j).af=true->j≠i->View (G.th j).ai w w'
 phi:G'.Φ E.K E.nj<=G.Φ E.K E.nj
structure Calm(E:Geo)(G G':Gh):Prop where
 pk: ∀j,G.PK E j->G'.PK E j
 cl:G'.cl=G.cl
theorem Calm.of{i:Nat}{l':Lo}(h1:G'.th=upd G.th i l')(h2:G'.sm=G.sm)(h3:G'.ws=G.ws)(h4:G'.cl=G.cl)(h5:l'.mr=(G.th i).mr)(h6:l'.gr=(G.th i).gr):Calm E G G':=by
 refine⟨fun j hj=>?_,h4⟩
 unfold Gh.PK at hj ⊢
 rw[h1,h2,h3,aW (i:=i) (l:=l') Lo.mr h5 j,aW (i:=i) (l:=l') Lo.gr h6 0]
 exact hj
theorem TI.wo{D:Oo}{B:Nat}{t:Trace}{i:Nat}{fn:FuncId}{pos:String}{e:Event}{b:Touch}(h:TI D B t)(hb:(MemAct.ofEvent e).touch?=some b)(hl:Leg D i b)(vN:(MemAct.ofEvent e).low B):TI D B (t++MemOp.ofEvents i fn pos #[e]):=by
 refine h.step cn (fun op aF b' P9=>?_) (Nat.le_refl _) fun op aF=>?_
 ·obtain⟨x,hx,rfl⟩:=cg aF
  simp only[List.mem_toArray,List.mem_singleton]at hx
  subst hx
  simp only at P9
  rw[hb]at P9;cases P9;exact hl
 obtain⟨x,hx,rfl⟩:=cg aF
 simp only[List.mem_toArray,List.mem_singleton]at hx
 subst hx;exact vN
theorem ofEvents_one(i:Nat)(fn:FuncId)(pos:String)(e:Event):MemOp.ofEvents i fn pos #[e]= #[{g:=i,fn,pos,act:=.ofEvent e}]:=by rw[ofEvents_eq];simp
theorem GI.gY(h:GI E G w t){a:Addr}{v:Value}{d:Gd}(ha:G.app a=some (v,d))(j:Nat)(hj:(G.th j).af=true): ¬(G.th j).ai a.block:=fun ho=>(h.s.qT j _ hj ho).2.1 a _ ha rfl
theorem GI.read(h:GI E G w t){i:Nat}{a:Addr}{v:Value}{d:Gd}(fn:FuncId)(pos:String)(hi:(G.th i).af=true)(aJ:(G.th i).rel=none)(ha:G.app a=some (v,d))
  (hd:d= .ro\/(∃k,d= .dq k/\(G.th i).aP k=true)\/(∃k,d= .bM k/\(G.th i).run=some k)\/∃j,d= .out j/\G.tk j=some i):
  AW E G w.heap.size (t++MemOp.ofEvents i fn pos #[⟨.cell a,false,false⟩]):=by
 have hb:a.block<w.heap.size:=bT (h.m.app a v d ha).1
 have dI: ∀op∈MemOp.ofEvents i fn pos #[⟨.cell a,false,false⟩],op.act≠ .mark .disable/\op.act≠ .mark .enable:=fun op aF=>by
  rw[ofEvents_one]at aF;simp at aF;subst aF;exact⟨by simp[MemAct.ofEvent],by simp[MemAct.ofEvent]⟩
 refine⟨h.t.ti.wo rfl ⟨?_,fun j hj=>⟨fun hw=>?_,(fun e=>by cases e),fun _ hw=>?_,(fun e=>by cases e)⟩⟩ hb,fun j hj=>?_,fun j hj=>?_,?_⟩
 ·rcases hd with rfl|⟨k,rfl,hp⟩|⟨k,rfl,hr⟩|⟨j,rfl,hj⟩
  ·exact .inr (.inl ⟨rfl,rfl,hi,v,.inl ha⟩)
  ·exact .inr (.inl ⟨rfl,rfl,hi,v,.inr ⟨k,ha,hp⟩⟩)
  ·exact .inl ⟨hi,.inr (.inl ⟨v,k,ha,.inl hr⟩)⟩
  exact .inl ⟨hi,.inr (.inr ⟨v,j,ha,.inl hj⟩)⟩
 ·obtain⟨hl,hw⟩:=hw
  rcases hw with hw|⟨v',k',hv,hw⟩|⟨v',j',hv,hw⟩
  ·exact h.gY ha j hl hw
  ·rw[ha]at hv;cases hv
   rcases hd with e|⟨_,e,_⟩|⟨k,e,hr⟩|⟨_,e,_⟩<;>first|(cases e;done)|skip
   obtain rfl:k'=k:=by cases e;rfl
   rcases hw with hw|hw
   ·have:=(h.k.run j k' hl hw).1
    have h2:=(h.k.run i k' hi hr).1
    have hk:=(h.k.CE i k' _ hi h2).1
    have hc:=(h.k.mu k' hk).l
    have hx:=Bool.toNat_le (G.wd k').l
    have ll:=(h.a.db i hi).1
    have Kj:=(h.a.db j hl).1
    have s1:=fH ll G.th {G.th i with mr:=none} (fun l=>l.at k' .held)
    have e1:(G.th i).at k' .held=1:=by unfold Lo.at;rw[if_pos ⟨hi,h2⟩]
    have e2:({G.th i with mr:=none}:Lo).at k' .held=0:=by unfold Lo.at;simp
    have s2:=le_sumTo (f:=fun a=>(upd G.th i {G.th i with mr:=none} a).at k' .held) Kj
    have e3:(upd G.th i {G.th i with mr:=none} j).at k' .held=1:=by rw[upd_ne _ _ hj];unfold Lo.at;rw[if_pos ⟨hl,this⟩]
    rw[e3]at s2
    rw[e1,e2]at s1
    unfold Gh.cnt at hc
    omega
   exact hw i hi hr
  rw[ha]at hv;cases hv
  rcases hd with e|⟨_,e,_⟩|⟨_,e,_⟩|⟨jj,e,ov⟩<;>first|(cases e;done)|skip
  cases e
  rw[ov]at hw
  rcases hw with hw|hw
  ·cases hw;exact hj rfl
  cases hw
 ·obtain⟨_,⟨x,hx,e⟩|⟨v',k',hv,_⟩⟩:=hw
  ·exact(h.m.app a v d ha).2.2 x hx e
  rw[ha]at hv;cases hv
  rcases hd with e|⟨_,e,_⟩|⟨_,e,_⟩|⟨_,e,_⟩<;>cases e
 ·rw[Go.ConcN.Deaf_still _ _ _ dI];exact h.t.deaf j hj
 ·rw[Go.ConcN.Deaf_still _ _ _ dI];exact h.t.quiet j hj
 refine h.t.tell.app cn (h.ours hi) (fun op aF=>?_) (fun op aF b hb hw=>?_) (fun op aF b hb hk ad v' k' el hv=>?_) (fun _=>.inl aJ)
 ·rw[ofEvents_one]at aF;simp at aF;subst aF;simp[MemAct.ofEvent]
 ·rw[ofEvents_one]at aF;simp at aF;subst aF
  simp[MemAct.ofEvent,MemAct.touch?]at hb;subst hb;cases hw
 rw[ofEvents_one]at aF;simp at aF;subst aF
 simp[MemAct.ofEvent,MemAct.touch?]at hb;subst hb
 simp only[Loc.cell.injEq]at el
 subst el
 rw[ha]at hv;cases hv
 rcases hd with e|⟨_,e,_⟩|⟨_,e,_⟩|⟨_,e,_⟩<;>cases e
theorem GI.SZ(h:GI E G w t){i k:Nat}(hi:(G.th i).af=true)(hk:k<E.K)(hd:G.dn k=true)(yX: ∀p,LastWrite t (E.sc (.done k)) p->t.heard p->Knows t i p):
  GI E {G with th:=upd G.th i {G.th i with aP:=upd (G.th i).aP k true}} w t/\Gh.Φ E.K E.nj {G with th:=upd G.th i {G.th i with aP:=upd (G.th i).aP k true}}<=G.Φ E.K E.nj:=by
 have UD: ∀k',(G.th i).aP k'=true->upd (G.th i).aP k true k'=true:=fun k' cC=>by
  by_cases e:k'=k
  ·subst e;exact upd_same ..
  rw[upd_ne _ _ e];exact cC
 have hpn: ∀k',upd (G.th i).aP k true k'=true->(G.th i).aP k'=true\/k'=k:=fun k' cC=>by
  by_cases e:k'=k
  ·exact .inr e
  rw[upd_ne _ _ e]at cC;exact .inl cC
 refine h.XY hi ⟨rfl,rfl,rfl,rfl,rfl,rfl,rfl,rfl,rfl,rfl,rfl⟩ (fun k' cC=>?_) UD (fun a v hv=>.inl hv) (fun a v hv=>hv) (.inl rfl) h.m rfl ?_
 ·rcases hpn k' cC with x|rfl
  ·exact .inl x
  exact .inr ⟨hk,hd⟩
 obtain⟨p,p1,p2,p3,p4⟩:=h.t.tell.dq k hk hd
 have hKp:=yX p p1 p2
 have dR: ∀j k',(upd G.th i {G.th i with aP:=upd (G.th i).aP k true} j).aP k'=true->(G.th j).aP k'=true\/(j=i/\k'=k):=fun j k' hj=>by
  by_cases e:j=i
  ·subst e;rw[upd_same]at hj;exact(hpn k' hj).imp id fun x=>⟨rfl,x⟩
  rw[upd_ne _ _ e]at hj;exact .inl hj
 have bq: ∀j,(upd G.th i {G.th i with aP:=upd (G.th i).aP k true} j).af=(G.th j).af:=fun j=>aW Lo.af (by rfl) j
 have AU: ∀j,(upd G.th i {G.th i with aP:=upd (G.th i).aP k true} j).run=(G.th j).run:=fun j=>aW Lo.run (by rfl) j
 have cx: ∀j,(upd G.th i {G.th i with aP:=upd (G.th i).aP k true} j).gr=(G.th j).gr:=fun j=>aW Lo.gr (by rfl) j
 have rQ: ∀j,(upd G.th i {G.th i with aP:=upd (G.th i).aP k true} j).rel=(G.th j).rel:=fun j=>aW Lo.rel (by rfl) j
 refine⟨?_,fun j hj=>?_,h.t.quiet,?_⟩
 ·refine h.t.ti.change (fun g l hw=>.inl ?_) (fun g l hw=>?_) (fun g l hw=>?_) (fun g l hw=>.inl hw)
  ·obtain⟨hl,hw⟩:=hw
   refine⟨by rw[<-bq];exact hl,?_⟩
   cases l with
   |cell a=>
    rcases hw with hw|⟨v,k',hv,hw⟩|hw
    ·exact .inl (by rw[<-aW (i:=i) (l:={G.th i with aP:=upd (G.th i).aP k true}) Lo.ai (by rfl) g];exact hw)
    ·exact .inr (.inl ⟨v,k',hv,hw.imp (fun x=>by rw[<-AU];exact x) fun x j hj=>by rw[<-AU];exact x j (by rw[show(Gh.th _ j).af=_ from bq j];exact hj)⟩)
    exact .inr (.inr hw)
   |obj r=>exact(by rw[<-aW (i:=i) (l:={G.th i with aP:=upd (G.th i).aP k true}) Lo.ai (by rfl) g];exact hw)
   |_=>exact hw.elim
  ·obtain⟨hl,hw⟩:=hw
   have vH:(G.th g).af=true:=by rw[<-bq];exact hl
   cases l with
   |cell a=>
    obtain⟨v,hv|⟨k',hv,hp⟩⟩:=hw
    ·exact .inl ⟨vH,v,.inl hv⟩
    rcases dR g k' hp with x|⟨rfl,rfl⟩
    ·exact .inl ⟨vH,v,.inr ⟨k',hv,x⟩⟩
    right
    intro j b hb rS Q8
    obtain⟨op,aF,CG⟩:=touch_of hb
    exact Knows.of_before (p3 j op b a v aF CG rS (.inl ⟨hv,Q8⟩)) hKp
   |_=>exact hw.elim
  obtain⟨hl,hw⟩:=hw
  have vH:(G.th g).af=true:=by rw[<-bq];exact hl
  cases l with
  |cell a=>
   rcases hw with hw|⟨v,k',hv,hp⟩
   ·exact .inl ⟨vH,.inl hw⟩
   rcases dR g k' hp with x|⟨rfl,rfl⟩
   ·exact .inl ⟨vH,.inr ⟨v,k',hv,x⟩⟩
   right
   intro j b hb rS Q8
   obtain⟨op,aF,CG⟩:=touch_of hb
   exact Knows.of_before (p3 j op b a v aF CG rS (.inr ⟨hv,Q8⟩)) hKp
  |obj r=>exact .inl ⟨vH,hw⟩
  |_=>exact hw.elim
 ·show Deaf t j=(upd G.th i {G.th i with aP:=upd (G.th i).aP k true} j).deaf
  rw[aW Lo.deaf (by rfl) j];exact h.t.deaf j (by rw[<-bq];exact hj)
 have T:=h.t.tell
 refine⟨T.known,T.over,T.norel,fun g hg=>?_,fun k' cC ln=>?_,fun hj g r hg hr=>?_⟩
 ·rw[show(Gh.th _ g).rel=_ from rQ g,show(Gh.th _ g).af=_ from bq g,show(Gh.th _ g).gr=_ from cx g];exact T.rel g hg
 ·obtain⟨q,q1,q2,q3,q4⟩:=T.dq k' cC ln
  refine⟨q,q1,q2,q3,fun j hj hp=>?_⟩
  rcases dR j k' hp with x|⟨rfl,rfl⟩
  ·exact q4 j (by rw[<-bq];exact hj) x
  exact yX q q1 q2
 exact T.join (by rw[<-cx];exact hj) g r hg (by rw[<-rQ];exact hr)
theorem GI.Du(h:GI E G w t){i k:Nat}(fn:FuncId)(pos:String)(hi:(G.th i).af=true)(hk:k<E.K)(fD:(G.th i).deaf=0)(aJ:(G.th i).rel=none)(hd:G.dn k=true):
  ∃G',oe E i G G' w w (t++MemOp.ofEvents i fn pos #[⟨.cell (E.sc (.done k)),false,true⟩]) {G.th i with aP:=upd (G.th i).aP k true}/\Calm E G G':=by
 have he: ∀e∈(#[⟨.cell (E.sc (.done k)),false,true⟩]:Array Event),wN E e:=by
  intro e he;simp at he;subst he;exact .inl ⟨.done k,false,hk,rfl,fun x=>by cases x⟩
 obtain⟨h1,h2⟩:=h.said fn pos hi he rfl rfl rfl (OsLater.refl _) (.inl aJ)
 have e1:({G with th:=upd G.th i {G.th i with deaf:=deafBehind (G.th i).deaf #[⟨.cell (E.sc (.done k)),false,true⟩]}}:Gh)=G:=by
  have:deafBehind (G.th i).deaf #[⟨.cell (E.sc (.done k)),false,true⟩]=(G.th i).deaf:=rfl
  rw[this]
  have:upd G.th i {G.th i with deaf:=(G.th i).deaf}=G.th:=by funext j;by_cases e:j=i<;>simp[upd,e]
  rw[this]
 rw[e1]at h1 h2
 have h3:=h1.SZ (i:=i) (k:=k) hi hk hd fun p hp hh=>by
  rw[ofEvents_one]at hp hh ⊢
  have Yh:=lt_of_act? hp.1
  have rR:p<t.size:=by
   rcases Nat.lt_or_ge p t.size with x|x
   ·exact x
   have:p=t.size:=by simp at Yh;omega
   subst this
   have:=hp.1
   rw[act?_of (op:={g:=i,fn,pos,act:=.ofEvent ⟨.cell (E.sc (.done k)),false,true⟩}) (by simp)]at this
   simp[MemAct.ofEvent]at this
  have hl:LastWrite t (E.sc (.done k)) p:=⟨by rw[<-act?_old (u:= #[{g:=i,fn,pos,act:=.ofEvent ⟨.cell (E.sc (.done k)),false,true⟩}]) rR];exact hp.1,fun q s hq e=>by
   have hql:=lt_of_act? e
   exact hp.2 q s hq (by rw[act?_old hql];exact e)⟩
  have hhd:t.heard p:=(heard_old rR).1 hh
  exact LastWrite.Tq (y:={g:=i,fn,pos,act:=.ofEvent ⟨.cell (E.sc (.done k)),false,true⟩}) hl hhd (by rw[h.t.deaf i hi];exact fD) rfl
 exact⟨_,⟨h3.1,upd_same _ _ _,fun j hj=>upd_ne _ _ hj,rfl,fun j _ _=>View.refl _ _,h3.2⟩,Calm.of rfl rfl rfl rfl rfl rfl⟩
theorem GI.Dt(h:GI E G w t){i k:Nat}(fn:FuncId)(pos:String)(hi:(G.th i).af=true)(hk:k<E.K)(aJ:(G.th i).rel=none):GI E G w (t++MemOp.ofEvents i fn pos #[⟨.cell (E.sc (.done k)),false,true⟩]):=by
 have he: ∀e∈(#[⟨.cell (E.sc (.done k)),false,true⟩]:Array Event),wN E e:=by
  intro e he;simp at he;subst he;exact .inl ⟨.done k,false,hk,rfl,fun x=>by cases x⟩
 obtain⟨h1,h2⟩:=h.said fn pos hi he rfl rfl rfl (OsLater.refl _) (.inl aJ)
 have:deafBehind (G.th i).deaf #[⟨.cell (E.sc (.done k)),false,true⟩]=(G.th i).deaf:=rfl
 rw[this]at h1
 have:upd G.th i {G.th i with deaf:=(G.th i).deaf}=G.th:=by funext j;by_cases e:j=i<;>simp[upd,e]
 rw[this]at h1
 exact h1
end Go.Co

namespace Go.Co
open Go Go.Conc
open Go.ConcM (OsLater)
open Go.ConcN (sumTo upd sumTo_upd upd_ne upd_same sumTo_congr le_sumTo sumTo_le)
variable{E:Geo}{G G':Gh}{w w':World}{t t' u:Trace}{B B':Nat}
theorem j8{w:World}{a b:Addr}{v0:Value}(hc:w.cell? a=some v0)(v:Value)(cb:b≠a):(w.setCell a v).cell? b=w.cell? b:=by
 unfold World.setCell World.cell?
 by_cases hb:a.block=b.block
 ·simp only[Array.getElem?_modify,hb,if_true]
  unfold World.cell? at hc
  rw[hb]at hc
  split at hc
  ·rename_i c e f hh
   rw[hh]
   simp only[Option.map_some]
   by_cases hs:b.spot.isSome=true
   ·simp[hs]
   split at hc
   ·cases hc
   rename_i pR
   have ho:a.off≠b.off:=fun ho=>cb (by
    have h1:a.spot=none:=by simpa using pR
    have h2:b.spot=none:=by simpa using hs
    cases a;cases b
    simp_all)
   simp[hs,pR,Array.getElem?_setIfInBounds_ne ho]
  cases hc
 simp only[Array.getElem?_modify,if_neg hb]
theorem nm(w:World)(a b:Addr)(v:Value):(w.setCell a v).frozen? b=w.frozen? b:=by
 unfold World.setCell World.frozen?
 by_cases hb:a.block=b.block
 ·simp only[Array.getElem?_modify,hb,if_true]
  cases w.heap[b.block]? with
  |none=>rfl
  |some o=>cases o<;>rfl
 simp only[Array.getElem?_modify,if_neg hb]
theorem sK{w:World}{a:Addr}{v0:Value}(hc:w.cell? a=some v0)(v:Value):(w.setCell a v).cell? a=some v:=by
 unfold World.cell? at hc
 unfold World.setCell World.cell?
 simp only[Array.getElem?_modify,if_true]
 split at hc
 ·rename_i c e f hh
  rw[hh]
  split at hc
  ·cases hc
  rename_i pR
  simp only[Option.map_some,pR]
  have:=(Array.getElem?_eq_some_iff.1 hc).1
  simp[this]
 cases hc
theorem cS(w:World)(a:Addr)(v:Value){b:Nat}(hb:a.block≠b):(w.setCell a v).heap[b]?=w.heap[b]?:=by
 unfold World.setCell
 simp only[Array.getElem?_modify,if_neg hb]
theorem GI.WQ(h:GI E G w t){i j k:Nat}(hi:(G.th i).af=true)(hj:(G.th j).af=true)(h1:(G.th i).mr=some (k,.held))(h2:(G.th j).mr=some (k,.held)):j=i:=by
 by_cases e:j=i
 ·exact e
 exfalso
 have hk:=(h.k.CE i k _ hi h1).1
 have hc:=(h.k.mu k hk).l
 have hx:=Bool.toNat_le (G.wd k).l
 have ll:=(h.a.db i hi).1
 have Kj:=(h.a.db j hj).1
 have s1:=fH ll G.th {G.th i with mr:=none} (fun l=>l.at k .held)
 have e1:(G.th i).at k .held=1:=by unfold Lo.at;rw[if_pos ⟨hi,h1⟩]
 have e2:({G.th i with mr:=none}:Lo).at k .held=0:=by unfold Lo.at;simp
 have s2:=le_sumTo (f:=fun a=>(upd G.th i {G.th i with mr:=none} a).at k .held) Kj
 have e3:(upd G.th i {G.th i with mr:=none} j).at k .held=1:=by rw[upd_ne _ _ e];unfold Lo.at;rw[if_pos ⟨hj,h2⟩]
 rw[e3]at s2
 rw[e1,e2]at s1
 unfold Gh.cnt at hc
 omega
theorem GI.IK(h:GI E G w t){i j k:Nat}(hi:(G.th i).af=true)(hj:(G.th j).af=true)(h1:(G.th i).mr=some (k,.held))(h2:(G.th j).run=some k):j=i:=
 h.WQ hi hj h1 (h.k.run j k hj h2).1
structure Xf(l l':Lo):Prop where
 af:l'.af=l.af
 wk:l'.wk=l.wk
 mr:l'.mr=l.mr
 old:l'.old=l.old
 rel:l'.rel=l.rel
 gr:l'.gr=l.gr
 bZ:l'.bZ=l.bZ
 me:l'.me=l.me
 sc:l'.sc=l.sc
 ch:l'.ch=l.ch
 deaf:l'.deaf=l.deaf
 aP: ∀k,l.aP k=true->l'.aP k=true
theorem GI.U8(h:GI E G w t){i:Nat}{l':Lo}{app':Addr->Option (Value×Gd)}{NY:Nat->Bool}(hi:(G.th i).af=true)(s:Xf (G.th i) l')
  (hs:Rr E {G with th:=upd G.th i l',app:=app',dn:=NY} w'.heap.size) (hm:EK E {G with th:=upd G.th i l',app:=app',dn:=NY} w')
  (hk:Rs E {G with th:=upd G.th i l',app:=app',dn:=NY}) (more:E.App app' NY G.cv) (ht:AW E {G with th:=upd G.th i l',app:=app',dn:=NY} w'.heap.size t'):
  GI E {G with th:=upd G.th i l',app:=app',dn:=NY} w' t'/\Gh.Φ E.K E.nj {G with th:=upd G.th i l',app:=app',dn:=NY}<=G.Φ E.K E.nj:=by
 refine⟨⟨h.a.tr rfl rfl fun j=>aW Lo.af s.af j,hs,hm,hk,h.g.tr rfl rfl rfl rfl rfl rfl fun j=>⟨aW Lo.af s.af j,aW Lo.wk s.wk j,aW Lo.gr s.gr j⟩,
  h.j.tr rfl rfl rfl rfl rfl rfl rfl fun j=>⟨aW Lo.af s.af j,aW Lo.ch s.ch j,aW Lo.bZ s.bZ j,aW Lo.mr s.mr j,aW Lo.gr s.gr j,aW Lo.me s.me j,aW Lo.sc s.sc j⟩,more,ht⟩,?_⟩
 have ll:=(h.a.db i hi).1
 have Ob: ∀k,l'.wt k<=(G.th i).wt k:=fun k=>by
  unfold Lo.wt
  rw[s.mr,s.wk]
  have:(if(G.th i).wk=true/\l'.aP k=false then 15 else 0)<=(if(G.th i).wk=true/\(G.th i).aP k=false then 15 else 0):=by
   by_cases e:(G.th i).aP k=true
   ·simp[s.aP k e]
   have:(G.th i).aP k=false:=by simpa using e
   rw[this];split<;>split<;>simp_all
  split
  ·split
   ·exact Nat.le_refl _
   exact this
  exact this
 have e1:=fH ll G.th l' (fun l=>l.φ E.K)
 have e2:l'.φ E.K<=(G.th i).φ E.K:=by
  have hb:l'.busy=(G.th i).busy:=by unfold Lo.busy;rw[s.af,s.wk,s.gr]
  have UJ:l'.ba=(G.th i).ba:=by unfold Lo.ba;rw[s.af,s.gr]
  have:=iJ (n:=E.K) (f:=fun k=>64*l'.wt k) (g:=fun k=>64*(G.th i).wt k) fun k _=>Nat.mul_le_mul_left _ (Ob k)
  unfold Lo.φ
  rw[s.af,if_pos hi,if_pos hi,hb,UJ,s.gr]
  omega
 have e3: ∀k',(sumTo G.n fun j=>(upd G.th i l' j).bh k' (G.wd k'))=sumTo G.n fun j=>(G.th j).bh k' (G.wd k'):=fun k'=>bI (φ:=fun l=>l.bh k' (G.wd k')) (by simp only[Lo.bh,s.mr,s.old,s.af])
 have e4:(upd G.th i l' 0).aO G.wn=(G.th 0).aO G.wn:=aW (fun l=>l.aO G.wn) (by simp only[Lo.aO,s.gr]) 0
 unfold Gh.Φ
 simp only[e3,e4]
 omega
theorem AW.less(h:AW E G B t)(hn:G'.n=G.n)(hl: ∀g,(G'.th g).af=(G.th g).af)(hd: ∀g,(G'.th g).deaf=(G.th g).deaf)
  (hW: ∀g a,(G.th g).af=true->G'.kW g a->G.kW g a) (hO: ∀g b,(G.th g).af=true->(G'.th g).ai b->(G.th g).ai b) (hR: ∀g a,(G.th g).af=true->G'.kR g a->G.kR g a) (hA: ∀g a,(G.th g).af=true->E.kA G' g a->E.kA G g a)
  (tell:kv E G' t):AW E G' B t:=by
 refine⟨h.ti.change (fun g l hw=>.inl ?_) (fun g l hw=>.inl ?_) (fun g l hw=>.inl ?_) (fun g l hw=>.inl hw),fun j hj=>by rw[hd];exact h.deaf j (by rw[<-hl];exact hj),fun j hj=>h.quiet j (by rw[<-hn];exact hj),tell⟩
 ·obtain⟨h1,h2⟩:=hw
  have oD:(G.th g).af=true:=by rw[<-hl];exact h1
  refine⟨oD,?_⟩
  cases l with
  |cell a=>exact hW g a oD h2
  |obj r=>exact hO g r oD h2
  |_=>exact h2.elim
 ·obtain⟨h1,h2⟩:=hw
  have oD:(G.th g).af=true:=by rw[<-hl];exact h1
  refine⟨oD,?_⟩
  cases l with
  |cell a=>exact hR g a oD h2
  |_=>exact h2.elim
 obtain⟨h1,h2⟩:=hw
 have oD:(G.th g).af=true:=by rw[<-hl];exact h1
 refine⟨oD,?_⟩
 cases l with
 |cell a=>exact hA g a oD h2
 |obj r=>exact h2
 |_=>exact h2.elim
theorem kv.XW(h:kv E G t)(hn:G'.n=G.n)(ha: ∀ad v k,(G'.app ad=some (v,.dq k)->∃v',G.app ad=some (v',.dq k))/\(G'.app ad=some (v,.zc k)->∃v',G.app ad=some (v',.zc k)))(Kn:G'.dn=G.dn)
  (mP: ∀j,(G'.th j).af=(G.th j).af/\(G'.th j).aP=(G.th j).aP/\(G'.th j).rel=(G.th j).rel/\(G'.th j).gr=(G.th j).gr):kv E G' t:=by
 have eo: ∀g,E.ours G' g↔E.ours G g:=fun g=>by unfold Geo.ours;rw[hn]
 refine⟨fun i op a h1 h2 h3=>?_,fun i op h1 h2 h3=>?_,h.norel,fun g hg=>?_,fun k hk hd=>?_,fun hj g r hg hr=>?_⟩
 ·rw[eo];exact h.known i op a h1 h2 h3
 ·rw[eo];exact h.over i op h1 h2 h3
 ·rw[(mP g).2.2.1,(mP g).1,(mP g).2.2.2];exact h.rel g ((eo g).1 hg)
 ·rw[Kn]at hd
  obtain⟨p,a1,a2,a3,a4⟩:=h.dq k hk hd
  refine⟨p,a1,a2,fun i op a ad v h1 h2 h3 h4=>?_,fun i hi hp=>a4 i (by rw[<-(mP i).1];exact hi) (by rw[<-(mP i).2.1];exact hp)⟩
  rcases h4 with⟨h4,h5⟩|⟨h4,h5⟩
  ·obtain⟨v',h4⟩:=(ha ad v k).1 h4;exact a3 i op a ad v' h1 h2 h3 (.inl ⟨h4,h5⟩)
  obtain⟨v',h4⟩:=(ha ad v k).2 h4;exact a3 i op a ad v' h1 h2 h3 (.inr ⟨h4,h5⟩)
 rw[(mP g).2.2.1]at hr;exact h.join (by rw[<-(mP 0).2.2.2];exact hj) g r ((eo g).1 hg) hr
def Geo.wa(E:Geo)(k:Nat)(kn:Addr->Option Value):Addr->Option Value:=fun a=>match E.qU a with
 |some (v,k')=>if k'=k then some v else kn a
 |none=>kn a
theorem GI.SY(h:GI E G w t){i k:Nat}(hi:(G.th i).af=true)(ee:(G.th i).mr=some (k,.held))(hd:G.dn k=false)(aS:(G.th i).run=none):
  GI E {G with th:=upd G.th i {G.th i with run:=some k,kn:=E.wa k (G.th i).kn}} w t/\Gh.Φ E.K E.nj {G with th:=upd G.th i {G.th i with run:=some k,kn:=E.wa k (G.th i).kn}}<=G.Φ E.K E.nj:=by
 have CI:=(h.k.CE i k _ hi ee).1
 have wc: ∀j,(G.th j).af=true->(G.th j).run≠some k:=fun j hj hr=>by
  have:=h.IK hi hj ee hr
  subst this;rw[aS]at hr;cases hr
 have bq: ∀j,(upd G.th i {G.th i with run:=some k,kn:=E.wa k (G.th i).kn} j).af=(G.th j).af:=fun j=>aW Lo.af (by rfl) j
 have aN: ∀j,(upd G.th i {G.th i with run:=some k,kn:=E.wa k (G.th i).kn} j).ai=(G.th j).ai:=fun j=>aW Lo.ai (by rfl) j
 have dR: ∀j,(upd G.th i {G.th i with run:=some k,kn:=E.wa k (G.th i).kn} j).aP=(G.th j).aP:=fun j=>aW Lo.aP (by rfl) j
 have lu: ∀j,(upd G.th i {G.th i with run:=some k,kn:=E.wa k (G.th i).kn} j).mr=(G.th j).mr:=fun j=>aW Lo.mr (by rfl) j
 have xa: ∀j k',(upd G.th i {G.th i with run:=some k,kn:=E.wa k (G.th i).kn} j).run=some k'->(j=i/\k'=k)\/(j≠i/\(G.th j).run=some k'):=fun j k' hj=>by
  by_cases e:j=i
  ·subst e;rw[upd_same]at hj;cases hj;exact .inl ⟨rfl,rfl⟩
  rw[upd_ne _ _ e]at hj;exact .inr ⟨e,hj⟩
 have QG: ∀a v,G.app a=some (v,.bM k)->E.qU a=some (v,k):=fun a v hv=>by
  obtain⟨_,_,⟨j,q1,q2,_⟩|⟨_,q⟩⟩:=h.k.bM a v k hv
  ·exact absurd q2 (wc j q1)
  exact q
 have ZK: ∀a v,E.wa k (G.th i).kn a=some v->G.app a=some (v,.bM k)\/(G.th i).kn a=some v:=fun a v hv=>by
  unfold Geo.wa at hv
  split at hv
  ·rename_i v' k' hini
   split at hv
   ·rename_i e;subst e
    cases hv
    obtain⟨TT,Vu⟩:=h.k.qU a v k' hini hd
    have:=QG a TT Vu
    rw[hini]at this;cases this
    exact .inl Vu
   exact .inr hv
  exact .inr hv
 refine h.U8 (app':=G.app) (NY:=G.dn) hi ⟨rfl,rfl,rfl,rfl,rfl,rfl,rfl,rfl,rfl,rfl,rfl,fun k hk=>hk⟩ ?_ (h.m.tr (fun x=>by cases x<;>rfl) rfl rfl) ?_ h.more ?_
 ·exact h.s.tr (Nat.le_refl _) (fun a v hv=>⟨v,hv⟩) fun j hj=>⟨by have hj:(upd G.th i _ j).af=true:=hj;rw[bq]at hj;exact hj,aN j⟩
 ·refine⟨fun k' hk=>?_,fun j k' r hj hm=>h.k.CE j k' r (by rw[<-bq];exact hj) (by rw[<-lu];exact hm),fun j k' hj hr=>?_,fun j k' hj hp=>h.k.aP j k' (by rw[<-bq];exact hj) (by rw[<-dR];exact hp),fun a v k' hv=>?_,h.k.qU,fun j a v hj hv=>?_,fun a v k hv=>by rw[show(Gh.th _ 0).aP=_ from dR 0];exact h.k.mT a v k hv⟩
  ·have:Gh.cnt {G with th:=upd G.th i {G.th i with run:=some k,kn:=E.wa k (G.th i).kn}} k'=G.cnt k':=by
    funext r
    exact bI (φ:=fun l=>l.at k' r) (by simp only[Lo.at])
   rw[this];exact h.k.mu k' hk
  ·rw[show(Gh.th _ j).mr=_ from lu j]
   rcases xa j k' hr with⟨rfl,rfl⟩|⟨_,hr⟩
   ·exact⟨ee,hd⟩
   exact h.k.run j k' (by rw[<-bq];exact hj) hr
  ·obtain⟨p1,p2,p3⟩:=h.k.bM a v k' hv
   refine⟨p1,p2,?_⟩
   by_cases e:k'=k
   ·subst e
    refine .inl ⟨i,by rw[show(Gh.th _ i).af=_ from bq i];exact hi,by rw[show(Gh.th _ i)=_ from upd_same _ _ _],?_⟩
    rw[show(Gh.th _ i)=_ from upd_same _ _ _]
    simp[Geo.wa,QG a v hv]
   rcases p3 with⟨j,q1,q2,q3⟩|⟨q1,q2⟩
   ·have ox:j≠i:=fun e=>by subst e;rw[aS]at q2;cases q2
    refine .inl ⟨j,?_⟩
    rw[show(Gh.th _ j)=_ from upd_ne _ _ ox]
    exact⟨q1,q2,q3⟩
   refine .inr ⟨fun j hj hr=>?_,q2⟩
   rcases xa j k' hr with⟨_,x⟩|⟨_,x⟩
   ·exact e x
   exact q1 j (by rw[<-bq];exact hj) x
  have kg:(G.th j).af=true:=by rw[<-bq];exact hj
  by_cases e:j=i
  ·subst e
   have hv:(upd G.th j {G.th j with run:=some k,kn:=E.wa k (G.th j).kn} j).kn a=some v:=hv
   show ∃d,G.app a=some (v,d)/\(d= .ro\/(∃k',d= .dq k'/\(upd G.th j {G.th j with run:=some k,kn:=E.wa k (G.th j).kn} j).aP k'=true)\/∃k',d= .bM k'/\(upd G.th j {G.th j with run:=some k,kn:=E.wa k (G.th j).kn} j).run=some k')
   rw[upd_same]at hv ⊢
   rcases ZK a v hv with x|x
   ·exact⟨_,x,.inr (.inr ⟨k,rfl,rfl⟩)⟩
   obtain⟨d,d1,d2⟩:=h.k.kn j a v kg x
   refine⟨d,d1,d2.imp id (.imp id fun⟨k',_,k2⟩=>?_)⟩
   rw[aS]at k2;cases k2
  have hv:(upd G.th i {G.th i with run:=some k,kn:=E.wa k (G.th i).kn} j).kn a=some v:=hv
  show ∃d,G.app a=some (v,d)/\(d= .ro\/(∃k',d= .dq k'/\(upd G.th i {G.th i with run:=some k,kn:=E.wa k (G.th i).kn} j).aP k'=true)\/∃k',d= .bM k'/\(upd G.th i {G.th i with run:=some k,kn:=E.wa k (G.th i).kn} j).run=some k')
  rw[upd_ne _ _ e]at hv ⊢
  exact h.k.kn j a v kg hv
 refine h.t.less rfl bq (fun j=>aW Lo.deaf (by rfl) j) (fun g a hg hw=>?_) (fun g b hg hb=>by rw[<-aN];exact hb) (fun g a hg hr=>?_) (fun g a hg ha=>?_) ?_
 ·rcases hw with hw|⟨v,k',hv,hw⟩|hw
  ·exact .inl (by rw[<-aN];exact hw)
  ·refine .inr (.inl ⟨v,k',hv,?_⟩)
   rcases hw with hw|hw
   ·rcases xa g k' hw with⟨_,rfl⟩|⟨_,x⟩
    ·exact .inr wc
    exact .inl x
   right
   intro j hj hr
   by_cases e:j=i
   ·subst e;rw[aS]at hr;cases hr
   refine hw j (by rw[show(Gh.th _ j).af=_ from bq j];exact hj) ?_
   rw[show(Gh.th _ j)=_ from upd_ne _ _ e];exact hr
  exact .inr (.inr hw)
 ·obtain⟨v,hv|⟨k',hv,hp⟩⟩:=hr
  ·exact⟨v,.inl hv⟩
  exact⟨v,.inr ⟨k',hv,by rw[<-dR];exact hp⟩⟩
 ·rcases ha with ha|⟨v,k',hv,hp⟩
  ·exact .inl ha
  exact .inr ⟨v,k',hv,by rw[<-dR];exact hp⟩
 exact h.t.tell.XW rfl (fun ad v k=>⟨fun x=>⟨v,x⟩,fun x=>⟨v,x⟩⟩) rfl fun j=>⟨bq j,dR j,aW Lo.rel (by rfl) j,aW Lo.gr (by rfl) j⟩
end Go.Co

namespace Go.Co
open Go Go.Conc
open Go.ConcM (OsLater)
open Go.ConcN (sumTo upd sumTo_upd upd_ne upd_same sumTo_congr le_sumTo sumTo_le)
variable{E:Geo}{G G':Gh}{w w':World}{t t' u:Trace}{B B':Nat}
def b7(app:Addr->Option (Value×Gd))(a:Addr)(x:Value×Gd):Addr->Option (Value×Gd):=fun b=>if b=a then some x else app b
def cX(kn:Addr->Option Value)(a:Addr)(v:Value):Addr->Option Value:=fun b=>if b=a then some v else kn b
theorem gI{app:Addr->Option (Value×Gd)}{a b:Addr}{x:Value×Gd}{v:Value}{d:Gd}(h:b7 app a x b=some (v,d)):(b=a/\x=(v,d))\/(b≠a/\app b=some (v,d)):=by
 unfold b7 at h
 split at h
 ·rename_i e;cases h;exact .inl ⟨e,rfl⟩
 rename_i e;exact .inr ⟨e,h⟩
theorem GI.writes(h:GI E G w t){i k:Nat}{a:Addr}{v:Value}(fn:FuncId)(pos:String)(hi:(G.th i).af=true)(aJ:(G.th i).rel=none)(aS:(G.th i).run=some k)(ha:G.app a=some (v,.bM k)):
  AW E G w.heap.size (t++MemOp.ofEvents i fn pos #[⟨.cell a,true,false⟩]):=by
 have hb:a.block<w.heap.size:=bT (h.m.app a _ _ ha).1
 have dI: ∀op∈MemOp.ofEvents i fn pos #[⟨.cell a,true,false⟩],op.act≠ .mark .disable/\op.act≠ .mark .enable:=fun op aF=>by
  rw[ofEvents_one]at aF;simp at aF;subst aF;exact⟨by simp[MemAct.ofEvent],by simp[MemAct.ofEvent]⟩
 refine⟨h.t.ti.wo rfl ⟨.inl ⟨hi,.inr (.inl ⟨v,k,ha,.inl aS⟩)⟩,fun j hj=>⟨fun hw=>?_,fun _ hw=>?_,fun _ hw=>?_,(fun e=>by cases e)⟩⟩ hb,fun j hj=>?_,fun j hj=>?_,?_⟩
 ·obtain⟨hl,hw⟩:=hw
  rcases hw with hw|⟨v',k',hv,hw⟩|⟨v',j',hv,hw⟩
  ·exact h.gY ha j hl hw
  ·rw[ha]at hv;cases hv
   rcases hw with hw|hw
   ·exact hj (h.IK hi hl (h.k.run i k hi aS).1 hw)
   exact hw i hi aS
  rw[ha]at hv;cases hv
 ·obtain⟨_,v',hv|⟨k',hv,_⟩⟩:=hw<;>rw[ha]at hv<;>cases hv
 ·obtain⟨_,⟨x,hx,e⟩|⟨v',k',hv,_⟩⟩:=hw
  ·exact(h.m.app a _ _ ha).2.2 x hx e
  rw[ha]at hv;cases hv
 ·rw[Go.ConcN.Deaf_still _ _ _ dI];exact h.t.deaf j hj
 ·rw[Go.ConcN.Deaf_still _ _ _ dI];exact h.t.quiet j hj
 refine h.t.tell.app cn (h.ours hi) (fun op aF=>?_) (fun op aF b hb hw=>?_) (fun op aF b hb hk ad v' k' el hv=>?_) (fun _=>.inl aJ)
 ·rw[ofEvents_one]at aF;simp at aF;subst aF;simp[MemAct.ofEvent]
 ·rw[ofEvents_one]at aF;simp at aF;subst aF
  simp[MemAct.ofEvent,MemAct.touch?]at hb;subst hb
  refine⟨fun k' cC e=>?_,fun ad v' k' e hv=>?_⟩
  ·simp only[Loc.cell.injEq]at e
   exact(h.m.app a _ _ ha).2.2 (.done k') cC e
  simp only[Loc.cell.injEq]at e;subst e;rw[ha]at hv;cases hv
 rw[ofEvents_one]at aF;simp at aF;subst aF
 simp[MemAct.ofEvent,MemAct.touch?]at hb;subst hb
 simp only[Loc.cell.injEq]at el
 subst el;rw[ha]at hv;cases hv
theorem GI.ye(h:GI E G w t){i k:Nat}{a:Addr}{v:Value}(v':Value){es:Array Event}(fn:FuncId)(pos:String)(hi:(G.th i).af=true)(aJ:(G.th i).rel=none)(aS:(G.th i).run=some k)(ha:G.app a=some (v,.bM k))
  (ht:AW E G w.heap.size (t++MemOp.ofEvents i fn pos es)) (more:E.App (b7 G.app a (v',.bM k)) G.dn G.cv):
  ∃G',oe E i G G' w (w.setCell a v') (t++MemOp.ofEvents i fn pos es) {G.th i with kn:=cX (G.th i).kn a v'}/\Calm E G G'/\G'.app=b7 G.app a (v',.bM k)/\G'.dn=G.dn:=by
 have ee:=(h.k.run i k hi aS).1
 obtain⟨Kp,XB,Oe⟩:=h.m.app a _ _ ha
 have bq: ∀j,(upd G.th i {G.th i with kn:=cX (G.th i).kn a v'} j).af=(G.th j).af:=fun j=>aW Lo.af (by rfl) j
 have aN: ∀j,(upd G.th i {G.th i with kn:=cX (G.th i).kn a v'} j).ai=(G.th j).ai:=fun j=>aW Lo.ai (by rfl) j
 have dR: ∀j,(upd G.th i {G.th i with kn:=cX (G.th i).kn a v'} j).aP=(G.th j).aP:=fun j=>aW Lo.aP (by rfl) j
 have lu: ∀j,(upd G.th i {G.th i with kn:=cX (G.th i).kn a v'} j).mr=(G.th j).mr:=fun j=>aW Lo.mr (by rfl) j
 have dX: ∀j,(upd G.th i {G.th i with kn:=cX (G.th i).kn a v'} j).run=(G.th j).run:=fun j=>aW Lo.run (by rfl) j
 have hold: ∀b v1 d,b7 G.app a (v',.bM k) b=some (v1,d)->∃v2,G.app b=some (v2,d):=fun b v1 d hb=>by
  rcases gI hb with⟨rfl,e⟩|⟨_,e⟩
  ·cases e;exact⟨v,ha⟩
  exact⟨v1,e⟩
 have hc:=h.U8 (i:=i) (l':={G.th i with kn:=cX (G.th i).kn a v'}) (app':=b7 G.app a (v',.bM k)) (NY:=G.dn) (w':=w.setCell a v') (t':=t++MemOp.ofEvents i fn pos es) hi
  ⟨rfl,rfl,rfl,rfl,rfl,rfl,rfl,rfl,rfl,rfl,rfl,fun k hk=>hk⟩ ?_ ?_ ?_ more ?_
 ·refine⟨_,⟨hc.1,upd_same _ _ _,fun j hj=>upd_ne _ _ hj,rfl,fun j hj ox=>⟨by rw[aD];exact Nat.le_refl _,fun b hb=>cS w a v' fun e=>?_⟩,hc.2⟩,Calm.of rfl rfl rfl rfl rfl rfl,rfl,rfl⟩
  exact h.gY ha j hj (e▸hb)
 ·rw[aD]
  refine h.s.tr (Nat.le_refl _) (fun b x hx=>?_) fun j hj=>⟨?_,aN j⟩
  ·obtain⟨v2,dF⟩:=hold b x.1 x.2 hx;exact⟨_,dF⟩
  have hj:(upd G.th i {G.th i with kn:=cX (G.th i).kn a v'} j).af=true:=hj
  rw[bq]at hj;exact hj
 ·refine⟨fun x hx=>?_,fun b v1 d hb=>?_,h.m.inj,fun hC=>?_,h.m.tape,h.m.output,h.m.os,fun b hb=>(h.m.keep b hb).at ha (by intro e;cases e) rfl⟩
  ·rw[show(Gh.val _ x)=G.val x by cases x<;>rfl,nm,j8 Kp v' (fun e=>Oe x hx e.symm)]
   exact h.m.sync x hx
  ·rw[nm]
   rcases gI hb with⟨rfl,e⟩|⟨cb,e⟩
   ·cases e;exact⟨sK Kp v',XB,Oe⟩
   rw[j8 Kp v' cb];exact h.m.app b v1 d e
  obtain⟨⟨s,r,c1⟩,c2,c3⟩:=h.m.chan hC
  refine⟨⟨s,r,?_⟩,c2,fun b x hx=>?_⟩
  ·rw[cS w a v' (c3 a _ ha)];exact c1
  obtain⟨v2,dF⟩:=hold b x.1 x.2 hx;exact c3 b _ dF
 ·refine⟨fun k' hk=>?_,fun j k' r hj hm=>h.k.CE j k' r (by rw[<-bq];exact hj) (by rw[<-lu];exact hm),fun j k' hj hr=>?_,fun j k' hj hp=>h.k.aP j k' (by rw[<-bq];exact hj) (by rw[<-dR];exact hp),fun b v1 k' hb=>?_,fun b v1 k' hb ln=>?_,fun j b v1 hj ig=>?_,fun b v1 k' hb=>by
   rw[show(Gh.th _ 0).aP=_ from dR 0]
   rcases hb with hb|hb
   ·obtain⟨v2,dF⟩:=hold b v1 _ hb;exact h.k.mT b v2 k' (.inl dF)
   obtain⟨v2,dF⟩:=hold b v1 _ hb;exact h.k.mT b v2 k' (.inr dF)⟩
  ·have:Gh.cnt {G with th:=upd G.th i {G.th i with kn:=cX (G.th i).kn a v'},app:=b7 G.app a (v',.bM k),dn:=G.dn} k'=G.cnt k':=by
    funext r
    exact bI (φ:=fun l=>l.at k' r) (by simp only[Lo.at])
   rw[this];exact h.k.mu k' hk
  ·rw[show(Gh.th _ j).mr=_ from lu j]
   exact h.k.run j k' (by rw[<-bq];exact hj) (by rw[<-dX];exact hr)
  ·rcases gI hb with⟨rfl,e⟩|⟨cb,e⟩
   ·cases e
    obtain⟨p1,p2,_⟩:=h.k.bM b v k ha
    refine⟨p1,p2,.inl ⟨i,by rw[show(Gh.th _ i).af=_ from bq i];exact hi,by rw[show(Gh.th _ i).run=_ from dX i];exact aS,?_⟩⟩
    show(upd G.th i {G.th i with kn:=cX (G.th i).kn b v'} i).kn b=some v'
    rw[upd_same];simp[cX]
   obtain⟨p1,p2,p3⟩:=h.k.bM b v1 k' e
   refine⟨p1,p2,p3.imp (fun⟨j,q1,q2,q3⟩=>⟨j,by rw[show(Gh.th _ j).af=_ from bq j];exact q1,by rw[show(Gh.th _ j).run=_ from dX j];exact q2,?_⟩) fun⟨q1,q2⟩=>⟨fun j hj=>by rw[show(Gh.th _ j).run=_ from dX j];exact q1 j (by rw[<-bq];exact hj),q2⟩⟩
   show(upd G.th i {G.th i with kn:=cX (G.th i).kn a v'} j).kn b=some v1
   by_cases e2:j=i
   ·subst e2;rw[upd_same];simp only[cX,if_neg cb];exact q3
   rw[upd_ne _ _ e2];exact q3
  ·obtain⟨v2,dF⟩:=h.k.qU b v1 k' hb ln
   by_cases e:b=a
   ·subst e;rw[ha]at dF;cases dF;exact⟨v',by simp[b7]⟩
   exact⟨v2,by simp only[b7,if_neg e];exact dF⟩
  have kg:(G.th j).af=true:=by rw[<-bq];exact hj
  have ig:(upd G.th i {G.th i with kn:=cX (G.th i).kn a v'} j).kn b=some v1:=ig
  show ∃d,b7 G.app a (v',.bM k) b=some (v1,d)/\(d= .ro\/(∃k',d= .dq k'/\(upd G.th i {G.th i with kn:=cX (G.th i).kn a v'} j).aP k'=true)\/∃k',d= .bM k'/\(upd G.th i {G.th i with kn:=cX (G.th i).kn a v'} j).run=some k')
  rw[dR,dX]
  by_cases e:j=i
  ·subst e
   rw[upd_same]at ig
   by_cases e2:b=a
   ·subst e2
    simp only[cX,if_true,Option.some.injEq]at ig
    subst ig
    exact⟨.bM k,by simp[b7],.inr (.inr ⟨k,rfl,aS⟩)⟩
   simp only[cX,if_neg e2]at ig
   obtain⟨d,d1,d2⟩:=h.k.kn j b v1 kg ig
   exact⟨d,by simp only[b7,if_neg e2];exact d1,d2⟩
  rw[upd_ne _ _ e]at ig
  obtain⟨d,d1,d2⟩:=h.k.kn j b v1 kg ig
  refine⟨d,?_,d2⟩
  by_cases e2:b=a
  ·subst e2
   rw[ha]at d1;cases d1
   rcases d2 with x|⟨_,x,_⟩|⟨k',x,y⟩
   ·cases x
   ·cases x
   cases x;exact absurd (h.IK hi kg ee y) e
  simp only[b7,if_neg e2];exact d1
 rw[aD]
 refine ht.less rfl bq (fun j=>aW Lo.deaf (by rfl) j) (fun g b hg hw=>?_) (fun g b hg hb=>by rw[<-aN];exact hb) (fun g b hg hr=>?_) (fun g b hg hA=>?_) ?_
 ·rcases hw with hw|⟨v1,k',hv,hw⟩|⟨v1,j',hv,hw⟩
  ·exact .inl (by rw[<-aN];exact hw)
  ·obtain⟨v2,dF⟩:=hold _ _ _ hv
   refine .inr (.inl ⟨v2,k',dF,hw.imp (fun x=>by rw[<-dX];exact x) fun x j hj=>by rw[<-dX];exact x j (by rw[show(Gh.th _ j).af=_ from bq j];exact hj)⟩)
  obtain⟨v2,dF⟩:=hold _ _ _ hv
  exact .inr (.inr ⟨v2,j',dF,hw⟩)
 ·obtain⟨v1,hv|⟨k',hv,hp⟩⟩:=hr
  ·obtain⟨v2,dF⟩:=hold _ _ _ hv;exact⟨v2,.inl dF⟩
  obtain⟨v2,dF⟩:=hold _ _ _ hv;exact⟨v2,.inr ⟨k',dF,by rw[<-dR];exact hp⟩⟩
 ·rcases hA with hA|⟨v1,k',hv,hp⟩
  ·exact .inl hA
  obtain⟨v2,dF⟩:=hold _ _ _ hv;exact .inr ⟨v2,k',dF,by rw[<-dR];exact hp⟩
 exact ht.tell.XW rfl (fun ad v1 k'=>⟨fun x=>hold _ _ _ x,fun x=>hold _ _ _ x⟩) rfl fun j=>⟨bq j,dR j,aW Lo.rel (by rfl) j,aW Lo.gr (by rfl) j⟩
theorem GI.Ju(h:GI E G w t){i k:Nat}{a:Addr}{v:Value}(v':Value)(fn:FuncId)(pos:String)(hi:(G.th i).af=true)(aJ:(G.th i).rel=none)(aS:(G.th i).run=some k)(ha:G.app a=some (v,.bM k))
  (more:E.App (b7 G.app a (v',.bM k)) G.dn G.cv):
  ∃G',oe E i G G' w (w.setCell a v') (t++MemOp.ofEvents i fn pos #[⟨.cell a,true,false⟩]) {G.th i with kn:=cX (G.th i).kn a v'}/\Calm E G G'/\G'.app=b7 G.app a (v',.bM k)/\G'.dn=G.dn:=
 h.ye v' fn pos hi aJ aS ha (h.writes fn pos hi aJ aS ha) more
end Go.Co

namespace Go.Co
open Go Go.Conc
open Go.ConcM (OsLater)
open Go.ConcN (sumTo upd sumTo_upd upd_ne upd_same sumTo_congr le_sumTo sumTo_le)
variable{E:Geo}{G G':Gh}{w w':World}{t t' u:Trace}{B B':Nat}
def C0(app:Addr->Option (Value×Gd))(k:Nat)(kn:Addr->Option Value):Addr->Option Value:=fun a=>match app a with
 |some (v,.dq k')=>if k'=k then some v else kn a
 |some (_,.zc _)=>none
 |_=>kn a
def Lo.dq(l:Lo)(k:Nat)(PB:Nat->Prop)(app:Addr->Option (Value×Gd)):Lo:=
 {l with run:=none,aP:=upd l.aP k true,ai:=fun b=>l.ai b/\¬PB b,kn:=C0 app k l.kn}
structure z7(G:Gh)(w:World)(i k:Nat)(PB:Nat->Prop)(app:Addr->Option (Value×Gd)):Prop where
 mine: ∀b,PB b->(G.th i).ai b
 old: ∀a v d,app a=some (v,d)->((d≠ .bM k/\d≠ .dq k/\d≠ .zc k)/\G.app a=some (v,d))\/((d= .dq k\/d= .zc k)/\(G.app a=some (v,.bM k)\/(PB a.block/\w.cell? a=some v/\w.frozen? a=false)))
 keep: ∀a v d,G.app a=some (v,d)->(d≠ .bM k/\app a=some (v,d))\/(d= .bM k/\(app a=some (v,.dq k)\/app a=some (v,.zc k)))
theorem GI.Ph(h:GI E G w t){i k:Nat}{PB:Nat->Prop}{app':Addr->Option (Value×Gd)}(fn:FuncId)(pos:String)(hi:(G.th i).af=true)(fD:(G.th i).deaf=0)(aJ:(G.th i).rel=none)(aS:(G.th i).run=some k)
  (hp:z7 G w i k PB app') (more:E.App app' (upd G.dn k true) G.cv):
  ∃G',oe E i G G' w (w.setCell (E.sc (.done k)) (.int .u32 1)) (t++MemOp.ofEvents i fn pos #[⟨.cell (E.sc (.done k)),true,true⟩]) ((G.th i).dq k PB app')/\Calm E G G'/\G'.app=app'/\G'.dn=upd G.dn k true:=by
 obtain⟨ee,UO⟩:=h.k.run i k hi aS
 obtain⟨CI,dQ⟩:=h.k.CE i k _ hi ee
 obtain⟨XD,hfd⟩:=h.m.sync (.done k) CI
 have bq: ∀j,(upd G.th i ((G.th i).dq k PB app') j).af=(G.th j).af:=fun j=>aW Lo.af (by rfl) j
 have lu: ∀j,(upd G.th i ((G.th i).dq k PB app') j).mr=(G.th j).mr:=fun j=>aW Lo.mr (by rfl) j
 have cx: ∀j,(upd G.th i ((G.th i).dq k PB app') j).gr=(G.th j).gr:=fun j=>aW Lo.gr (by rfl) j
 have rQ: ∀j,(upd G.th i ((G.th i).dq k PB app') j).rel=(G.th j).rel:=fun j=>aW Lo.rel (by rfl) j
 have aN: ∀j b,(upd G.th i ((G.th i).dq k PB app') j).ai b->(G.th j).ai b/\(j=i->¬PB b):=fun j b hb=>by
  by_cases e:j=i
  ·subst e;rw[upd_same]at hb;exact⟨hb.1,fun _=>hb.2⟩
  rw[upd_ne _ _ e]at hb;exact⟨hb,fun x=>absurd x e⟩
 have xa: ∀j k',(upd G.th i ((G.th i).dq k PB app') j).run=some k'->j≠i/\(G.th j).run=some k':=fun j k' hj=>by
  by_cases e:j=i
  ·subst e;rw[upd_same]at hj;cases hj
  rw[upd_ne _ _ e]at hj;exact⟨e,hj⟩
 have QD: ∀j k',k'≠k->(G.th j).run=some k'->(upd G.th i ((G.th i).dq k PB app') j).run=some k':=fun j k' cC hj=>by
  by_cases e:j=i
  ·subst e;rw[aS]at hj;cases hj;exact absurd rfl cC
  rw[upd_ne _ _ e];exact hj
 have dR: ∀j k',(upd G.th i ((G.th i).dq k PB app') j).aP k'=true->(G.th j).aP k'=true\/(j=i/\k'=k):=fun j k' hj=>by
  by_cases e:j=i
  ·subst e;rw[upd_same]at hj
   by_cases e2:k'=k
   ·exact .inr ⟨rfl,e2⟩
   left
   have hj:upd (G.th j).aP k true k'=true:=hj
   rw[upd_ne _ _ e2]at hj;exact hj
  rw[upd_ne _ _ e]at hj;exact .inl hj
 have Hk: ∀j k',(G.th j).aP k'=true->(upd G.th i ((G.th i).dq k PB app') j).aP k'=true:=fun j k' hj=>by
  by_cases e:j=i
  ·subst e;rw[upd_same]
   show upd (G.th j).aP k true k'=true
   by_cases e2:k'=k
   ·subst e2;exact upd_same ..
   rw[upd_ne _ _ e2];exact hj
  rw[upd_ne _ _ e];exact hj
 have IA: ∀j,(G.th j).af=true->(G.th j).aP k=true->False:=fun j hj yW=>by
  have:=h.k.Rx hj yW CI;rw[UO]at this;cases this
 have Kn: ∀k',k'≠k->upd G.dn k true k'=G.dn k':=fun k' e=>upd_ne _ _ e
 have ID: ∀a v,app' a=some (v,.dq k)\/app' a=some (v,.zc k)->(E.AV G).W i (.cell a):=fun a v ha=>by
  have key: ∀d,(d= .dq k\/d= .zc k)->app' a=some (v,d)->(E.AV G).W i (.cell a):=fun d hd ha=>by
   rcases hp.old a v d ha with⟨⟨_,e1,e2⟩,e⟩|⟨_,e|⟨e,_⟩⟩
   ·rcases hd with rfl|rfl
    ·exact absurd rfl e1
    exact absurd rfl e2
   ·exact⟨hi,.inr (.inl ⟨v,k,e,.inl aS⟩)⟩
   exact⟨hi,.inl (hp.mine _ e)⟩
  rcases ha with ha|ha
  ·exact key _ (.inl rfl) ha
  exact key _ (.inr rfl) ha
 have gQ: ∀a v d,app' a=some (v,d)->∀x,x.ok E.K->a≠E.sc x:=fun a v d ha x hx e=>by
  rcases hp.old a v d ha with⟨_,e1⟩|⟨_,e1|⟨e1,_⟩⟩
  ·exact(h.m.app a v d e1).2.2 x hx e
  ·exact(h.m.app a v _ e1).2.2 x hx e
  exact(h.s.qT i _ hi (hp.mine _ e1)).1 x hx (by rw[e])
 have wS:(t++MemOp.ofEvents i fn pos #[⟨.cell (E.sc (.done k)),true,true⟩])=t++ #[{g:=i,fn,pos,act:=.ofEvent ⟨.cell (E.sc (.done k)),true,true⟩}]:=by rw[ofEvents_one]
 have dI: ∀op∈MemOp.ofEvents i fn pos #[⟨.cell (E.sc (.done k)),true,true⟩],op.act≠ .mark .disable/\op.act≠ .mark .enable:=fun op aF=>by
  rw[ofEvents_one]at aF;simp at aF;subst aF;exact⟨by simp[MemAct.ofEvent],by simp[MemAct.ofEvent]⟩
 have NP:TI (E.AV G) w.heap.size (t++MemOp.ofEvents i fn pos #[⟨.cell (E.sc (.done k)),true,true⟩]):=
  h.t.ti.wo rfl ⟨.inr (.inr (.inl ⟨rfl,hi,.inl ⟨.done k,CI,rfl⟩⟩)),fun j _=>⟨(h.pW (x:=.done k) CI j).1,fun _=>(h.pW (x:=.done k) CI j).2,fun e=>(by cases e),fun e=>(by cases e)⟩⟩ (bT XD)
 have Zt:TI (E.AV {G with th:=upd G.th i ((G.th i).dq k PB app'),app:=app',dn:=upd G.dn k true}) w.heap.size (t++MemOp.ofEvents i fn pos #[⟨.cell (E.sc (.done k)),true,true⟩]):=by
  refine NP.change (fun g l hw=>.inl ?_) (fun g l hw=>?_) (fun g l hw=>?_) (fun g l hw=>.inl hw)
  ·obtain⟨h1,h2⟩:=hw
   have h1:(G.th g).af=true:=by rw[<-bq];exact h1
   refine⟨h1,?_⟩
   cases l with
   |cell a=>
    rcases h2 with h2|⟨v,k',hv,h2⟩|⟨v,j',hv,h2⟩
    ·exact .inl (aN g _ h2).1
    ·rcases hp.old a v _ hv with⟨⟨e1,_⟩,e⟩|⟨e|e,_⟩
     ·have cC:k'≠k:=fun x=>e1 (by rw[x])
      refine .inr (.inl ⟨v,k',e,?_⟩)
      rcases h2 with h2|h2
      ·exact .inl (xa g k' h2).2
      exact .inr fun j hj hr=>h2 j (by rw[show(Gh.th _ j).af=_ from bq j];exact hj) (QD j k' cC hr)
     ·cases e
     cases e
    rcases hp.old a v _ hv with⟨_,e⟩|⟨e|e,_⟩
    ·exact .inr (.inr ⟨v,j',e,h2⟩)
    ·cases e
    cases e
   |obj r=>exact(aN g _ h2).1
   |_=>exact h2.elim
  ·obtain⟨h1,h2⟩:=hw
   have h1:(G.th g).af=true:=by rw[<-bq];exact h1
   cases l with
   |cell a=>
    obtain⟨v,hv|⟨k',hv,GO⟩⟩:=h2
    ·rcases hp.old a v _ hv with⟨_,e⟩|⟨e|e,_⟩
     ·exact .inl ⟨h1,v,.inl e⟩
     ·cases e
     cases e
    rcases dR g k' GO with x|⟨rfl,rfl⟩
    ·rcases hp.old a v _ hv with⟨_,e⟩|⟨e|e,_⟩
     ·exact .inl ⟨h1,v,.inr ⟨k',e,x⟩⟩
     ·cases e;exact(IA g h1 x).elim
     cases e
    exact .inr fun j b hb rS _=>NP.W g _ j b (ID a v (.inl hv)) hb rS
   |_=>exact h2.elim
  obtain⟨h1,h2⟩:=hw
  have h1:(G.th g).af=true:=by rw[<-bq];exact h1
  cases l with
  |cell a=>
   rcases h2 with h2|⟨v,k',hv,GO⟩
   ·exact .inl ⟨h1,.inl h2⟩
   rcases dR g k' GO with x|⟨rfl,rfl⟩
   ·rcases hp.old a v _ hv with⟨_,e⟩|⟨e|e,_⟩
    ·exact .inl ⟨h1,.inr ⟨v,k',e,x⟩⟩
    ·cases e
    cases e;exact(IA g h1 x).elim
   exact .inr fun j b hb rS _=>NP.W g _ j b (ID a v (.inr hv)) hb rS
  |obj r=>exact .inl ⟨h1,h2⟩
  |_=>exact h2.elim
 have fb:(t++MemOp.ofEvents i fn pos #[⟨.cell (E.sc (.done k)),true,true⟩])[t.size]?=some {g:=i,fn,pos,act:=.ofEvent ⟨.cell (E.sc (.done k)),true,true⟩}:=by rw[wS,Array.getElem?_append_right (Nat.le_refl _)];simp
 have jh: ∀j op,(t++MemOp.ofEvents i fn pos #[⟨.cell (E.sc (.done k)),true,true⟩])[j]?=some op->(j<t.size/\t[j]?=some op)\/(j=t.size/\op={g:=i,fn,pos,act:=.ofEvent ⟨.cell (E.sc (.done k)),true,true⟩}):=fun j op hj=>by
  rcases ep hj with x|⟨x,y⟩
  ·exact .inl x
  rw[ofEvents_one]at y;simp at y;subst y
  have Oi:j<(t++MemOp.ofEvents i fn pos #[⟨.cell (E.sc (.done k)),true,true⟩]).size:=(Array.getElem?_eq_some_iff.1 hj).1
  rw[wS]at Oi;simp at Oi
  exact .inr ⟨by omega,rfl⟩
 have T:=h.t.tell
 have T9:E.ours G i:=(h.ours hi).resolve_left dQ
 have WG:kv E {G with th:=upd G.th i ((G.th i).dq k PB app'),app:=app',dn:=upd G.dn k true} (t++MemOp.ofEvents i fn pos #[⟨.cell (E.sc (.done k)),true,true⟩]):=by
  refine⟨fun j op a h1 h2 h3=>?_,fun j op h1 h2 h3=>?_,fun j ra hj=>?_,fun g hgo=>?_,fun k' cC ln=>?_,fun hj g r hgo Kg=>?_⟩
  ·rcases jh j op h1 with⟨_,h1⟩|⟨rfl,rfl⟩
   ·exact(T.known j op a h1 h2 h3).imp id (.imp (·.app _) id)
   exact .inl T9
  ·rcases jh j op h1 with⟨hl,h1⟩|⟨rfl,rfl⟩
   ·exact(T.over j op h1 h2 ((rG hl).1 h3)).imp id (·.app _)
   exact .inl T9
  ·obtain⟨op,ho,EG⟩:=Option.map_eq_some_iff.1 hj
   rcases jh j op ho with⟨hl,ho⟩|⟨rfl,rfl⟩
   ·exact T.norel j ra (by rw[act?_of ho,EG])
   simp[MemAct.ofEvent]at EG
  ·rw[show(Gh.th _ g).rel=_ from rQ g,show(Gh.th _ g).af=_ from bq g,show(Gh.th _ g).gr=_ from cx g]
   rcases T.rel g hgo with a|⟨r,a1,a2,a3,a4,a5⟩
   ·exact .inl a
   have rQ:r<t.size:=lt_of_act? a2
   refine .inr ⟨r,a1,by rw[act?_old rQ];exact a2,?_,(heard_old rQ).2 a4,fun j op a hj h1 h2 h3=>?_⟩
   ·unfold Trace.g? at a3 ⊢;rw[getElem?_append_old rQ];exact a3
   rcases jh j op h1 with⟨hl,oD⟩|⟨rfl,rfl⟩
   ·obtain⟨b1,b2,b3⟩:=a5 j op a hj oD h2 h3
    exact⟨b1,b2,fun e=>b3 ((heard_old hl).1 e)⟩
   simp only at h2;subst h2;rw[aJ]at a1;cases a1
  ·by_cases e:k'=k
   ·subst e
    refine⟨t.size,?_,?_,fun j op a ad v h1 h2 h3 h4=>?_,fun j hj GO=>?_⟩
    ·rw[wS];exact LastWrite.new t _ rfl
    ·exact heard_new fb (by rw[h.t.deaf i hi];exact fD)
    ·have ZT:app' ad=some (v,.dq k')\/app' ad=some (v,.zc k'):=h4.imp (·.1) (·.1)
     rcases jh j op h1 with⟨hl,oD⟩|⟨rfl,rfl⟩
     ·have yX:Knows t i j:=h.t.ti.W i (.cell ad) j a (ID ad v ZT) (by rw[touchAt_of oD];exact h2) h3
      exact .inr (yX.hb_new (Nat.le_refl _) fb rfl)
     exact .inl rfl
    rcases dR j k' GO with x|⟨rfl,_⟩
    ·exact(IA j (by rw[<-bq];exact hj) x).elim
    exact knows_own fb
   have ln:G.dn k'=true:=by rw[<-Kn k' e];exact ln
   obtain⟨p,a1,a2,a3,a4⟩:=T.dq k' cC ln
   refine⟨p,a1.app fun op aF sync x=>?_,(heard_old (lt_of_act? a1.1)).2 a2,fun j op a ad v h1 h2 h3 h4=>?_,fun j hj GO=>?_⟩
   ·rw[ofEvents_one]at aF;simp at aF;subst aF
    simp only[MemAct.ofEvent,MemAct.access.injEq,Event.mk.injEq,Loc.cell.injEq]at x
    exact e (by have:=h.m.inj (.done k) (.done k') CI cC x.1;cases this;rfl)
   ·rcases jh j op h1 with⟨hl,oD⟩|⟨rfl,rfl⟩
    ·refine(a3 j op a ad v oD h2 h3 ?_).app _
     rcases h4 with⟨x,y⟩|⟨x,y⟩
     ·rcases hp.old ad v _ x with⟨_,x⟩|⟨x|x,_⟩
      ·exact .inl ⟨x,y⟩
      ·cases x;exact absurd rfl e
      cases x
     rcases hp.old ad v _ x with⟨_,x⟩|⟨x|x,_⟩
     ·exact .inr ⟨x,y⟩
     ·cases x
     cases x;exact absurd rfl e
    exfalso
    simp[MemAct.ofEvent,MemAct.touch?]at h2;subst h2
    simp only[Loc.cell.injEq]at h3;subst h3
    rcases h4 with⟨x,_⟩|⟨x,_⟩
    ·exact gQ _ _ _ x (.done k) CI rfl
    exact gQ _ _ _ x (.done k) CI rfl
   rcases dR j k' GO with x|⟨_,x⟩
   ·exact(a4 j (by rw[<-bq];exact hj) x).app _
   exact absurd x e
  exact(T.join (by rw[<-cx];exact hj) g r hgo (by rw[<-rQ];exact Kg)).app _
 have hc:=h.U8 (i:=i) (l':=(G.th i).dq k PB app') (app':=app') (NY:=upd G.dn k true) (w':=w.setCell (E.sc (.done k)) (.int .u32 1)) (t':=t++MemOp.ofEvents i fn pos #[⟨.cell (E.sc (.done k)),true,true⟩]) hi
  ⟨rfl,rfl,rfl,rfl,rfl,rfl,rfl,rfl,rfl,rfl,rfl,fun k' cC=>?_⟩ ?_ ?_ ?_ more ?_
 ·exact⟨_,⟨hc.1,upd_same _ _ _,fun j hj=>upd_ne _ _ hj,rfl,fun j hj ox=>h.bU (x:=.done k) CI _ j hj,hc.2⟩,Calm.of rfl rfl rfl rfl rfl rfl,rfl,rfl⟩
 ·have:=Hk i k' cC
  rw[upd_same]at this;exact this
 ·rw[aD]
  refine⟨fun a b c ha hb Kr YB Yz=>?_,fun a b ha hb=>?_,fun a b ha hb=>?_,h.s.jz,h.s.size,fun a v e=>by
   rcases hp.old a v.1 v.2 e with⟨_,e1⟩|⟨_,e1|⟨e1,_⟩⟩
   ·exact h.s.IM a _ e1
   ·exact h.s.IM a _ e1
   exact(h.s.qT i _ hi (hp.mine _ e1)).2.2.2⟩
  ·exact h.s.apart a b c (by rw[<-bq];exact ha) (by rw[<-bq];exact hb) Kr (aN a c YB).1 (aN b c Yz).1
  ·exact h.s.old a b (by rw[<-bq];exact ha) (aN a b hb).1
  have yZ:(G.th a).af=true:=by rw[<-bq];exact ha
  obtain⟨n1,n2,n3,n4⟩:=h.s.qT a b yZ (aN a b hb).1
  refine⟨n1,fun c x hx e=>?_,n3,n4⟩
  rcases hp.old c x.1 x.2 hx with⟨_,e1⟩|⟨_,e1|⟨e1,_⟩⟩
  ·exact n2 c _ e1 e
  ·exact n2 c _ e1 e
  by_cases e2:a=i
  ·subst e2;exact(aN a b hb).2 rfl (e▸e1)
  exact h.s.apart a i b yZ hi e2 (aN a b hb).1 (e▸hp.mine _ e1)
 ·refine⟨fun x hx=>?_,fun b v d hb=>?_,h.m.inj,fun hC=>?_,h.m.tape,h.m.output,h.m.os,fun b hb=>(h.m.keep b hb).to (cS w _ _ ((h.m.keep b hb).sc _ CI)) (fun a v e=>?_) fun a v d e e2=>?_⟩
  ·rw[nm]
   by_cases e:x= .done k
   ·subst e
    refine⟨?_,hfd⟩
    rw[sK XD]
    show _=some (Value.int .u32 (upd G.dn k true k).toNat)
    rw[upd_same];rfl
   rw[j8 XD _ fun q=>e (h.m.inj x (.done k) hx CI q)]
   rw[show Gh.val _ x=G.val x by
    cases x with
    |done k'=>show Value.int .u32 (upd G.dn k true k').toNat=_;rw[Kn k' fun q=>e (by rw[q])];rfl
    |_=>rfl]
   exact h.m.sync x hx
  ·refine⟨?_,?_,gQ b v d hb⟩
   ·rw[j8 XD _ (gQ b v d hb (.done k) CI)]
    rcases hp.old b v d hb with⟨_,e1⟩|⟨_,e1|⟨_,e1,_⟩⟩
    ·exact(h.m.app b v d e1).1
    ·exact(h.m.app b v _ e1).1
    exact e1
   rw[nm]
   rcases hp.old b v d hb with⟨_,e1⟩|⟨_,e1|⟨_,_,e1⟩⟩
   ·exact(h.m.app b v d e1).2.1
   ·exact(h.m.app b v _ e1).2.1
   exact e1
  ·obtain⟨⟨s,r,c1⟩,c2,c3⟩:=h.m.chan hC
   refine⟨⟨s,r,?_⟩,c2,fun b x hx=>?_⟩
   ·rw[cS w _ _ (c2 (.done k) CI)];exact c1
   rcases hp.old b x.1 x.2 hx with⟨_,e1⟩|⟨_,e1|⟨e1,_⟩⟩
   ·exact c3 b _ e1
   ·exact c3 b _ e1
   exact fun q=>(h.s.qT i _ hi (hp.mine _ e1)).2.2.1 hC q
  ·rcases hp.keep a v _ e with⟨_,e1⟩|⟨e1,_⟩
   ·exact e1
   cases e1
  rcases hp.old a v d e with⟨_,e1⟩|⟨_,e1|⟨e1,_⟩⟩
  ·exact(h.m.keep b hb).all a v d e1 e2
  ·cases(h.m.keep b hb).all a v _ e1 e2
  obtain⟨a',v',f1,f2⟩:=(h.m.keep b hb).ro
  exact absurd (f2.trans e2.symm) ((h.s.qT i _ hi (hp.mine _ e1)).2.1 a' _ f1)
 ·refine⟨fun k' hk=>?_,fun j k' r hj hm=>h.k.CE j k' r (by rw[<-bq];exact hj) (by rw[<-lu];exact hm),fun j k' hj hr=>?_,fun j k' hj GO=>?_,fun b v k' hb=>?_,fun b v k' hb ln=>?_,fun j b v hj hv=>?_,fun b v k' hb=>by
   rcases hb with hb|hb
   ·rcases hp.old b v _ hb with⟨_,e⟩|⟨e|e,_⟩
    ·exact(h.k.mT b v k' (.inl e)).imp id (Hk 0 k')
    ·cases e;exact .inl CI
    cases e
   rcases hp.old b v _ hb with⟨_,e⟩|⟨e|e,_⟩
   ·exact(h.k.mT b v k' (.inr e)).imp id (Hk 0 k')
   ·cases e
   cases e;exact .inl CI⟩
  ·have:Gh.cnt {G with th:=upd G.th i ((G.th i).dq k PB app'),app:=app',dn:=upd G.dn k true} k'=G.cnt k':=by
    funext r
    exact bI (φ:=fun l=>l.at k' r) (by rfl)
   rw[this];exact h.k.mu k' hk
  ·obtain⟨ox,hr⟩:=xa j k' hr
   have kg:(G.th j).af=true:=by rw[<-bq];exact hj
   rw[show(Gh.th _ j).mr=_ from lu j]
   have:=h.k.run j k' kg hr
   refine⟨this.1,?_⟩
   show upd G.dn k true k'=false
   rw[Kn k' fun e=>ox (h.IK hi kg ee (e▸hr))];exact this.2
  ·rcases dR j k' GO with x|⟨_,rfl⟩
   ·refine(h.k.aP j k' (by rw[<-bq];exact hj) x).imp (fun⟨p1,p2⟩=>⟨p1,?_⟩) id
    show upd G.dn k true k'=true
    by_cases e:k'=k
    ·subst e;exact upd_same ..
    rw[Kn k' e];exact p2
   exact .inl ⟨CI,upd_same ..⟩
  ·rcases hp.old b v _ hb with⟨⟨e1,_⟩,e⟩|⟨e|e,_⟩
   ·have cC:k'≠k:=fun x=>e1 (by rw[x])
    obtain⟨p1,p2,p3⟩:=h.k.bM b v k' e
    refine⟨p1,by show upd G.dn k true k'=false;rw[Kn k' cC];exact p2,p3.imp (fun⟨j,q1,q2,q3⟩=>?_) fun⟨q1,q2⟩=>⟨fun j hj hr=>q1 j (by rw[<-bq];exact hj) (xa j k' hr).2,q2⟩⟩
    have ox:j≠i:=fun x=>by subst x;rw[aS]at q2;cases q2;exact cC rfl
    refine⟨j,by rw[show(Gh.th _ j).af=_ from bq j];exact q1,QD j k' cC q2,?_⟩
    show(upd G.th i ((G.th i).dq k PB app') j).kn b=some v
    rw[upd_ne _ _ ox];exact q3
   ·cases e
   cases e
  ·by_cases e:k'=k
   ·subst e
    have:upd G.dn k' true k'=false:=ln
    rw[upd_same]at this;cases this
   have ln:G.dn k'=false:=by rw[<-Kn k' e];exact ln
   obtain⟨v',dG⟩:=h.k.qU b v k' hb ln
   rcases hp.keep b v' _ dG with⟨_,x⟩|⟨x,_⟩
   ·exact⟨v',x⟩
   cases x;exact absurd rfl e
  have kg:(G.th j).af=true:=by rw[<-bq];exact hj
  have hv:(upd G.th i ((G.th i).dq k PB app') j).kn b=some v:=hv
  show ∃d,app' b=some (v,d)/\(d= .ro\/(∃k',d= .dq k'/\(upd G.th i ((G.th i).dq k PB app') j).aP k'=true)\/∃k',d= .bM k'/\(upd G.th i ((G.th i).dq k PB app') j).run=some k')
  by_cases e:j=i
  ·subst e
   have yW:(upd G.th j ((G.th j).dq k PB app') j).aP k=true:=by rw[upd_same];exact upd_same ..
   have hold:(G.th j).kn b=some v->(∀v',app' b≠some (v',.zc k))->∃d,app' b=some (v,d)/\(d= .ro\/(∃k',d= .dq k'/\(upd G.th j ((G.th j).dq k PB app') j).aP k'=true)\/∃k',d= .bM k'/\(upd G.th j ((G.th j).dq k PB app') j).run=some k'):=fun hv CH=>by
    obtain⟨d,d1,d2⟩:=h.k.kn j b v kg hv
    rcases hp.keep b v d d1 with⟨x1,x2⟩|⟨rfl,x2|x2⟩
    ·refine⟨d,x2,d2.imp id (.imp (fun⟨k',y1,y2⟩=>⟨k',y1,Hk j k' y2⟩) fun⟨k',y1,y2⟩=>?_)⟩
     rw[aS]at y2;cases y2;exact absurd y1 x1
    ·exact⟨_,x2,.inr (.inl ⟨k,rfl,yW⟩)⟩
    exact absurd x2 (CH v)
   rw[upd_same]at hv
   have hv:C0 app' k (G.th j).kn b=some v:=hv
   unfold C0 at hv
   cases hb:app' b with
   |none=>rw[hb]at hv;rw[<-hb];exact hold hv fun v2 x=>by rw[hb]at x;cases x
   |some p=>
    obtain⟨v',d⟩:=p
    rw[hb]at hv;rw[<-hb]
    cases d with
    |dq k'=>
     simp only at hv
     by_cases e:k'=k
     ·rw[if_pos e]at hv;cases hv
      exact⟨.dq k',hb,.inr (.inl ⟨k',rfl,e▸yW⟩)⟩
     rw[if_neg e]at hv
     exact hold hv fun v2 x=>by rw[hb]at x;cases x
    |zc k'=>cases hv
    |_=>exact hold hv fun v2 x=>by rw[hb]at x;cases x
  rw[upd_ne _ _ e]at hv ⊢
  obtain⟨d,d1,d2⟩:=h.k.kn j b v kg hv
  rcases hp.keep b v d d1 with⟨x1,x2⟩|⟨rfl,_⟩
  ·exact⟨d,x2,d2⟩
  exfalso
  rcases d2 with x|⟨_,x,_⟩|⟨k',x,y⟩
  ·cases x
  ·cases x
  cases x;exact e (h.IK hi kg ee y)
 rw[aD]
 refine⟨Zt,fun j hj=>?_,fun j hj=>?_,WG⟩
 ·rw[show(Gh.th _ j).deaf=(G.th j).deaf from aW (i:=i) (l:=(G.th i).dq k PB app') Lo.deaf (by rfl) j,Go.ConcN.Deaf_still _ _ _ dI]
  exact h.t.deaf j (by rw[<-bq];exact hj)
 rw[Go.ConcN.Deaf_still _ _ _ dI];exact h.t.quiet j hj
end Go.Co

namespace Go.Co
open Go Go.Conc
open Go.ConcM (OsLater)
open Go.ConcN (sumTo upd sumTo_upd upd_ne upd_same sumTo_congr le_sumTo sumTo_le)
variable{E:Geo}{G G':Gh}{w w':World}{t t' u:Trace}{B B':Nat}
def nT(a:Addr):Array Event:= #[⟨.cell a,false,true⟩,⟨.cell a,true,true⟩]
theorem iU{a:Addr}{e:Event}(h:e∈nT a):e=⟨.cell a,false,true⟩\/e=⟨.cell a,true,true⟩:=by simpa [nT]using h
end Go.Co
