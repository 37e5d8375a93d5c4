/- HashMany returns true for every slice of tuples, in whatever order its goroutines run, and its argument reads as before. No condition. -/
import Derived.Test.YtahoihfbjlgpgaaCoF
import Derived.Conc.AtomicLaws2
import Derived.Conc.EventLaws2
import Derived.ProofKit
import Derived.OpenShut
import Derived.Below
import Derived.ChangeSame
import Derived.ChangeSlices
import Derived.Conc.HoldsTime
import Derived.Test.YtahoihfbjlgpgaaRows
set_option linter.all false
namespace Go.Co.F1
open Go Go.Conc Go.Proofs
open Go.Co
open Go.ConcM (OsLater)
open Go.ConcN (sumTo upd upd_ne upd_same)
set_option maxRecDepth 10000
def Ix(H B:Nat):SC->Addr
 |.done _=>br H 0
 |.word _=>br H 1
 |.sema _=>br H 2
 |.bG=>br B 0
 |.fX=>br B 1
def wQ(H T nj:Nat)(ro:Addr->Option Value)(a:Addr):Option (Value×Gd):=match ro a with
 |some v=>some (v,.ro)
 |none=>match ot H a with
  |some (v,k)=>some (v,.bM k)
  |none=>if a.block=T/\a.off<nj/\a.spot=none then some (.int .i64 0,.out a.off)else none
noncomputable def KY(Sh:Nat->Prop)(n:Nat)(w:World)(H B T nj:Nat)(ro:Addr->Option Value)(res:Nat->Int)(kb:Nat->Prop)(fin:Lo->Goroutine->World->Prop)(lY: ∀l g w,fin l g w->l.gr= .aT):Geo where
 P:=Try.prog
 K:=1
 sc:=Ix H B
 c:=0
 eg:=false
 n0:=n
 jz:=Sh
 nj:=nj
 jv:=fun _=>undef
 rs:=some
 w0:=w
 qU:=ot H
 App:=tZ H T nj ro res
 keep:=kb
 fin:=fin
 lY:=lY
structure Uh(w:World)(H B T nj:Nat)(ro:Addr->Option Value)(kb:Nat->Prop):Prop where
 cH: ∃cH,w.heap[H]?=some (.cells cH 76 (0,0))/\cH[0]?=some (.int .u32 0)/\cH[1]?=some (.int .i32 0)/\cH[2]?=some (.int .u32 0)/\cH[3]?=some (.int .i32 0)/\∀k:Nat,k<256->cH[4+k]?=some (.int .u8 0)
 cB: ∃t,w.heap[B]?=some (.cells #[.int .u64 0,.int .u32 0] t (0,0))
 cT: ∃cT t,w.heap[T]?=some (.cells cT t (0,0))/\∀j:Nat,j<nj->cT[j]?=some (.int .i64 0)
 Qb: ∀a v,ro a=some v->w.cell? a=some v/\w.frozen? a=false/\a.block≠H/\a.block≠B/\a.block≠T
 HB:H≠B
 HT:H≠T
 BT:B≠T
 ckb: ∀b,kb b->∃a v,ro a=some v/\a.block=b
def zQ(ai:Nat->Prop)(H B T:Nat)(ro:Addr->Option Value)(b:Nat):Prop:=ai b/\b≠H/\b≠B/\b≠T/\∀a v,ro a=some v->a.block≠b
theorem fL{w:World}{b:Nat}{c:Array Value}{e:TypeId}{fr:Nat×Nat}(h:w.heap[b]?=some (.cells c e fr))(o:Nat):w.cell? (br b o)=c[o]?:=by
 unfold World.cell?;rw[show w.heap[(br b o).block]?=_ from h];rfl
theorem dO{w:World}{b:Nat}{c:Array Value}{e:TypeId}(h:w.heap[b]?=some (.cells c e (0,0)))(o:Nat):w.frozen? (br b o)=false:=by
 unfold World.frozen?;rw[show w.heap[(br b o).block]?=_ from h];simp
theorem C3{x:SC}:x.ok 1↔x= .done 0\/x= .word 0\/x= .sema 0\/x= .bG\/x= .fX:=by
 cases x<;>simp[SC.ok]
theorem nv{H:Nat}{a:Addr}{v:Value}{k:Nat}(h:ot H a=some (v,k)):k=0/\((a=br H 3/\v= .int .i32 0)\/∃m:Nat,m<256/\a=br H (4+m)/\v= .int .u8 0):=by
 unfold ot at h
 split at h
 ·rename_i e;cases h;exact⟨rfl,.inl ⟨e,rfl⟩⟩
 split at h
 ·rename_i e;cases h
  obtain⟨e1,e2,e3,e4⟩:=e
  refine⟨rfl,.inr ⟨a.off-4,by omega,?_,rfl⟩⟩
  obtain⟨b,o,s⟩:=a
  simp only at e1 e2 e4
  subst e1;subst e4
  show(⟨b,o,none⟩:Addr)=⟨b,4+(o-4),none⟩
  congr 1;omega
 cases h
theorem sk{H T nj:Nat}{ro:Addr->Option Value}{a:Addr}{v:Value}{d:Gd}(h:wQ H T nj ro a=some (v,d)):(ro a=some v/\d= .ro)\/(ot H a=some (v,0)/\d= .bM 0)\/∃j,j<nj/\a=br T j/\v= .int .i64 0/\d= .out j:=by
 unfold wQ at h
 split at h
 ·rename_i u e;cases h;exact .inl ⟨e,rfl⟩
 split at h
 ·rename_i u k e;cases h
  obtain⟨rfl,_⟩:=nv e
  exact .inr (.inl ⟨e,rfl⟩)
 split at h
 ·rename_i e;cases h
  obtain⟨e1,e2,e3⟩:=e
  obtain⟨b,o,s⟩:=a
  simp only at e1 e2 e3
  subst e1;subst e3
  exact .inr (.inr ⟨o,e2,rfl,rfl,rfl⟩)
 cases h
variable{Sh:Nat->Prop}{n R:Nat}{w:World}{t:Trace}{H B T nj:Nat}{ro:Addr->Option Value}{res:Nat->Int}{kb:Nat->Prop}{fin:Lo->Goroutine->World->Prop}{lY: ∀l g w,fin l g w->l.gr= .aT}{ai:Nat->Prop}
theorem Uh.app(s:Uh w H B T nj ro kb):tZ H T nj ro res (wQ H T nj ro) (fun _=>false) fun _=>0:=by
 have Vi: ∀o,ro (br H o)=none:=fun o=>by
  cases e:ro (br H o)with
  |none=>rfl
  |some v=>exact absurd rfl (s.Qb _ v e).2.2.1
 have Wz: ∀o,ro (br T o)=none:=fun o=>by
  cases e:ro (br T o)with
  |none=>rfl
  |some v=>exact absurd rfl (s.Qb _ v e).2.2.2.2
 refine⟨fun a v h=>by unfold wQ;rw[h],fun j hj=>?_,.inl ⟨rfl,⟨0,?_⟩,fun k hk=>⟨0,?_⟩,fun a v=>⟨fun e=>?_,fun e=>?_⟩⟩,fun⟨j,e⟩=>absurd rfl e,fun e=>by cases e⟩
 ·unfold wQ
  rw[Wz]
  have:ot H (br T j)=none:=by
   cases e:ot H (br T j)with
   |none=>rfl
   |some x=>
    obtain⟨v,k⟩:=x
    obtain⟨_,e|⟨m,_,e,_⟩⟩:=nv e
    ·injection e.1 with e1;exact absurd e1.symm s.HT
    injection e with e1;exact absurd e1.symm s.HT
  rw[this]
  simp[hj]
 ·unfold wQ
  rw[Vi]
  have:ot H (br H 3)=some (.int .i32 0,0):=by unfold ot;rw[if_pos rfl]
  rw[this]
 ·unfold wQ
  rw[Vi,DN hk]
 ·rcases sk e with⟨_,x⟩|⟨_,x⟩|⟨_,_,_,_,x⟩<;>cases x
 rcases sk e with⟨_,x⟩|⟨_,x⟩|⟨_,_,_,_,x⟩<;>cases x
theorem Uh.TJ(s:Uh w H B T nj ro kb)(ho: ∀b,ai b->b<w.heap.size/\¬Sh b)(hB:R<=B)(oH:ai H)(oB:ai B)(oT:ai T)(X4: ∀a v,ro a=some v->ai a.block)(T7:nj<=47):
  QW (KY Sh n w H B T nj ro res kb fin lY) (zQ ai H B T ro) (wQ H T nj ro) nj R w:=by
 obtain⟨cH,hH,h0,h1,h2,h3,h4⟩:=s.cH
 obtain⟨tB,XH⟩:=s.cB
 obtain⟨cT,tT,hT,hTc⟩:=s.cT
 have Lz: ∀x:SC,x.ok 1->(Ix H B x).block=H\/(Ix H B x).block=B:=fun x hx=>by
  rcases C3.1 hx with rfl|rfl|rfl|rfl|rfl<;>first|exact .inl rfl|exact .inr rfl
 have Lc: ∀a v d,wQ H T nj ro a=some (v,d)->(∃v',ro a=some v')\/a.block=H\/a.block=T:=fun a v d e=>by
  rcases sk e with⟨x,_⟩|⟨x,_⟩|⟨_,_,x,_⟩
  ·exact .inl ⟨_,x⟩
  ·obtain⟨_,e|⟨m,_,e,_⟩⟩:=nv x
   ·rw[e.1];exact .inr (.inl rfl)
   rw[e];exact .inr (.inl rfl)
  rw[x];exact .inr (.inr rfl)
 have gQ: ∀x:SC,x.ok 1->w.cell? (Ix H B x)=some (Ru x)/\w.frozen? (Ix H B x)=false:=fun x hx=>by
  rcases C3.1 hx with rfl|rfl|rfl|rfl|rfl
  ·exact⟨(fL hH 0).trans h0,dO hH 0⟩
  ·exact⟨(fL hH 1).trans h1,dO hH 1⟩
  ·exact⟨(fL hH 2).trans h2,dO hH 2⟩
  ·exact⟨fL XH 0,dO XH 0⟩
  exact⟨fL XH 1,dO XH 1⟩
 refine{Qc:=rfl,OH:=fun b hb=>?_,YN:=Nat.zero_lt_one,XM:=fun x hx=>?_,VZ:=fun x y hx hy e=>?_,vQ:=fun a v d e=>?_,V0:=fun a v k e=>?_,bch:=fun e=>(by cases e),bold:=hB,QU:=fun b hb=>?_,blf:=T7,VY:=fun e=>(by cases e),QT:=s.app}
 ·obtain⟨b1,b2,b3,b4,b5⟩:=hb
  refine⟨(ho b b1).1,(ho b b1).2,fun x hx e=>?_,fun a v e1 e2=>?_,fun e=>by cases e⟩
  ·rcases Lz x hx with y|y
   ·exact b2 (e.symm.trans y)
   exact b3 (e.symm.trans y)
  rcases Lc a v.1 v.2 e1 with⟨v',y⟩|y|y
  ·exact b5 a v' y e2
  ·exact b2 (e2.symm.trans y)
  exact b4 (e2.symm.trans y)
 ·refine⟨(gQ x hx).1,(gQ x hx).2,?_⟩
  rcases Lz x hx with y|y
  ·show ¬Sh (Ix H B x).block
   rw[y];exact(ho H oH).2
  show ¬Sh (Ix H B x).block
  rw[y];exact(ho B oB).2
 ·have e:Ix H B x=Ix H B y:=e
  have hHB:=s.HB
  rcases C3.1 hx with rfl|rfl|rfl|rfl|rfl<;>rcases C3.1 hy with rfl|rfl|rfl|rfl|rfl<;>first|rfl|(simp[Ix,br]at e;done)|(simp[Ix,br]at e;exact absurd e hHB)|(simp[Ix,br]at e;exact absurd e.symm hHB)
 ·have cb:a.block≠B->(∀o,o<=2->a≠br H o)->∀x,x.ok 1->a≠Ix H B x:=fun n1 n2 x hx e=>by
   rcases C3.1 hx with rfl|rfl|rfl|rfl|rfl
   ·exact n2 0 (by decide) e
   ·exact n2 1 (by decide) e
   ·exact n2 2 (by decide) e
   ·exact n1 (by rw[e];rfl)
   exact n1 (by rw[e];rfl)
  rcases sk e with⟨x,rfl⟩|⟨x,rfl⟩|⟨j,hj,rfl,rfl,rfl⟩
  ·obtain⟨q1,q2,q3,q4,q5⟩:=s.Qb a v x
   exact⟨q1,q2,cb q4 (fun o _ e=>q3 (by rw[e])),(ho _ (X4 a v x)).2,.inl rfl⟩
  ·have hx:=x
   obtain⟨_,⟨rfl,rfl⟩|⟨m,hm,rfl,rfl⟩⟩:=nv x
   ·exact⟨(fL hH 3).trans h3,dO hH 3,cb s.HB (fun o wL e=>by injection e with _ e;omega),(ho H oH).2,.inr (.inl ⟨0,Nat.zero_lt_one,rfl,hx⟩)⟩
   exact⟨(fL hH (4+m)).trans (h4 m hm),dO hH (4+m),cb s.HB (fun o wL e=>by injection e with _ e;omega),(ho H oH).2,.inr (.inl ⟨0,Nat.zero_lt_one,rfl,hx⟩)⟩
  exact⟨(fL hT j).trans (hTc j hj),dO hT j,cb (Ne.symm s.BT) (fun o wL e=>by injection e with e;exact s.HT e.symm),(ho T oT).2,.inr (.inr ⟨j,rfl⟩)⟩
 ·have e:ot H a=some (v,k):=e
  obtain⟨rfl,_⟩:=nv e
  refine⟨v,?_⟩
  unfold wQ
  cases er:ro a with
  |none=>simp only[e]
  |some u=>
   exfalso
   obtain⟨_,⟨rfl,_⟩|⟨m,_,rfl,_⟩⟩:=nv e
   ·exact(s.Qb _ u er).2.2.1 rfl
   exact(s.Qb _ u er).2.2.1 rfl
 obtain⟨a0,v0,e1,rfl⟩:=s.ckb b hb
 obtain⟨_,_,q3,q4,q5⟩:=s.Qb a0 v0 e1
 refine⟨fun x hx e=>?_,fun e=>(by cases e),⟨a0,v0,by unfold wQ;rw[e1],rfl⟩,fun a v d e e2=>?_⟩
 ·rcases Lz x hx with y|y
  ·exact q3 (e.symm.trans y)
  exact q4 (e.symm.trans y)
 rcases sk e with⟨_,x⟩|⟨x,_⟩|⟨j,_,x,_⟩
 ·exact x
 ·exfalso
  obtain⟨_,⟨rfl,_⟩|⟨m,_,rfl,_⟩⟩:=nv x
  ·exact q3 e2.symm
  exact q3 e2.symm
 subst x;exact absurd e2.symm q5
theorem Pp(s:Uh w H B T nj ro kb)(hf:(KY Sh n w H B T nj ro res kb fin lY).da):Rq (KY Sh n w H B T nj ro res kb fin lY) H B T nj ro res:=
 {P:=rfl,fin:=hf,K:=rfl,O:=⟨rfl,rfl,rfl⟩,wg:=⟨Nat.zero_lt_one,rfl,rfl⟩,hC:=rfl,njE:=rfl,rs:=fun _=>rfl,qU:=fun _=>rfl,app:=rfl,roH:=fun a v h=>⟨(s.Qb a v h).2.2.1,(s.Qb a v h).2.2.2.2⟩,HT:=s.HT}
theorem An{j:Nat}: ∀m,(m<=j->dL some j m=0)/\(j<m->dL some j m=1)
 |0=>⟨fun _=>rfl,fun h=>by omega⟩
 |m+1=>by
  have e:dL some j (m+1)=dL some j m+if some m=some j then 1 else 0:=rfl
  obtain⟨i1,i2⟩:=An (j:=j) m
  rw[e]
  refine⟨fun h=>?_,fun h=>?_⟩
  ·rw[i1 (by omega),if_neg (by intro x;injection x with x;omega)]
  by_cases em:m=j
  ·subst em;rw[i1 (Nat.le_refl _),if_pos rfl]
  rw[i2 (by omega),if_neg (by intro x;injection x with x;exact em x)]
structure zav(w w2:World)(H T nj:Nat)(ro:Addr->Option Value)(res:Nat->Int)(kb:Nat->Prop):Prop where
 mro: ∀a v,ro a=some v->w2.cell? a=some v
 told: ∀j,j<nj->w2.cell? (br T j)=some (.int .i64 (res j))
 made:w2.cell? (br H 3)=some (.int .i32 (if nj=0 then 0 else 1))
 mkb: ∀b,kb b->w2.heap[b]?=w.heap[b]?
theorem M8{G:Gh}{w2:World}{t2:Trace}(h:GI (KY Sh n w H B T nj ro res kb fin lY) G w2 t2)(h0: ∀i,(G.th i).af=true->i=0)(ee:(G.th 0).mr=none)(mV:(G.th 0).bZ=none)(qv:(G.th 0).me=⟨0,0,nj,false⟩):zav w w2 H T nj ro res kb:=by
 obtain⟨d1,d2,d3,d4⟩:=h.ended h0 ee mV
 have vL:G.pos=nj:=by
  have:=h.j.me
  rw[qv]at this
  injection this with _ _ h3 _
  exact h3.symm
 have UP: ∀j,j<nj->G.cv j=1:=fun j hj=>by
  rw[d2 j,vL];exact(An nj).2 hj
 obtain⟨g1,g2,g3,g4,g5⟩:tZ H T nj ro res G.app G.dn G.cv:=d4
 refine⟨fun a v e=>(h.m.app a v _ (g1 a v e)).1,fun j hj=>?_,?_,fun b hb=>(h.m.keep b hb).same⟩
 ·have:=(h.m.app _ _ _ (g2 j hj)).1
  rw[UP j hj,if_neg (by decide)]at this
  exact this
 rcases g3 with⟨e1,⟨v,e2⟩,_⟩|⟨e1,e2,_⟩
 ·have hz:nj=0:=by
   rcases Nat.eq_zero_or_pos nj with e|e
   ·exact e
   have:=g4 ⟨0,by rw[UP 0 e];decide⟩
   rw[e1]at this;cases this
  have e3:=(d3 _ _ _ e2).2
  have e3:ot H (br H 3)=some (.int .i32 v,0):=e3
  unfold ot at e3
  rw[if_pos rfl]at e3
  injection e3 with e3;injection e3 with e3 _;injection e3 with _ e3
  rw[if_pos hz,(h.m.app _ _ _ e2).1,<-e3]
 have:=g5 e1
 rw[if_neg (by omega)]
 exact(h.m.app _ _ _ e2).1
end Go.Co.F1

namespace Go.SE
open Go Go.RowKit Go.Conc
variable [aG]
theorem iw.Ou{P:Program}{B:Nat}{w0:World}{ρ:aZ}{m:M}{w:World}{h k:Nat}{s:S}{cells Mr:List S}{sz:Nat}{e:TypeId}{v:Value}(hm:iw P B w0 ρ m w)(hr:m.reg h=some (.box cells sz e))(hh:h<m.nh)
  (hs: ∀ρ',S.Rel ρ' s v) (hc:setAt cells k [s]=Mr):iw P B w0 ρ ⟨(h,.box Mr sz e)::m.aj,m.nh,m.ds⟩ (w.setCell ⟨(ρ h).blk,k,none⟩ v):=by
 subst hc
 intro ρ' aU
 have Ki:=hm ρ' aU
 obtain⟨g1,g2,g3,ys,g4,g5⟩:=Ki.aj _ _ hr
 have e1:ρ' h=ρ h:=aU h hh
 have g6:=g5.setAt (l':= [s]) (ys':= [v]) ⟨hs ρ',trivial⟩ k
 have g7:bc ys k [v]=ys.set k v:=by rw[jS,gM]
 have:=Ki.write (r':=.box (setAt cells k [s]) sz e) (k:=m.nh) (w':=w.setCell ⟨(ρ h).blk,k,none⟩ v) hr rfl g1 (by rw[e1];exact dc.setCell w ⟨(ρ h).blk,k,none⟩ v) (by
  refine⟨g1,g2,?_,ys.set k v,?_,?_⟩
  ·have:=g6.length
   rw[fC]at this
   have h2:=g5.length
   omega
  ·rw[e1]at g4 ⊢
   exact heap_setCell_same v g4
  rw[<-g7];exact g6) .uL
 exact this ⟨fun _=>rfl,fun _=>rfl⟩
theorem mO{P:Program}{B:Nat}{w0:World}{ρ:aZ}{m:M}{w:World}{h k:Nat}{s:S}{cells:List S}{sz:Nat}{e:TypeId}(hm:iw P B w0 ρ m w)(hr:m.reg h=some (.box cells sz e))(hs:nth cells k=some s):
  (∃y,w.cell? ⟨(ρ h).blk,k,none⟩=some y/\s.Rel ρ y)/\w.frozen? ⟨(ρ h).blk,k,none⟩=false:=by
 obtain⟨g2,ys,g3,g4,g5⟩:=px ((hm ρ (an.refl _ _)).aj _ _ hr)
 obtain⟨y,h1,h2⟩:=g4.nth hs
 exact⟨⟨y,by rw[g5];exact h1,h2⟩,by simp[World.frozen?,g3]⟩
theorem kQ{P:Program}{B:Nat}{w0:World}{ρ:aZ}{m:M}{w:World}{h k:Nat}{cells:List S}{sz:Nat}{e:TypeId}(hm:iw P B w0 ρ m w)(hr:m.reg h=some (.box cells sz e)):
  aB ρ h k= .pointer (some ⟨(ρ h).blk,k,none⟩):=by
 obtain⟨_,g2,_⟩:=(hm ρ (an.refl _ _)).aj _ _ hr
 simp[aB,g2]
structure re(P:Program)(f:FuncId)(e:Array Value->Sem Value):Prop where
 out: ∃fn,P.funcs[f]?=some fn/\(fn.name== "runtime.NumGoroutine")=false/\fn.body.isNone=true/\Extern.findNext fn=none/\Extern.find fn=some e
section
variable{P:Program}{f:FuncId}{e:Array Value->Sem Value}{ys:Array Value}
theorem re.eq(h:re P f e): ∃k,callFunc f ys= .program k/\k P= .mark (.extern f) ((e ys).bind fun v=>.pure (.value v)):=by
 obtain⟨fn,h1,h2,h3,h4,h5⟩:=h.out
 have e2:callFunc f ys= .program fun p=>(match p.funcs[f]? with
  |none=>stuck "call: no such function"
  |some fn=>if fn.name== "runtime.NumGoroutine" then pure .numGoroutine else if fn.body.isNone then(do
   mark (.extern f)
   if let some e:=Extern.findNext fn then return <-e ys
   match Extern.find fn with
   |some e=>pure (.value (<-e ys))
   |none=>
    if fn.name.endsWith ".init" &&!fn.name.startsWith "(" &&!fn.name.startsWith "gosem." then pure (.value (.tuple #[]))
    else unsupported (.extern fn.name))else pure (.enter f ys)):=rfl
 refine⟨_,e2,?_⟩
 simp only[h1,h2,h3,h4,h5]
 rfl
theorem re.QX(h:re P f e){ok:Nat->Prop}(hs:bB P ok (fun _=>True) (e ys)):bB P ok (fun _=>True) (callFunc f ys):=by
 obtain⟨k,h1,h2⟩:=h.eq (ys:=ys)
 rw[h1]
 show qp P _ ok (k P)
 rw[h2]
 exact .inl ⟨.inl ⟨f,rfl⟩,sJ hs fun _ _=>trivial⟩
theorem re.run(h:re P f e){v:Value}{w w':World}(hr:(e ys).run P w= .ok v w'):(callFunc f ys).run P w= .ok (.value v) w':=by
 obtain⟨k,h1,h2⟩:=h.eq (ys:=ys)
 rw[h1]
 show(k P).run P w=_
 rw[h2]
 show((e ys).bind fun v=>Sem.pure (Next.value v)).run P w=_
 have e3:((e ys).bind fun v=>Sem.pure (Next.value v))=(e ys>>=fun v=>pure (Next.value v)):=rfl
 rw[e3]
 simp[Sem.run_bind,hr,Result.andThen]
end
theorem Al{P:Program}{ok:Nat->Prop}{k:IntKind}{a:Addr}:bB P ok (fun _=>True) (Extern.Atomic.read (.int k) a):=by
 unfold Extern.Atomic.read
 refine ag (R:=fun _=>True) (fun v=>trivial) fun v _=>?_
 repeat' (first|exact trivial|exact aE|split)
theorem Jo{P:Program}{ok:Nat->Prop}{k:IntKind}{v:Value}:bB P ok (fun _=>True) (Extern.Atomic.loadT (.int k) #[v]):=by
 show bB P ok _ (do Extern.Atomic.read (.int k) (<-asAddr v))
 exact ag kP fun _ _=>Al
theorem F8{P:Program}{ok:Nat->Prop}{v u:Value}:bB P ok (fun _=>True) (Extern.Atomic.storeT #[v,u]):=by
 show bB P ok _ (do store (<-asAddr v) u .atomic;pure Extern.Atomic.none_)
 exact ag kP fun _ _=>ag (R:=fun _=>True) (show qp P _ ok (store _ _ _)from trivial) fun _ _=>trivial
theorem MT{P:Program}{ok:Nat->Prop}{k:IntKind}{v u:Value}:bB P ok (fun _=>True) (Extern.Atomic.update (Op.intArith .add) k true #[v,u]):=by
 change bB P ok _ (do
  let a' <-asAddr v
  let old <-Extern.Atomic.read (.int k) a'
  let new <-Op.intArith .add k (<-asInt old) (<-asInt u)
  store a' new .atomic
  pure (if true then new else old))
 refine ag kP fun _ _=>ag Al fun _ _=>ag j7 fun _ _=>ag j7 fun _ _=>ag (R:=fun _=>True) ?_ fun _ _=>ag (R:=fun _=>True) (show qp P _ ok (store _ _ _)from trivial) fun _ _=>jl trivial
 exact jl trivial
section
variable{P:Program}{f:FuncId}{h k:Nat}{m:M}{K:X->M->Prop}{cells l:List S}{sz:Nat}{e:TypeId}{kk:IntKind}
theorem xO{x:Int}(hL:re P f (Extern.Atomic.loadT (.int kk)))(hr:m.reg h=some (.box cells sz e))(h0:nth cells k=some (.n kk x))(hK:K (.t (.one (.n kk x))) m):dS P f [.one (.ptr h k)] m K:=by
 refine dS.rP fun B w0 ρ w ys hm lW=>?_
 obtain⟨⟨y,h1,h2⟩,h3⟩:=mO hm hr h0
 cases h2
 have hy:=lW ρ (an.refl _ _)
 match ys,hy with
 | [y1],⟨q1,_⟩=>
  have q1:y1=aB ρ h k:=q1
  rw[q1,kQ hm hr]
  refine⟨⟨od,fun _ h=>h.elim,hL.QX Jo⟩,_,.t (.one (.n kk x)),ρ,m,w,hL.run (v:=.int kk x) ?_,an.refl _ _,Nat.le_refl _,hm,fun _ _=>rfl,hK⟩
  show Sem.run P (do Extern.Atomic.read (.int kk) (<-asAddr (.pointer (some ⟨(ρ h).blk,k,none⟩)))) w=_
  simp[Extern.Atomic.read,asAddr,h1,Result.andThen]
theorem JH{x:Int}{s0:S}(hL:re P f Extern.Atomic.storeT)(hr:m.reg h=some (.box cells sz e))(hh:Nat.blt h m.nh=true)(h0:nth cells k=some s0)(hl:setAt cells k [.n kk x]=l)
  (hK:m.cs fun rs nh ds=>jC l fun l=>K (.lv []) ⟨(h,.box l sz e)::rs,nh,ds⟩):dS P f [.one (.ptr h k),.one (.n kk x)] m K:=by
 rw[M.cy,dP]at hK
 refine dS.rP fun B w0 ρ w ys hm lW=>?_
 obtain⟨⟨y,h1,h2⟩,h3⟩:=mO hm hr h0
 have hy:=lW ρ (an.refl _ _)
 match ys,hy with
 | [y1,y2],⟨q1,q2,_⟩=>
  have q1:y1=aB ρ h k:=q1
  have q2:y2= .int kk x:=q2
  rw[q1,q2,kQ hm hr]
  refine⟨⟨od,fun _ h=>h.elim,hL.QX F8⟩,_,.lv [],ρ,⟨(h,.box l sz e)::m.aj,m.nh,m.ds⟩,w.setCell ⟨(ρ h).blk,k,none⟩ (.int kk x),hL.run (v:=.tuple #[]) ?_,an.refl _ _,Nat.le_refl _,hm.Ou (s:=.n kk x) hr (Nat.le_of_ble_eq_true hh) (fun _=>rfl) hl,fun _ _=>⟨[],rfl,trivial⟩,hK⟩
  show Sem.run P (do store (<-asAddr (.pointer (some ⟨(ρ h).blk,k,none⟩))) (.int kk x) .atomic;pure (Value.tuple #[])) w=_
  simp[asAddr,run_store P w ⟨(ρ h).blk,k,none⟩ (.int kk x) .atomic rfl,h1,h3,Result.andThen]
theorem Py{x d r:Int}(hL:re P f (Extern.Atomic.update (Op.intArith .add) kk true))(hr:m.reg h=some (.box cells sz e))(hh:Nat.blt h m.nh=true)(h0:nth cells k=some (.n kk x))(Kg:kk.wrap (x+d)=r)(hl:setAt cells k [.n kk r]=l)
  (hK:m.cs fun rs nh ds=>jC l fun l=>K (.t (.one (.n kk r))) ⟨(h,.box l sz e)::rs,nh,ds⟩):dS P f [.one (.ptr h k),.one (.n kk d)] m K:=by
 rw[M.cy,dP]at hK
 refine dS.rP fun B w0 ρ w ys hm lW=>?_
 obtain⟨⟨y,h1,h2⟩,h3⟩:=mO hm hr h0
 cases h2
 have hy:=lW ρ (an.refl _ _)
 match ys,hy with
 | [y1,y2],⟨q1,q2,_⟩=>
  have q1:y1=aB ρ h k:=q1
  have q2:y2= .int kk d:=q2
  rw[q1,q2,kQ hm hr]
  refine⟨⟨od,fun _ h=>h.elim,hL.QX MT⟩,_,.t (.one (.n kk r)),ρ,⟨(h,.box l sz e)::m.aj,m.nh,m.ds⟩,w.setCell ⟨(ρ h).blk,k,none⟩ (.int kk r),hL.run (v:=.int kk r) ?_,an.refl _ _,Nat.le_refl _,hm.Ou (s:=.n kk r) hr (Nat.le_of_ble_eq_true hh) (fun _=>rfl) hl,fun _ _=>rfl,hK⟩
  rw[<-Kg]
  exact run_add_entry h1 h3
theorem Gs{x:Int}{s0:S}(hL:re P f Extern.Atomic.storeT)(hr:m.reg h=some (.box cells sz e))(hh:Nat.blt h m.nh=true)(h0:nth cells k=some s0)(hl:setAt cells k [.n kk x]=l)
  (hK:m.cs fun rs nh ds=>K (.lv []) ⟨(h,.box l sz e)::rs,nh,ds⟩):dS P f [.one (.ptr h k),.one (.n kk x)] m K:=by
 refine JH (l:=l) hL hr hh h0 hl ?_
 rw[M.cy]at hK ⊢
 rw[dP]
 exact hK
theorem Nd{x d r:Int}(hL:re P f (Extern.Atomic.update (Op.intArith .add) kk true))(hr:m.reg h=some (.box cells sz e))(hh:Nat.blt h m.nh=true)(h0:nth cells k=some (.n kk x))(Kg:kk.wrap (x+d)=r)(hl:setAt cells k [.n kk r]=l)
  (hK:m.cs fun rs nh ds=>K (.t (.one (.n kk r))) ⟨(h,.box l sz e)::rs,nh,ds⟩):dS P f [.one (.ptr h k),.one (.n kk d)] m K:=by
 refine Py (l:=l) hL hr hh h0 Kg hl ?_
 rw[M.cy]at hK ⊢
 rw[dP]
 exact hK
end
structure Di(P:Program)(f:FuncId):Prop where
 zb:kF P f
 x: ∀mn b o v,v.cell? ⟨b,o,none⟩=some (.int .i32 0)->v.frozen? ⟨b,o,none⟩=false->aG.x P mn .normal f #[.pointer (some ⟨b,o,none⟩)] v fun y v'=>y= .tuple #[]/\Itf (v.setCell ⟨b,o,none⟩ (.int .i32 1)) v'
structure sF(P:Program)(f:FuncId):Prop where
 zb:kF P f
 x: ∀mn b o v,v.cell? ⟨b,o,none⟩=some (.int .i32 1)->v.frozen? ⟨b,o,none⟩=false->aG.x P mn .deferred f #[.pointer (some ⟨b,o,none⟩)] v fun y v'=>y= .tuple #[]/\Itf (v.setCell ⟨b,o,none⟩ (.int .i32 0)) v'
section
variable{P:Program}{f:FuncId}{h k:Nat}{m:M}{K:X->M->Prop}{cells l:List S}{sz:Nat}{e:TypeId}
theorem J2(hL:Di P f)(hr:m.reg h=some (.box cells sz e))(hh:Nat.blt h m.nh=true)(h0:nth cells k=some (.n .i32 0))(hl:setAt cells k [.n .i32 1]=l)
  (hK:m.cs fun rs nh ds=>jC l fun l=>K (.lv []) ⟨(h,.box l sz e)::rs,nh,ds⟩):dS P f [.one (.ptr h k)] m K:=by
 rw[M.cy,dP]at hK
 refine dS.of ⟨hL.zb,fun B w0 ρ w ys hm lW=>?_⟩
 have hy:=lW ρ (an.refl _ _)
 match ys,hy with
 | [y1],⟨q1,_⟩=>
  have q1:y1=aB ρ h k:=q1
  rw[q1,kQ hm hr]
  intro mn Fin c cs hk
  refine .ext (after:=c.finish) (R:=fun v y v'=>y= .tuple #[]/\Itf (v.setCell ⟨(ρ h).blk,k,none⟩ (.int .i32 1)) v') (.inl ⟨rfl,rfl⟩) (fun v iv=>?_) fun v iv y v2 hR=>?_
  ·obtain⟨⟨y,h1,h2⟩,h3⟩:=mO (hm.lj iv) hr h0
   cases h2
   exact hL.x mn _ _ _ h1 h3
  obtain⟨rfl,dF⟩:=hR
  exact hk _ _ ⟨_,.lv [],ρ,⟨(h,.box l sz e)::m.aj,m.nh,m.ds⟩,rfl,an.refl _ _,Nat.le_refl _,((hm.lj iv).Ou (s:=.n .i32 1) hr (Nat.le_of_ble_eq_true hh) (fun _=>rfl) hl).lj dF,fun _ _=>⟨[],rfl,trivial⟩,hK⟩
theorem Ck(hL:sF P f)(hr:m.reg h=some (.box cells sz e))(hh:Nat.blt h m.nh=true)(h0:nth cells k=some (.n .i32 1))(hl:setAt cells k [.n .i32 0]=l)
  (hK:m.cs fun rs nh ds=>jC l fun l=>K (.lv []) ⟨(h,.box l sz e)::rs,nh,ds⟩):ng P f (zW h k []) m K:=by
 rw[M.cy,dP]at hK
 refine⟨hL.zb,fun B w0 ρ w ys hm lW=>?_⟩
 have hy:=lW ρ (an.refl _ _)
 match ys,hy with
 | [y1],⟨q1,_⟩=>
  have q1:y1=aB ρ h k:=q1
  rw[q1,kQ hm hr]
  intro mn Fin c cs hc hk
  refine .ext (after:=fun _=>c) (R:=fun v y v'=>y= .tuple #[]/\Itf (v.setCell ⟨(ρ h).blk,k,none⟩ (.int .i32 0)) v') (.inr ⟨rfl,hc,rfl⟩) (fun v iv=>?_) fun v iv y v2 hR=>?_
  ·obtain⟨⟨y,h1,h2⟩,h3⟩:=mO (hm.lj iv) hr h0
   cases h2
   exact hL.x mn _ _ _ h1 h3
  obtain⟨rfl,dF⟩:=hR
  exact hk _ ⟨.lv [],ρ,⟨(h,.box l sz e)::m.aj,m.nh,m.ds⟩,an.refl _ _,Nat.le_refl _,((hm.lj iv).Ou (s:=.n .i32 0) hr (Nat.le_of_ble_eq_true hh) (fun _=>rfl) hl).lj dF,hK⟩
theorem GF(hL:Di P f)(hr:m.reg h=some (.box cells sz e))(hh:Nat.blt h m.nh=true)(h0:nth cells k=some (.n .i32 0))(hl:setAt cells k [.n .i32 1]=l)
  (hK:m.cs fun rs nh ds=>K (.lv []) ⟨(h,.box l sz e)::rs,nh,ds⟩):dS P f [.one (.ptr h k)] m K:=by
 refine J2 (l:=l) hL hr hh h0 hl ?_
 rw[M.cy]at hK ⊢
 rw[dP]
 exact hK
theorem zB(hL:sF P f)(hr:m.reg h=some (.box cells sz e))(hh:Nat.blt h m.nh=true)(h0:nth cells k=some (.n .i32 1))(hl:setAt cells k [.n .i32 0]=l)
  (hK:m.cs fun rs nh ds=>K (.lv []) ⟨(h,.box l sz e)::rs,nh,ds⟩):ng P f (zW h k []) m K:=by
 refine Ck (l:=l) hL hr hh h0 hl ?_
 rw[M.cy]at hK ⊢
 rw[dP]
 exact hK
end
theorem yF{C:Ctx}{o:Oper}{K:Env->M->Prop}{env:Env}{m:M}{c:Call}{f x:Operand}{g:FuncId}{h k:Nat}{xs:List Bool}{args:List Operand}(hd:gD C o.dst=true)(Yg:C.rd=none)(ho:o.op= .defer c)(hc:c.callee= .value f)(ha:c.args.toList=x::args)
  (hf:cJ env f=some (.fn g [])) (hx:cJ env x=some (.ptr h k)) (Ky: ∀ρ a,cq ρ env a->args.map a.eval=xs.map Value.bool) (hh:Nat.blt h m.nh=true) (hK:m.cs fun rs nh ds=>env.go o.dst (.lv []) fun env=>K env ⟨rs,nh,.call g h k xs::ds⟩):Stop C o env m K:=by
 rw[M.cy,Env.go_eq]at hK
 refine⟨fun hg B w0 ρ a w aL hp=>?_⟩
 have hE:=aL.ok.env ρ (an.refl _ _)
 have h1:a.eval f= .func (.func g) #[] #[]:=aA hE hf
 have h2:a.eval x=aB ρ h k:=aA hE hx
 have bA:h<m.nh:=Nat.le_of_ble_eq_true hh
 have iP:C.ro ρ=none:=by simp[Ctx.ro,Yg]
 have Kp:c.args.map a.eval=(aB ρ h k::xs.map Value.bool).toArray:=by
  apply Array.toList_inj.1
  simp only[Array.toList_map,ha,List.map_cons,h2,Ky ρ a hE]
 have tV:Oper.semAt (C.ro ρ) a.eval o=Sem.pure (.defer {target:=.fn (.func g) #[],args:=(aB ρ h k::xs.map Value.bool).toArray}):=by
  rw[iP]
  have ZR:c.args.map (fun x=>a.eval x)=(aB ρ h k::xs.map Value.bool).toArray:=Kp
  simp[Oper.semAt,execOp,ho,resolve,hc,h1,Deferred.ofValue,ZR]
  rfl
 refine⟨⟨od,fun _ h=>h.elim,by rw[tV];exact trivial⟩,?_⟩
 rw[eM (n:=.defer {target:=.fn (.func g) #[],args:=(aB ρ h k::xs.map Value.bool).toArray}) (v':=w) (by rw[tV];rfl)]
 refine⟨ρ,eL env o.dst (.lv []),⟨m.aj,m.nh,.call g h k xs::m.ds⟩,an.refl _ _,hp,⟨⟨fun ρ' aU=>?_,fun ρ' aU=>?_,?_⟩,fun ρ' aU=>?_⟩,hK⟩
 ·exact cq.put (a:={a with defers:=_::a.defers}) (aL.ok.env ρ' aU) aL.ok.size (di hd) (um ρ')
 ·have:=aL.ok.mem ρ' aU
  exact⟨this.aj,this.fG,this.base,this.below,this.hB⟩
 ·rw[gb];exact aL.ok.size
 rw[put_defers]
 show _::a.defers=_::m.ds.map _
 rw[aL.ds ρ' aU]
 simp only[lp.den]
 rw[zt (aU h bA)]
theorem Cl{P:Program}{f:FuncId}{args:List T}{m:M}{K:X->M->Prop}{fn:Func}{c:Code}(hf:P.funcs[f]?=some fn)(hb:fn.body=some c)(hn:(fn.name== "runtime.NumGoroutine")=false)(E6:fn.results.toList= [])
  (h:aY fn.ntmps fun nt=>m.cs fun rs nh _=>aY nh fun nh=>Env.force (rp args 0) fun env=>se ⟨P,nt,nh,none⟩ c (fin P [] K) env ⟨rs,nh,[]⟩):ng P f args m K:=by
 rw[aQ,M.cy,aQ,Env.force_eq]at h
 refine⟨enters hf hb hn,fun B w0 ρ w ys hm lW=>?_⟩
 refine zC hf hb ?_
 have aL:=Aw (nt:=fn.ntmps) hm lW
 have h1:=kI (C:=⟨P,fn.ntmps,m.nh,none⟩) (fun _ hh=>by cases hh) c h B w0 ρ _ w aL (Nat.le_refl _)
 refine fp h1 ?_
 rintro e a' w' ⟨ρ',env',m',h3,h4,h5,h6⟩
 have dw:(e= .normal\/e= .ret)/\Dd P [] K env' m':=by
  cases e<;>first|exact⟨.inl rfl,h6⟩|exact⟨.inr rfl,h6⟩|exact h6.elim
 have LN:lF P fn a'.tmps (fun e w'=>match e with|.returned _=>∃x ρ' m',an (Lex m) ρ ρ'/\m.nh<=m'.nh/\iw P B w0 ρ' m' w'/\K x m'|_=>False) a'.defers w':=by
  obtain⟨_,hgo⟩:=dw
  have hgo:=DT hgo
  rw[h5.ds ρ' (an.refl _ _)]
  have LO: ∀d∈m'.ds,d.hd<m'.nh:=by
   intro d hd
   refine Classical.byContradiction fun Yq=>?_
   have h8:=h5.ds ρ' (an.refl _ _)
   have h9:=h5.ds (upd ρ' d.hd ⟨(ρ' d.hd).blk+1,0,0,0,false⟩) (dN ρ' _ (by unfold Lex;omega))
   rw[h8]at h9
   have EU:=(List.map_inj_left.1 h9) d hd
   cases d with
   |Ku k=>
    simp only[lp.den,lp.hd,upd_same]at EU
    simp at EU
   |call f k o xs=>
    simp only[lp.den,lp.hd,aB,upd_same]at EU
    simp at EU
  refine qc m'.ds m' ρ' w' hgo h5.mem LO fun m2 ρ2 w2 jP tM dY hK=>?_
  unfold Fb at hK
  split at hK
  ·rename_i x hx
   rw[gK,M.cy,aQ]at hK
   have hE: ∀ρ'',an (Lex m2) ρ2 ρ''->cq ρ'' env' a':=fun ρ'' aU=>h5.ok.env ρ'' fun k hk=>(aU k (Nat.lt_of_lt_of_le hk dY)).trans (jP k hk)
   obtain⟨v,hv,_⟩:=xS (fn:=fn) (hE ρ2 (an.refl _ _)) (tM ρ2 (an.refl _ _)) (by rw[E6];exact hx)
   exact⟨v,hv,x,ρ2,m2,h3.trans jP (fun k hk=>Nat.lt_of_lt_of_le hk h4),Nat.le_trans h4 dY,tM,hK⟩
  exact hK.elim
 rcases dw.1 with rfl|rfl<;>exact LN
end Go.SE

namespace Go.Proofs.S08
open Go Go.SE
set_option maxRecDepth 100000
set_option linter.all false
set_option maxHeartbeats 4000000
attribute [local irreducible] dx
variable [aG]
theorem PA:re Try.prog 78 (Extern.Atomic.loadT (.int .u32)):=⟨Try.f78,Try.func78,by decide+kernel,rfl,by rfl,by rfl⟩
theorem DF:re Try.prog 55 (Extern.Atomic.loadT (.int .i32)):=⟨Try.f55,Try.func55,by decide+kernel,rfl,by rfl,by rfl⟩
theorem Pz:re Try.prog 84 Extern.Atomic.storeT:=⟨Try.f84,Try.func84,by decide+kernel,rfl,by rfl,by rfl⟩
theorem Nf:re Try.prog 74 (Extern.Atomic.update (Op.intArith .add) .i32 true):=⟨Try.f74,Try.func74,by decide+kernel,rfl,by rfl,by rfl⟩
theorem PR:bo Try.prog 85 [.one (.v (.bool true))] [] (.t (.one (.n .u32 1))) []:=by
 refine bg rfl ?_
 refine az Try.func85 rfl rfl ?_
 intro _
 repeat' fail
 all_goals(refine dk ?_ rfl;intro u;clear u;refine⟨rfl,rfl,bO.mk ?_ ?_⟩<;>(repeat' (first|exact trivial|(with_reducible rfl)|apply And.intro|rfl)))
def tc(k i:Nat):Int:=if i<k then ir (i:Int)else 0
def EY(k:Nat):List S:=(List.range 256).map fun i=>.v (.int .u8 (tc k i))
theorem xD(k:Nat):(EY k).length=256:=by simp[EY]
theorem Am: ∀ (l:List S) (k:Nat) (v:S),setAt l k [v]=l.set k v
 | [],k,v=>by cases k<;>rfl
 |x::l,0,v=>by
  cases l<;>simp[setAt]
 |x::l,k+1,v=>by simp[setAt,Am l k v]
theorem HZ: ∀ (l:List S) (k:Nat),nth l k=l[k]?
 | [],k=>by cases k<;>rfl
 |x::l,0=>rfl
 |x::l,k+1=>by simp[nth,HZ l k]
def zf(d m n:Int)(k:Nat):List S:=.n .u32 d:: .n .i32 m:: .n .u32 0:: .n .i32 n::EY k
theorem MI(k:Nat)(h:k<256):(EY k).set k (.v (.int .u8 (ir (k:Int))))=EY (k+1):=by
 refine List.ext_getElem (by simp[xD]) fun i h1 h2=>?_
 rw[List.getElem_set]
 simp only[EY,List.getElem_map,List.getElem_range]
 by_cases e:k=i
 ·subst e;simp[tc]
 rw[if_neg e]
 unfold tc
 by_cases e2:i<k
 ·rw[if_pos e2,if_pos (by omega)]
 rw[if_neg e2,if_neg (by omega)]
theorem OT{d m n:Int}{cs:List S}(k:Nat)(h:k<256){p:Nat}(hc:cs=zf d m n k)(hp:p=4+k):setAt cs p [.v (.int .u8 (ir (k:Int)))]=zf d m n (k+1)/\p+ [S.v (.int .u8 (ir (k:Int)))].length<=cs.length:=by
 subst hp hc
 refine⟨?_,by simp[zf,xD];omega⟩
 rw[Am,show 4+k=k+1+1+1+1 by omega]
 simp only[zf,List.set_cons_succ,List.cons.injEq,true_and]
 exact MI k h
theorem OU{d m n:Int}{cs:List S}{c:Int}(h:byte c){p:Nat}(hc:cs=zf d m n 256)(hp:p=4+c.toNat):nth cs p=some (.v (.int .u8 (ir c))):=by
 subst hp hc
 obtain⟨k,rfl,hk⟩:=gg h
 rw[HZ,show 4+(k:Int).toNat=k+1+1+1+1 by simp;omega]
 simp only[zf,List.getElem?_cons_succ]
 rw[List.getElem?_eq_getElem (by rw[xD];exact hk)]
 simp only[EY,List.getElem_map,List.getElem_range,tc]
 rw[if_pos hk]
theorem Ja(hLk:Di Try.prog 79)(hUl:sF Try.prog 80):bo Try.prog 11 [] [] (.t (.one (.v (.bool true)))) []:=by
 have hB:=py j0
 refine bg rfl ?_
 refine az Try.func11 rfl rfl ?_
 intro _
 repeat' (first|(refine cL (f:=55) ?_;refine xO DF rfl rfl ?_;intro u;clear u)|(refine nu (id:=3) ?_;refine Gl mixed rfl ?_)|(refine PD ?_;(first|(refine JC 0 (by rfl) (by show still Try.prog _=true;decide+kernel) (by decide+kernel) ?_;intro u;clear u)|(refine Gw [2] ?_;refine wu ?_)))|(refine wu ?_;(first|(refine JM [2] 2 _ (by rfl) (.head _) rfl (by decide+kernel) ?_;intro u;clear u)|(refine mK [2] 1 (by rfl) rfl (by decide+kernel) ?_;intro u;clear u)))|(refine cL (f:=78) ?_;refine xO PA rfl rfl ?_;intro u;clear u)|(refine cL (f:=79) ?_;refine GF (l:=.n .u32 0:: .n .i32 1:: .n .u32 0:: .n .i32 0::rep [.n .u8 0] 256) hLk rfl rfl rfl (by rfl) ?_;intro u;clear u)|(refine yF (xs:= []) rfl rfl rfl rfl rfl rfl rfl (fun _ _ _=>rfl) rfl ?_;intro u;clear u)|(refine yF (xs:= [true]) rfl rfl rfl rfl rfl rfl rfl (fun _ _ _=>rfl) rfl ?_;intro u;clear u)|(refine cL ?_;(first|refine az Try.func18 rfl rfl ?_|refine az Try.func20 rfl rfl ?_|refine az Try.func37 rfl rfl ?_|refine az Try.func21 rfl rfl ?_|refine az Try.func38 rfl rfl ?_|refine az Try.func56 rfl rfl ?_|refine az Try.func73 rfl rfl ?_|refine az Try.func72 rfl rfl ?_|refine az Try.func57 rfl rfl ?_);intro u;clear u))
 refine mI (fun k:Nat=>256-k) (fun k=>k<=256) [0] (fun k=> [(2,.t (.one (.v (.int .i64 k))))]) (fun k=> [(0,.box (zf 0 1 0 k) 1 76)]) (fun _=> []) [] 0 0 (Nat.zero_le _) ?_ ?_
 ·(intro u;clear u;refine⟨rfl,rfl,bO.mk ?_ ?_⟩<;>(repeat' (first|exact trivial|(with_reducible rfl)|apply And.intro|rfl)))
 intro k hk u
 clear u
 by_cases hc:k<256
 ·have hT:=oZ (c:=(k:Int)) ⟨by omega,by omega⟩
  repeat' (first|(refine kM ?_;refine Fl (by exact QQ (by omega)) ?_<;>(intro u;clear u))|(refine dz ?_;(first|(refine fK ?_;(with_reducible refine asked _ (xj (by simp only[lo,hi];omega) (by simp only[lo,hi];omega)) ?_))|(refine nq ?_;refine asked _ (dM (by simp only[lo,hi];omega) (by simp only[lo,hi];omega)) ?_)|(refine asked _ (OT (d:=0) (m:=1) (n:=0) k hc (by rfl) (by show 0+4+Int.toNat (k:Int)*1=4+k;omega)) ?_)|refine asked () ⟨by omega,by omega⟩ ?_);intro u;clear u)|(refine nu ?_;refine qg mixed (by kernel_rfl) ?_;intro u;clear u)|(refine pf ?_;refine eO (hT) (cZ rfl) (by exact trivial) rfl ?_;intro u;clear u))
  refine again (k+1) (by omega) (by omega) ?_
  (intro u;clear u;refine⟨rfl,rfl,bO.mk ?_ ?_⟩<;>(repeat' (first|exact trivial|(with_reducible rfl)|apply And.intro|rfl)))
 obtain rfl:k=256:=by omega
 repeat' (first|(refine wu ?_;(first|(refine mK [2] 3 (by rfl) rfl (by decide+kernel) ?_;intro u;clear u)|(refine mK [2] 4 (by rfl) rfl (by decide+kernel) ?_;intro u;clear u)))|(refine H6 ?_;refine Kept.mk ?_ ?_;focus(repeat' (first|exact trivial|apply And.intro|exact rfl)))|(refine cL (f:=74) ?_;refine Nd (x:=0) (d:=1) (r:=1) (l:=zf 0 1 1 256) Nf rfl rfl rfl (by decide) (by rfl) ?_;intro u;clear u)|(refine Cl Try.func81 rfl rfl rfl ?_;intro u;clear u)|(refine nu (id:=0) ?_;refine AQ mixed ?_;refine Dy 5 (by kernel_rfl) rfl (by rfl) (by kernel_rfl) ?_;intro u;clear u)|(refine cL (f:=84) ?_;refine Gs (l:=zf 1 1 1 256) Pz rfl rfl rfl (by rfl) ?_;intro u;clear u)|(refine zB (l:=zf 1 0 1 256) hUl rfl rfl rfl (by rfl) ?_;intro u;clear u)|(refine kM ?_;refine Qf (by rfl) ?_<;>(intro u;clear u))|(refine Ml ?_;refine Nn ?_)|(refine Ml ?_;refine Tz ?_;intro u;clear u)|(refine H5 ?_;refine HU (by kernel_rfl) (by rfl) ?_;intro u;clear u)|(refine sO ?_;refine nD rfl rfl ?_;intro u;clear u)|(refine cL ?_;(first|refine BY (by(repeat' (first|exact trivial|apply And.intro|exact rfl));(first|done|fail)) (hB) (by exact trivial) rfl ?_|refine az Try.func58 rfl rfl ?_|refine az Try.func32 rfl rfl ?_|refine az Try.func53 rfl rfl ?_|refine az Try.func70 rfl rfl ?_);intro u;clear u)|(refine pf ?_;refine eO (PR) (cZ rfl) (by exact trivial) rfl ?_;intro u;clear u))
 refine mI (fun k:Nat=>12-k) (fun k=>k<=12) [0,2,3,7,8] (fun k=> [(9,.t (.one (.v (.int .i64 k))))]) (fun k=> [(4,.box [.v (.int .u8 (y7 0 ((y9 fS).take k)))] 1 5),(6,.box [.v (.int .u8 (y7 0 ((y9 fS).take k)))] 1 5)]) (fun _=> [(9,[],[4,10])]) [] 0 0 (Nat.zero_le _) ?_ ?_
 ·(intro u;clear u;refine⟨rfl,rfl,bO.mk ?_ ?_⟩<;>(repeat' (first|exact trivial|(with_reducible rfl)|apply And.intro|rfl)))
 intro k hk u
 clear u
 by_cases hc:k<12
 ·have hl:(y9 fS).length=12:=rfl
  have ha:=mE (s:=0) ⟨by decide,by decide⟩ (nK (iC fS) k)
  have hx:=qe (iC fS) k
  have ED:=sj ha hx
  obtain⟨a1,a2⟩:=ha
  obtain⟨x1,x2⟩:=hx
  obtain⟨y1,y2⟩:=ED
  repeat' (first|(refine kM ?_;refine Fl (by exact QQ (by omega)) ?_<;>(intro u;clear u))|(refine dz ?_;(first|(refine fK ?_;(first|(refine asked (xr _ _) (Bc rfl (by omega) (by simp only[hi];omega) (by omega) (by simp only[hi];omega)) ?_)|(with_reducible refine asked _ (xj (by simp only[lo,hi];omega) (by simp only[lo,hi];omega)) ?_)))|(refine asked _ (Qv k (by show(0+Int.toNat (k:Int))*1=_;omega) (by omega)) ?_)|(refine asked _ (OU (d:=1) (m:=0) (n:=1) (c:=xr (y7 0 ((y9 fS).take k)) ((y9 fS).getD k 0)) ⟨y1,y2⟩ (by rfl) (by show 0+4+Int.toNat _*1=_;omega)) ?_)|refine asked () ⟨by omega,by omega⟩ ?_);intro u;clear u)|(refine sN ?_;refine nz rfl rfl rfl rfl ?_;intro u;clear u)|(refine cL ?_;refine az Try.func59 rfl rfl ?_;intro u;clear u))
  refine again (k+1) (by omega) (by omega) ?_
  (intro u;clear u;refine⟨rfl,rfl,bO.mk ?_ ?_⟩<;>(repeat' (first|exact trivial|(with_reducible rfl)|apply And.intro|rfl)))
  all_goals exact(sQ (by omega)).symm
 obtain rfl:k=12:=by omega
 rw[show(y9 fS).take 12=y9 fS from rfl]
 have hF:=rF (p6 fS)
 have hT0:=oZ (c:=0) ⟨by decide,by decide⟩
 have hT1:=oZ (c:=1) ⟨by decide,by decide⟩
 have hU:=FV (c:=75) ⟨by decide,by decide⟩
 have YD:=FJ (s:=0) ⟨by decide,by decide⟩ (l:= [1,0]) (by intro x hx;simp at hx;omega) (by decide) 0 2 rfl rfl
 have YC:=PG [.one (.v (.int .u8 7)),.one (.v (.slice none 0 0))] [] rfl (FJ (s:=7) ⟨by decide,by decide⟩ (l:= []) (by intro x hx;cases hx) (by decide) 0 0 rfl rfl) (by repeat' (first|exact trivial|exact rfl|exact Or.inl rfl|apply And.intro)) rfl
 have hS:=Hz j0
 have hO:=Bj j0
 have hSm:=MW j0 j0
 have hRO:=Js j0
 have hRG:=At (s:=0) ⟨by decide,by decide⟩ (l:=y9 fS) (iC fS) (by rw[pU];decide) 12 rfl
 repeat' (first|(refine wu ?_;(first|(refine Nm (by decide+kernel) ?_;intro u;clear u)|(refine mK [2] 5 (by rfl) rfl (by decide+kernel) ?_;intro u;clear u)|(refine mK [2] 6 (by rfl) rfl (by decide+kernel) ?_;intro u;clear u)))|(refine H6 ?_;refine Kept.mk ?_ ?_;focus(repeat' (first|exact trivial|apply And.intro|exact rfl)))|(refine nu (id:=4) ?_;refine AQ mixed ?_;refine Dy 49 (by kernel_rfl) rfl (by rfl) (by kernel_rfl) ?_;intro u;clear u)|(refine cL (f:=55) ?_;refine xO DF rfl rfl ?_;intro u;clear u)|(refine kM ?_;(first|(refine Qf (by decide) ?_)|(refine Fl (by decide+kernel) ?_))<;>(intro u;clear u))|(refine dz ?_;(refine asked ((12:Nat),(12:Nat),ints .u8 (y9 fS)) ⟨rfl,rfl,by decide,by decide,by decide,rfl⟩ ?_);intro u;clear u)|(refine H5 ?_;refine HU (by kernel_rfl) (by rfl) ?_;intro u;clear u)|(refine cL ?_;(first|refine e9 (hF) (cZ rfl) (by exact trivial) rfl ?_|refine az Try.func20 rfl rfl ?_|refine az Try.func37 rfl rfl ?_);intro u;clear u)|(refine pf ?_;(first|refine gf (by(repeat' (first|exact trivial|apply And.intro|exact rfl));(first|done|fail)) (hT0) (by exact trivial) rfl ?_|refine gf (by(repeat' (first|exact trivial|apply And.intro|exact rfl));(first|done|fail)) (hT1) (by exact trivial) rfl ?_|refine gf (by(repeat' (first|exact trivial|apply And.intro|exact rfl));(first|done|fail)) (hU) (by exact trivial) rfl ?_|refine gf (by(repeat' (first|exact trivial|apply And.intro|exact rfl));(first|done|fail)) (YD) (by exact⟨⟨_,rfl,rfl,rfl⟩,trivial⟩) rfl ?_|refine gf (by(repeat' (first|exact trivial|apply And.intro|exact rfl));(first|done|fail)) (YC) (by exact trivial) rfl ?_|refine gf (by(repeat' (first|exact trivial|apply And.intro|exact rfl));(first|done|fail)) (hS) (by exact trivial) rfl ?_|refine gf (by(repeat' (first|exact trivial|apply And.intro|exact rfl));(first|done|fail)) (hO) (by exact trivial) rfl ?_|refine gf (by(repeat' (first|exact trivial|apply And.intro|exact rfl));(first|done|fail)) (hSm) (by exact trivial) rfl ?_|refine gf (by(repeat' (first|exact trivial|apply And.intro|exact rfl));(first|done|fail)) (hRO) (by exact trivial) rfl ?_|refine gf (by(repeat' (first|exact trivial|apply And.intro|exact rfl));(first|done|fail)) (hRG) (by exact⟨⟨_,rfl,rfl,rfl⟩,trivial⟩) rfl ?_);intro u;clear u))
 all_goals(refine dk ?_ rfl;intro u;clear u;refine⟨rfl,rfl,bO.mk ?_ ?_⟩<;>(repeat' (first|exact trivial|(with_reducible rfl)|apply And.intro|rfl)))
end Go.Proofs.S08

namespace Go.Co.F1
open Go Go.Conc Go.Proofs
open Go.Co
open Go.ConcN (upd upd_ne upd_same)
variable{E:Geo}{N i:Nat}{l:Lo}{w:World}
set_option maxRecDepth 10000
set_option linter.unusedVariables false
structure Pr(E:Geo)(l:Lo):Prop where
 fin:E.da
 P:E.P=Try.prog
 af:l.af=true
 ch:l.ch= .no
 rel:l.rel=none
 deaf:l.deaf=0
structure EW(ai:Nat->Prop)(w:World)(b o:Nat)(v:Int):Prop where
 ai:ai b
 c:w.cell? (br b o)=some (.int .i32 v)
 fz:w.frozen? (br b o)=false
theorem EW.view{ai:Nat->Prop}{w':World}{b o:Nat}{v:Int}(h:EW ai w b o v)(hv:View ai w w'):EW ai w' b o v:=by
 obtain⟨e1,e2⟩:=cE (a:=br b o) (hv.2 b h.ai)
 exact⟨h.ai,e1.trans h.c,e2.trans h.fz⟩
theorem EW.set{ai:Nat->Prop}{b o:Nat}{v:Int}(h:EW ai w b o v)(v':Int):EW ai (w.setCell (br b o) (.int .i32 v')) b o v':=
 ⟨h.ai,sK h.c _,by rw[nm];exact h.fz⟩
theorem bU{ai:Nat->Prop}{w':World}{a:Addr}{v:Value}(hv:View ai w w'):View ai (w.setCell a v) (w'.setCell a v):=by
 refine⟨by rw[aD,aD];exact hv.1,fun b hb=>?_⟩
 have:=hv.2 b hb
 unfold World.setCell
 simp only[Array.getElem?_modify,this]
theorem AE(h:l.deaf=0):(l.hear 1).hear 0=l:=by unfold Lo.hear;rw[<-h]
theorem Pu{b o:Nat}(A:Pr E l)(c:EW l.ai w b o 0){fr:Frame}{cs:List Frame}
  (h: ∀w',View l.ai (w.setCell (br b o) (.int .i32 1)) w'->Tr E N i l (Conc.G (fr.finish (.tuple #[])) cs) w'):
  Tr E N i l (Conc.G (Frame.enter Try.prog 82 #[ptr b o] .normal) (fr::cs)) w:=by
 have hP:=A.P
 have W:ay Try.prog E l (base 82):=⟨⟨A.fin,A.ch,by decide⟩,hP⟩
 refine Tr.ck hP Rj (Nat.le_of_ble_eq_true rfl) ?_
 (repeat(first|refine Tk.seq (ay.wk W) ?_|refine Tk.reg W ?_))
 refine ah.jk W (m:=.disable) (fun g e=>by cases e) (by rfl) (by rfl) (by rfl) (by rfl) Rg fun G w1 t hg au ax ig=>?_
 refine⟨_,false,kN hg au ax,cd.same (ah.bx ?_)⟩
 rw[A.deaf]
 have W1:ay Try.prog E (l.hear 1) (base 82):=fO W A.ch
 have c1:EW (l.hear 1).ai w1 b o 0:=c.view ig
 (repeat(first|refine ah.dn W1 ?_|refine ah.pS W1 (hp:=by first|exact aa (.inl rfl) rfl|exact ak rfl rfl|exact av rfl rfl (by rfl) rfl (by decide+kernel)) (h:=?_)|refine Tk.seq (ay.wk W1) ?_|refine Tk.reg W1 ?_))
 refine ah.Y9 W1 A.rel (kk:=.i32) (ad:=br b o) (v0:=0) (v1:=1) c1.ai c1.c c1.fz (by rfl) (by rfl) (by rfl) (by rfl) (by rfl) U5 rfl rfl rfl fun w2 dF=>?_
 have c2:EW (l.hear 1).ai (w2.setCell (br b o) (.int .i32 1)) b o 1:=(c1.view dF).set 1
 (repeat(first|refine ah.dn W1 ?_|refine Tk.seq (ay.wk W1) ?_|refine Tk.reg W1 ?_|refine Tk.cp (ay.wk W1) rfl ?_))
 refine ah.jk W1 (m:=.enable) (fun g e=>by cases e) (by rfl) (by rfl) (by rfl) (by rfl) GX fun G w3 t hg au ax gh=>?_
 refine⟨_,false,iZ (d:=0) hg au ax rfl,cd.same (ah.bx ?_)⟩
 rw[AE A.deaf]
 have c3:EW l.ai w3 b o 1:=c2.view gh
 (repeat(first|refine ah.dn W ?_|refine ah.pS W (hp:=by exact aa (.inl rfl) rfl) (h:=?_)|refine Tk.reg W ?_))
 refine ah.Qj W (ad:=br b o) c3.ai c3.c (by rfl) (by rfl) (by rfl) (by rfl) (by rfl) (by rfl) (by rfl) (by decide+kernel) rfl ?_
 refine ah.HV W A.rel (mk:=.acquire) (.inl rfl) (ad:=br b o) c3.ai (by rfl) (by rfl) (by rfl) (by rfl) (by rfl) U6 rfl fun w4 wK=>?_
 (repeat(refine ah.dn W ?_))
 refine Tk.ret W.wk (fE.leave0 W.wk (hP▸Rj) (h _ ?_))
 exact(bU (View.trans ig dF)).trans (View.trans gh wK)
theorem Pv{b o:Nat}(A:Pr E l)(c:EW l.ai w b o 0){fr:Frame}{cs:List Frame}
  (h: ∀w',View l.ai (w.setCell (br b o) (.int .i32 1)) w'->Tr E N i l (Conc.G (fr.finish (.tuple #[])) cs) w'):
  Tr E N i l (Conc.G (Frame.enter Try.prog 79 #[ptr b o] .normal) (fr::cs)) w:=by
 have W:ay Try.prog E l (base 79):=⟨⟨A.fin,A.ch,by decide⟩,A.P⟩
 refine Tr.ck A.P Ug (Nat.le_of_ble_eq_true rfl) ?_
 (repeat(first|refine ah.pS W (hp:=by first|exact aa (.inl rfl) rfl|exact ak rfl rfl|exact av rfl rfl (by rfl) rfl (by decide+kernel)) (h:=?_)|refine Tk.reg W ?_))
 refine ah.call W (by rfl) (by rfl) (by rfl) (by rfl) Rj rfl fun rM hk=>?_
 refine Pu A c fun w' hv=>hk _ _ _ (ah.bx ?_)
 (repeat(refine ah.dn W ?_))
 exact Tk.ji W.wk (fE.leave0 W.wk (A.P▸Ug) (h _ hv))
theorem Jb{b o:Nat}(A:Pr E l)(c:EW l.ai w b o 1){fr:Frame}{cs:List Frame}
  (h: ∀w',View l.ai (w.setCell (br b o) (.int .i32 0)) w'->Tr E N i l (Conc.G (fr.finish (.tuple #[])) cs) w'):
  Tr E N i l (Conc.G (Frame.enter Try.prog 83 #[ptr b o] .normal) (fr::cs)) w:=by
 have hP:=A.P
 have W:ay Try.prog E l (base 83):=⟨⟨A.fin,A.ch,by decide⟩,hP⟩
 refine Tr.ck hP Ri (Nat.le_of_ble_eq_true rfl) ?_
 (repeat(first|refine ah.pS W (hp:=by first|exact aa (.inl rfl) rfl|exact ak rfl rfl|exact av rfl rfl (by rfl) rfl (by decide+kernel)) (h:=?_)|refine Tk.seq (ay.wk W) ?_|refine Tk.reg W ?_|refine Tk.cp (ay.wk W) rfl ?_))
 refine ah.open (by rfl) (Tk.gS W.wk A.rel (x:=.tmp 5) (ad:=br b o) (v:=.int .i32 1) (by rfl) (by rfl) (by rfl) (by rfl) (by rw[hP];rfl) (by rfl) c.ai c.c ?_)
 refine Tk.lay (rfl:Nv.put _ _ _=(_,_)::_) ?_
 show ah _ _ _ _ _ _ _ _ _ _ 4 _ _
 (repeat(first|refine ah.dn W ?_|refine ah.pS W (hp:=by exact aa (.inl rfl) rfl) (h:=?_)|refine Tk.seq (ay.wk W) ?_|refine Tk.reg W ?_))
 refine ah.Qj W (ad:=br b o) c.ai c.c (by rfl) (by rfl) (by rfl) (by rfl) (by rfl) (by rfl) (by rfl) (by decide+kernel) rfl ?_
 refine ah.HV W A.rel (mk:=.releaseMerge) (.inr rfl) (ad:=br b o) c.ai (by rfl) (by rfl) (by rfl) (by rfl) (by rfl) YK rfl fun w1 ig=>?_
 have c1:EW l.ai w1 b o 1:=c.view ig
 (repeat(first|refine ah.dn W ?_|refine Tk.reg W ?_))
 refine ah.jk W (m:=.disable) (fun g e=>by cases e) (by rfl) (by rfl) (by rfl) (by rfl) Rg fun G w2 t hg au ax dF=>?_
 refine⟨_,false,kN hg au ax,cd.same (ah.bx ?_)⟩
 rw[A.deaf]
 have W1:ay Try.prog E (l.hear 1) (base 83):=fO W A.ch
 have c2:EW (l.hear 1).ai w2 b o 1:=c1.view dF
 (repeat(first|refine ah.dn W1 ?_|refine ah.pS W1 (hp:=by first|exact aa (.inl rfl) rfl|exact ak rfl rfl|exact av rfl rfl (by rfl) rfl (by decide+kernel)) (h:=?_)|refine Tk.seq (ay.wk W1) ?_|refine Tk.reg W1 ?_))
 refine ah.Wu W1 A.rel (kk:=.i32) (ad:=br b o) (v:=1) (dl:= -1) (r:=0) c2.ai c2.c c2.fz (by rfl) (by rfl) (by rfl) (by rfl) (by rfl) U4 rfl rfl (by decide) fun w3 gh=>?_
 (repeat(first|refine ah.dn W1 ?_|refine ah.pS W1 (hp:=by first|exact aa (.inl rfl) rfl|exact aa (.inr rfl) rfl|exact al rfl rfl rfl rfl) (h:=?_)|refine Tk.seq (ay.wk W1) ?_|refine Tk.reg W1 ?_|refine Tk.skip (ay.wk W1) ?_|refine Tk.bC (ay.wk W1) rfl ?_))
 refine ah.jk W1 (m:=.enable) (fun g e=>by cases e) (by rfl) (by rfl) (by rfl) (by rfl) GX fun G w4 t hg au ax wK=>?_
 refine⟨_,false,iZ (d:=0) hg au ax rfl,cd.same (ah.bx ?_)⟩
 rw[AE A.deaf]
 (repeat(refine ah.dn W ?_))
 refine Tk.ji W.wk (fE.leave0 W.wk (hP▸Ri) (h _ ?_))
 exact(bU (ig.trans (View.trans dF gh))).trans wK
theorem Jc{b o:Nat}(A:Pr E l)(c:EW l.ai w b o 1){fr:Frame}{cs:List Frame}(hm:fr.mode= .returning)
  (h: ∀w',View l.ai (w.setCell (br b o) (.int .i32 0)) w'->Tr E N i l (Conc.G fr cs) w'):
  Tr E N i l (Conc.G (Frame.enter Try.prog 80 #[ptr b o] .deferred) (fr::cs)) w:=by
 have W:ay Try.prog E l (baseD 80):=⟨⟨A.fin,A.ch,by decide⟩,A.P⟩
 have key:Tk E N i l w (baseD 80) 6 (gq [ptr b o] 0) [] [.code YM] (fr::cs):=by
  (repeat(first|refine ah.pS W (hp:=by first|exact aa (.inl rfl) rfl|exact ak rfl rfl|exact av rfl rfl (by rfl) rfl (by decide+kernel)) (h:=?_)|refine Tk.reg W ?_))
  refine ah.call W (by rfl) (by rfl) (by rfl) (by rfl) Ri rfl fun rM hk=>?_
  refine Jb A c fun w' hv=>hk _ _ _ (ah.bx ?_)
  (repeat(refine ah.dn W ?_))
  exact Tk.ji W.wk (fE.leaveD W.wk (A.P▸Uf) hm (h _ hv))
 obtain⟨fn,f1,f2,f3,f4,_⟩:=Uf.out
 rw[enter_atD #[ptr b o] f1 f3]
 exact key _ (by rw[f4];exact pg (args:= #[ptr b o]) (Nat.le_of_ble_eq_true rfl)) rfl
open Go.SE (VL Wn Itf ExtOk plainO poison)
theorem _root_.Go.SE.VL.inO{O:Nat->Prop}{v:World}(h:VL E l O w v){b o:Nat}{x:Value}(hc:v.cell? (br b o)=some x):O b:=by
 by_cases hb:O b
 ·exact hb
 exfalso
 unfold World.cell? at hc
 cases e:v.heap[(br b o).block]? with
 |none=>rw[e]at hc;cases hc
 |some ob=>
  rcases h.uM b ob hb e with rfl|⟨c,t,rfl,_⟩
  ·rw[e]at hc;simp[poison]at hc
  rw[e]at hc;cases hc
theorem Jv{v:World}{a:Addr}{x:Value}{b:Nat}{ob:Obj}(hp: ∀ob,v.heap[b]?=some ob->plainO ob=true)(h:(v.setCell a x).heap[b]?=some ob):plainO ob=true:=by
 unfold World.setCell at h
 simp only[Array.getElem?_modify]at h
 split at h
 ·cases e:v.heap[b]? with
  |none=>rw[e]at h;cases h
  |some o'=>
   rw[e]at h
   have:=hp o' e
   cases o'<;>simp_all [plainO]
   all_goals(first|(split at h<;>(subst h;rfl))|(subst h;rfl))
 exact hp ob h
theorem _root_.Go.SE.VL.set{O:Nat->Prop}{v:World}(h:VL E l O w v){b o:Nat}(hb:O b)(x:Value):VL E l O (w.setCell (br b o) x) (v.setCell (br b o) x):=by
 refine⟨by rw[aD,aD];exact h.size,fun c hc=>?_,fun c ob hc he=>Jv (fun ob=>h.plain c ob hc) he,fun c ob hc he=>h.uM c ob hc ?_,h.sub,fun c hc=>by rw[aD];exact h.lt c hc,h.tape⟩
 ·unfold World.setCell
  simp only[Array.getElem?_modify,h.ai c hc]
 rw[cS v (br b o) x (fun e=>hc (by have e:b=c:=e;rw[<-e];exact hb))]at he
 exact he
@[reducible] def N9:Go.SE.aG:=⟨fun P _ kd f args v R=>P=Try.prog/\∃b o,args= #[ptr b o]/\v.frozen? (br b o)=false/\
 (
 (kd= .normal/\f=79/\v.cell? (br b o)=some (.int .i32 0)/\∀v',Itf (v.setCell (br b o) (.int .i32 1)) v'->R (.tuple #[]) v')\/
 (kd= .deferred/\f=80/\v.cell? (br b o)=some (.int .i32 1)/\∀v',Itf (v.setCell (br b o) (.int .i32 0)) v'->R (.tuple #[]) v'))⟩
theorem AL{f:FuncId}{nt:Nat}{c:Code}{rs:Array ResultVar}(h:ij Try.prog f nt c rs):Go.SE.kF Try.prog f:=by
 obtain⟨fn,f1,f2,f3,_⟩:=h.out
 exact @Go.SE.enters N9 Try.prog f fn c f1 f3 f2
theorem Na: @Go.SE.Di N9 Try.prog 79:= @Go.SE.Di.mk N9 _ _ (AL Ug) (fun mn b o v h1 h2=>⟨rfl,b,o,rfl,h2,.inl ⟨rfl,rfl,h1,fun v' h=>⟨rfl,h⟩⟩⟩)
theorem Gq: @Go.SE.sF N9 Try.prog 80:= @Go.SE.sF.mk N9 _ _ (AL Uf) (fun mn b o v h1 h2=>⟨rfl,b,o,rfl,h2,.inr ⟨rfl,rfl,h1,fun v' h=>⟨rfl,h⟩⟩⟩)
theorem Tn(A:Pr E l): @ExtOk N9 E N i l:=by
 letI:Go.SE.aG:=N9
 intro kd f args c cs after R l1 O w v zM hx he bP aJ hV k
 obtain⟨_,b,o,rfl,Xz,hx⟩:=hx
 have hP:=A.P
 have A1:Pr E l1:=by rw[he];exact⟨A.fin,A.P,A.af,A.ch,A.rel,A.deaf⟩
 have VK: ∀ (x:Int) (w':World),O b->(∀v',Itf (v.setCell (br b o) (.int .i32 x)) v'->R (.tuple #[]) v')->View l1.ai (w.setCell (br b o) (.int .i32 x)) w'->Tr E N i l1 (Conc.G (after (.tuple #[])) cs) w':=fun x w' hO hR hv=>by
  obtain⟨og,iv,qB,_⟩:=(hV.set hO (.int .i32 x)).EZ hv
  refine k _ og l1 O w' (hR og iv) qB ⟨rfl,fun _ h=>h,fun _ h=>.inl h,fun _ h=>h,fun _ h=>.inl h,?_,fun c hc hn _=>?_⟩
  ·have:=hv.1;rw[aD]at this;exact this
  rw[hv.2 c hc]
  exact cS w (br b o) _ fun e=>hn (by have e:b=c:=e;rw[<-e];exact hO)
 rcases hx with⟨rfl,rfl,hc,hR⟩|⟨rfl,rfl,hc,hR⟩
 ·rcases zM with⟨_,rfl⟩|⟨e,_⟩
  ·have hO:=hV.inO hc
   have hb:=hV.ai b hO
   obtain⟨e1,e2⟩:=cE (a:=br b o) hb.symm
   rw[hP]
   exact Pv A1 ⟨hV.sub b hO,e1.trans hc,e2.trans Xz⟩ fun w' hv=>VK 1 w' hO hR hv
  cases e
 rcases zM with⟨e,_⟩|⟨_,hm,rfl⟩
 ·cases e
 have hO:=hV.inO hc
 have hb:=hV.ai b hO
 obtain⟨e1,e2⟩:=cE (a:=br b o) hb.symm
 rw[hP]
 exact Jc A1 ⟨hV.sub b hO,e1.trans hc,e2.trans Xz⟩ hm fun w' hv=>VK 0 w' hO hR hv
theorem Hw(A:Pr E l){fr:Frame}{cs:List Frame}(k: ∀l' du,pT l l' w du->Tr E N i l' (Conc.G (fr.finish (.bool true)) cs) du):Tr E N i l (Conc.G (Frame.enter Try.prog 11 #[] .normal) (fr::cs)) w:=by
 refine @Go.SE.Tr.con N9 E N i l w Try.prog A.P (Tn A) 11 (fun args v R hx=>?_) [] [] _ [] (@S08.Ja N9 Na Gq) (fun r hr=>by cases hr) fr cs [] A.ch A.rel fun G ae t hg au ax hv=>?_
 ·obtain⟨_,b,o,_,_,⟨_,e,_⟩|⟨_,e,_⟩⟩:=hx<;>cases e
 refine⟨fun _=>False,fun _=>none,fun _=>⟨0,0,0,0,false⟩,fun b hb=>hb.elim,fun b c e h=>(by cases h),fun k r h=>by simp at h,trivial,fun l' du x ρ' hx hp hd he ho hn hs hh=>?_⟩
 have:x= .bool true:=hx.1
 subst this
 refine k l' du ⟨he,ho,Nat.le_trans hv.1 hs,fun b hb=>?_⟩
 rw[hh b hb (hg.s.old i b au (by rw[ax];exact hb)),hv.2 b hb]
end Go.Co.F1

namespace Go.Co
open Go Go.Conc
variable{E:Geo}{N i:Nat}{l:Lo}{w:World}
section
variable{P:Program}{b:Frame}{n:Nat}{env:Nv}{ds:List Deferred}{k:List Item}{cs:List Frame}{ops:Array Oper}{j:Nat}{o:Oper}{f:FuncId}{iQ:Array TypeId}
theorem ME{env:Nv}{m d:Nat}(hg:o.guard=some (m,true))(hd:(ops[m]?).bind (·.dst)=some d)(he:env.get d=some (.bool true)):bj ops env o=some true:=by
 unfold bj
 rw[hg]
 simp only[hd,he]
 rfl
end
end Go.Co

namespace Go.Co
open Go Go.Conc
theorem M1{P:Program}{env:Nv}{o:Oper}{x y:Operand}{k k':IntKind}{p q r:Int}{iQ:Array TypeId}(ho:o.op= .call {callee:=.builtin .min,args:= #[x,y],argTypes:=iQ})(hx:env.ev x=some (.int k p))(hy:env.ev y=some (.int k' q))(hr:(if q<p then q else p)=r):bR P env o (.int k r):=fun n a ha w=>by
 subst hr
 constructor<;>simp[execOp,ho,resolve,invoke,builtin,Builtin.min_,Builtin.min2,ha.ev hx,ha.ev hy]
end Go.Co
namespace Go.Co.F1
open Go Go.Conc Go.Proofs
open Go.Co
open Go.ConcN (upd upd_ne upd_same)
variable{E:Geo}{N i:Nat}{l:Lo}{w:World}
set_option maxRecDepth 10000
set_option linter.unusedVariables false
theorem Z4:je Try.prog 55 (Extern.Atomic.loadT (.int .i32)):=⟨Try.f55,Try.func55,by decide+kernel,rfl,by rfl,by rfl⟩
noncomputable def zaa:Code:=(Try.f37.body).getD .skip
theorem So:ij Try.prog 37 7 zaa #[.tmp 2]:=⟨Try.f37,Try.func37,by decide+kernel,rfl,rfl,rfl⟩
noncomputable def zac:Code:=(Try.f20.body).getD .skip
theorem Ss:ij Try.prog 20 10 zac #[.tmp 2]:=⟨Try.f20,Try.func20,by decide+kernel,rfl,rfl,rfl⟩
noncomputable def zae:Code:=(Try.f15.body).getD .skip
theorem zaj:ij Try.prog 15 6 zae #[.tmp 2]:=⟨Try.f15,Try.func15,by decide+kernel,rfl,rfl,rfl⟩
theorem VX: ∃c,ij Try.prog 11 62 c #[.tmp 0]:=⟨_,⟨Try.f11,Try.func11,by decide+kernel,rfl,rfl,rfl⟩⟩
theorem Pw{b o:Nat}{v:Int}(A:Pr E l)(aN:l.ai b)(hc:w.cell? (br b o)=some (.int .i32 v)){fr:Frame}{cs:List Frame}(h: ∀w',View l.ai w w'->Tr E N i l (Conc.G (fr.finish (.int .i32 v)) cs) w'):
  Tr E N i l (Conc.G (Frame.enter Try.prog 37 #[ptr b o] .normal) (fr::cs)) w:=by
 have W:ay Try.prog E l (base 37):=⟨⟨A.fin,A.ch,by decide⟩,A.P⟩
 refine Tr.ck A.P So (Nat.le_of_ble_eq_true rfl) ?_
 (repeat(first|refine ah.dn W ?_|refine ah.pS W (hp:=by first|exact aa (.inl rfl) rfl|exact aa (.inr rfl) rfl|exact ak rfl rfl|exact av rfl rfl (by rfl) rfl (by decide+kernel)) (h:=?_)|refine Tk.seq (ay.wk W) ?_|refine Tk.reg W ?_))
 refine ah.Tc W A.rel (kk:=.i32) (ad:=br b o) (v:=v) aN hc (by rfl) (by rfl) (by rfl) (by rfl) (by rfl) Z4 (by rfl) fun w1 ig=>?_
 (repeat(first|refine ah.dn W ?_|refine ah.pS W (hp:=by exact aa (.inr rfl) rfl) (h:=?_)))
 exact Tk.ret W.wk (fE.leave1 W.wk (A.P▸So) rfl (h _ ig))
theorem Ps{H:Nat}{v:Int}(hv:IntKind.i64.wrap v=v)(A:Pr E l)(aN:l.ai H)(hc:w.cell? (br H 3)=some (.int .i32 v)){fr:Frame}{cs:List Frame}(h: ∀w',View l.ai w w'->Tr E N i l (Conc.G (fr.finish (.int .i64 v)) cs) w'):
  Tr E N i l (Conc.G (Frame.enter Try.prog 20 #[ptr H 0] .normal) (fr::cs)) w:=by
 have W:ay Try.prog E l (base 20):=⟨⟨A.fin,A.ch,by decide⟩,A.P⟩
 refine Tr.ck A.P Ss (Nat.le_of_ble_eq_true rfl) ?_
 (repeat(first|refine ah.dn W ?_|refine ah.pS W (hp:=by first|exact aa (.inl rfl) rfl|exact aa (.inr rfl) rfl|exact ak rfl rfl|exact av rfl rfl (by rfl) rfl (by decide+kernel)|exact vr rfl rfl rfl (by rfl)) (h:=?_)|refine Tk.seq (ay.wk W) ?_|refine Tk.reg W ?_|refine Tk.skip (ay.wk W) ?_|refine Tk.bC (ay.wk W) rfl ?_))
 refine ah.call W (by rfl) (by rfl) (by rfl) (by rfl) So rfl fun rM hk=>?_
 refine Pw A aN hc fun w' dG=>hk _ _ _ (ah.bx ?_)
 (repeat(first|refine ah.dn W ?_|refine ah.pS W (hp:=by first|exact aa (.inr rfl) rfl|exact fM rfl rfl (by rfl) (by rfl)) (h:=?_)))
 rw[hv]
 (repeat(fail))
 exact Tk.ret W.wk (fE.leave1 W.wk (A.P▸Ss) rfl (h _ dG))
structure CK(W:World)(H T nj hB lB tB lb lo b6 eI:Nat)(bs:Option Addr)(tu:Nat->S08.Tu)(ai:Nat->Prop)(w:World):Prop where
 old:Old W ai w
 h:ai hB/\w.cell? (br hB 0)=some (ptr H 0)
 l:ai lB/\w.cell? (br lB 0)=some (.slice bs nj b6)
 t:ai tB/\w.cell? (br tB 0)=some (.slice (some ⟨T,0,none⟩) nj eI)
 made:ai H/\w.cell? (br H 3)=some (.int .i32 (if nj=0 then 0 else 1))
 told: ∀j,j<nj->ai T/\w.cell? (br T j)=some (.int .i64 (S08.aW (S08.jO (tu j))))
 row: ∀j,j<nj->bs=some ⟨lb,lo,none⟩/\ai lb/\w.rangeAt lb (lo+j*4) (qu (tu j))/\(tu j).Wf
theorem CK.mono{W w':World}{H T nj hB lB tB lb lo b6 eI:Nat}{bs:Option Addr}{tu:Nat->S08.Tu}{ai bQ:Nat->Prop}(s:CK W H T nj hB lB tB lb lo b6 eI bs tu ai w)(hs:w.heap.size<=w'.heap.size)(hk: ∀b,ai b->bQ b/\w'.heap[b]?=w.heap[b]?):CK W H T nj hB lB tB lb lo b6 eI bs tu bQ w':=by
 have c: ∀b o,ai b->w'.cell? (br b o)=w.cell? (br b o):=fun b o hb=>(cE (a:=br b o) (hk b hb).2).1
 refine⟨⟨Nat.le_trans s.old.size hs,fun b hb=>⟨(hk b (s.old.heap b hb).1).1,(hk b (s.old.heap b hb).1).2.trans (s.old.heap b hb).2⟩⟩,⟨(hk _ s.h.1).1,(c _ _ s.h.1).trans s.h.2⟩,⟨(hk _ s.l.1).1,(c _ _ s.l.1).trans s.l.2⟩,⟨(hk _ s.t.1).1,(c _ _ s.t.1).trans s.t.2⟩,⟨(hk _ s.made.1).1,(c _ _ s.made.1).trans s.made.2⟩,fun j hj=>?_,fun j hj=>?_⟩
 ·obtain⟨h1,h2⟩:=s.told j hj
  exact⟨(hk _ h1).1,(c _ _ h1).trans h2⟩
 obtain⟨h1,h2,h3,h4⟩:=s.row j hj
 exact⟨h1,(hk _ h2).1,fun k v hv=>(c _ _ h2).trans (h3 k v hv),h4⟩
theorem CK.view{W w':World}{H T nj hB lB tB lb lo b6 eI:Nat}{bs:Option Addr}{tu:Nat->S08.Tu}{ai:Nat->Prop}(s:CK W H T nj hB lB tB lb lo b6 eI bs tu ai w)(hv:View ai w w'):CK W H T nj hB lB tB lb lo b6 eI bs tu ai w':=s.mono hv.1 fun b hb=>⟨hb,hv.2 b hb⟩
theorem CK.EM{W w':World}{H T nj hB lB tB lb lo b6 eI:Nat}{bs:Option Addr}{tu:Nat->S08.Tu}{ai:Nat->Prop}{l':Lo}(s:CK W H T nj hB lB tB lb lo b6 eI bs tu ai w)(hk:pT (bD ai) l' w w'):l'=bD l'.ai/\CK W H T nj hB lB tB lb lo b6 eI bs tu l'.ai w':=
 ⟨hk.eq,s.mono hk.size fun b hb=>⟨hk.ai b hb,hk.heap b hb⟩⟩
def Wb(T nj lb lo b6 eI m:Nat)(t:S08.Tu)(x:Nat):Value:=match x with
 |32=>.slice (some ⟨T,0,none⟩) nj eI
 |33|37|7=>.int .i64 m
 |34=>ptr T m
 |35|40=>.int .i64 (S08.aW (S08.jO t))
 |36=>.slice (some ⟨lb,lo,none⟩) nj b6
 |38=>ptr lb (lo+m*4)
 |39=>.agg (qu t).toArray
 |41=>.bool false
 |_=>.tuple #[]
def L6(hB lB tB:Nat)(f:Nat->Value)(x:Nat):Value:=match x with
 |1=>ptr lB 0
 |3=>ptr hB 0
 |4=>ptr tB 0
 |x=>f x
theorem BL{ai:Nat->Prop}(hf:E.da)(hP:E.P=Try.prog):Pr E (bD ai):=⟨hf,hP,rfl,rfl,rfl,rfl⟩
section
variable{W0:World}{H T nj hB lB tB lb lo b6 eI:Nat}{bs:Option Addr}{tu:Nat->S08.Tu}{ai:Nat->Prop}
theorem Y7(k:Int):cV .neq .i64 k k=some (.bool false):=by simp[cV]
set_option maxHeartbeats 8000000 in
theorem Wp(hf:E.da)(hP:E.P=Try.prog){m:Nat}(hm:m<nj)(s:CK W0 H T nj hB lB tB lb lo b6 eI bs tu ai w){kk:List Item}{cs:List Frame}{tX:Nv}(he:tX.get 1=some (ptr lB 0)/\tX.get 3=some (ptr hB 0)/\tX.get 4=some (ptr tB 0)/\tX.get 7=some (.int .i64 m))
  (h: ∀bQ w',CK W0 H T nj hB lB tB lb lo b6 eI bs tu bQ w'->Tk E N i (bD bQ) w' (base 8) 51 [(41,.bool false),(1,ptr lB 0),(3,ptr hB 0),(4,ptr tB 0),(7,.int .i64 m)] [] kk cs) {ops:Array Oper} (A8:U7.l6 16=some ops):
  Tk E N i (bD ai) w (base 8) 51 tX [] (.code (.region 16 ops true)::kk) cs:=by
 cases A8
 have Wf: ∀bQ,ay Try.prog E (bD bQ) (base 8):=fun bQ=>⟨⟨hf,rfl,by decide⟩,hP⟩
 obtain⟨hbs,_,_,ht⟩:=s.row m hm
 refine Tk.free (Wf ai) mixed (I:=fun ops L l' w' env=>∃bQ,l'=bD bQ/\eV ops (L6 hB lB tB (Wb T nj lb lo b6 eI m (tu m))) [1,3,4,7] L env/\CK W0 H T nj hB lB tB lb lo b6 eI bs tu bQ w') (by decide+kernel) ?_ ?_ ?_ ?_
 ·refine⟨ai,rfl,⟨by simp,fun x hx=>?_,fun m o' d _ _ hu=>absurd hu (fJ _ _)⟩,s⟩
  have:x=1\/x=3\/x=4\/x=7:=by simpa using hx
  rcases this with rfl|rfl|rfl|rfl
  ·exact he.1
  ·exact he.2.1
  ·exact he.2.2.1
  exact he.2.2.2
 ·rintro L l' w' env ⟨bQ,rfl,F,s⟩
  exact⟨F.size,Wf bQ⟩
 ·rintro L l' w' env j ⟨bQ,rfl,F,s⟩ hj dt hu hb rest cC
  have Vz:j<10:=hj
  have W:=Wf bQ
  have f1:=F.base 1 rfl
  have f3:=F.base 3 rfl
  have f4:=F.base 4 rfl
  have f7:=F.base 7 rfl
  have fU:j=0\/j=1\/j=2\/j=3\/j=4\/j=5\/j=6\/j=7\/j=8\/j=9:=by omega
  rcases fU with rfl|rfl|rfl|rfl|rfl|rfl|rfl|rfl|rfl|rfl
  ·refine Tk.gS W.wk (x:=.tmp 4) (ad:=br tB 0) (v:=.slice (some ⟨T,0,none⟩) nj eI) rfl (by rfl) (by rfl) (by rfl) (by rfl) (by rw[hP];rfl) f4 s.t.1 s.t.2 ?_
   exact cC _ _ _ ⟨bQ,rfl,F.step (j:=0) (d:=32) (by rfl) rfl rfl,s⟩
  ·refine Tk.pure W.wk (by rfl) (by rfl) (by rfl) (by rw[hP];exact aa (.inl rfl) f7) ?_
   exact cC _ _ _ ⟨bQ,rfl,F.step (j:=1) (d:=33) (by rfl) rfl rfl,s⟩
  ·have g32:=F.get (j:=0) (d:=32) (by rfl) rfl (bN hb (by rfl) 0 (by rfl))
   have g33:=F.get (j:=1) (d:=33) (by rfl) rfl (bN hb (by rfl) 1 (by rfl))
   refine Tk.pure W.wk (by rfl) (by rfl) (by rfl) (by rw[hP];exact jT (x:=.tmp 32) (y:=.tmp 33) (sz:=1) (m:=m) (kk:=.i64) rfl (by rfl) (by decide+kernel) (by decide) g32 g33 (by omega)) ?_
   exact cC _ _ _ ⟨bQ,rfl,F.step (j:=2) (d:=34) (by rfl) rfl (by rw[show((m:Nat):Int).toNat*1=m by omega,Nat.zero_add];rfl),s⟩
  ·have g34:=F.get (j:=2) (d:=34) (by rfl) rfl (bN hb (by rfl) 2 (by rfl))
   refine Tk.gS W.wk (x:=.tmp 34) (ad:=br T m) (v:=.int .i64 (S08.aW (S08.jO (tu m)))) rfl (by rfl) (by rfl) (by rfl) (by rfl) (by rw[hP];rfl) g34 (s.told m hm).1 (s.told m hm).2 ?_
   exact cC _ _ _ ⟨bQ,rfl,F.step (j:=3) (d:=35) (by rfl) rfl rfl,s⟩
  ·refine Tk.gS W.wk (x:=.tmp 1) (ad:=br lB 0) (v:=.slice (some ⟨lb,lo,none⟩) nj b6) rfl (by rfl) (by rfl) (by rfl) (by rfl) (by rw[hP];rfl) f1 s.l.1 (by rw[s.l.2,hbs]) ?_
   exact cC _ _ _ ⟨bQ,rfl,F.step (j:=4) (d:=36) (by rfl) rfl rfl,s⟩
  ·refine Tk.pure W.wk (by rfl) (by rfl) (by rfl) (by rw[hP];exact aa (.inl rfl) f7) ?_
   exact cC _ _ _ ⟨bQ,rfl,F.step (j:=5) (d:=37) (by rfl) rfl rfl,s⟩
  ·have g36:=F.get (j:=4) (d:=36) (by rfl) rfl (bN hb (by rfl) 4 (by rfl))
   have g37:=F.get (j:=5) (d:=37) (by rfl) rfl (bN hb (by rfl) 5 (by rfl))
   refine Tk.pure W.wk (by rfl) (by rfl) (by rfl) (by rw[hP];exact jT (x:=.tmp 36) (y:=.tmp 37) (sz:=4) (m:=m) (kk:=.i64) rfl (by rfl) (by decide+kernel) (by decide) g36 g37 (by omega)) ?_
   exact cC _ _ _ ⟨bQ,rfl,F.step (j:=6) (d:=38) (by rfl) rfl (by rw[show((m:Nat):Int).toNat=m by omega];rfl),s⟩
  ·have g38:=F.get (j:=6) (d:=38) (by rfl) rfl (bN hb (by rfl) 6 (by rfl))
   obtain⟨_,q1,q2,_⟩:=s.row m hm
   refine Tk.Mh W.wk rfl (t:=31) (x:=.tmp 38) (bk:=lb) (off:=lo+m*4) (dd:=39) (vs:=qu (tu m)) (by rfl) (by rfl) (by rfl) (by rfl) (by rfl) g38 (by rw[hP];rfl) rfl (by rw[hP];rfl) q1 q2 ?_
   exact cC _ _ _ ⟨bQ,rfl,F.put (j:=7) (d:=39) (by rfl) rfl,s⟩
  ·have g39:=F.get (j:=7) (d:=39) (by rfl) rfl (bN hb (by rfl) 7 (by rfl))
   refine Tk.call W.wk (vs:= [.agg (qu (tu m)).toArray]) (by rfl) (by rfl) (by rfl) (by rfl) (hP▸zaj) (by show eD env [.tmp 39]=_;simp only[eD,show env.ev (.tmp 39)=_ from g39];rfl) fun rM oA=>?_
   rw[hP]
   refine Sj (l:=bD bQ) hP (@S08.Bj CD _ ht) rfl rfl (ys:= [.agg (qu (tu m)).toArray]) (fun ρ=>⟨Hx (tu m) ρ,trivial⟩) fun l2 w2 EH=>?_
   obtain⟨el,s2⟩:=s.EM EH
   exact oA _ _ _ (cC _ _ _ ⟨l2.ai,el,F.step (j:=8) (d:=40) (by rfl) rfl rfl,s2⟩)
  have g35:=F.get (j:=3) (d:=35) (by rfl) rfl (bN hb (by rfl) 3 (by rfl))
  have g40:=F.get (j:=8) (d:=40) (by rfl) rfl (bN hb (by rfl) 8 (by rfl))
  refine Tk.pure W.wk (by rfl) (by rfl) (by rfl) (by rw[hP];exact al rfl g35 g40 (Y7 _)) ?_
  exact cC _ _ _ ⟨bQ,rfl,F.step (j:=9) (d:=41) (by rfl) rfl rfl,s⟩
 rintro L l' w' env ⟨bQ,rfl,F,s⟩ dK
 refine Tk.sub (h bQ w' s) (bp.sub ⟨?_,?_,?_,?_,?_,trivial⟩)
 ·exact F.get (j:=9) (d:=41) (by rfl) rfl (dK 9 (by decide))
 ·exact F.base 1 rfl
 ·exact F.base 3 rfl
 ·exact F.base 4 rfl
 exact F.base 7 rfl
end
end Go.Co.F1

namespace Go.Co.F1
open Go Go.Conc Go.Proofs
open Go.Co
open Go.ConcN (upd upd_ne upd_same)
variable{E:Geo}{N i:Nat}{l:Lo}{w:World}
set_option maxRecDepth 10000
set_option linter.unusedVariables false
theorem VO{W:World}{ai:Nat->Prop}{env:Nv}{k S0:Nat}(dw:E.fin=mW Try.prog W k S0)(ho:Old W ai w)(g2:env.get 2=some (.bool true)):fE E N 0 (bD ai) w (base 8) 51 env [] []:=by
 intro a todo ha dm
 obtain⟨fn,f1,_,_,_,f5⟩:=bm8.out
 refine jI.Lv.fold ⟨⟨rfl,rfl,rfl⟩,.inl ⟨rfl,rfl,?_⟩⟩
 show E.fin _ _ _
 rw[dw]
 have key:jM Try.prog W (bD ai) (Conc.G {(base 8).at a todo with mode:=.returning} []) w:=by
  refine⟨⟨ai,rfl,ho⟩,fun w1=>?_⟩
  have e:a.tmps.getD 2 undef= .bool true:=by rw[Array.getD_eq_getD_getElem?,ha.2 2 _ g2];rfl
  have hr:(results fn a.tmps).run Try.prog w1= .ok (.bool true) w1:=by rw[results_tmp f5,e]
  have he:=events_results_tmp (P:=Try.prog) (w:=w1) f5 a.tmps #[]
  simp[Conc.G,stepG,unwind,doReturn,Frame.at,base,dm,f1,hr,he,seen,GStep.after]
 cases k with
 |zero=>exact key
 |succ k=>exact .inl key
def Wa(H nj b6:Nat)(bs:Option Addr)(x:Nat):Value:=match x with
 |42=>ptr H 0
 |43|46=>.int .i64 (if nj=0 then 0 else 1)
 |44=>.slice bs nj b6
 |45=>.int .i64 nj
 |47|48|49|50|2=>.bool true
 |_=>.tuple #[]
section
variable{W0:World}{H T nj hB lB tB lb lo b6 eI:Nat}{bs:Option Addr}{tu:Nat->S08.Tu}{ai:Nat->Prop}
theorem Z2(k:Int):cV .eql .i64 k k=some (.bool true):=by simp[cV]
theorem WA(n:Nat):(if(1:Int)<(n:Int)then 1 else(n:Int))=if n=0 then 0 else 1:=by
 by_cases h:n=0
 ·subst h;rfl
 rw[if_neg h];split<;>omega
theorem SB(n:Nat):IntKind.i64.wrap (if n=0 then 0 else 1)=if n=0 then 0 else 1:=by split<;>rfl
set_option maxHeartbeats 8000000 in
theorem Wo(hf:E.da)(hP:E.P=Try.prog)(s:CK W0 H T nj hB lB tB lb lo b6 eI bs tu ai w){kk:List Item}{cs:List Frame}{tX:Nv}(he:tX.get 1=some (ptr lB 0)/\tX.get 3=some (ptr hB 0))
  (h: ∀bQ w',CK W0 H T nj hB lB tB lb lo b6 eI bs tu bQ w'->Tk E N i (bD bQ) w' (base 8) 51 [(2,.bool true)] [] kk cs) {ops:Array Oper} (A8:U7.l6 18=some ops):
  Tk E N i (bD ai) w (base 8) 51 tX [] (.code (.region 18 ops true)::kk) cs:=by
 cases A8
 have Wf: ∀bQ,ay Try.prog E (bD bQ) (base 8):=fun bQ=>⟨⟨hf,rfl,by decide⟩,hP⟩
 refine Tk.free (Wf ai) mixed (I:=fun ops L l' w' env=>∃bQ,l'=bD bQ/\eV ops (L6 hB lB tB (Wa H nj b6 bs)) [1,3] L env/\CK W0 H T nj hB lB tB lb lo b6 eI bs tu bQ w') (by decide+kernel) ?_ ?_ ?_ ?_
 ·refine⟨ai,rfl,⟨by simp,fun x hx=>?_,fun m o' d _ _ hu=>absurd hu (fJ _ _)⟩,s⟩
  have:x=1\/x=3:=by simpa using hx
  rcases this with rfl|rfl
  ·exact he.1
  exact he.2
 ·rintro L l' w' env ⟨bQ,rfl,F,s⟩
  exact⟨F.size,Wf bQ⟩
 ·rintro L l' w' env j ⟨bQ,rfl,F,s⟩ hj dt hu hb rest cC
  have Vz:j<10:=hj
  have W:=Wf bQ
  have f1:=F.base 1 rfl
  have f3:=F.base 3 rfl
  have fU:j=0\/j=1\/j=2\/j=3\/j=4\/j=5\/j=6\/j=7\/j=8\/j=9:=by omega
  rcases fU with rfl|rfl|rfl|rfl|rfl|rfl|rfl|rfl|rfl|rfl
  ·refine Tk.gS W.wk (x:=.tmp 3) (ad:=br hB 0) (v:=ptr H 0) rfl (by rfl) (by rfl) (by rfl) (by rfl) (by rw[hP];rfl) f3 s.h.1 s.h.2 ?_
   exact cC _ _ _ ⟨bQ,rfl,F.step (j:=0) (d:=42) (by rfl) rfl rfl,s⟩
  ·have g42:=F.get (j:=0) (d:=42) (by rfl) rfl (bN hb (by rfl) 0 (by rfl))
   refine Tk.call W.wk (vs:= [ptr H 0]) (by rfl) (by rfl) (by rfl) (by rfl) (hP▸Ss) (by show eD env [.tmp 42]=_;simp only[eD,show env.ev (.tmp 42)=_ from g42];rfl) fun rM oA=>?_
   rw[hP]
   refine Ps (SB nj) (BL hf hP) s.made.1 s.made.2 fun w2 hv=>oA _ _ _ (cC _ _ _ ⟨bQ,rfl,F.step (j:=1) (d:=43) (by rfl) rfl rfl,s.view hv⟩)
  ·refine Tk.gS W.wk (x:=.tmp 1) (ad:=br lB 0) (v:=.slice bs nj b6) rfl (by rfl) (by rfl) (by rfl) (by rfl) (by rw[hP];rfl) f1 s.l.1 s.l.2 ?_
   exact cC _ _ _ ⟨bQ,rfl,F.step (j:=2) (d:=44) (by rfl) rfl rfl,s⟩
  ·have g44:=F.get (j:=2) (d:=44) (by rfl) rfl (bN hb (by rfl) 2 (by rfl))
   refine Tk.pure W.wk (by rfl) (by rfl) (by rfl) (by rw[hP];exact kJ rfl g44 (by rfl)) ?_
   exact cC _ _ _ ⟨bQ,rfl,F.step (j:=3) (d:=45) (by rfl) rfl rfl,s⟩
  ·have g45:=F.get (j:=3) (d:=45) (by rfl) rfl (bN hb (by rfl) 3 (by rfl))
   refine Tk.pure W.wk (by rfl) (by rfl) (by rfl) (by rw[hP];exact M1 rfl g45 rfl (WA nj)) ?_
   exact cC _ _ _ ⟨bQ,rfl,F.step (j:=4) (d:=46) (by rfl) rfl rfl,s⟩
  ·have g43:=F.get (j:=1) (d:=43) (by rfl) rfl (bN hb (by rfl) 1 (by rfl))
   have g46:=F.get (j:=4) (d:=46) (by rfl) rfl (bN hb (by rfl) 4 (by rfl))
   refine Tk.pure W.wk (by rfl) (by rfl) (by rfl) (by rw[hP];exact al rfl g43 g46 (Z2 _)) ?_
   exact cC _ _ _ ⟨bQ,rfl,F.step (j:=5) (d:=47) (by rfl) rfl rfl,s⟩
  ·have g47:=F.get (j:=5) (d:=47) (by rfl) rfl (bN hb (by rfl) 5 (by rfl))
   refine Tk.pure W.wk (by rfl) (by rfl) (by rfl) (by rw[hP];exact aa (.inl rfl) g47) ?_
   exact cC _ _ _ ⟨bQ,rfl,F.step (j:=6) (d:=48) (by rfl) rfl rfl,s⟩
  ·have YH:=F.get (j:=6) (d:=48) (by rfl) rfl (bN hb (by rfl) 6 (by rfl))
   obtain⟨c11,Sa⟩:=VX
   refine Tk.call W.wk (vs:= []) (by rfl) (ME (m:=6) (d:=48) (by rfl) (by rfl) YH) (by rfl) (by rfl) (hP▸Sa) (by rfl) fun rM oA=>?_
   rw[hP]
   refine Hw (l:=bD bQ) (BL hf hP) fun l2 w2 EH=>?_
   obtain⟨el,s2⟩:=s.EM EH
   exact oA _ _ _ (cC _ _ _ ⟨l2.ai,el,F.step (j:=7) (d:=49) (by rfl) rfl rfl,s2⟩)
  ·have YH:=F.get (j:=6) (d:=48) (by rfl) rfl (bN hb (by rfl) 6 (by rfl))
   have g49:=F.get (j:=7) (d:=49) (by rfl) rfl (bN hb (by rfl) 7 (by rfl))
   refine Tk.pure W.wk (by rfl) (by rfl) (by rfl) (by rw[hP];exact bu rfl YH g49) ?_
   exact cC _ _ _ ⟨bQ,rfl,F.step (j:=8) (d:=50) (by rfl) rfl rfl,s⟩
  have g50:=F.get (j:=8) (d:=50) (by rfl) rfl (bN hb (by rfl) 8 (by rfl))
  refine Tk.pure W.wk (by rfl) (by rfl) (by rfl) (by rw[hP];exact aa (.inr rfl) g50) ?_
  exact cC _ _ _ ⟨bQ,rfl,F.step (j:=9) (d:=2) (by rfl) rfl rfl,s⟩
 rintro L l' w' env ⟨bQ,rfl,F,s⟩ dK
 exact Tk.sub (h bQ w' s) (bp.sub ⟨F.get (j:=9) (d:=2) (by rfl) rfl (dK 9 (by decide)),trivial⟩)
set_option maxHeartbeats 4000000 in
theorem OX(hf:E.da)(hP:E.P=Try.prog){k S0:Nat}(dw:E.fin=mW Try.prog W0 k S0)(T7:nj<4611686018427387904)(s:CK W0 H T nj hB lB tB lb lo b6 eI bs tu ai w):
  Tk E N 0 (bD ai) w (base 8) 51 [(1,ptr lB 0),(3,ptr hB 0),(4,ptr tB 0)] [] [.code s8] []:=by
 have Wf: ∀bQ,ay Try.prog E (bD bQ) (base 8):=fun bQ=>⟨⟨hf,rfl,by decide⟩,hP⟩
 have W:=Wf ai
 refine Tk.seq W.wk ?_
 refine Tk.seq W.wk ?_
 (repeat(first|refine ah.dn W ?_|refine ah.pS W (hp:=by exact aa (.inr rfl) rfl) (h:=?_)|refine Tk.reg W ?_|refine Tk.block (ay.wk W) ?_))
 refine Tk.loop W.wk ?_
 refine Tk.cut fun K hK=>?_
 have HH: ∀d m (bQ:Nat->Prop) (w':World),d=nj-m->m<=nj->CK W0 H T nj hB lB tB lb lo b6 eI bs tu bQ w'->
   Tk E N 0 (bD bQ) w' (base 8) 51 [(1,ptr lB 0),(3,ptr hB 0),(4,ptr tB 0),(7,.int .i64 (m:Int))] [] K []:=by
  intro d
  induction d with
  |zero=>
   intro m bQ w' hd hm s
   have W1:=Wf bQ
   rw[hK]
   refine Tk.seq W1.wk ?_
   refine Tk.seq W1.wk ?_
   refine Tk.reg W1 ?_
   refine ah.pS W1 (hp:=aa (.inl rfl) rfl) (h:=?_)
   refine ah.open (by rfl) (Tk.gS W1.wk (x:=.tmp 1) (ad:=br lB 0) (v:=.slice bs nj b6) rfl (by rfl) (by rfl) (by rfl) (by rfl) (by rw[hP];rfl) rfl s.l.1 s.l.2 ?_)
   show ah _ _ _ _ _ _ _ _ _ _ 2 _ _
   refine ah.pS W1 (hp:=kJ rfl rfl (by rfl)) (h:=?_)
   refine ah.pS W1 (hp:=by(exact al rfl rfl rfl rfl)) (h:=?_)
   refine ah.dn W1 ?_
   refine Tk.bC W1.wk (congrArg (fun b=>some (Value.bool b)) (decide_eq_false (show ¬(m:Int)<(nj:Int) by omega))) ?_
   refine Tk.exit W1.wk rfl ?_
   refine Tk.seq W1.wk ?_
   refine Wo hf hP s ⟨rfl,rfl⟩ (fun qX w2 s2=>?_) (by rfl)
   exact Tk.ret (Wf qX).wk (VO dw s2.old rfl)
  |succ d ih=>
   intro m bQ w' hd hm s
   have W1:=Wf bQ
   have Yj:m<nj:=by omega
   rw[hK]
   refine Tk.seq W1.wk ?_
   refine Tk.seq W1.wk ?_
   refine Tk.reg W1 ?_
   refine ah.pS W1 (hp:=aa (.inl rfl) rfl) (h:=?_)
   refine ah.open (by rfl) (Tk.gS W1.wk (x:=.tmp 1) (ad:=br lB 0) (v:=.slice bs nj b6) rfl (by rfl) (by rfl) (by rfl) (by rfl) (by rw[hP];rfl) rfl s.l.1 s.l.2 ?_)
   show ah _ _ _ _ _ _ _ _ _ _ 2 _ _
   refine ah.pS W1 (hp:=kJ rfl rfl (by rfl)) (h:=?_)
   refine ah.pS W1 (hp:=by(exact al rfl rfl rfl rfl)) (h:=?_)
   refine ah.dn W1 ?_
   refine Tk.cp W1.wk (congrArg (fun b=>some (Value.bool b)) (decide_eq_true (show(m:Int)<(nj:Int) by omega))) ?_
   refine Tk.skip W1.wk ?_
   refine Tk.seq W1.wk ?_
   refine Tk.block W1.wk ?_
   refine Tk.seq W1.wk ?_
   refine Wp hf hP Yj s ⟨rfl,rfl,rfl,rfl⟩ (fun qX w2 s2=>?_) (by rfl)
   have W2:=Wf qX
   refine Tk.bC W2.wk rfl ?_
   refine Tk.skip W2.wk ?_
   refine Tk.inBlock W2.wk ?_
   refine Tk.reg W2 ?_
   refine ah.pS W2 (hp:=aa (.inl rfl) rfl) (h:=?_)
   refine ah.pS W2 (hp:=by(exact al rfl rfl rfl rfl)) (h:=?_)
   rw[wrap64 (by omega)]
   refine ah.pS W2 (hp:=aa (.inr rfl) rfl) (h:=?_)
   refine ah.dn W2 ?_
   refine Tk.inLoop W2.wk ?_
   rw[<-hK]
   exact Tk.sub (ih (m+1) qX w2 (by omega) (by omega) s2) (bp.sub ⟨rfl,rfl,rfl,rfl,trivial⟩)
 exact Tk.sub (HH nj 0 ai w rfl (Nat.zero_le _) s) (bp.sub ⟨rfl,rfl,rfl,rfl,trivial⟩)
end
end Go.Co.F1

namespace Go.Co
open Go Go.Conc
theorem yR{P:Program}{a:Act}{o:Oper}{t e:TypeId}{x y:Operand}{n:Nat}{i:TypeInfo}{z:Value}(ho:o.op= .makeSlice t x y)(hx:a.eval x= .int .i64 n)(hy:a.eval y= .int .i64 n)(hu:P.underlying t=some (.slice e))(hi:P.info? e=some i)(hz:i.zero=some z)(hb:n*i.bytes<=4096)(hn:n<=4096)(w:World):
  (execOp a.eval o).run P w= .ok (.value (.slice (some ⟨w.heap.size,0,none⟩) n n)) {w with heap:=w.heap.push (.cells (madeCells z.cells (n*i.size)) e (0,0))}/\(execOp a.eval o).events P w #[]= #[]:=by
 have KD:(i.bytes:Int)*(n:Int)<=281474976710656:=by
  have h:((i.bytes*n:Nat):Int)<=281474976710656:=by rw[Nat.mul_comm];omega
  rwa [Int.natCast_mul]at h
 have hr:=run_make (P:=P) w t e i z hu hi hz .i64 .i64 (n:Int) (n:Int) (Int.natCast_nonneg _) (by omega) KD (by omega)
 simp only[Int.toNat_natCast]at hr
 have h1:=run_underlying hu w
 have h2:=iK hi w
 have NP:(typeInfo e).run P w= .ok i w:=by simp[typeInfo,hi]
 have E5: ∀es,(typeInfo e).events P w es=es:=fun es=>by simp[typeInfo,hi]
 have hw:IntKind.i64.wrap (n:Int)=n:=by rw[IntKind.wrap_i64];omega
 have Hi:askRoom (n*i.bytes)=pure ():=by
  unfold askRoom
  rw[if_neg]
  have:roomBytes=roomBytes:=rfl
  simp only[roomBytes]
  omega
 refine⟨by simp[execOp,ho,hx,hy,hr],?_⟩
 have key:(Instr.makeSlice t (.int .i64 n) (.int .i64 n)).events P w #[]= #[]:=by
  have c1: ¬((n:Int)<0):=by omega
  have c2: ¬((i.bytes:Int)*(n:Int)>2^48):=by
   intro h;have:(2:Int)^48=281474976710656:=by decide
   omega
  by_cases h0:n*P.cellsOf e=0
  ·simp[Instr.makeSlice,h1,events_underlying,asInt,asIntOf,NP,E5,hw,c1,c2,Hi,h2,events_sizeOf,h0,newRow]
   exact fun h=>absurd KD (Int.not_le.mpr h)
  have rL:(zeroValue e).run P w= .ok z w:=by simp[zeroValue,typeInfo,hi,hz]
  have hze: ∀es,(zeroValue e).events P w es=es:=fun es=>by simp[zeroValue,typeInfo,hi,hz]
  simp[Instr.makeSlice,h1,events_underlying,asInt,asIntOf,NP,E5,hw,c1,c2,Hi,h2,events_sizeOf,h0,newRow,rL,hze]
  exact fun h=>absurd KD (Int.not_le.mpr h)
 simp[execOp,ho,hx,hy,hr,key]
end Go.Co
namespace Go.Co.F1
open Go Go.Conc Go.Proofs
open Go.Co
open Go.ConcN (upd upd_ne upd_same)
variable{E:Geo}{N i:Nat}{l:Lo}{w:World}
set_option maxRecDepth 10000
set_option linter.unusedVariables false
structure Ly(W:World)(ai:Nat->Prop)(w:World)(L:List (Nat×Obj)):Prop where
 old:Old W ai w
 hold: ∀b,ai b->b<w.heap.size
 at_: ∀p∈L,ai p.1/\w.heap[p.1]?=some p.2/\W.heap.size<=p.1
 nd:(L.map (·.1)).Nodup
section
variable{W w':World}{ai:Nat->Prop}{L:List (Nat×Obj)}
theorem Ly.view(h:Ly W ai w L)(hv:View ai w w'):Ly W ai w' L:=
 ⟨h.old.view hv,fun b hb=>Nat.lt_of_lt_of_le (h.hold b hb) hv.1,fun p hp=>⟨(h.at_ p hp).1,(hv.2 _ (h.at_ p hp).1).trans (h.at_ p hp).2.1,(h.at_ p hp).2.2⟩,h.nd⟩
theorem Ly.get(h:Ly W ai w L){r:Nat}{c:Array Value}{t:TypeId}(hp:(r,Obj.cells c t (0,0))∈L)(o:Nat):ai r/\w.cell? (br r o)=c[o]?:=⟨(h.at_ _ hp).1,fL (h.at_ _ hp).2.1 o⟩
variable{b:Frame}{n:Nat}{env:Nv}{ds:List Deferred}{k:List Item}{cs:List Frame}{ops:Array Oper}{j:Nat}{o:Oper}
theorem ah.IN(Vb:ay Try.prog E (bD ai) b)(s:Ly W ai w L){d:Nat}(ho:ops[j]?=some o)(hw:bj ops env o=some true)(eR:o.dst=some d)(hd:Nat.blt d n=true)(v:Nat->Value)(x:Obj)
  (hx: ∀a,Has n env a->∀ae:World,(execOp a.eval o).run Try.prog ae= .ok (.value (v ae.heap.size)) {ae with heap:=ae.heap.push x}/\(execOp a.eval o).events Try.prog ae #[]= #[])
  (h: ∀bQ w' r,Ly W bQ w' ((r,x)::L)->ah E N i (bD bQ) w' b n ((d,v r)::env) ds ops (j+1) k cs):
  ah E N i (bD ai) w b n env ds ops j k cs:=by
 refine ah.open ho (Tk.E4 Vb.wk rfl ho hw eR hd v x (by rw[Vb.hP];exact hx) fun ae hv r hr=>?_)
 have s1:=s.view hv
 subst hr
 have e8:({ae with heap:=ae.heap.push x}:World).heap.size=ae.heap.size+1:=by show(ae.heap.push x).size=_;rw[Array.size_push]
 have cb: ∀c,c<ae.heap.size->({ae with heap:=ae.heap.push x}:World).heap[c]?=ae.heap[c]?:=fun c hc=>by
  show(ae.heap.push x)[c]?=_
  rw[Array.getElem?_push,if_neg (by omega)]
 refine h (fun c=>ai c\/(ae.heap.size<=c/\c<ae.heap.size+1)) _ _ ⟨⟨by rw[e8];have:=s1.old.size;omega,fun c hc=>⟨.inl (s1.old.heap c hc).1,?_⟩⟩,fun c hc=>?_,fun p hp=>?_,?_⟩
 ·rw[cb c (Nat.lt_of_lt_of_le hc s1.old.size)];exact(s1.old.heap c hc).2
 ·rw[e8]
  rcases hc with hc|hc
  ·have:=s1.hold c hc;omega
  omega
 ·rcases List.mem_cons.1 hp with rfl|hp
  ·exact⟨.inr ⟨Nat.le_refl _,Nat.lt_succ_self _⟩,iD rfl,s1.old.size⟩
  obtain⟨q1,q2,q3⟩:=s1.at_ p hp
  exact⟨.inl q1,(cb _ (s1.hold _ q1)).trans q2,q3⟩
 rw[List.map_cons,List.nodup_cons]
 refine⟨fun hm=>?_,s1.nd⟩
 obtain⟨p,hp,he⟩:=List.mem_map.1 hm
 have:=s1.hold _ (s1.at_ p hp).1
 simp only at he
 omega
theorem ah.L9(Vb:ay Try.prog E (bD ai) b){t:TypeId}{x y:Operand}{r:Nat}{u v:Value}(s:Ly W ai w ((r,.cells #[u] t (0,0))::L))(ho:ops[j]?=some o)(hw:bj ops env o=some true)(hd:o.dst=none)(aF:o.op= .store t x y)(hi: ∃i,Try.prog.info? t=some i/\i.size=1)(ig:v.cells= #[v])(h1:v.oneCell'=true)(hx:env.ev x=some (ptr r 0))(hy:env.ev y=some v)
  (h: ∀w',Ly W ai w' ((r,.cells #[v] t (0,0))::L)->ah E N i (bD ai) w' b n env ds ops (j+1) k cs):ah E N i (bD ai) w b n env ds ops j k cs:=by
 obtain⟨q1,q2,q3⟩:=s.at_ _ List.mem_cons_self
 refine ah.open ho (Tk.Bh Vb.wk (ad:=br r 0) (v:=v) (u0:=u) rfl ho hw hd aF (by rw[Vb.hP];exact hi) ig h1 hx hy q1 (fL q2 0) (dO q2 0) fun ae hv=>?_)
 have s1:=s.view hv
 have cb: ∀c,c≠r->(ae.setCell (br r 0) v).heap[c]?=ae.heap[c]?:=fun c hc=>cS ae _ _ fun e=>hc e.symm
 have P3:r∉L.map (·.1):=(List.nodup_cons.1 (by simpa using s1.nd)).1
 refine h _ ⟨⟨by rw[aD];exact s1.old.size,fun c hc=>⟨(s1.old.heap c hc).1,?_⟩⟩,fun c hc=>by rw[aD];exact s1.hold c hc,fun p hp=>?_,s1.nd⟩
 ·rw[cb c (by have:=(s1.at_ _ List.mem_cons_self).2.2;simp only at this;omega)];exact(s1.old.heap c hc).2
 rcases List.mem_cons.1 hp with rfl|hp
 ·exact⟨q1,qd (s1.at_ _ List.mem_cons_self).2.1,q3⟩
 obtain⟨p1,p2,p3⟩:=s1.at_ p (List.mem_cons_of_mem _ hp)
 refine⟨p1,(cb _ fun e=>P3 ?_).trans p2,p3⟩
 exact List.mem_map.2 ⟨p,hp,e⟩
end
structure Uj(W:World)(bs:Option Addr)(nj lb lo:Nat)(tu:Nat->S08.Tu):Prop where
 bs:0<nj->bs=some ⟨lb,lo,none⟩
 row: ∀j k v,j<nj->(qu (tu j))[k]?=some v->W.cell? (br lb (lo+j*4+k))=some v/\W.frozen? (br lb (lo+j*4+k))=false
 wf: ∀j,j<nj->(tu j).Wf
theorem Uj.lt{W:World}{bs:Option Addr}{nj lb lo:Nat}{tu:Nat->S08.Tu}(h:Uj W bs nj lb lo tu)(hn:0<nj):lb<W.heap.size:=bT (h.row 0 0 _ hn rfl).1
def CC(hB lB tB H T nj b6 lb lo:Nat)(bs:Option Addr)(tu:Nat->S08.Tu)(a:Addr):Option Value:=
 if a=br hB 0 then some (ptr H 0)else if a=br lB 0 then some (.slice bs nj b6)else if a=br tB 0 then some (.slice (some ⟨T,0,none⟩) nj nj)else
  if 0<nj/\a.block=lb/\lo<=a.off/\a.off<lo+nj*4/\a.spot=none then(qu (tu ((a.off-lo)/4)))[(a.off-lo)%4]? else none
theorem Fq{hB lB tB H T nj b6 lb lo:Nat}{bs:Option Addr}{tu:Nat->S08.Tu}{a:Addr}{v:Value}(h:CC hB lB tB H T nj b6 lb lo bs tu a=some v):
  (a=br hB 0/\v=ptr H 0)\/(a=br lB 0/\v= .slice bs nj b6)\/(a=br tB 0/\v= .slice (some ⟨T,0,none⟩) nj nj)\/∃j k,j<nj/\(qu (tu j))[k]?=some v/\a=br lb (lo+j*4+k):=by
 unfold CC at h
 split at h
 ·rename_i e;cases h;exact .inl ⟨e,rfl⟩
 split at h
 ·rename_i e;cases h;exact .inr (.inl ⟨e,rfl⟩)
 split at h
 ·rename_i e;cases h;exact .inr (.inr (.inl ⟨e,rfl⟩))
 split at h
 ·rename_i e
  obtain⟨e1,e2,e3,e4,e5⟩:=e
  obtain⟨b,o,sp⟩:=a
  simp only at e2 e3 e4 e5 h
  subst e2;subst e5
  refine .inr (.inr (.inr ⟨(o-lo)/4,(o-lo)%4,by omega,h,?_⟩))
  show(⟨b,o,none⟩:Addr)=⟨b,_,none⟩
  congr 1;omega
 cases h
theorem HS{hB lB tB H T nj b6 lb lo:Nat}{bs:Option Addr}{tu:Nat->S08.Tu}{j k:Nat}{v:Value}(h1:lb≠hB)(h2:lb≠lB)(h3:lb≠tB)(hj:j<nj)(hk:(qu (tu j))[k]?=some v):CC hB lB tB H T nj b6 lb lo bs tu (br lb (lo+j*4+k))=some v:=by
 have Yn:k<4:=(List.getElem?_eq_some_iff.1 hk).1
 unfold CC
 rw[if_neg fun e=>h1 (by injection e),if_neg fun e=>h2 (by injection e),if_neg fun e=>h3 (by injection e),if_pos ⟨by omega,rfl,by show lo<=lo+j*4+k;omega,by show lo+j*4+k<lo+nj*4;omega,rfl⟩]
 show(qu (tu ((lo+j*4+k-lo)/4)))[(lo+j*4+k-lo)%4]?=_
 rw[show(lo+j*4+k-lo)/4=j by omega,show(lo+j*4+k-lo)%4=k by omega]
 exact hk
end Go.Co.F1

namespace Go.Co.F1
open Go Go.Conc Go.Proofs
open Go.Co
open Go.ConcN (upd upd_ne upd_same)
variable{E:Geo}{N i:Nat}{l:Lo}{w:World}
set_option maxRecDepth 10000
set_option linter.unusedVariables false
structure BE(jg:Nat->Prop)(w0:World)(nj lB hB tB:Nat)(l:Lo)(g:Goroutine)(w:World):Prop where
 af:l.af=true
 mr:l.mr=none
 bZ:l.bZ=none
 deaf:l.deaf=0
 gr:l.gr= .aT
 me:l.me=⟨0,0,nj,false⟩
 stay:gH jg w0 l w
 g: ∃a,g=Conc.G ((base 8).at a [.code s8]) []/\Has 51 [(1,ptr lB 0),(3,ptr hB 0),(4,ptr tB 0)] a/\a.defers= []
structure LX(cH:Array Value):Prop where
 c0:cH[0]?=some (.int .u32 0)
 c1:cH[1]?=some (.int .i32 0)
 c2:cH[2]?=some (.int .u32 0)
 c3:cH[3]?=some (.int .i32 0)
 c4: ∀k:Nat,k<256->cH[4+k]?=some (.int .u8 0)
section
variable{W:World}{ai:Nat->Prop}{bs:Option Addr}{nj b6 lb lo B T tB H hB lB tT tB' Um:Nat}{tu:Nat->S08.Tu}{cH cT:Array Value}
abbrev He(B T tB H hB lB Um tT nj b6:Nat)(bs:Option Addr)(cH cT:Array Value):List (Nat×Obj):=
 [(B,.cells #[.int .u64 0,.int .u32 0] Um (0,0)),(tB,.cells #[.slice (some ⟨T,0,none⟩) nj nj] 43 (0,0)),(T,.cells cT tT (0,0)),(hB,.cells #[ptr H 0] 41 (0,0)),(H,.cells cH 76 (0,0)),(lB,.cells #[.slice bs nj b6] 40 (0,0))]
def Lu(nj lb:Nat)(b:Nat):Prop:=0<nj/\b=lb
theorem Ly.mst(s:Ly W ai w (He B T tB H hB lB Um tT nj b6 bs cH cT))(A:Uj W bs nj lb lo tu)(hz:LX cH)(hT: ∀j:Nat,j<nj->cT[j]?=some (.int .i64 0)):
  Uh w H B T nj (CC hB lB tB H T nj b6 lb lo bs tu) (Lu nj lb)/\(∀a v,CC hB lB tB H T nj b6 lb lo bs tu a=some v->ai a.block)/\HR (CC hB lB tB H T nj b6 lb lo bs tu) (fun j=>S08.aW (S08.jO (tu j))) H T nj hB lB tB lb lo b6 nj tu:=by
 have eB:=s.at_ (B,_) List.mem_cons_self
 have Rc:=s.at_ (tB,_) (List.mem_cons_of_mem _ List.mem_cons_self)
 have eT:=s.at_ (T,_) (List.mem_cons_of_mem _ (List.mem_cons_of_mem _ List.mem_cons_self))
 have Rf:=s.at_ (hB,_) (List.mem_cons_of_mem _ (List.mem_cons_of_mem _ (List.mem_cons_of_mem _ List.mem_cons_self)))
 have eH:=s.at_ (H,_) (List.mem_cons_of_mem _ (List.mem_cons_of_mem _ (List.mem_cons_of_mem _ (List.mem_cons_of_mem _ List.mem_cons_self))))
 have Re:=s.at_ (lB,_) (List.mem_cons_of_mem _ (List.mem_cons_of_mem _ (List.mem_cons_of_mem _ (List.mem_cons_of_mem _ (List.mem_cons_of_mem _ List.mem_cons_self)))))
 have P3:=s.nd
 simp only[He,List.map_cons,List.map_nil,List.nodup_cons,List.mem_cons,List.not_mem_nil,or_false,not_or,not_false_eq_true,List.nodup_nil,and_true]at P3
 obtain⟨⟨n1,n2,n3,n4,n5⟩,⟨n6,n7,n8,n9⟩,⟨n10,n11,n12⟩,⟨n13,X6⟩,n15⟩:=P3
 simp only at eB Rc eT Rf eH Re
 have low: ∀j k v,j<nj->(qu (tu j))[k]?=some v->w.cell? (br lb (lo+j*4+k))=some v/\w.frozen? (br lb (lo+j*4+k))=false/\ai lb/\lb<W.heap.size:=fun j k v hj hk=>by
  obtain⟨h1,h2⟩:=A.row j k v hj hk
  have hl:lb<W.heap.size:=bT h1
  obtain⟨o1,o2⟩:=s.old.heap lb hl
  obtain⟨q1,q2⟩:=cE (a:=br lb (lo+j*4+k)) o2
  exact⟨q1.trans h1,q2.trans h2,o1,hl⟩
 refine⟨⟨⟨cH,eH.2.1,hz.c0,hz.c1,hz.c2,hz.c3,hz.c4⟩,⟨Um,eB.2.1⟩,⟨cT,tT,eT.2.1,hT⟩,fun a v h=>?_,Ne.symm n4,Ne.symm n11,n2,fun b hb=>?_⟩,fun a v h=>?_,⟨?_,⟨bs,?_,A.bs⟩,?_,fun j k v hj hk=>?_,A.wf,fun _ _=>rfl⟩⟩
 ·rcases Fq h with⟨rfl,rfl⟩|⟨rfl,rfl⟩|⟨rfl,rfl⟩|⟨j,k,hj,hk,rfl⟩
  ·exact⟨fL Rf.2.1 0,dO Rf.2.1 0,n13,Ne.symm n3,Ne.symm n10⟩
  ·exact⟨fL Re.2.1 0,dO Re.2.1 0,Ne.symm n15,Ne.symm n5,Ne.symm n12⟩
  ·exact⟨fL Rc.2.1 0,dO Rc.2.1 0,n8,Ne.symm n1,n6⟩
  obtain⟨q1,q2,_,q4⟩:=low j k v hj hk
  exact⟨q1,q2,by show lb≠H;omega,by show lb≠B;omega,by show lb≠T;omega⟩
 ·obtain⟨hn,rfl⟩:=hb
  have:=A.lt hn
  exact⟨br b (lo+0*4+0),_,HS (by omega) (by omega) (by omega) hn rfl,rfl⟩
 ·rcases Fq h with⟨rfl,rfl⟩|⟨rfl,rfl⟩|⟨rfl,rfl⟩|⟨j,k,hj,hk,rfl⟩
  ·exact Rf.1
  ·exact Re.1
  ·exact Rc.1
  exact(low j k v hj hk).2.2.1
 ·unfold CC;rw[if_pos rfl]
 ·unfold CC;rw[if_neg fun e=>X6 (by injection e with e;exact e.symm),if_pos rfl]
 ·unfold CC;rw[if_neg fun e=>n7 (by injection e),if_neg fun e=>n9 (by injection e),if_pos rfl]
 have:=A.lt (by omega)
 exact HS (by omega) (by omega) (by omega) hj hk
set_option maxHeartbeats 4000000 in
theorem co8{k:Nat}(A:Uj W bs nj lb lo tu)(hz:LX cH)(hT: ∀j:Nat,j<nj->cT[j]?=some (.int .i64 0))(T7:nj<=20)(s:Ly W ai w (He B T tB H hB lB Um tT nj b6 bs cH cT)){a:Act}(ha:Has 51 [(1,ptr lB 0),(3,ptr hB 0),(4,ptr tB 0),(5,ptr B 0)] a)(dm:a.defers= []):
  Fh Try.prog W.heap.size (mW Try.prog W k) (bD ai) (Conc.G ((base 8).at a [.code r8]) []) w:=by
 refine⟨ai,rfl,fun w' hv Sh n t past ho=>?_⟩
 have s1:=s.view hv
 obtain⟨hM,X4,hR⟩:=s1.mst A hz hT
 have eB:=s1.at_ (B,_) List.mem_cons_self
 have Rc:=s1.at_ (tB,_) (List.mem_cons_of_mem _ List.mem_cons_self)
 have eT:=s1.at_ (T,_) (List.mem_cons_of_mem _ (List.mem_cons_of_mem _ List.mem_cons_self))
 have Rf:=s1.at_ (hB,_) (List.mem_cons_of_mem _ (List.mem_cons_of_mem _ (List.mem_cons_of_mem _ List.mem_cons_self)))
 have eH:=s1.at_ (H,_) (List.mem_cons_of_mem _ (List.mem_cons_of_mem _ (List.mem_cons_of_mem _ (List.mem_cons_of_mem _ List.mem_cons_self))))
 have Re:=s1.at_ (lB,_) (List.mem_cons_of_mem _ (List.mem_cons_of_mem _ (List.mem_cons_of_mem _ (List.mem_cons_of_mem _ (List.mem_cons_of_mem _ List.mem_cons_self)))))
 have P3:=s1.nd
 simp only[He,List.map_cons,List.map_nil,List.nodup_cons,List.mem_cons,List.not_mem_nil,or_false,not_or,not_false_eq_true,List.nodup_nil,and_true]at P3
 obtain⟨⟨n1,n2,n3,n4,n5⟩,⟨n6,n7,n8,n9⟩,⟨n10,n11,n12⟩,⟨n13,X6⟩,n15⟩:=P3
 simp only at eB Rc eT Rf eH Re
 have hfJ: ∀l g w,BE (zQ ai H B T (CC hB lB tB H T nj b6 lb lo bs tu)) w' nj lB hB tB l g w->l.gr= .aT:=fun l g w h=>h.gr
 let E0:=KY Sh n w' H B T nj (CC hB lB tB H T nj b6 lb lo bs tu) (fun j=>S08.aW (S08.jO (tu j))) (Lu nj lb) (BE (zQ ai H B T (CC hB lB tB H T nj b6 lb lo bs tu)) w' nj lB hB tB) hfJ
 have f0:E0.da:=fun l g w w' h hv=>⟨h.af,h.mr,h.bZ,h.deaf,h.gr,h.me,h.stay.view hv,h.g⟩
 have hBg:=hM.TJ (res:=fun j=>S08.aW (S08.jO (tu j))) (Sh:=Sh) (n:=n) (fin:=BE (zQ ai H B T (CC hB lB tB H T nj b6 lb lo bs tu)) w' nj lB hB tB) (lY:=hfJ) ho eB.2.2 eH.1 eB.1 eT.1 X4 (by omega)
 have bA: ∀b,zQ ai H B T (CC hB lB tB H T nj b6 lb lo bs tu) b->b<w'.heap.size:=fun b hb=>(ho b hb.1).1
 refine⟨E0,_,{hP:=rfl,hw:=rfl,hK:=Nat.zero_lt_one,za:=rfl,gi:=ND past hBg,hn:=rfl,one:=fun i hi=>?_,tr:=fun N=>?_,VM:=f0,fX:=rfl,on:=fun G w2 t2 g2 hg one dw=>?_}⟩
 ·by_cases e:i=0
  ·exact e
  simp[NZ,e,kE]at hi
 ·refine WB (E:=E0) (Pp hM f0) hR (by omega) ⟨rfl,rfl,rfl,rfl,rfl,rfl,rfl,rfl⟩ bA (ho H eH.1).1 ⟨Nat.le_refl _,fun b hb=>⟨hb,rfl⟩⟩ (kk:= []) (fun N l' w2 Rm dI=>?_) a ha dm
  intro a' yZ R6
  exact jI.Lv.fold ⟨aX _ _,.inl ⟨rfl,Rm.ch,⟨Rm.af,Rm.mr,Rm.bZ,Rm.deaf,Rm.gr,Rm.me,dI,a',rfl,yZ,R6⟩⟩⟩
 have dw:BE (zQ ai H B T (CC hB lB tB H T nj b6 lb lo bs tu)) w' nj lB hB tB (G.th 0) g2 w2:=dw
 refine⟨dw.deaf,fun E N hf hP Yr=>?_⟩
 obtain⟨a',rfl,yZ,R6⟩:=dw.g
 obtain⟨m1,m2,m3,m4⟩:=M8 hg one dw.mr dw.bZ dw.me
 have sz:w'.heap.size<=w2.heap.size:=dw.stay.size
 have qX: ∀b,ai b->b≠B->b<w2.heap.size/\¬(Sh b\/b=B):=fun b hb cb=>⟨Nat.lt_of_lt_of_le (ho b hb).1 sz,fun e=>e.elim (ho b hb).2 cb⟩
 have KV: ∀b,b<W.heap.size->ai b/\b≠B/\b≠H/\b≠T/\b≠hB/\b≠lB/\b≠tB:=fun b hb=>⟨(s1.old.heap b hb).1,by omega,by omega,by omega,by omega,by omega,by omega⟩
 have zU: ∀b,b<W.heap.size->w2.heap[b]?=W.heap[b]?:=fun b hb=>by
  obtain⟨q1,q2,q3,q4,q5,q6,q7⟩:=KV b hb
  rw[<-(s1.old.heap b hb).2]
  by_cases hk:Lu nj lb b
  ·exact m4 b hk
  refine(dw.stay.heap b ⟨q1,q3,q2,q4,fun a v h e=>?_⟩).2
  rcases Fq h with⟨rfl,rfl⟩|⟨rfl,rfl⟩|⟨rfl,rfl⟩|⟨j,k,hj,_,rfl⟩
  ·exact q5 e.symm
  ·exact q6 e.symm
  ·exact q7 e.symm
  exact hk ⟨by omega,e.symm⟩
 refine OX (k:=k) hf hP Yr (by omega) (T:=T) (lb:=lb) (lo:=lo) (b6:=b6) (bs:=bs) (eI:=nj) (tu:=tu) ⟨⟨Nat.le_trans s1.old.size sz,fun b hb=>⟨qX b (KV b hb).1 (KV b hb).2.1,zU b hb⟩⟩,⟨qX hB Rf.1 (Ne.symm n3),m1 _ _ hR.h⟩,⟨qX lB Re.1 (Ne.symm n5),m1 _ _ ?_⟩,⟨qX tB Rc.1 (Ne.symm n1),m1 _ _ hR.t⟩,⟨qX H eH.1 (Ne.symm n4),m3⟩,fun j hj=>⟨qX T eT.1 (Ne.symm n2),m2 j hj⟩,fun j hj=>?_⟩ a' yZ R6
 ·unfold CC;rw[if_neg fun e=>X6 (by injection e with e;exact e.symm),if_pos rfl]
 have hl:=A.lt (by omega)
 refine⟨A.bs (by omega),qX lb (KV lb hl).1 (KV lb hl).2.1,fun k v hk=>?_,A.wf j hj⟩
 rw[(cE (a:=br lb (lo+j*4+k)) (zU lb hl)).1]
 exact(A.row j k v hj hk).1
end
end Go.Co.F1

namespace Go.Co.F1
open Go Go.Conc Go.Proofs
open Go.Co
open Go.ConcN (upd upd_ne upd_same)
variable{E:Geo}{N i:Nat}{l:Lo}{w:World}
set_option maxRecDepth 10000
set_option linter.unusedVariables false
noncomputable def zad:Code:=(Try.f18.body).getD .skip
theorem Su:ij Try.prog 18 2 zad #[.tmp 0]:=⟨Try.f18,Try.func18,by decide+kernel,rfl,rfl,rfl⟩
noncomputable def A6:Array Value:=((Try.prog.info? 76).bind fun i=>i.zero.map (·.cells)).getD #[]
theorem PE:((Try.prog.info? 76).bind fun i=>i.zero.map (·.cells))=some A6:=by
 have h:((Try.prog.info? 76).bind fun i=>i.zero.map (·.cells)).isSome=true:=by decide+kernel
 obtain⟨x,hx⟩:=Option.isSome_iff_exists.1 h
 unfold A6
 rw[hx];rfl
def QZ(k:IntKind)(v:Option Value):Bool:=match v with
 |some (.int k' z)=>decide (k'=k)&&decide (z=0)
 |_=>false
theorem xp{k:IntKind}{v:Option Value}(h:QZ k v=true):v=some (.int k 0):=by
 unfold QZ at h
 split at h
 ·simp only[Bool.and_eq_true,decide_eq_true_eq]at h
  rw[h.1,h.2]
 cases h
theorem JL:LX A6:=by
 have h0:QZ .u32 A6[0]?=true:=by decide+kernel
 have h1:QZ .i32 A6[1]?=true:=by decide+kernel
 have h2:QZ .u32 A6[2]?=true:=by decide+kernel
 have h3:QZ .i32 A6[3]?=true:=by decide+kernel
 have h4:((List.range 256).all fun k=>QZ .u8 A6[4+k]?)=true:=by decide+kernel
 exact⟨xp h0,xp h1,xp h2,xp h3,fun k hk=>xp (List.all_eq_true.1 h4 k (List.mem_range.2 hk))⟩
theorem Zm: ∃i z,Try.prog.info? 3=some i/\i.zero=some z/\i.bytes=8/\i.size=1/\z.cells= #[.int .i64 0]:=⟨_,_,by rfl,by rfl,by rfl,by rfl,by rfl⟩
theorem Pq{n j:Nat}(h:j<n):(madeCells #[.int .i64 0] (n*1))[j]?=some (.int .i64 0):=by
 unfold madeCells
 rw[Array.getElem?_map,Array.getElem?_range]
 rw[if_pos (by omega)]
 simp only[Option.map_some,Option.some.injEq]
 rw[show j%(#[Value.int .i64 0]:Array Value).size=0 from Nat.mod_one j]
 rfl
set_option maxHeartbeats 4000000 in
theorem Zl{W:World}{bs:Option Addr}{nj cap lb lo:Nat}{tu:Nat->S08.Tu}(hf:E.da)(hP:E.P=Try.prog)(dw:E.fin=mW Try.prog W 1 W.heap.size)(A:Uj W bs nj lb lo tu):
  Tr E N 0 (bD fun b=>b<W.heap.size) (Conc.G (Frame.enter Try.prog 8 #[.slice bs nj cap] .normal) []) W:=by
 have Wf: ∀bQ,ay Try.prog E (bD bQ) (base 8):=fun bQ=>⟨⟨hf,rfl,by decide⟩,hP⟩
 have s0:Ly W (fun b=>b<W.heap.size) W []:=⟨⟨Nat.le_refl _,fun b hb=>⟨hb,rfl⟩⟩,fun b hb=>hb,fun p hp=>(by cases hp),List.nodup_nil⟩
 have W0:=Wf fun b=>b<W.heap.size
 refine Tr.ck hP bm8 (Nat.le_of_ble_eq_true rfl) ?_
 refine Tk.seq W0.wk ?_
 refine Tk.reg W0 ?_
 refine ah.IN W0 s0 (by rfl) (by rfl) (by rfl) (by rfl) (fun r=>ptr r 0) (.cells #[.slice bs nj cap] 40 (0,0)) (fun a ha ae=>pt (t:=40) (x:=.tmp 0) (v:=.slice bs nj cap) (by rfl) (ha.ev (x:=.tmp 0) rfl)) fun KU w1 lB s1=>?_
 have W1:=Wf KU
 (repeat(first|refine ah.dn W1 ?_|refine ah.pS W1 (hp:=by exact aa (.inr rfl) rfl) (h:=?_)|refine Tk.seq (ay.wk W1) ?_|refine Tk.reg W1 ?_))
 obtain⟨q1,q2⟩:=s1.get List.mem_cons_self 0
 refine ah.open (by rfl) (Tk.gS W1.wk (x:=.tmp 1) (ad:=br lB 0) (v:=.slice bs nj cap) rfl (by rfl) (by rfl) (by rfl) (by rfl) (by rw[hP];rfl) rfl q1 q2 ?_)
 show ah _ _ _ _ _ _ _ _ _ _ 1 _ _
 refine ah.pS W1 (hp:=kJ rfl rfl (by rfl)) (h:=?_)
 refine ah.pS W1 (hp:=by(exact al rfl rfl rfl rfl)) (h:=?_)
 refine ah.dn W1 ?_
 by_cases hbig:(nj:Int)>20
 ·refine Tk.cp W1.wk (congrArg (fun b=>some (Value.bool b)) (decide_eq_true hbig)) ?_
  refine Tk.seq W1.wk ?_
  refine Tk.reg W1 ?_
  obtain⟨c11,Sa⟩:=VX
  refine ah.call W1 (by rfl) (by rfl) (by rfl) (by rfl) Sa rfl fun GW oC=>?_
  refine Hw (l:=bD KU) (BL hf hP) fun l2 w2 EH=>?_
  have el:l2=bD l2.ai:=EH.eq
  have o2:Old W l2.ai w2:=⟨Nat.le_trans s1.old.size EH.size,fun b hb=>⟨EH.ai b (s1.old.heap b hb).1,(EH.heap b (s1.old.heap b hb).1).trans (s1.old.heap b hb).2⟩⟩
  refine oC _ _ _ (ah.bx ?_)
  rw[el]
  have W2:=Wf l2.ai
  (repeat(first|refine ah.dn W2 ?_|refine ah.pS W2 (hp:=by exact aa (.inr rfl) rfl) (h:=?_)))
  exact Tk.ret W2.wk (VO dw o2 rfl)
 refine Tk.bC W1.wk (congrArg (fun b=>some (Value.bool b)) (decide_eq_false hbig)) ?_
 have T7:nj<=20:=by omega
 (repeat(first|refine Tk.seq (ay.wk W1) ?_|refine Tk.reg W1 ?_|refine Tk.skip (ay.wk W1) ?_))
 refine ah.uZ W1 (by rfl) (by rfl) (by rfl) (by rfl) (by rfl) Su rfl fun GW oC=>?_
 refine Tr.ck hP Su (Nat.le_of_ble_eq_true rfl) ?_
 have V1:ay Try.prog E (bD KU) (base 18):=⟨⟨hf,rfl,by decide⟩,hP⟩
 (repeat(first|refine ah.dn V1 ?_|refine ah.pS V1 (hp:=by exact aa (.inr rfl) rfl) (h:=?_)|refine Tk.seq (ay.wk V1) ?_|refine Tk.reg V1 ?_))
 refine ah.IN V1 s1 (by rfl) (by rfl) (by rfl) (by rfl) (fun r=>ptr r 0) (.cells A6 76 (0,0)) (fun a ha ae=>gO (t:=76) (by rfl) PE ae) fun qX w2 H s2=>?_
 have V2:ay Try.prog E (bD qX) (base 18):=⟨⟨hf,rfl,by decide⟩,hP⟩
 (repeat(first|refine ah.dn V2 ?_|refine ah.pS V2 (hp:=by exact aa (.inr rfl) rfl) (h:=?_)))
 refine Tk.ret V2.wk (fE.leave1 V2.wk (hP▸Su) rfl (oC _ _ _ _ ?_))
 have W2:=Wf qX
 refine ah.IN W2 s2 (by rfl) (by rfl) (by rfl) (by rfl) (fun r=>ptr r 0) (.cells #[.pointer none] 41 (0,0)) (fun a ha ae=>gO (t:=41) (by rfl) (by rfl) ae) fun Ry w3 hB s3=>?_
 have W3:=Wf Ry
 refine ah.L9 W3 (t:=41) (x:=.tmp 3) (y:=.tmp 12) (v:=ptr H 0) s3 (by rfl) (by rfl) (by rfl) (by rfl) ⟨_,by rfl,by rfl⟩ rfl rfl rfl rfl fun w4 s4=>?_
 (repeat(first|refine ah.dn W3 ?_|refine Tk.seq (ay.wk W3) ?_|refine Tk.reg W3 ?_))
 obtain⟨q3,q4⟩:=s4.get (List.mem_cons_of_mem _ (List.mem_cons_of_mem _ List.mem_cons_self)) (r:=lB) 0
 refine ah.open (by rfl) (Tk.gS W3.wk (x:=.tmp 1) (ad:=br lB 0) (v:=.slice bs nj cap) rfl (by rfl) (by rfl) (by rfl) (by rfl) (by rw[hP];rfl) rfl q3 q4 ?_)
 show ah _ _ _ _ _ _ _ _ _ _ 1 _ _
 refine ah.pS W3 (hp:=kJ rfl rfl (by rfl)) (h:=?_)
 obtain⟨i3,z3,e1,e2,e3,e4,e5⟩:=Zm
 refine ah.IN W3 s4 (by rfl) (by rfl) (by rfl) (by rfl) (fun r=>.slice (some (br r 0)) nj nj) (.cells (madeCells z3.cells (nj*i3.size)) 3 (0,0)) (fun a ha ae=>yR (t:=43) (x:=.tmp 14) (y:=.tmp 14) (by rfl) (ha.ev (x:=.tmp 14) rfl) (ha.ev (x:=.tmp 14) rfl) (by rfl) e1 e2 (by rw[e3];omega) (by omega) ae) fun Zd w5 T s5=>?_
 rw[e4,e5]at s5
 have W5:=Wf Zd
 refine ah.IN W5 s5 (by rfl) (by rfl) (by rfl) (by rfl) (fun r=>ptr r 0) (.cells #[.slice none 0 0] 43 (0,0)) (fun a ha ae=>gO (t:=43) (by rfl) (by rfl) ae) fun Zc w6 tB s6=>?_
 have W6:=Wf Zc
 refine ah.L9 W6 (t:=43) (x:=.tmp 4) (y:=.tmp 15) (v:=.slice (some (br T 0)) nj nj) s6 (by rfl) (by rfl) (by rfl) (by rfl) ⟨_,by rfl,by rfl⟩ rfl rfl rfl rfl fun w7 s7=>?_
 (repeat(first|refine ah.dn W6 ?_|refine Tk.seq (ay.wk W6) ?_|refine Tk.reg W6 ?_))
 refine ah.IN W6 s7 (by rfl) (by rfl) (by rfl) (by rfl) (fun r=>ptr r 0) (.cells #[.int .u64 0,.int .u32 0] 56 (0,0)) (fun a ha ae=>gO (t:=56) (by rfl) (by rfl) ae) fun Zb w8 B s8=>?_
 have W8:=Wf Zb
 refine ah.dn W8 ?_
 intro a ha dm
 refine jI.Lv.fold ⟨aX _ _,.inl ⟨rfl,rfl,?_⟩⟩
 show E.fin _ _ _
 rw[dw]
 exact .inr (co8 A JL (fun j hj=>Pq hj) T7 s8 (ha.sub (bp.sub ⟨rfl,rfl,rfl,rfl,trivial⟩)) dm)
end Go.Co.F1

namespace Go.Co.Row
open Go Go.Conc Go.RowKit Go.WideShapes Go.ChangeShapes
section
variable{H:Type}{enc:TypeId×Value->H}{P:Program}
theorem Gj{f:Func}{s:ChangeSpec}{apart fresh handsOn again:Bool}{W W':World}{args:Array Value}{v:Value}{ds gs:List (DataW H)}{before pa pv:List MemPlace}
  (hW:DataW.Whole enc P f.params.toList s.vars apart W args.toList ds gs before)
  (E6: ∀ (b:Nat) (sp:Nat->Bool) (hd:Bool),DataW.TrodAll enc P W' b sp hd f.resultTypes.toList (v.resultList f.resultTypes.size) (s.fn H (ds++gs)).results [])
  (dh: ∀sp:Nat->Bool,(∀p∈before,sp p.block=true)->DataW.TrodAll enc P W' 0 sp true f.params.toList args.toList (s.fn H (ds++gs)).args pa)
  (C7: ∀sp:Nat->Bool,(∀p∈before,sp p.block=true)->DataW.TrodVars enc P W' sp s.vars (s.fn H (ds++gs)).vars pv)
  (rR:before=pa++pv) (hb:Go.RowKit.Below W.heap.size W W')
  (aL: ∀ (j:Nat) (t:TypeId) (r:Value),f.resultTypes[j]?=some t->(v.resultList f.resultTypes.size)[j]?=some r->Value.okWide P W' .any 0 t r):
  s.post enc P f apart fresh handsOn again W args v W':=by
 have bA: ∀p∈before,p.block<W.heap.size:=fun p hp=>hW.lt p hp
 have hold: ∀p∈before,(fun b=>decide (b<W.heap.size)) p.block=true:=fun p hp=>by simpa using bA p hp
 refine⟨ds,gs,before,[],pa,pv,hW,E6 _ _ _,dh _ hold,C7 _ hold,World.keptBut_mono (fun p hp=>⟨hp,?_⟩) (hb.frame (·∈before)),fun _=>?_⟩
 ·rw[rR,List.mem_append]at hp
  exact Or.inr hp
 obtain⟨_,_,_,_,_,hz,hn⟩:=hW
 refine⟨aL,_,_,([]++pa)++pv,⟨[]++pa,pv,trodAll_append (dh _ (fun _ _=>rfl)) (E6 _ _ _),C7 _ (fun _ _=>rfl),rfl,?_,?_⟩,?_⟩
 ·intro b off hp
  have ll:MemPlace.cell b off∈before:=by rw[rR];simpa using hp
  rw[hb.frozen (bA _ ll)]
  exact hz b off ll
 ·intro ha
  have:=hn ha
  rw[rR]at this
  simpa using this
 intro p hp _
 rw[rR]
 simpa using hp
theorem qI(hl:laidOutB P=true){W W':World}{sp:Nat->Bool}(hb:Go.RowKit.Below W.heap.size W W'): ∀ {ts:List TypeId} {vs:List Value} {ds:List (DataW H)} {ps:List MemPlace},(∀t∈ts,P.readableRec t=true/\t<P.types.size)->
  DataW.TrodAll enc P W 0 (fun _=>true) true ts vs ds ps->(∀x∈ps,x.block<W.heap.size)->(∀x∈ps,sp x.block=true)->DataW.TrodAll enc P W' 0 sp true ts vs ds ps
 | [],[],[],ps,_,h,_,_=>h
 |t::ts,v::vs,d::ds,ps,hr,h,bA,KA=>by
  obtain⟨p,q,h1,h2,rfl⟩:=h
  refine⟨p,q,?_,qI hl hb (fun t ht=>hr t (by simp[ht])) h2 (fun x hx=>bA x (by simp[hx])) fun x hx=>KA x (by simp[hx]),rfl⟩
  exact WideElems.Trod_stays hl (hr t (by simp)).1 (hr t (by simp)).2 h1 (fun x hx=>hb.same (bA x (by simp[hx]))) fun x hx=>KA x (by simp[hx])
theorem pL: ∀ {W:World} {b:Nat} {sp:Nat->Bool} {hd:Bool} {ts:List TypeId} {vs:List Value} {ds:List (DataW H)} {ps:List MemPlace},DataW.TrodAll enc P W b sp hd ts vs ds ps->ds.length=ts.length/\vs.length=ts.length
 |_,_,_,_,[],[],[],_,_=>⟨rfl,rfl⟩
 |_,_,_,_,_::ts,_::vs,_::ds,_,h=>by
  obtain⟨p,q,h1,h2,_⟩:=h
  obtain⟨e1,e2⟩:=pL h2
  simp[e1,e2]
theorem Ci{fn:Func}{s:ChangeSpec}{t:TypeId}{W w':World}{args:Array Value}{ds gs:List (DataW H)}{before:List MemPlace}
  (C7:s.vars= []) (Yr: ∀l:List (DataW H),l.length=fn.params.size->(s.fn H l).results= [.lit (.bool true)]/\(s.fn H l).args=l/\(s.fn H l).vars= [])
  (E6:fn.resultTypes= #[t]) (ht:P.underlying t=some .bool) (hl:laidOutB P=true) (UC:(fn.params.toList.all fun t=>P.readableRec t&&decide (t<P.types.size))=true)
  (hW:DataW.Whole enc P fn.params.toList s.vars false W args.toList ds gs before) (hb:Go.RowKit.Below W.heap.size W w'):s.post enc P fn false true false false W args (.bool true) w':=by
 have hr: ∀t∈fn.params.toList,P.readableRec t=true/\t<P.types.size:=fun t ht=>by
  have:=List.all_eq_true.1 UC t ht
  rw[Bool.and_eq_true]at this
  exact⟨this.1,of_decide_eq_true this.2⟩
 have KE:=hW
 obtain⟨p,q,hA,hV,hpq,_,_⟩:=KE
 rw[C7]at hV
 obtain⟨rfl,rfl⟩:=trodVars_none hV
 have hlen:=(pL hA).1
 obtain⟨r1,r2,r3⟩:=Yr (ds++ []) (by simpa using hlen)
 have bA: ∀x∈before,x.block<W.heap.size:=fun x hx=>hW.lt x hx
 refine Gj (pa:=before) (pv:= []) hW (fun b sp hd=>?_) (fun sp KA=>?_) (fun sp _=>?_) (by simp) hb ?_
 ·rw[r1,E6]
  exact trodAll_cons_mk (shut_bool ht _) trodAll_mk0
 ·rw[r2,List.append_nil]
  have e:before=p:=by rw[hpq,List.append_nil]
  rw[e]at KA bA ⊢
  exact qI hl hb hr hA bA KA
 ·rw[r3,C7]
  exact rfl
 exact ok_one E6 rfl (okWide_bool_mk ht _)
end
end Go.Co.Row

namespace Go.Proofs.Ytahoihfbjlgpgaa
open Go Go.Conc Go.RowKit Go.WideShapes Go.ChangeShapes Go.Co Go.Co.F1 Go.Co.Row
set_option maxRecDepth 100000
set_option maxHeartbeats 4000000
set_option linter.unusedVariables false
open Go.SE (leafInts HasAll intsOf)
abbrev k4:List IntKind:= [.u32,.u32,.u16,.u16]
theorem four{ns:List Int}(h:HasAll k4 ns): ∃t:S08.Tu,t.Wf/\intsOf k4 ns=qu t:=by
 match ns,h with
 | [a,b,c,d],⟨h1,h2,h3,h4,_⟩=>
  have h1:0<=a/\a<=4294967295:=h1
  have h2:0<=b/\b<=4294967295:=h2
  have h3:0<=c/\c<=65535:=h3
  have h4:0<=d/\d<=65535:=h4
  exact⟨⟨a,b,c,d⟩,⟨h1,h2,h3,h4⟩,rfl⟩
theorem El{H:Type}{enc:TypeId×Value->H}{P:Program}{W:World}{base:Nat}{t e:TypeId}{v:Value}{d:DataW H}{ps:List MemPlace}(D:Nat)(ht:P.underlying t=some (.slice e))(he:leafInts P D e=some k4)(hc:P.cellsOf e=4)
  (vJ:Value.okWide P W .any base t v) (h:DataW.Trod enc P W 0 (fun _=>true) true t v d ps) (hz:W.noneFrozen ps):
  ∃ (bs:Option Addr) (nj cap lb lo:Nat) (tu:Nat->S08.Tu),v= .slice bs nj cap/\Uj W bs nj lb lo tu:=by
 have Qx:=vJ
 obtain⟨a1,len,cap,rfl⟩:=okWide_slice ht vJ
 obtain⟨fuel,hf⟩:=h
 rcases DataW.trod_slice ht hf with⟨NV,_⟩|⟨a,Vp,zaU,elems,rest,n,_,NV,hx,hb,hl,hm,hlen,wM,_,_⟩
 ·simp[Value.cells]at NV
  obtain⟨rfl,rfl,rfl⟩:=NV
  exact⟨none,0,0,0,0,fun _=>S08.fS,rfl,⟨fun h=>absurd h (Nat.lt_irrefl _),fun j k v hj=>absurd hj (Nat.not_lt_zero _),fun j hj=>absurd hj (Nat.not_lt_zero _)⟩⟩
 simp[Value.cells]at NV
 obtain⟨rfl,rfl,rfl⟩:=NV
 have QA:a.spot=none:=by
  simp only[Value.okWide,ht,Cell.okWide,Cell.ok]at Qx
  exact Qx.2.2.2.1
 obtain⟨ab,ao,spot⟩:=a
 simp only at QA
 subst QA
 have each: ∀i,i<len->∃tt:S08.Tu,tt.Wf/\∀r x,(qu tt)[r]?=some x->W.cell? ⟨ab,ao+i*4+r,none⟩=some x:=by
  intro i hi
  have h1:=wM i hi
  rw[List.getElem?_eq_getElem (by omega),Option.bind_eq_some_iff]at h1
  obtain⟨cs,h2,h3⟩:=h1
  obtain⟨ns,rfl,h4⟩:= @Go.SE.uo CD _ _ _ _ _ _ _ D e k4 n cs _ he h3
  obtain⟨tt,w1,w2⟩:=four h4
  refine⟨tt,w1,fun r x hx=>?_⟩
  unfold World.cells? at h2
  rw[if_pos (Nat.zero_le _)]at h2
  have hr:r<P.cellsOf e:=by
   have:=(List.getElem?_eq_some_iff.1 hx).1
   rw[hc];exact this
  have h5:=mapM_some_get h2 r r (by simp[hr])
  rw[w2,hx,hc]at h5
  rw[Go.SE.cN,Go.SE.cN]at h5
  exact h5
 refine⟨some ⟨ab,ao,none⟩,len,cap,ab,ao,fun i=>if h:i<len then Classical.choose (each i h)else S08.fS,rfl,fun _=>rfl,fun j k v hj hk=>?_,fun j hj=>?_⟩
 ·have hs:=Classical.choose_spec (each j hj)
  rw[dif_pos hj]at hk
  refine⟨hs.2 k v hk,hz ab (ao+j*4+k) ?_⟩
  have Yn:k<4:=(List.getElem?_eq_some_iff.1 hk).1
  have hxp:ps=MemPlace.row ⟨ab,ao,none⟩ ((elems.length+rest.length)*P.cellsOf e)++List.flatMap (fun x=>x.snd) (elems++rest):=congrArg Prod.snd hx
  rw[hxp,hc]
  refine List.mem_append_left _ (List.mem_map.2 ⟨j*4+k,List.mem_range.2 (by omega),?_⟩)
  show MemPlace.cell ab (ao+(j*4+k))=_
  rw[Nat.add_assoc]
 rw[dif_pos hj];exact(Classical.choose_spec (each j hj)).1
theorem ai:ownKnob Try.prog.godebug=none:=by kernel_rfl
theorem laid:laidOutB Try.prog=true:=by kernel_rfl
theorem Eo:Try.f8.params= #[40]:=by kernel_rfl
theorem YW:Try.prog.underlying 40=some (.slice 31):=by kernel_rfl
theorem ul4:Try.prog.underlying 4=some .bool:=by kernel_rfl
theorem PI:Try.prog.cellsOf 31=4:=by kernel_rfl
theorem To:leafInts Try.prog 4 31=some k4:=by kernel_rfl
theorem Ep(os:Os)(started:os.Started)(H:Type)(enc:TypeId×Value->H)(F:Stop.Interp):
  ReturnsInLeavingWide {calm:=true} Try.checked os 8 .any (Rows.hashManySpec.pre6 enc Try.prog Try.f8 Rows.hashManyRow.domain false) ((OpenSpec.ofChange Rows.hashManySpec).postWith enc Try.prog Try.f8 F (outsideKept [.timePasses]) false true false):=by
 refine returnsInLeavingWide_of_change_time (C:=Try.checked) ai started Try.func8
  (ChangeSpec.witness6c (enc:=enc) (C:=Try.checked) ⟨#[],#[.slice none 0 0],[]⟩ 8 (by kernel_rfl) (by kernel_rfl) (by kernel_rfl) (by kernel_rfl)) ?_
 intro W base args ds gs before vJ hW _ _ _
 have hW0:=hW
 obtain⟨ps,qs,YF,hV,rfl,Xz,P3⟩:=hW
 have hA:DataW.TrodAll enc Try.prog W 0 (fun _=>true) true Try.f8.params.toList args.toList ds ps:=YF
 rw[Eo]at hA vJ
 obtain⟨v0,vs0,d0,ds0,p0,q0,dh,rfl,rfl,h0,r0⟩:=trodAll_cons hA
 obtain⟨rfl,rfl,rfl⟩:=trodAll_nil r0
 obtain rfl:args= #[v0]:=by cases args;simp_all
 obtain⟨bs,nj,cap,lb,lo,tu,rfl,A⟩:=El 4 YW To PI (vJ 0 40 v0 rfl rfl) h0 fun b off hp=>Xz b off (List.mem_append_left _ (List.mem_append_left _ hp))
 obtain⟨M,last,o,w',t',r1,r2,r3,v,ho,⟨hv,e1,e2,e3,e4,e5⟩,g2,g3,g4,g5⟩:=Ng (P:=Try.prog) (W:=W) 1 (g0:=Conc.G (Frame.enter Try.prog 8 #[.slice bs nj cap] .normal) []) rfl fun E N hf hP dw=>
  Zl hf hP dw A
 refine⟨M,last,o,w',t',r1,r2,r3,v,ho,⟨?_,e3⟩,g2,g3,g4,g5⟩
 rw[hv]
 refine Ci (t:=4) (s:=Rows.hashManySpec) rfl (fun l hl=>?_) rfl ul4 laid (by kernel_rfl) hW0 ⟨rfl,e1,e2,e4,e5⟩
 match l,hl with
 | [_],_=>exact⟨rfl,rfl,rfl⟩
theorem many_holds:Rows.HashManySaid:=
 OpenClaim.holds_of_wide_leaving_time 8 Try.f8 rfl rfl rfl rfl rfl rfl rfl ⟨rfl,rfl,rfl,rfl,rfl⟩ rfl rfl rfl rfl rfl (by kernel_rfl) Try.func8 (by kernel_rfl)
  (of_decide_eq_true (by kernel_rfl)) (by unfold Func.isWrapper;first|(rw[if_pos (by decide+kernel)];kernel_rfl)|(rw[if_neg (by decide+kernel)];exact⟨rfl,rfl⟩))
  (fun os started H enc _ F=>Ep os started H enc F)
end Go.Proofs.Ytahoihfbjlgpgaa

#print axioms Go.Proofs.Ytahoihfbjlgpgaa.many_holds
