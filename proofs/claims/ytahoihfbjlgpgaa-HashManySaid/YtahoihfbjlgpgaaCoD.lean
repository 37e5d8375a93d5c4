/- HashMany returns true for every slice of tuples, in whatever order its goroutines run, and its argument reads as before. No condition. -/
import Derived.Test.YtahoihfbjlgpgaaCoC
import Derived.CallsIn
import Derived.RangeFuncSeq
import Derived.RangeFuncNested
import Derived.OrdersIn
import Derived.ArgAppend
import Derived.Laws.BytesString
import Derived.Laws.MakeOwn
set_option linter.all false
namespace Go.SE
open Go Go.Conc
variable [aG]
section
variable{P:Program}{ok:Nat->Prop}{α β:Type}
theorem gL{x:Sem α}{f:α->Sem β}(h:gP x):gP (x.bind f):=by
 induction x with
 |pure a=>exact h.elim
 |load m a k ih=>exact fun v=>ih v (h v)
 |store m a v k ih=>exact ih h
 |new o k ih=>exact fun r=>ih r (h r)
 |shape r k ih=>exact fun s=>ih s (h s)
 |freeze a n k ih=>exact ih h
 |frozen a k ih=>exact fun b=>ih b (h b)
 |getObj r k ih=>exact fun o=>ih o (h o)
 |setObj r o k ih=>exact ih h
 |choose q k ih=>exact fun n=>ih n (h n)
 |sys c k ih=>exact fun r=>ih r (h r)
 |program k ih=>exact fun p=>ih p (h p)
 |mark m k ih=>exact ih h
 |halt h=>exact trivial
theorem BD.mono{ok Uo:Nat->Prop}{m:Mark}(h:BD ok m)(ho: ∀b,ok b->Uo b):BD Uo m:=h.imp id fun h=>h.imp id fun⟨a,h1,h2⟩=>⟨a,h1,ho _ h2⟩
theorem Dp{R:α->Prop}{x:Sem α}: ∀ {ok Uo:Nat->Prop},bB P ok R x->(∀b,ok b->Uo b)->bB P Uo R x:=by
 induction x with
 |pure a=>exact fun h _=>h
 |load m a k ih=>exact fun h ho v=>ih v (h v) ho
 |store m a v k ih=>exact fun h ho=>ih h ho
 |new o k ih=>exact fun h ho=>h.imp (fun h=>⟨h.1,fun r=>ih r (h.2 r) ho⟩) id
 |shape r k ih=>exact fun h ho=>h.imp (fun h=>⟨ho _ h.1,fun s=>ih s (h.2 s) ho⟩) id
 |freeze a n k ih=>exact fun h ho=>h.imp (fun h=>⟨ho _ h.1,ih h.2 ho⟩) id
 |frozen a k ih=>exact fun h ho=>h.imp (fun h=>⟨ho _ h.1,fun b=>ih b (h.2 b) ho⟩) id
 |getObj r k ih=>exact fun h ho=>⟨fun o=>ih o (h.1 o) fun b hb=>hb.imp (ho b) id,h.2⟩
 |setObj r o k ih=>exact fun h ho=>h.imp (fun h=>⟨ho _ h.1,h.2.1,ih h.2.2 ho⟩) id
 |choose q k ih=>exact fun h ho n=>ih n (h n) ho
 |sys c k ih=>exact fun h _=>h
 |program k ih=>exact fun h ho=>ih P h ho
 |mark m k ih=>exact fun h ho=>h.imp (fun h=>⟨h.1.mono ho,ih h.2 ho⟩) id
 |halt h=>exact fun _ _=>trivial
theorem sJ{R:α->Prop}{S:β->Prop}{x:Sem α}{f:α->Sem β}: ∀ {ok:Nat->Prop},bB P ok R x->(∀a,R a->bB P ok S (f a))->bB P ok S (x.bind f):=by
 induction x with
 |pure a=>exact fun h hf=>hf a h
 |load m a k ih=>exact fun h hf v=>ih v (h v) hf
 |store m a v k ih=>exact fun h hf=>ih h hf
 |new o k ih=>exact fun h hf=>h.imp (fun h=>⟨h.1,fun r=>ih r (h.2 r) hf⟩) fun h r=>gL (h r)
 |shape r k ih=>exact fun h hf=>h.imp (fun h=>⟨h.1,fun s=>ih s (h.2 s) hf⟩) fun h s=>gL (h s)
 |freeze a n k ih=>exact fun h hf=>h.imp (fun h=>⟨h.1,ih h.2 hf⟩) gL
 |frozen a k ih=>exact fun h hf=>h.imp (fun h=>⟨h.1,fun b=>ih b (h.2 b) hf⟩) fun h b=>gL (h b)
 |getObj r k ih=>exact fun h hf=>⟨fun o=>ih o (h.1 o) fun a ha=>Dp (hf a ha) fun _=>.inl,fun c e=>gL (h.2 c e)⟩
 |setObj r o k ih=>exact fun h hf=>h.imp (fun h=>⟨h.1,h.2.1,ih h.2.2 hf⟩) gL
 |choose q k ih=>exact fun h hf n=>ih n (h n) hf
 |sys c k ih=>exact fun h hf r=>gL (h r)
 |program k ih=>exact fun h hf=>ih P h hf
 |mark m k ih=>exact fun h hf=>h.imp (fun h=>⟨h.1,ih h.2 hf⟩) gL
 |halt h=>exact fun _ _=>trivial
theorem ag{R:α->Prop}{S:β->Prop}{x:Sem α}{f:α->Sem β}(h:bB P ok R x)(hf: ∀a,R a->bB P ok S (f a)):bB P ok S (x>>=f):=sJ h hf
theorem MP{R S:α->Prop}{x:Sem α}: ∀ {ok:Nat->Prop},bB P ok R x->(∀a,R a->S a)->bB P ok S x:=by
 intro ok h hS
 have:=sJ (f:=Sem.pure) h (S:=S) fun a ha=>hS a ha
 have e:x.bind Sem.pure=x:=by
  clear this h
  induction x with
  |pure a=>rfl
  |load m a k ih=>simp only[Sem.bind];congr 1;funext v;exact ih v
  |store m a v k ih=>simp only[Sem.bind];rw[ih]
  |new o k ih=>simp only[Sem.bind];congr 1;funext v;exact ih v
  |shape r k ih=>simp only[Sem.bind];congr 1;funext v;exact ih v
  |freeze a n k ih=>simp only[Sem.bind];rw[ih]
  |frozen a k ih=>simp only[Sem.bind];congr 1;funext v;exact ih v
  |getObj r k ih=>simp only[Sem.bind];congr 1;funext v;exact ih v
  |setObj r o k ih=>simp only[Sem.bind];rw[ih]
  |choose q k ih=>simp only[Sem.bind];congr 1;funext v;exact ih v
  |sys c k ih=>simp only[Sem.bind];congr 1;funext v;exact ih v
  |program k ih=>simp only[Sem.bind];congr 1;funext v;exact ih v
  |mark m k ih=>simp only[Sem.bind];rw[ih]
  |halt h=>rfl
 rw[e]at this
 exact this
theorem bH{R:α->Prop}{x:Sem α}(h:bB P ok R x):bB P ok (fun _=>True) x:=MP h fun _ _=>trivial
theorem jl{R:α->Prop}{a:α}(h:R a):bB P ok R (pure a:Sem α):=h
theorem aE{R:α->Prop}{h:Halt}:bB P ok R (.halt h:Sem α):=trivial
theorem pV{R:α->Prop}{r:Nat}{k:Obj->Sem α}(h: ∀o,bB P (fun b=>ok b\/b=r) R (k o))(hd: ∀c e,gP (k (.pending c e))):bB P ok R (getObj r>>=k):=⟨h,hd⟩
abbrev od:Nat->Prop:=fun _=>False
theorem vi{l:Nat}:bB P ok (fun _=>True) (Instr.getLoop l):=by
 refine pV (fun o=>?_) fun _ _=>trivial
 split
 ·exact trivial
 exact aE
theorem MO{R:α->Prop}{r:Nat}{g:Obj->Sem β}{f:β->Sem α}(h: ∀o,bB P (fun b=>ok b\/b=r) R (g o>>=f))(hd: ∀c e,gP (g (.pending c e)>>=f)):bB P ok R ((getObj r>>=g)>>=f):=⟨h,hd⟩
theorem pA{R:α->Prop}{l:Nat}{f:Loop->Sem α}(h: ∀r,bB P (fun b=>ok b\/b=l) R (f r)):bB P ok R (Instr.getLoop l>>=f):=by
 unfold Instr.getLoop
 exact MO (fun o=>by cases o<;>first|exact h _|exact aE) (fun _ _=>trivial)
theorem fq{t:TypeId}:bB P ok (fun i=>P.info? t=some i) (typeInfo t):=by
 unfold typeInfo
 refine ag (R:=fun p=>p=P) rfl fun p hp=>?_
 subst hp
 cases h:p.info? t with
 |none=>exact aE
 |some i=>exact rfl
theorem aC{t:TypeId}:bB P ok (fun d=>P.underlying t=some d) (underlying t):=by
 unfold underlying
 refine ag (R:=fun p=>p=P) rfl fun p hp=>?_
 subst hp
 cases h:p.underlying t with
 |none=>exact aE
 |some i=>exact rfl
theorem ry{e:TypeId}{c:Array Value}:bB P ok (fun _=>True) (newRow e c):=.inl ⟨rfl,fun _=>trivial⟩
theorem nB{e:TypeId}{x:Value}:bB P ok (fun _=>True) (newVar e x):=.inl ⟨rfl,fun _=>trivial⟩
theorem ya{t:TypeId}:bB P ok (fun _=>True) (elemOf t):=by
 unfold elemOf
 refine ag aC fun d _=>?_
 split
 ·exact trivial
 exact aE
theorem aV{R:α->Prop}{e:RuntimeError}:bB P ok R (runtimePanic e:Sem α):=by
 unfold runtimePanic
 refine ag (R:=fun _=>True) trivial fun p _=>?_
 cases e with
 |typeAssertion i c a m=>exact ag ya fun _ _=>ag nB fun _ _=>aE
 |panicNil=>exact ag ya fun _ _=>ag nB fun _ _=>aE
 |_=>exact aE
theorem zp{fn:FuncId}{tmps:Array Value}{ps:Array Tmp}{x y:Code}{ro:Option Nat}:bB P ok (fun _=>True) (Instr.enterLoop fn tmps ps x y ro):=by
 unfold Instr.enterLoop
 cases ro with
 |none=>exact .inl ⟨rfl,fun _=>.inl ⟨rfl,fun _=>trivial⟩⟩
 |some l=>exact ag vi fun _ _=>.inl ⟨rfl,fun _=>trivial⟩
theorem Jh{l:Nat}{args:Array Value}:bB P ok (fun _=>True) (Instr.yield l args):=by
 unfold Instr.yield
 refine ag vi fun r _=>?_
 split
 ·exact aE
 exact trivial
theorem gy{R:Unit->Prop}{r:Nat}{o:Obj}(h:ok r)(hp:plainO o=true)(hR:R ()):bB P ok R (setObj r o):=.inl ⟨h,hp,hR⟩
theorem yP{l:Nat}:bB P ok (fun _=>True) (Instr.beginRound l):=by
 unfold Instr.beginRound
 refine pA fun r=>?_
 refine ag (R:=fun _=>True) (gy (.inr rfl) rfl trivial) fun _ _=>?_
 split
 ·exact trivial
 all_goals exact aV
theorem Ca{l:Nat}{j:Option Code}:bB P ok (fun _=>True) (Instr.endRound l j):=by
 unfold Instr.endRound
 exact pA fun r=>ag (R:=fun _=>True) (gy (.inr rfl) rfl trivial) fun _ _=>trivial
theorem Ea{l:Nat}:bB P ok (fun _=>True) (Instr.endLoop l):=by
 unfold Instr.endLoop
 refine pA fun r=>?_
 split
 ·exact ag (R:=fun _=>True) aV fun _ _=>ag (R:=fun _=>True) (gy (.inr rfl) rfl trivial) fun _ _=>trivial
 exact ag (R:=fun _=>True) (gy (.inr rfl) rfl trivial) fun _ _=>trivial
theorem uJ{l:Nat}:bB P ok (fun _=>True) (Instr.takeDeferred l):=by
 unfold Instr.takeDeferred
 refine pV (fun o=>?_) fun _ _=>trivial
 split
 ·exact ag (R:=fun _=>True) (gy (.inr rfl) rfl trivial) fun _ _=>trivial
 exact aE
end
def jD(P:Program)(f:FuncId)(args:Array Value)(v:World)(R:Ending->World->Prop):Prop:=
 ∀ (mn:Bool) (Fin:Goroutine->World->Prop) (c:Frame) (cs:List Frame),(∀x v',R (.returned x) v'->Iv P mn Fin (G (c.finish x) cs) v')->Iv P mn Fin (G (Frame.enter P f args .normal) (c::cs)) v
theorem jD.mono{P:Program}{f:FuncId}{args:Array Value}{v:World}{R R':Ending->World->Prop}(h:jD P f args v R)(hr: ∀e v',R e v'->R' e v'):jD P f args v R':=fun mn Fin c cs hk=>h mn Fin c cs fun x v' hx=>hk x v' (hr _ _ hx)
def l9(P:Program)(l:Nat)(f:FuncId)(tmps:Array Value)(assign body:Code)(v:World)(R:Ending->World->Prop):Prop:=
 ∀ (mn:Bool) (Fin:Goroutine->World->Prop) (c:Frame) (cs:List Frame),(∀x v',R (.returned x) v'->Iv P mn Fin (G (c.finish x) cs) v')->Iv P mn Fin (G (Frame.round l f tmps assign body .normal) (c::cs)) v
theorem l9.mono{P:Program}{l:Nat}{f:FuncId}{tmps:Array Value}{assign body:Code}{v:World}{R R':Ending->World->Prop}(h:l9 P l f tmps assign body v R)(hr: ∀e v',R e v'->R' e v'):l9 P l f tmps assign body v R':=fun mn Fin c cs hk=>h mn Fin c cs fun x v' hx=>hk x v' (hr _ _ hx)
def TP(P:Program)(l:Nat)(args:Array Value)(v:World)(R:Ending->World->Prop):Prop:=
 ∃fn tmps assign body,(Instr.yield l args).run P v= .ok (.round l fn tmps assign body) v/\l9 P l fn tmps assign body v R
def uk(P:Program)(f:FuncId)(args:Array Value)(v:World)(R:World->Prop):Prop:=
 ∀ (mn:Bool) (Fin:Goroutine->World->Prop) (c:Frame) (cs:List Frame),c.mode= .returning->(∀v',R v'->Iv P mn Fin (G c cs) v')->Iv P mn Fin (G (Frame.enter P f args .deferred) (c::cs)) v
theorem uk.mono{P:Program}{f:FuncId}{args:Array Value}{v:World}{R R':World->Prop}(h:uk P f args v R)(hr: ∀v',R v'->R' v'):uk P f args v R':=fun mn Fin c cs hc hk=>h mn Fin c cs hc fun v' hx=>hk v' (hr _ hx)
def oG(P:Program)(o:Oper)(a:Act)(K:Act->World->Prop):Result Next->Prop
 |.ok (.value x) v=>K (a.put o.dst x) v
 |.ok .skip v=>K (a.put o.dst undef) v
 |.ok (.defer d) v=>K ({a with defers:=d::a.defers}.put o.dst undef) v
 |.ok (.enter f args) v=>jD P f args v fun
   |.returned x,v'=>K (a.put o.dst x) v'
   |_,_=>False
 |.ok (.round l f tmps assign body) v=>l9 P l f tmps assign body v fun
   |.returned x,v'=>K (a.put o.dst x) v'
   |_,_=>False
 |_=>False
def LZ(ro:Option Nat)(P:Program)(o:Oper)(a:Act)(v:World):Prop:=∃ok:Nat->Prop,(∀b,ok b->Good v b)/\bB P ok (fun _=>True) (o.semAt ro a.eval)
def fT(P:Program)(o:Oper)(a:Act)(v:World):Option Value:=match o.op with
 |.load t p=>if bW P t=some false then(match a.eval p with
  |.pointer (some ad)=>(look v ad).filter (·.oneCell')
  |_=>none)else none
 |_=>none
def tR(ro:Option Nat)(P:Program)(o:Oper)(a:Act)(v:World):Result Next:=match(o.semAt ro a.eval).run P v with
 |.ok n v'=>.ok n v'
 |.halt h v'=>match fT P o a v with
  |some x=>.ok (.value x) v
  |none=>.halt h v'
theorem eM{ro:Option Nat}{P:Program}{o:Oper}{a:Act}{v:World}{n:Next}{v':World}(h:(o.semAt ro a.eval).run P v= .ok n v'):tR ro P o a v= .ok n v':=by
 unfold tR;rw[h]
theorem Ac{ro:Option Nat}{P:Program}{o:Oper}{a:Act}{v:World}(h:fT P o a v=none):tR ro P o a v=(o.semAt ro a.eval).run P v:=by
 unfold tR;rw[h];cases(o.semAt ro a.eval).run P v<;>rfl
theorem JF{v v':World}{ad:Addr}(i:Itf v v')(h:look v ad=none):look v' ad=none:=by
 unfold SE.look at*
 by_cases hb:ad.block<v.heap.size
 ·rw[i.lt hb];exact h
 obtain⟨⟨n,hn⟩,_⟩:=i
 rw[hn,Array.getElem?_append_right (by omega),Array.getElem?_replicate]
 split
 ·rename_i c e heq
  split at heq
  ·unfold poison at heq;cases heq
  cases heq
 rfl
theorem Es{P:Program}{o:Oper}{a:Act}{v v':World}(i:Itf v v')(h:fT P o a v=none):fT P o a v'=none:=by
 unfold fT at*
 split
 ·rename_i t p ho
  simp only[ho]at h
  split
  ·rename_i ht
   rw[if_pos ht]at h
   split
   ·rename_i ad Ol
    simp only[Ol]at h
    cases hl:look v ad with
    |none=>rw[JF i hl];rfl
    |some x=>rw[i.look hl];rw[hl]at h;exact h
   rfl
  rfl
 rfl
structure ru(P:Program)(o:Oper)(a:Act)(v:World)(x:Value)(t:TypeId)(p:Operand)(ad:Addr):Prop where
 ho:o.op= .load t p
 ht:bW P t=some false
 hp:a.eval p= .pointer (some ad)
 hl:look v ad=some x
 hx:x.oneCell'=true
theorem vu{P:Program}{o:Oper}{a:Act}{v:World}{x:Value}(h:fT P o a v=some x): ∃t p ad,ru P o a v x t p ad:=by
 unfold fT at h
 split at h
 ·rename_i t p ho
  split at h
  ·rename_i ht
   split at h
   ·rename_i ad Ol
    obtain⟨h1,h2⟩:=Option.filter_eq_some_iff.1 h
    exact⟨t,p,ad,ho,ht,Ol,h1,h2⟩
   cases h
  cases h
 cases h
theorem ru.EB{ro:Option Nat}{P:Program}{o:Oper}{a:Act}{v:World}{x:Value}{t:TypeId}{p:Operand}{ad:Addr}(h:ru P o a v x t p ad):o.semAt ro a.eval=(do pure (Next.value (<-loadVar t ad)):Sem Next):=by
 have e:o.semAt ro a.eval=execOp a.eval o:=Oper.semAt_eq ro a.eval o fun c hc=>by rw[h.ho]at hc;cases hc
 rw[e]
 simp only[execOp,h.ho,Instr.loadAt,h.hp]
 rfl
theorem ru.WV{ro:Option Nat}{P:Program}{o:Oper}{a:Act}{v:World}{x:Value}{t:TypeId}{p:Operand}{ad:Addr}(h:ru P o a v x t p ad): ∃y w',(o.semAt ro a.eval).run P v= .halt y w':=by
 rw[h.EB]
 have hl:=h.hl
 unfold SE.look at hl
 split at hl
 ·rename_i c e hb
  have hc:v.cell? ad=none:=by simp only[World.cell?,hb]
  have hf: ∃y,v.farLoad P ad false= .error y:=⟨_,by simp only[World.farLoad,hb];rfl⟩
  obtain⟨y,hf⟩:=hf
  refine⟨y,v,?_⟩
  simp only[loadVar,Sem.run_bind,bX h.ht,Result.andThen_ok,Bool.false_eq_true,if_false]
  have:(load ad).run P v= .halt y v:=by simp only[load,Sem.run,hc];rw[show((Mode.plain==Mode.atomic):Bool)=false from rfl,hf]
  rw[this]
  rfl
 cases hl
theorem Ad{ro:Option Nat}{P:Program}{o:Oper}{a:Act}{v:World}{x:Value}(h:fT P o a v=some x):tR ro P o a v= .ok (.value x) v:=by
 obtain⟨t,p,ad,hL⟩:=vu h
 obtain⟨y,w',hh⟩:=hL.WV (ro:=ro)
 unfold tR
 rw[hh,h]
theorem ru.step{ro:Option Nat}{P:Program}{o:Oper}{a:Act}{v w:World}{x:Value}{t:TypeId}{p:Operand}{ad:Addr}(h:ru P o a v x t p ad)(hc:w.cell? ad=some x):
  (o.semAt ro a.eval).run P w= .ok (.value x) w/\(o.semAt ro a.eval).events P w #[]= #[⟨.cell ad,false,false⟩]:=by
 rw[h.EB]
 have e1:(load ad).run P w= .ok x w:=by simp only[load,Sem.run,hc]
 have e2:(load ad).events P w #[]= #[⟨.cell ad,false,false⟩]:=by rw[events_load,hc];rfl
 have e3:(loadVar t ad).run P w= .ok x w:=by
  simp only[loadVar,Sem.run_bind,bX h.ht,Result.andThen_ok,Bool.false_eq_true,if_false,e1]
 constructor
 ·simp only[Sem.run_bind,e3,Result.andThen_ok,Sem.run_pure]
 have e5:(loadVar t ad).events P w #[]= #[⟨.cell ad,false,false⟩]:=by
  simp only[loadVar,Sem.events_bind,bX h.ht,Result.evThen_ok,events_isAgg,Bool.false_eq_true,if_false,e2]
 simp only[Sem.events_bind,e3,Result.evThen_ok,Sem.events_pure,e5]
def _root_.Go.Oper.lT(ro:Option Nat)(P:Program)(o:Oper)(a:Act)(v:World)(K:Act->World->Prop):Prop:=LZ ro P o a v/\oG P o a K (tR ro P o a v)
theorem FU{P:Program}{o:Oper}{a:Act}{K K':Act->World->Prop}(h: ∀a v,K a v->K' a v){r:Result Next}(hh:oG P o a K r):oG P o a K' r:=by
 cases r with
 |ok x v=>
  cases x<;>simp only[oG]at hh ⊢ <;>first
   |exact h _ _ hh
   |exact jD.mono hh (fun e v' he=>by cases e<;>first|exact h _ _ he|exact he)
   |exact l9.mono hh (fun e v' he=>by cases e<;>first|exact h _ _ he|exact he)
 |halt x v=>cases x<;>exact hh
theorem mD{ro:Option Nat}{P:Program}{o:Oper}{a:Act}{v:World}{K K':Act->World->Prop}(h: ∀a v,K a v->K' a v)(hh:o.lT ro P a v K):o.lT ro P a v K':=⟨hh.1,FU h hh.2⟩
section
variable{ro:Option Nat}{P:Program}{ops:Array Oper}{Q:Exit->Act->World->Prop}
def dH(ro:Option Nat)(P:Program)(ops:Array Oper)(i:Nat)(K:Act->World->Prop)(a:Act)(v:World):Prop:=
 match ops[i]? with
 |none=>K a v
 |some o=>if Region.wanted o (yielded ops a.tmps)then o.lT ro P a v K else K (a.put o.dst undef) v
theorem iI{i:Nat}{a:Act}{v:World}{K K':Act->World->Prop}(h: ∀a v,K a v->K' a v)(hh:dH ro P ops i K a v):dH ro P ops i K' a v:=by
 unfold dH at*
 split
 ·exact h _ _ (by simpa [*]using hh)
 rename_i o ho
 simp only[ho]at hh
 split
 ·rename_i hw;simp only[hw,if_true]at hh;exact mD h hh
 rename_i hw;simp only[hw]at hh;exact h _ _ hh
def ua(ro:Option Nat)(P:Program)(ops:Array Oper)(Q:Exit->Act->World->Prop):List Nat->Act->World->Prop
 | [],a,v=>Q .normal a v
 |i::rest,a,v=>∀v',Itf v v'->dH ro P ops i (ua ro P ops Q rest) a v'
theorem Ag{mn:Bool}{b:Frame}{a:Act}{k:List Item}{cs:List Frame}{w:World}{i:Nat}{rest:List Nat}{o:Oper}(ho:ops[i]?=some o)(hw:Region.wanted o (yielded ops a.tmps)=true):
  stepG P mn (G (b.atR a (.inRegion ops (i::rest)::k)) cs) w=stepG.apply P true (b.atR a (.inRegion ops (i::rest)::k)) cs none (o.semAt b.roundOf a.eval) w:=by
 have he:=Frame.eval_atR b a (.inRegion ops (i::rest)::k)
 simp only[Frame.atR]at he
 simp only[G,stepG,stepG.exec,stepG.oper,Frame.oper?,Frame.atR,ho,hw,he,Option.map_some,Option.getD_some,if_true,Oper.semAt]
 cases b.roundOf<;>cases o.op<;>rfl
def Vf(P:Program)(b:Frame)(a:Act)(ops:Array Oper)(i:Nat)(rest:List Nat)(k:List Item)(cs:List Frame)(o:Oper):Next->Option Goroutine
 |.value x=>some (G (b.atR (a.put o.dst x) (.inRegion ops rest::k)) cs)
 |.skip=>some (G (b.atR (a.put o.dst undef) (.inRegion ops rest::k)) cs)
 |.defer d=>some (G (b.atR ({a with defers:=d::a.defers}.put o.dst undef) (.inRegion ops rest::k)) cs)
 |.enter f args=>some (G (Frame.enter P f args .normal) (b.atR a (.inRegion ops (i::rest)::k)::cs))
 |.round l f tmps assign body=>some (G (Frame.round l f tmps assign body .normal) (b.atR a (.inRegion ops (i::rest)::k)::cs))
 |_=>none
theorem HY{mn:Bool}{Fin:Goroutine->World->Prop}{b:Frame}{k:List Item}{cs:List Frame}(iP:b.roundOf=ro)(uN:b.kind≠ .early)(hk: ∀a' v',Q .normal a' v'->Iv P mn Fin (G (b.atR a' k) cs) v'): ∀ (l:List Nat) (a:Act) (v:World),ua ro P ops Q l a v->Iv P mn Fin (G (b.atR a (.inRegion ops l::k)) cs) v:=by
 intro l
 induction l with
 |nil=>exact fun a v h=>Iv.q (fun w=>by simp[G,stepG,stepG.exec,Frame.atR]) (hk _ _ h)
 |cons i rest ih=>
  intro a v h
  have dw: ∀x,(b.atR a (.inRegion ops (i::rest)::k)).finish x=b.atR (a.put ((ops[i]?).bind (·.dst)) x) (.inRegion ops rest::k):=fun x=>Frame.finish_atR b a ops i rest k x
  have skip:((ops[i]?).map (Region.wanted · (yielded ops a.tmps))).getD false=false->ua ro P ops Q rest (a.put ((ops[i]?).bind (·.dst)) undef) v->Iv P mn Fin (G (b.atR a (.inRegion ops (i::rest)::k)) cs) v:=fun hn hh=>by
   refine Iv.q (fun w=>?_) (ih _ _ hh)
   rw[<-dw]
   have oz:=hn
   simp only[Frame.atR]at*
   simp[G,stepG,stepG.exec,oz]
  have h0:=h v (Itf.refl v)
  unfold dH at h0
  cases ho:ops[i]? with
  |none=>
   simp only[ho]at h0
   exact skip (by simp[ho]) (by rw[ho];exact h0)
  |some o=>
   simp only[ho]at h0
   by_cases hw:Region.wanted o (yielded ops a.tmps)=true
   ·rw[if_pos hw]at h0
    obtain⟨⟨ok,aL,hs⟩,hu0⟩:=h0
    have IS:(b.kind==CallKind.early)=false:=by simpa using uN
    have hf:=dw
    rw[ho]at hf
    simp only[Option.bind_some]at hf
    cases UI:fT P o a v with
    |some x=>
     rw[Ad UI]at hu0
     obtain⟨t,p,ad,hL⟩:=vu UI
     have hi:=ih _ _ hu0
     refine .look ad x (aX _ _) hL.hl hL.hx (g':=G (b.atR (a.put o.dst x) (.inRegion ops rest::k)) cs) rfl (fun w hc=>?_) fun v' iv=>hi.lj iv
     obtain⟨hr,gk⟩:=hL.step (ro:=ro) hc
     have hg:=Ag (P:=P) (mn:=mn) (b:=b) (k:=k) (cs:=cs) (w:=w) (rest:=rest) ho hw
     rw[iP]at hg
     refine⟨seen P b.fn ((o.semAt ro a.eval).events P w #[]),?_,by
      rw[gk,seen_def]
      cases hq:(P.funcs[b.fn]?).any (·.norace)with
      |true=>left;simp[seenStep,hq]
      |false=>right;simp[seenStep,hq]⟩
     rw[hg,<-hf]
     simp[stepG.apply,Sem.runT_eq,hr,G,Frame.atR,IS,GStep.after]
    |none=>
    refine Iv.EB (o.semAt ro a.eval) ok (Vf P b a ops i rest k cs o) (aX _ _) aL hs (fun w x w' g' hr hn=>?_) fun v' iv=>?_
    ·have hg:=Ag (P:=P) (mn:=mn) (b:=b) (k:=k) (cs:=cs) (w:=w) (rest:=rest) ho hw
     rw[iP]at hg
     cases x<;>simp only[Vf]at hn<;>first
      |(cases hn;done)
      |(
       cases hn
       refine⟨rfl,seen P b.fn ((o.semAt ro a.eval).events P w #[]),?_,gV⟩
       rw[hg]
       first
        |(rw[<-hf];simp[stepG.apply,Sem.runT_eq,hr,G,Frame.atR,IS,GStep.after];done)
        |(simp[stepG.apply,Sem.runT_eq,hr,G,Frame.atR,IS,GStep.after];done)
        |skip)
     rename_i d
     have hd:=Frame.finish_atR b {a with defers:=d::a.defers} ops i rest k undef
     rw[ho]at hd
     simp only[Option.bind_some]at hd
     rw[<-hd]
     simp[stepG.apply,Sem.runT_eq,hr,G,Frame.atR,IS,GStep.after]
    have hv:=h v' iv
    unfold dH at hv
    simp only[ho]at hv
    rw[if_pos hw]at hv
    obtain⟨_,hu⟩:=hv
    rw[Ac (Es iv UI)]at hu
    cases hr:(o.semAt ro a.eval).run P v' with
    |halt x w'=>rw[hr]at hu;cases x<;>exact hu.elim
    |ok x w'=>
     rw[hr]at hu
     cases x<;>simp only[oG]at hu<;>first
      |exact hu.elim
      |exact⟨_,_,_,rfl,rfl,ih _ _ hu⟩
      |exact⟨_,_,_,rfl,rfl,hu mn Fin _ cs fun x TT hx=>by rw[dw,ho];exact ih _ _ hx⟩
   rw[if_neg hw]at h0
   exact skip (by simp[ho,hw]) (by rw[ho];exact h0)
def iS(ro:Option Nat)(P:Program)(ops:Array Oper)(Q:Exit->Act->World->Prop):List Oper->Act->World->Prop
 | [],a,v=>Q .normal a v
 |o::rest,a,v=>∀v',Itf v v'->if Region.wanted o (yielded ops a.tmps)=true then o.lT ro P a v' (iS ro P ops Q rest)else iS ro P ops Q rest (a.put o.dst undef) v'
theorem uD: ∀ (l:List Oper) (j:Nat) (a:Act) (v:World),l=ops.toList.drop j->j<=ops.size->iS ro P ops Q l a v->ua ro P ops Q (List.range' j (ops.size-j)) a v
 | [],j,a,v,hl,hj,h=>by
  have:ops.size-j=0:=by
   have:=congrArg List.length hl
   simp at this;omega
  rw[this];exact h
 |o::rest,j,a,v,hl,hj,h=>by
  have hlen:=congrArg List.length hl
  simp at hlen
  have ho:ops[j]?=some o:=by
   rw[<-Array.getElem?_toList,<-List.head?_drop,<-hl];rfl
  have hr:rest=ops.toList.drop (j+1):=by
   have:=congrArg List.tail hl
   simpa [List.tail_drop]using this
  rw[show ops.size-j=(ops.size- (j+1))+1 by omega,List.range'_succ]
  intro v' i
  unfold dH
  rw[ho]
  have h':=h v' i
  split at h'
  ·rename_i hw
   simp only
   rw[if_pos hw]
   exact mD (fun a v hh=>uD rest (j+1) a v hr (by omega) hh) h'
  rename_i hw
  simp only
  rw[if_neg hw]
  exact uD rest (j+1) _ _ hr (by omega) h'
theorem vU{id:Nat}{a:Act}{v:World}(h:iS ro P ops Q ops.toList a v):(Code.region id ops false).lT ro P Q a v:=by
 intro mn Fin b k cs iP uN hk
 have:=HY (P:=P) (mn:=mn) (Fin:=Fin) (k:=k) (cs:=cs) iP uN (fun a' v' hq=>hk _ _ _ hq) _ a v (uD ops.toList 0 a v rfl (Nat.zero_le _) h)
 refine Iv.q (fun w=>?_) this
 rw[Nat.sub_zero,<-List.range_eq_range']
 simp[G,stepG,stepG.exec,Frame.atR]
def fh(ro:Option Nat)(P:Program)(md:Region.Mode)(ops:Array Oper)(Q:Exit->Act->World->Prop):Nat->Array Bool->Act->World->Prop
 |0,listed,a,v=>Region.ready md ops listed= []/\∀v',Itf v v'->Q .normal a v'
 |fuel+1,listed,a,v=>(Region.ready md ops listed= []->∀v',Itf v v'->Q .normal a v')/\∀i∈Region.ready md ops listed,∀v',Itf v v'->dH ro P ops i (fh ro P md ops Q fuel (listed.setIfInBounds i true)) a v'
theorem B2{md:Region.Mode}: ∀ (fuel t:Nat) (listed:Array Bool) (a:Act) (v:World),fh ro P md ops Q fuel listed a v->ua ro P ops Q (Region.linearise.go md ops fuel t listed []) a v:=by
 intro fuel
 induction fuel with
 |zero=>intro t listed a v h;exact h.2 v (Itf.refl v)
 |succ fuel ih=>
  intro t listed a v h
  obtain⟨Zo,Zn⟩:=h
  simp only[Region.linearise.go]
  change ua ro P ops Q (match(Region.ready md ops listed)[t%(Region.ready md ops listed).length]? with
   |some i=>Region.linearise.go md ops fuel (t/(Region.ready md ops listed).length) (listed.setIfInBounds i true) [i]
   |none=> [].reverse) a v
  cases hi:(Region.ready md ops listed)[t%(Region.ready md ops listed).length]? with
  |none=>
   have RS:Region.ready md ops listed= []:=by
    cases hr:Region.ready md ops listed with
    |nil=>rfl
    |cons x xs=>
     rw[hr]at hi
     have bA:t%(x::xs).length<(x::xs).length:=Nat.mod_lt _ (by simp)
     rw[List.getElem?_eq_getElem bA]at hi
     cases hi
   exact Zo RS v (Itf.refl v)
  |some i=>
   simp only[]
   rw[linearise_go_acc,List.reverse_singleton,List.singleton_append]
   exact fun v' iv=>iI (fun a v=>ih _ _ a v) (Zn i (List.mem_of_getElem? hi) v' iv)
theorem F7{ok:Nat->Prop}{q:Question}:bB P ok (fun _=>True) (choose q):=fun _=>trivial
theorem kX{id:Nat}{a:Act}{v:World}(hm:P.follows .mixedOrders=true)(h: ∀v',Itf v v'->fh ro P .any ops Q ops.size (Array.replicate ops.size false) a {v' with drawn:=v'.drawn+1}):(Code.region id ops true).lT ro P Q a v:=by
 intro mn Fin b k cs iP uN hk
 refine Iv.EB (choose (.order b.fn id)) od (fun t=>some (G (b.atR a (.inRegion ops (Region.schedule (P.follows .mixedOrders) ops t)::k)) cs)) (aX _ _) (fun _ hb=>hb.elim) F7 (fun w t w' g' hr hn=>?_) fun v' iv=>?_
 ·cases hn
  refine⟨rfl,#[],?_,fun e he=>by simp at he⟩
  simp only[G,stepG,stepG.exec,Frame.atR,Bool.not_true,Bool.false_eq_true,if_false]
  rw[hr]
 refine⟨v'.tape v'.drawn (.order b.fn id),{v' with drawn:=v'.drawn+1},_,by simp[choose,Sem.run,Question.forced,Question.cut],rfl,?_⟩
 simp only[Region.schedule,hm,Bool.true_or,if_true]
 exact HY iP uN (fun a' v' hq=>hk _ _ _ hq) _ a _ (B2 ops.size _ _ a _ (h v' iv))
end
end Go.SE

namespace Go.SE
open Go Go.Conc
variable [aG]
theorem Gp{P:Program}{ops:Array Oper}{o:Oper}{a:Act}{d:Option Nat}{x:Value}{v:World}(h: ∀k,d=some k->k∉o.looksAt ops):fT P o (a.put d x) v=fT P o a v:=by
 unfold fT
 split
 ·rename_i t p ho
  have e:(a.put d x).eval p=a.eval p:=by
   cases d with
   |none=>rfl
   |some d=>
    cases p with
    |tmp k=>
     have hk:d≠k:=fun e=>h d rfl (by
      subst e
      unfold Oper.looksAt
      exact List.mem_append_left _ (List.mem_filterMap.2 ⟨.tmp d,by simp[ho,Op.operands],rfl⟩))
     simp only[Act.put,Act.eval,Array.getD_eq_getD_getElem?]
     rw[Array.getElem?_setIfInBounds_ne hk]
    |const v=>rfl
    |global g=>rfl
    |func f=>rfl
  rw[e]
 rfl
theorem Dk{P:Program}{ops:Array Oper}{o:Oper}{a:Act}{d:Option Nat}{x:Value}{v:World}(h: ∀k,d=some k->k∉o.looksAt ops)(he:execOp (a.put d x).eval o=execOp a.eval o):tR none P o (a.put d x) v=tR none P o a v:=by
 unfold tR
 rw[Oper.semAt_none,Oper.semAt_none,he,Gp h]
section
variable{P:Program}{ops:Array Oper}{Q:Exit->Act->World->Prop}{md:Region.Mode}
theorem x7{ro:Option Nat}{v v':World}{listed:Array Bool}{a:Act}(i:Itf v v'): ∀ {fuel:Nat},fh ro P md ops Q fuel listed a v->fh ro P md ops Q fuel listed a v'
 |0,h=>⟨h.1,fun u iu=>h.2 u (i.trans iu)⟩
 |_+1,h=>⟨fun hr u iu=>h.1 hr u (i.trans iu),fun j hj u iu=>h.2 j hj u (i.trans iu)⟩
theorem lG{ro:Option Nat}{Q':Exit->Act->World->Prop}: ∀ {k:Nat} {listed:Array Bool} {a:Act} {v:World},fh ro P md ops Q k listed a v->(∀a v,Q .normal a v->Q' .normal a v)->fh ro P md ops Q' k listed a v
 |0,_,_,_,h,hq=>⟨h.1,fun u iu=>hq _ _ (h.2 u iu)⟩
 |_+1,_,_,_,h,hq=>⟨fun hr u iu=>hq _ _ (h.1 hr u iu),fun j hj u iu=>iI (fun _ _ h=>lG h hq) (h.2 j hj u iu)⟩
def gu(P:Program)(ops:Array Oper)(o:Oper)(x:Value)(a:Act):Prop:=Yields P ops o x a/\(Region.wanted o (yielded ops a.tmps)=true->∀v,LZ none P o a v)
theorem gu.dH{i:Nat}{o:Oper}{x:Value}{a:Act}(hi:ops[i]?=some o)(hy:gu P ops o x a){K:Act->World->Prop}{v:World}(h:K (a.put o.dst x) v):dH none P ops i K a v:=by
 unfold SE.dH
 simp only[hi]
 rcases hy.1 with⟨hw,hv⟩|⟨hw,rfl⟩
 ·rw[if_pos hw]
  refine⟨hy.2 hw v,?_⟩
  rw[eM (by rw[Oper.semAt_none];exact hv v)];exact h
 rw[if_neg (by rw[hw];simp)];exact h
theorem gu.of_same{o:Oper}{x:Value}{a a':Act}(hy:gu P ops o x a)(he:execOp a'.eval o=execOp a.eval o)(hw:Region.wanted o (yielded ops a'.tmps)=Region.wanted o (yielded ops a.tmps)):gu P ops o x a':=
 ⟨hy.1.of_same he hw,fun h v=>by
  obtain⟨ok,h1,h2⟩:=hy.2 (hw▸h) v
  refine⟨ok,h1,?_⟩
  rw[Oper.semAt_none]at h2 ⊢
  rw[he];exact h2⟩
theorem I8{j:Nat}{oi oj:Oper}{x:Value}(hj:ops[j]?=some oj)(YA:oi.apart ops oj=true)(Yd: ∀cs b,oi.op≠ .select cs b)(UB: ∀cs b,oj.op≠ .select cs b){K:Act->World->Prop}{a:Act}{v:World}
  (hy:gu P ops oi x a) (h:dH none P ops j K (a.put oi.dst x) v):dH none P ops j (fun a' v'=>gu P ops oi x a'/\K (a'.put oi.dst x) v') a v:=by
 obtain⟨h1,h2,h3⟩:=Oper.apart_spec YA
 have keep: ∀ (a:Act),gu P ops oi x a->∀u,gu P ops oi x (a.put oj.dst u):=fun a hy u=>hy.of_same (execOp_put oi Yd a oj.dst u h3) (wanted_put oi a oj.dst u h3)
 have Lt: ∀d,gu P ops oi x {a with defers:=d::a.defers}:=fun d=>hy.of_same rfl rfl
 unfold dH at*
 simp only[hj]at*
 rw[wanted_put oj a oi.dst x h1]at h
 split
 ·rename_i hw
  rw[if_pos hw]at h
  obtain⟨⟨ok,g1,g2⟩,h⟩:=h
  rw[Oper.semAt_none,execOp_put oj UB a oi.dst x h1]at g2
  refine⟨⟨ok,g1,g2⟩,?_⟩
  rw[Dk h1 (execOp_put oj UB a oi.dst x h1)]at h
  generalize tR none P oj a v=r at*
  cases r with
  |ok y v'=>
   cases y<;>simp only[oG]at h ⊢
   case value u=>exact⟨keep a hy u,by rw[<-Act.put_comm a x u h2];exact h⟩
   case skip=>exact⟨keep a hy _,by rw[<-Act.put_comm a x undef h2];exact h⟩
   case defer d=>
    refine⟨keep _ (Lt d) _,?_⟩
    rw[<-Act.put_comm _ x undef h2,<-Act.put_defers]
    exact h
   case enter f args=>
    refine jD.mono h fun e TT he=>?_
    cases e with
    |returned u=>exact⟨keep a hy u,by rw[<-Act.put_comm a x u h2];exact he⟩
    |panicked c=>exact he
    |outgrown=>exact he
   case round l f tmps assign body=>
    refine l9.mono h fun e TT he=>?_
    cases e with
    |returned u=>exact⟨keep a hy u,by rw[<-Act.put_comm a x u h2];exact he⟩
    |panicked c=>exact he
    |outgrown=>exact he
  |halt y v'=>cases y<;>exact h
 rename_i hw
 rw[if_neg hw]at h
 exact⟨keep a hy _,by rw[<-Act.put_comm a x undef h2];exact h⟩
theorem B3{i:Nat}{oi:Oper}{x:Value}(hi:ops[i]?=some oi)(K5: ∀ (j:Nat) (o:Oper) cs b,ops[j]?=some o->o.op≠ .select cs b):
  ∀ (fuel:Nat) (listed:Array Bool) (a:Act) (v:World),
   (∀j oj,ops[j]?=some oj->j≠i->listed.getD j true=false->(∀e∈oj.after,Region.binds md e=true->e.on≠i)->oi.apart ops oj=true)->
   i∈Region.ready md ops listed->gu P ops oi x a->fh none P md ops Q fuel (listed.setIfInBounds i true) (a.put oi.dst x) v->fh none P md ops Q (fuel+1) listed a v:=by
 intro fuel
 induction fuel with
 |zero=>
  intro listed a v _ hr hy H
  refine⟨fun h=>(by rw[h]at hr;cases hr),fun j hj v' iv=>?_⟩
  by_cases ox:j=i
  ·subst ox;exact hy.dH hi (x7 iv H)
  have:=ready_mono hj ox
  rw[H.1]at this
  cases this
 |succ fuel ih=>
  intro listed a v oO hr hy H
  refine⟨fun h=>(by rw[h]at hr;cases hr),fun j hj v' iv=>?_⟩
  by_cases ox:j=i
  ·subst ox;exact hy.dH hi (x7 iv H)
  have h1:=H.2 j (ready_mono hj ox) v' iv
  obtain⟨Lb,oj,Q5,dK⟩:=mem_ready.1 hj
  have RR: ∀e∈oj.after,Region.binds md e=true->e.on≠i:=fun e he hb heq=>by
   have h1:=dK e he hb
   have h0:=(mem_ready.1 hr).1
   rw[heq]at h1
   rcases Nat.lt_or_ge i listed.size with h'|h'
   ·simp[h']at h0 h1;rw[h0]at h1;cases h1
   simp[Array.getElem?_eq_none h']at h1
  have h2:=I8 Q5 (oO j oj Q5 ox Lb RR) (fun cs b=>K5 i oi cs b hi) (fun cs b=>K5 j oj cs b Q5) hy h1
  have FI: ∀k ok,ops[k]?=some ok->k≠i->(listed.setIfInBounds j true).getD k true=false->(∀e∈ok.after,Region.binds md e=true->e.on≠i)->oi.apart ops ok=true:=fun k ok hk zL P1 wc=>by
   refine oO k ok hk zL ?_ wc
   by_cases Cz:j=k
   ·subst Cz;exact Lb
   rw[getD_set_ne true Cz]at P1;exact P1
  refine iI (fun a' TT h3=>ih (listed.setIfInBounds j true) a' TT FI (ready_mono hr (Ne.symm ox)) h3.1 ?_) h2
  rw[Array.setIfInBounds_comm _ _ ox]
  exact h3.2
theorem vb{i:Nat}{oi:Oper}{x:Value}{fuel:Nat}{listed:Array Bool}{a:Act}{v:World}(hi:ops[i]?=some oi)(hs:Region.noSelect ops=true)(hf:Region.free md ops listed i=true)(hr:(Region.ready md ops listed).contains i=true)
  (hy:gu P ops oi x a) (h:fh none P md ops Q fuel (listed.setIfInBounds i true) (a.put oi.dst x) v):fh none P md ops Q (fuel+1) listed a v:=
 B3 hi (Region.noSelect_spec hs) fuel listed a v (Region.free_spec hi hf) (by simpa using hr) hy h
end
section
variable{P:Program}
def lF(P:Program)(fn:Func)(tmps:Array Value)(R:Ending->World->Prop):List Deferred->World->Prop
 | [],v=>bB P od (fun _=>True) (results fn tmps)/\∀v',Itf v v'->∃x,(results fn tmps).run P v'= .ok x v'/\R (.returned x) v'
 |d::ds,v=>(∃r,d.target= .collected r/\∀v',Itf v v'->∃v2,(Instr.takeDeferred r).run P v'= .ok [] v2/\lF P fn tmps R ds v2)\/
   (∃fv cap f args,d.target= .fn fv cap/\bB P od (fun n=>n= .enter f args) (invoke d.target d.args)/\∀v',Itf v v'->(invoke d.target d.args).run P v'= .ok (.enter f args) v'/\uk P f args v' fun v2=>lF P fn tmps R ds v2)
theorem Gv{fn:Func}{tmps:Array Value}{R:Ending->World->Prop}{mn:Bool}{Fin:Goroutine->World->Prop}{c:Frame}{cs:List Frame}(after:Value->Frame):
  ∀ (ds:List Deferred) (v:World) (fr:Frame),fr.mode= .returning->fr.defers=ds->fr.tmps=tmps->P.funcs[fr.fn]?=some fn->((fr.kind= .normal/\after=c.finish)\/(fr.kind= .deferred/\c.mode= .returning/\after=fun _=>c))->lF P fn tmps R ds v->
   (∀x v',R (.returned x) v'->Iv P mn Fin (G (after x) cs) v')->Iv P mn Fin (G fr (c::cs)) v:=by
 intro ds
 induction ds with
 |nil=>
  intro v fr hu hd ht hf zM h hk
  obtain⟨hs,h⟩:=h
  refine Iv.EB (results fn tmps) od (fun x=>some (G (after x) cs)) (aX _ _) (fun _ hb=>hb.elim) hs (fun w x w' g' hr hn=>?_) fun v' iv=>?_
  ·cases hn
   refine⟨rfl,seen P fr.fn ((results fn tmps).events P w #[]),?_,gV⟩
   rcases zM with⟨zM,rfl⟩|⟨zM,Yx,rfl⟩
   ·simp[G,stepG,unwind,hu,hd,hf,ht,Sem.runT_eq,hr,doReturn,zM,GStep.after]
   simp[G,stepG,unwind,hu,hd,hf,ht,Sem.runT_eq,hr,doReturn,zM,Yx,GStep.after]
  obtain⟨x,h1,h2⟩:=h v' iv
  exact⟨x,v',_,h1,rfl,hk x v' h2⟩
 |cons d ds ih=>
  intro v fr hu hd ht hf zM h hk
  rcases h with⟨r,K3,h⟩|⟨fv,cap,f,args,K3,hs,h⟩
  ·refine Iv.EB (Instr.takeDeferred r) od (fun calls=>some (G {fr with defers:=calls++ds} (c::cs))) (aX _ _) (fun _ hb=>hb.elim) uJ (fun w x w' g' hr hn=>?_) fun v' iv=>?_
   ·cases hn
    refine⟨rfl,seen P fr.fn ((Instr.takeDeferred r).events P w #[]),?_,gV⟩
    obtain⟨tg,ar⟩:=d
    simp only at K3
    subst K3
    simp[G,stepG,unwind,hu,hd,Sem.runT_eq,hr,GStep.after]
   obtain⟨v2,h1,h2⟩:=h v' iv
   exact⟨[],v2,_,h1,rfl,ih v2 {fr with defers:= []++ds} hu rfl ht hf zM h2 hk⟩
  refine Iv.EB (invoke d.target d.args) od (fun n=>match n with|.enter f args=>some (G (Frame.enter P f args .deferred) ({fr with defers:=ds}::c::cs))|_=>none) (aX _ _) (fun _ hb=>hb.elim) (bH hs) (fun w x w' g' hr hn=>?_) fun v' iv=>?_
  ·cases x<;>simp only at hn<;>first
    |(cases hn;done)
    |(
     cases hn
     refine⟨rfl,seen P fr.fn ((invoke d.target d.args).events P w #[]),?_,gV⟩
     obtain⟨tg,ar⟩:=d
     simp only at K3 hr ⊢
     subst K3
     simp[G,stepG,unwind,hu,hd,callDeferred,Sem.runT_eq,hr,GStep.after])
  obtain⟨h1,h2⟩:=h v' iv
  exact⟨_,v',_,h1,rfl,h2 mn Fin _ _ hu fun v2 hl=>ih v2 {fr with defers:=ds} hu rfl ht hf zM hl hk⟩
def uI(P:Program)(fn:Func)(R:Ending->World->Prop):Exit->Act->World->Prop
 |.normal,a,v|.ret,a,v=>lF P fn a.tmps R a.defers v
 |_,_,_=>False
theorem Ip{f:FuncId}{fn:Func}{c:Code}{args:Array Value}{v:World}{R:Ending->World->Prop}{mn:Bool}{Fin:Goroutine->World->Prop}{cl:Frame}{cs:List Frame}{kd:CallKind}(after:Value->Frame)(hf:P.funcs[f]?=some fn)(hb:fn.body=some c)
  (zM:(kd= .normal/\after=cl.finish)\/(kd= .deferred/\cl.mode= .returning/\after=fun _=>cl)) (h:c.lT none P (uI P fn R) {tmps:=args++Array.replicate (fn.ntmps-args.size) undef,defers:= []} v)
  (hk: ∀x v',R (.returned x) v'->Iv P mn Fin (G (after x) cs) v'):Iv P mn Fin (G (Frame.enter P f args kd) (cl::cs)) v:=by
 let b:Frame:={(default:Frame)with fn:=f,kind:=kd,roundOf:=none}
 have Ty:Frame.enter P f args kd=b.atR {tmps:=args++Array.replicate (fn.ntmps-args.size) undef,defers:= []} [.code c]:=by
  simp[Frame.enter,Frame.atR,hf,hb,b]
 rw[Ty]
 have uN:b.kind≠ .early:=by rcases zM with⟨e,_⟩|⟨e,_⟩<;>simp[b,e]
 have back: ∀ (todo:List Item) a' v',lF P fn a'.tmps R a'.defers v'->Iv P mn Fin (G {b.atR a' todo with mode:=.returning} (cl::cs)) v':=fun todo a' v' hl=>
  Gv after a'.defers v' _ rfl rfl rfl hf (zM.imp (fun h=>h) fun h=>h) hl hk
 refine h mn Fin b [] (cl::cs) rfl uN fun e a' v' hq=>?_
 cases e with
 |normal=>exact Iv.q (fun w=>by simp[G,stepG,stepG.exec,Frame.atR,b]) (back [] a' v' hq)
 |ret=>exact fun k2=>Iv.q (fun w=>by simp[G,stepG,stepG.exec,Frame.atR,b]) (back (.code .ret::k2) a' v' hq)
 |exit i=>exact hq.elim
 |goto l=>exact hq.elim
 |panic ch=>exact hq.elim
 |outgrown=>exact hq.elim
theorem zE{f:FuncId}{fn:Func}{c:Code}{args:Array Value}{v:World}{R:Ending->World->Prop}(hf:P.funcs[f]?=some fn)(hb:fn.body=some c)
  (h:c.lT none P (uI P fn R) {tmps:=args++Array.replicate (fn.ntmps-args.size) undef,defers:= []} v):jD P f args v R:=fun _ _ cl _ hk=>Ip cl.finish hf hb (.inl ⟨rfl,rfl⟩) h hk
theorem zC{f:FuncId}{fn:Func}{c:Code}{args:Array Value}{v:World}{R:World->Prop}(hf:P.funcs[f]?=some fn)(hb:fn.body=some c)
  (h:c.lT none P (uI P fn fun e v'=>match e with|.returned _=>R v'|_=>False) {tmps:=args++Array.replicate (fn.ntmps-args.size) undef,defers:= []} v):uk P f args v R:=
 fun _ _ cl _ hc hk=>Ip (fun _=>cl) hf hb (.inr ⟨rfl,hc,rfl⟩) h fun _ v' hr=>hk v' hr
def roundPost(P:Program)(l:Nat)(R:Ending->World->Prop):Exit->Act->World->Prop
 |.normal,_,v=>∀v',Itf v v'->∃x v2,(Instr.endRound l none).run P v'= .ok x v2/\R (.returned x) v2
 |.ret,_,v=>∀v',Itf v v'->∃x v2,(Instr.endRound l (some .ret)).run P v'= .ok x v2/\R (.returned x) v2
 |.exit id,_,v=>∀v',Itf v v'->∃x v2,(Instr.endRound l (some (.exit id))).run P v'= .ok x v2/\R (.returned x) v2
 |.goto t,_,v=>∀v',Itf v v'->∃x v2,(Instr.endRound l (some (.goto t))).run P v'= .ok x v2/\R (.returned x) v2
 |_,_,_=>False
theorem zq{l:Nat}{f:FuncId}{tmps:Array Value}{assign body:Code}{v:World}{R:Ending->World->Prop}
  (h:assign.lT (some l) P (Exit.then (fun Sw og=>∀v',Itf og v'->∃Oq,(Instr.beginRound l).run P v'= .ok () Oq/\body.lT (some l) P (roundPost P l R) Sw Oq) (fun _ _ _=>False)) {tmps:=tmps,defers:= []} v):l9 P l f tmps assign body v R:=by
 intro mn Fin c cs hk
 let b:Frame:={(default:Frame)with fn:=f,kind:=.normal,roundOf:=some l}
 have Q9:Frame.round l f tmps assign body .normal=b.atR {tmps:=tmps,defers:= []} [.code assign,.beginRound,.code body]:=by
  simp[Frame.round,Frame.atR,b]
 rw[Q9]
 have fin: ∀ (todo:List Item) (j:Option Code) (a:Act) (v':World),(∀w,stepG P mn (G (b.atR a todo) (c::cs)) w=GStep.after (seen P f (Instr.endRound l j |>.events P w #[])) (match(Instr.endRound l j).run P w with|.ok x w=>.go (G (c.finish x) cs) w #[]|.halt _ w=>.ended (.stuck "range over a function: no such loop" ((b.atR a todo).pos P)) w))->
   (∀v2,Itf v' v2->∃x v3,(Instr.endRound l j).run P v2= .ok x v3/\R (.returned x) v3)->Iv P mn Fin (G (b.atR a todo) (c::cs)) v':=fun todo j a v' dI hr=>by
  refine Iv.EB (Instr.endRound l j) od (fun x=>some (G (c.finish x) cs)) (aX _ _) (fun _ hb=>hb.elim) Ca (fun w x w' g' he hn=>?_) fun v2 iv=>?_
  ·cases hn
   refine⟨rfl,seen P f ((Instr.endRound l j).events P w #[]),?_,gV⟩
   rw[dI,he];simp[GStep.after]
  obtain⟨x,v3,h1,h2⟩:=hr v2 iv
  exact⟨x,v3,_,h1,rfl,hk x v3 h2⟩
 refine h mn Fin b [.beginRound,.code body] (c::cs) rfl (by simp[b]) fun e Sw og hq=>?_
 cases e with
 |normal=>
  refine Iv.EB (Instr.beginRound l) od (fun _=>some (G (b.atR Sw [.code body]) (c::cs))) (aX _ _) (fun _ hb=>hb.elim) yP (fun w x w' g' he hn=>?_) fun v2 iv=>?_
  ·cases hn
   refine⟨rfl,seen P f ((Instr.beginRound l).events P w #[]),?_,gV⟩
   simp[G,stepG,stepG.exec,stepG.apply,Frame.atR,b,Sem.runT_eq,he,GStep.after,Frame.finish]
  obtain⟨Oq,h1,h2⟩:=hq v2 iv
  refine⟨(),Oq,_,h1,rfl,h2 mn Fin b [] (c::cs) rfl (by simp[b]) fun e2 a2 v3 P2=>?_⟩
  cases e2 with
  |normal=>exact fin [] none a2 v3 (fun w=>by
    cases hr:(Instr.endRound l none).run P w<;>simp[G,stepG,stepG.exec,Frame.atR,b,Sem.runT_eq,hr,doReturn]) P2
  |ret=>exact fun k2=>fin (.code .ret::k2) (some .ret) a2 v3 (fun w=>by
    cases hr:(Instr.endRound l (some .ret)).run P w<;>simp[G,stepG,stepG.exec,Frame.atR,b,Sem.runT_eq,hr,doReturn]) P2
  |exit i=>
   refine fun k2 e2=>fin (.code (.exit i)::k2) (some (.exit i)) a2 v3 (fun w=>?_) P2
   have e3:exitTo i k2=none:=by rw[e2];simp[exitTo]
   cases hr:(Instr.endRound l (some (.exit i))).run P w<;>simp[G,stepG,stepG.exec,Frame.atR,b,Sem.runT_eq,hr,doReturn,e3]
  |goto t=>
   refine fun k2 e2=>fin (.code (.goto t)::k2) (some (.goto t)) a2 v3 (fun w=>?_) P2
   have e3:gotoIn t k2=none:=by rw[e2];simp[gotoIn]
   cases hr:(Instr.endRound l (some (.goto t))).run P w<;>simp[G,stepG,stepG.exec,Frame.atR,b,Sem.runT_eq,hr,doReturn,e3]
  |panic ch=>exact P2.elim
  |outgrown=>exact P2.elim
 |exit i=>exact hq.elim
 |goto t=>exact hq.elim
 |ret=>exact hq.elim
 |panic ch=>exact hq.elim
 |outgrown=>exact hq.elim
def yc(ro:Option Nat)(P:Program)(l:Nat)(Q:Exit->Act->World->Prop)(a':Act):Ending->World->Prop
 |.returned _,v=>∀v',Itf v v'->∃jump v4,(Instr.endLoop l).run P v'= .ok jump v4/\(match jump with
   |none=>Q .normal a' v4
   |some c=>c.lT ro P Q a' v4)
 |_,_=>False
def jm(ro:Option Nat)(fn:FuncId)(g:Operand)(ps:Array Tmp)(assign body:Code)(a:Act):Sem (Nat×List Deferred×Next):=do
 let(l,mark)<-Instr.enterLoop fn a.tmps ps assign body ro
 let d <-resolve a.eval (rangeCall g l) 0
 let n <-invoke d.target d.args
 pure (l,mark,n)
theorem zi{ro:Option Nat}{g:Operand}{ps:Array Tmp}{assign body:Code}{Q:Exit->Act->World->Prop}{a:Act}{v:World}(hs: ∀fn,bB P od (fun _=>True) (jm ro fn g ps assign body a))
  (h: ∀fn v',Itf v v'->∃l mark ae d Lh f args du,(Instr.enterLoop fn a.tmps ps assign body ro).run P v'= .ok (l,mark) ae/\(resolve a.eval (rangeCall g l) 0).run P ae= .ok d Lh/\(invoke d.target d.args).run P Lh= .ok (.enter f args) du/\
   jD P f args du (yc ro P l Q {a with defers:=mark++a.defers})):(Code.rangeFunc g ps assign body).lT ro P Q a v:=by
 intro mn Fin b k cs iP uN hk
 subst iP
 refine Iv.EB (jm b.roundOf b.fn g ps assign body a) od (fun x=>match x with
  |(l,mark,.enter f args)=>some (G (Frame.enter P f args .normal) (b.atR {a with defers:=mark++a.defers} (.inRangeFunc l::k)::cs))
  |_=>none) (aX _ _) (fun _ hb=>hb.elim) (hs b.fn) (fun w x w' g' hr hn=>?_) fun v' iv=>?_
 ·obtain⟨l,mark,n⟩:=x
  cases n<;>simp only at hn<;>first|(cases hn;done)|skip
  rename_i f args
  cases hn
  have IS:(b.kind==CallKind.early)=false:=by simpa using uN
  have gk: ∀todo ds,({fn:=b.fn,tmps:=a.tmps,todo,defers:=ds,mode:=.run,kind:=b.kind,roundOf:=b.roundOf}:Frame).eval=a.eval:=fun todo ds=>funext fun x=>by cases x<;>rfl
  unfold jm at hr
  simp only[Sem.run_bind]at hr
  cases h1:(Instr.enterLoop b.fn a.tmps ps assign body b.roundOf).run P w with
  |halt x w1=>rw[h1]at hr;cases hr
  |ok p w1=>
   rw[h1]at hr
   obtain⟨l1,m1⟩:=p
   simp only[Result.andThen_ok,Sem.run_bind]at hr
   cases h2:(resolve a.eval (rangeCall g l1) 0).run P w1 with
   |halt x w2=>rw[h2]at hr;cases hr
   |ok d w2=>
    rw[h2]at hr
    simp only[Result.andThen_ok,Sem.run_bind]at hr
    cases h3:(invoke d.target d.args).run P w2 with
    |halt x w3=>rw[h3]at hr;cases hr
    |ok n w3=>
     rw[h3]at hr
     simp only[Result.andThen_ok,Sem.run_pure,Result.ok.injEq,Prod.mk.injEq]at hr
     obtain⟨⟨rfl,rfl,rfl⟩,rfl⟩:=hr
     have VE:=Frame.eval_atR b {a with defers:=m1++a.defers} (.inRangeFunc l1::k)
     simp only[Frame.atR]at VE
     have Kt:Sem.run P (resolve ({tmps:=a.tmps,defers:=m1++a.defers}:Act).eval {callee:=.value g,args:= #[.const (.func (.yield l1) #[] #[])],argTypes:= #[]} 0) w1= .ok d w2:=h2
     have dK:(jm b.roundOf b.fn g ps assign body a).events P w #[]=(Instr.enterLoop b.fn a.tmps ps assign body b.roundOf).events P w #[]++(invoke d.target d.args).events P w2 ((resolve a.eval (rangeCall g l1) 0).events P w1 #[]):=by
      unfold jm
      simp only[Sem.events_bind,h1,h2,h3,Result.evThen_ok,Sem.events_pure]
      rw[Sem.events_acc P (invoke _ _),Sem.events_acc P (resolve _ _ _),Sem.events_acc P (invoke _ _) w2 ((resolve a.eval (rangeCall g l1) 0).events P w1 #[])]
      simp only[Array.append_assoc]
     refine⟨rfl,seen P b.fn ((Instr.enterLoop b.fn a.tmps ps assign body b.roundOf).events P w #[])++seen P b.fn ((invoke d.target d.args).events P w2 ((resolve a.eval (rangeCall g l1) 0).events P w1 #[])),?_,fun e he=>?_⟩
     ·simp[G,stepG,stepG.exec,stepG.apply,Frame.atR,Sem.runT_eq,h1,GStep.after,VE,Kt,h3,IS,rangeCall]
      try rfl
     rw[dK]
     rcases Array.mem_append.1 he with he|he
     ·exact⟨Array.mem_append.2 (.inl (gV e he).1),(gV e he).2⟩
     exact⟨Array.mem_append.2 (.inr (gV e he).1),(gV e he).2⟩
 obtain⟨l,mark,ae,d,Lh,f,args,du,h1,h2,h3,h4⟩:=h b.fn v' iv
 refine⟨(l,mark,.enter f args),du,_,?_,rfl,h4 mn Fin _ cs fun x v3 hx=>?_⟩
 ·unfold jm
  simp only[Sem.run_bind,h1,h2,h3,Result.andThen_ok,Sem.run_pure]
 rw[finish_atR_inRangeFunc]
 refine Iv.EB (Instr.endLoop l) od (fun jump=>some (G (b.atR {a with defers:=mark++a.defers} ((jump.map Item.code).toList++k)) cs)) (aX _ _) (fun _ hb=>hb.elim) Ea (fun w j w' g' he hn=>?_) fun v4 iv4=>?_
 ·cases hn
  exact⟨rfl,seen P b.fn ((Instr.endLoop l).events P w #[]),by simp[G,stepG,stepG.exec,Frame.atR,Sem.runT_eq,he,GStep.after],gV⟩
 obtain⟨jump,v5,h5,h6⟩:=hx v4 iv4
 refine⟨jump,v5,_,h5,rfl,?_⟩
 cases jump with
 |none=>exact hk _ _ _ h6
 |some c=>exact h6 mn Fin b k cs rfl uN hk
end
end Go.SE

namespace Go.SE
open Go Go.Conc Go.Co
variable [aG]
structure V(O:Nat->Prop)(kn:Addr->Option Value)(w v:World):Prop where
 size:v.heap.size=w.heap.size
 ai: ∀b,O b->v.heap[b]?=w.heap[b]?
 plain: ∀b o,O b->v.heap[b]?=some o->plainO o=true
 uM: ∀b o,¬O b->v.heap[b]?=some o->o=poison\/∃c e,o= .pending c e/\∀off x,c[off]?=some x->x.oneCell'=true->kn ⟨b,off,none⟩=some x
 tape:v.tape=w.tape
 drawn:v.drawn=w.drawn
structure Fr(O:Nat->Prop)(w w':World):Prop where
 size:w.heap.size<=w'.heap.size
 block: ∀b,¬O b->w'.heap[b]?=w.heap[b]?
 tape:w'.tape=w.tape
 os:w'.os=w.os
 output:w'.output=w.output
theorem Fr.refl(O:Nat->Prop)(w:World):Fr O w w:=⟨Nat.le_refl _,fun _ _=>rfl,rfl,rfl,rfl⟩
theorem Fr.trans{O:Nat->Prop}{a b c:World}(h:Fr O a b)(k:Fr O b c):Fr O a c:=⟨Nat.le_trans h.size k.size,fun x hx=>(k.block x hx).trans (h.block x hx),k.tape.trans h.tape,k.os.trans h.os,k.output.trans h.output⟩
theorem jo{P:Program}{α:Type}{s:Sem α}: ∀ {w w':World} {a:α},gP s->s.run P w≠ .ok a w':=by
 induction s with
 |pure a=>exact fun h=>h.elim
 |load m a k ih=>
  intro w w' x h e
  simp only[Sem.run]at e
  split at e
  ·exact ih _ (h _) e
  split at e
  ·exact ih _ (h _) e
  cases e
 |store m a v k ih=>
  intro w w' x h e
  cases v<;>simp only[Sem.run]at e<;>first
   |(cases e;done)
   |(
    split at e
    ·split at e
     ·cases e
     exact ih h e
    split at e
    ·exact ih h e
    cases e)
 |new o k ih=>exact fun h e=>ih _ (h _) e
 |shape r k ih=>exact fun h e=>ih _ (h _) e
 |freeze a n k ih=>exact fun h e=>ih h e
 |frozen a k ih=>exact fun h e=>ih _ (h _) e
 |getObj r k ih=>
  intro w w' x h e
  simp only[Sem.run]at e
  split at e
  ·cases e
  ·exact ih _ (h _) e
  cases e
 |setObj r o k ih=>
  intro w w' x h e
  simp only[Sem.run]at e
  split at e
  ·cases e
  ·exact ih h e
  cases e
 |choose q k ih=>
  intro w w' x h e
  simp only[Sem.run]at e
  split at e<;>exact ih _ (h _) e
 |sys c k ih=>exact fun h e=>ih _ (h _) e
 |program k ih=>exact fun h e=>ih _ (h _) e
 |mark m k ih=>exact fun h e=>ih h e
 |halt h=>exact fun _ e=>by cases e
section
variable{O:Nat->Prop}{kn:Addr->Option Value}{w v:World}
theorem V.cell(h:V O kn w v){a:Addr}{x:Value}(hc:v.cell? a=some x):O a.block/\w.cell? a=some x:=by
 by_cases ho:O a.block
 ·refine⟨ho,?_⟩
  unfold World.cell? at*
  rw[<-h.ai _ ho];exact hc
 exfalso
 unfold World.cell? at hc
 cases hb:v.heap[a.block]? with
 |none=>rw[hb]at hc;cases hc
 |some o=>
  rw[hb]at hc
  rcases h.uM _ _ ho hb with rfl|⟨c,e,rfl,_⟩
  ·simp only[poison]at hc
   split at hc<;>simp at hc
  cases hc
theorem V.Qp(h:V O kn w v){P:Program}{a:Addr}{b:Bool}(hc:v.cell? a=none):(∃y,v.farLoad P a b= .error y)/\∀x,∃y,v.farStore P a x b= .error y:=by
 have: ∀at_ u,v.heap[a.block]?≠some (.view at_ u):=fun at_ u hb=>by
  by_cases ho:O a.block
  ·have:=h.plain _ _ ho hb
   cases this
  rcases h.uM _ _ ho hb with e|⟨c,e,h',_⟩
  ·cases e
  cases h'
 constructor
 ·unfold World.farLoad
  split
  ·rename_i at_ u hb;exact absurd hb (this at_ u)
  exact⟨_,rfl⟩
 intro x
 unfold World.farStore
 split
 ·rename_i at_ u hb;exact absurd hb (this at_ u)
 exact⟨_,rfl⟩
theorem V.set(h:V O kn w v){a:Addr}{x:Value}(ho:O a.block):V O kn (w.setCell a x) (v.setCell a x):=by
 refine⟨by rw[aD,aD,h.size],fun b hb=>?_,fun b o hb he=>?_,fun b o hb he=>?_,h.tape,h.drawn⟩
 ·by_cases e:a.block=b
  ·subst e
   simp only[World.setCell,Array.getElem?_modify,if_true,h.ai _ ho]
  rw[cS _ _ _ e,cS _ _ _ e];exact h.ai b hb
 ·by_cases e:a.block=b
  ·subst e
   simp only[World.setCell,Array.getElem?_modify,if_true]at he
   cases hv:v.heap[a.block]? with
   |none=>rw[hv]at he;cases he
   |some o'=>
    rw[hv]at he
    have:=h.plain _ _ ho hv
    simp only[Option.map_some,Option.some.injEq]at he
    cases o'<;>first|(subst he;rfl)|(subst he;exact this)
  rw[cS _ _ _ e]at he;exact h.plain b o hb he
 have e:a.block≠b:=fun e=>hb (e▸ho)
 rw[cS _ _ _ e]at he;exact h.uM b o hb he
theorem Fr.set{a:Addr}{x:Value}(ho:O a.block):Fr O w (w.setCell a x):=⟨by rw[aD];exact Nat.le_refl _,fun b hb=>cS _ _ _ fun e=>hb (e▸ho),rfl,rfl,rfl⟩
theorem V.new(h:V O kn w v){o:Obj}(hO: ∀b,w.heap.size<=b->O b)(hp:plainO o=true):V O kn {w with heap:=w.heap.push o} {v with heap:=v.heap.push o}:=by
 have hs:=h.size
 refine⟨by simp[h.size],fun b hb=>?_,fun b o' hb he=>?_,fun b o' hb he=>?_,h.tape,h.drawn⟩
 ·simp only[Array.getElem?_push,hs]
  split
  ·rfl
  exact h.ai b hb
 ·simp only[Array.getElem?_push]at he
  split at he
  ·cases he;exact hp
  exact h.plain b o' hb he
 simp only[Array.getElem?_push]at he
 split at he
 ·rename_i e;exact absurd (hO b (by omega)) hb
 exact h.uM b o' hb he
theorem Fr.new{o:Obj}(hO: ∀b,w.heap.size<=b->O b):Fr O w {w with heap:=w.heap.push o}:=⟨by simp,fun b hb=>by
 have:b≠w.heap.size:=fun e=>hb (hO b (by omega))
 simp only[Array.getElem?_push,if_neg this],rfl,rfl,rfl⟩
theorem V.put(h:V O kn w v){r:Nat}{o:Obj}(ho:O r)(hp:plainO o=true):V O kn {w with heap:=w.heap.setIfInBounds r o} {v with heap:=v.heap.setIfInBounds r o}:=by
 refine⟨by simp[h.size],fun b hb=>?_,fun b o' hb he=>?_,fun b o' hb he=>?_,h.tape,h.drawn⟩
 ·by_cases e:r=b
  ·subst e
   simp only[Array.getElem?_setIfInBounds_self,h.size]
  simp only[Array.getElem?_setIfInBounds_ne e];exact h.ai b hb
 ·by_cases e:r=b
  ·subst e
   simp only[Array.getElem?_setIfInBounds_self]at he
   split at he
   ·cases he;exact hp
   cases he
  simp only[Array.getElem?_setIfInBounds_ne e]at he;exact h.plain b o' hb he
 have e:r≠b:=fun e=>hb (e▸ho)
 simp only[Array.getElem?_setIfInBounds_ne e]at he;exact h.uM b o' hb he
theorem Fr.put{r:Nat}{o:Obj}(ho:O r):Fr O w {w with heap:=w.heap.setIfInBounds r o}:=⟨by simp,fun b hb=>by
 have e:r≠b:=fun e=>hb (e▸ho)
 simp only[Array.getElem?_setIfInBounds_ne e],rfl,rfl,rfl⟩
theorem V.XJ(h:V O kn w v){a:Addr}{n:Nat}(ho:O a.block):V O kn (w.freeze a n) (v.freeze a n)/\Fr O w (w.freeze a n):=by
 unfold World.freeze
 split
 ·exact⟨h,Fr.refl _ _⟩
 refine⟨⟨by simp[h.size],fun b hb=>?_,fun b o hb he=>?_,fun b o hb he=>?_,h.tape,h.drawn⟩,⟨by simp,fun b hb=>?_,rfl,rfl,rfl⟩⟩
 ·by_cases e:a.block=b
  ·subst e
   simp only[Array.getElem?_modify,if_true,h.ai _ ho]
  simp only[Array.getElem?_modify,if_neg e];exact h.ai b hb
 ·by_cases e:a.block=b
  ·subst e
   simp only[Array.getElem?_modify,if_true]at he
   cases hv:v.heap[a.block]? with
   |none=>rw[hv]at he;cases he
   |some o'=>
    rw[hv]at he
    have:=h.plain _ _ ho hv
    simp only[Option.map_some,Option.some.injEq]at he
    cases o'<;>first|(subst he;rfl)|(subst he;exact this)
  simp only[Array.getElem?_modify,if_neg e]at he;exact h.plain b o hb he
 ·have e:a.block≠b:=fun e=>hb (e▸ho)
  simp only[Array.getElem?_modify,if_neg e]at he;exact h.uM b o hb he
 have e:a.block≠b:=fun e=>hb (e▸ho)
 simp only[Array.getElem?_modify,if_neg e]
theorem V.draw(h:V O kn w v):V O kn {w with drawn:=w.drawn+1} {v with drawn:=v.drawn+1}:=⟨h.size,h.ai,h.plain,h.uM,h.tape,by show v.drawn+1=w.drawn+1;rw[h.drawn]⟩
end
def I4(O:Nat->Prop)(n:Nat)(es:Array Event)(e:Event):Prop:=e∈es\/(∃f,e.loc= .mark (.extern f))\/KJ (fun b=>O b/\b<n) e
theorem I4.push{O:Nat->Prop}{n:Nat}{es:Array Event}{x e:Event}(h:I4 O n (es.push x) e)(hx:I4 O n es x):I4 O n es e:=by
 rcases h with h|h
 ·rcases Array.mem_push.1 h with h|rfl
  ·exact .inl h
  exact hx
 exact .inr h
theorem yl{w:World}{a:Addr}{x:Value}(h:w.cell? a=some x):a.block<w.heap.size:=by
 unfold World.cell? at h
 cases hb:w.heap[a.block]? with
 |none=>rw[hb]at h;cases h
 |some o=>exact(Array.getElem?_eq_some_iff.1 hb).1
theorem ZY{P:Program}{O:Nat->Prop}{kn:Addr->Option Value}{α:Type}{R:α->Prop}{s:Sem α}: ∀ {ok:Nat->Prop} {w v:World} {a:α} {v2:World},bB P ok R s->(∀b,ok b->O b/\b<w.heap.size)->(∀b,w.heap.size<=b->O b)->V O kn w v->s.run P v= .ok a v2->
  ∃w2,s.run P w= .ok a w2/\V O kn w2 v2/\Fr O w w2/\∀es e,e∈(s.runT P w es).2->I4 O w2.heap.size es e:=by
 induction s with
 |pure x=>
  intro ok w v a v2 _ _ _ hV hr
  simp only[Sem.run,Result.ok.injEq]at hr
  obtain⟨rfl,rfl⟩:=hr
  exact⟨w,rfl,hV,Fr.refl _ _,fun es e he=>.inl he⟩
 |load m ad k ih=>
  intro ok w v a v2 hs ho hO hV hr
  simp only[Sem.run]at hr
  cases hc:v.cell? ad with
  |none=>
   rw[hc]at hr
   obtain⟨y,hy⟩:=(hV.Qp (P:=P) (b:=m== .atomic) hc).1
   simp only[hy]at hr
   cases hr
  |some x=>
   rw[hc]at hr
   obtain⟨h1,h2⟩:=hV.cell hc
   obtain⟨w2,e1,e2,e3,e4⟩:=ih x (hs x) ho hO hV hr
   refine⟨w2,by simp only[Sem.run,h2];exact e1,e2,e3,fun es e he=>?_⟩
   simp only[Sem.runT,h2]at he
   exact(e4 _ _ he).push (.inr (.inr (.inl ⟨ad,false,_,rfl,h1,Nat.lt_of_lt_of_le (yl h2) e3.size⟩)))
 |store m ad x k ih=>
  intro ok w v a v2 hs ho hO hV hr
  have key:x.oneCell'=true->∃w2,(Sem.store m ad x k).run P w= .ok a w2/\V O kn w2 v2/\Fr O w w2/\∀es e,e∈((Sem.store m ad x k).runT P w es).2->I4 O w2.heap.size es e:=fun hx=>by
   cases hc:v.cell? ad with
   |none=>
    obtain⟨y,hy⟩:=(hV.Qp (P:=P) (b:=m== .atomic) hc).2 x
    exfalso
    cases x<;>first|(cases hx;done)|(simp only[Sem.run,hc,hy]at hr;cases hr)
   |some z=>
    obtain⟨h1,h2⟩:=hV.cell hc
    have hf:v.frozen? ad=w.frozen? ad:=by unfold World.frozen?;rw[hV.ai _ h1]
    have lX:v.frozen? ad=false/\k.run P (v.setCell ad x)= .ok a v2:=by
     cases hz:v.frozen? ad with
     |true=>exfalso;cases x<;>first|(cases hx;done)|(simp only[Sem.run,hc,hz,if_true]at hr;cases hr)
     |false=>refine⟨rfl,?_⟩;cases x<;>first|(cases hx;done)|(simpa only[Sem.run,hc,hz,Bool.false_eq_true,if_false]using hr)
    obtain⟨hz,lX⟩:=lX
    rw[hf]at hz
    obtain⟨w2,e1,e2,e3,e4⟩:=ih hs (w:=w.setCell ad x) (fun b hb=>by rw[aD];exact ho b hb) (fun b hb=>hO b (by rwa [aD]at hb)) (hV.set h1) lX
    refine⟨w2,?_,e2,(Fr.set h1).trans e3,fun es e he=>?_⟩
    ·cases x<;>first|(cases hx;done)|(simpa only[Sem.run,h2,hz,Bool.false_eq_true,if_false]using e1)
    have KC:e∈(k.runT P (w.setCell ad x) (es.push ⟨.cell ad,true,m== .atomic⟩)).2:=by
     cases x<;>first|(cases hx;done)|(simpa only[Sem.runT,h2,hz,Bool.false_eq_true,if_false]using he)
    have:=e3.size
    rw[aD]at this
    exact(e4 _ _ KC).push (.inr (.inr (.inl ⟨ad,true,_,rfl,h1,Nat.lt_of_lt_of_le (yl h2) this⟩)))
  cases hx:x.oneCell' with
  |true=>exact key hx
  |false=>exfalso;cases x<;>first|(cases hx;done)|(simp only[Sem.run]at hr;cases hr)
 |new o k ih=>
  intro ok w v a v2 hs ho hO hV hr
  rcases hs with⟨hp,hs⟩|hd
  ·simp only[Sem.run,hV.size]at hr
   obtain⟨w2,e1,e2,e3,e4⟩:=ih _ (hs _) (w:={w with heap:=w.heap.push o}) (fun b hb=>⟨(ho b hb).1,by have:=(ho b hb).2;simp;omega⟩) (fun b hb=>hO b (by simp at hb;omega)) (hV.new hO hp) hr
   exact⟨w2,by simp only[Sem.run];exact e1,e2,(Fr.new hO).trans e3,fun es e he=>e4 _ _ (by simpa only[Sem.runT]using he)⟩
  exact absurd hr (jo (s:=.new o k) hd)
 |shape r k ih=>
  intro ok w v a v2 hs ho hO hV hr
  rcases hs with⟨aL,hs⟩|hd
  ·have e:v.shape? r=w.shape? r:=by unfold World.shape?;rw[hV.ai _ (ho _ aL).1]
   simp only[Sem.run,e]at hr
   obtain⟨w2,e1,e2,e3,e4⟩:=ih _ (hs _) ho hO hV hr
   exact⟨w2,by simp only[Sem.run];exact e1,e2,e3,fun es e he=>e4 _ _ (by simpa only[Sem.runT]using he)⟩
  exact absurd hr (jo (s:=.shape r k) hd)
 |freeze ad n k ih=>
  intro ok w v a v2 hs ho hO hV hr
  rcases hs with⟨aL,hs⟩|hd
  ·simp only[Sem.run]at hr
   obtain⟨q1,q2⟩:=hV.XJ (n:=n) (ho _ aL).1
   have e8:(w.freeze ad n).heap.size=w.heap.size:=by unfold World.freeze;split<;>simp
   obtain⟨w2,e1,e2,e3,e4⟩:=ih hs (w:=w.freeze ad n) (fun b hb=>by rw[e8];exact ho b hb) (fun b hb=>hO b (by omega)) q1 hr
   exact⟨w2,by simp only[Sem.run];exact e1,e2,q2.trans e3,fun es e he=>e4 _ _ (by simpa only[Sem.runT]using he)⟩
  exact absurd hr (jo (s:=.freeze ad n k) hd)
 |frozen ad k ih=>
  intro ok w v a v2 hs ho hO hV hr
  rcases hs with⟨aL,hs⟩|hd
  ·have e:v.frozen? ad=w.frozen? ad:=by unfold World.frozen?;rw[hV.ai _ (ho _ aL).1]
   simp only[Sem.run,e]at hr
   obtain⟨w2,e1,e2,e3,e4⟩:=ih _ (hs _) ho hO hV hr
   exact⟨w2,by simp only[Sem.run];exact e1,e2,e3,fun es e he=>e4 _ _ (by simpa only[Sem.runT]using he)⟩
  exact absurd hr (jo (s:=.frozen ad k) hd)
 |getObj r k ih=>
  intro ok w v a v2 hs ho hO hV hr
  simp only[Sem.run]at hr
  cases hb:v.heap[r]? with
  |none=>rw[hb]at hr;cases hr
  |some o=>
   rw[hb]at hr
   by_cases NR:O r
   ·have hw:w.heap[r]?=some o:=by rw[<-hV.ai _ NR];exact hb
    have hp:=hV.plain _ _ NR hb
    have CH: ∀c t f,o≠ .cells c t f:=fun c t f e=>by subst e;cases hr
    have lX:(k o).run P v= .ok a v2:=by cases o<;>first|exact hr|(exact absurd rfl (CH _ _ _))
    obtain⟨w2,e1,e2,e3,e4⟩:=ih o (hs.1 o) (fun b hb=>hb.elim (ho b) fun e=>e▸⟨NR,(Array.getElem?_eq_some_iff.1 hw).1⟩) hO hV lX
    refine⟨w2,?_,e2,e3,fun es e he=>?_⟩
    ·simp only[Sem.run,hw]
     cases o<;>first|exact e1|(exact absurd rfl (CH _ _ _))
    have KC:e∈((k o).runT P w (es.push ⟨.obj r,false,o.isChan⟩)).2:=by
     simp only[Sem.runT,hw]at he
     cases o<;>first|exact he|(exact absurd rfl (CH _ _ _))
    have bP:o.isChan=false:=by cases o<;>first|rfl|(cases hp;done)
    rw[bP]at KC
    exact(e4 _ _ KC).push (.inr (.inr (.inr (.inl ⟨r,false,rfl,NR,Nat.lt_of_lt_of_le (Array.getElem?_eq_some_iff.1 hw).1 e3.size⟩))))
   exfalso
   rcases hV.uM _ _ NR hb with rfl|⟨c,e,rfl,_⟩
   ·simp only[poison]at hr;cases hr
   exact jo (hs.2 c e) hr
 |setObj r o k ih=>
  intro ok w v a v2 hs ho hO hV hr
  rcases hs with⟨aL,hp,hs⟩|hd
  ·have NR:=(ho _ aL).1
   simp only[Sem.run]at hr
   cases hb:v.heap[r]? with
   |none=>rw[hb]at hr;cases hr
   |some o'=>
    rw[hb]at hr
    have hw:w.heap[r]?=some o':=by rw[<-hV.ai _ NR];exact hb
    have CH: ∀c t f,o'≠ .cells c t f:=fun c t f e=>by subst e;cases hr
    have lX:k.run P {v with heap:=v.heap.setIfInBounds r o}= .ok a v2:=by cases o'<;>first|exact hr|(exact absurd rfl (CH _ _ _))
    obtain⟨w2,e1,e2,e3,e4⟩:=ih hs (w:={w with heap:=w.heap.setIfInBounds r o}) (fun b hb=>by simpa using ho b hb) (fun b hb=>hO b (by simpa using hb)) (hV.put NR hp) lX
    refine⟨w2,?_,e2,(Fr.put NR).trans e3,fun es e he=>?_⟩
    ·simp only[Sem.run,hw]
     cases o'<;>first|exact e1|(exact absurd rfl (CH _ _ _))
    have KC:e∈(k.runT P {w with heap:=w.heap.setIfInBounds r o} (es.push ⟨.obj r,true,o.isChan⟩)).2:=by
     simp only[Sem.runT,hw]at he
     cases o'<;>first|exact he|(exact absurd rfl (CH _ _ _))
    have bP:o.isChan=false:=by cases o<;>first|rfl|(cases hp;done)
    rw[bP]at KC
    have e8:=e3.size
    simp only[Array.size_setIfInBounds]at e8
    exact(e4 _ _ KC).push (.inr (.inr (.inr (.inl ⟨r,true,rfl,NR,Nat.lt_of_lt_of_le (Array.getElem?_eq_some_iff.1 hw).1 e8⟩))))
  exact absurd hr (jo (s:=.setObj r o k) hd)
 |choose q k ih=>
  intro ok w v a v2 hs ho hO hV hr
  simp only[Sem.run]at hr
  cases hf:q.forced with
  |true=>
   rw[hf,if_pos rfl]at hr
   obtain⟨w2,e1,e2,e3,e4⟩:=ih _ (hs _) ho hO hV hr
   exact⟨w2,by simp only[Sem.run,hf,if_true];exact e1,e2,e3,fun es e he=>e4 _ _ (by simpa only[Sem.runT,hf,if_true]using he)⟩
  |false=>
   rw[hf,if_neg (by simp)]at hr
   have e:q.cut (v.tape v.drawn q)=q.cut (w.tape w.drawn q):=by rw[hV.tape,hV.drawn]
   obtain⟨w2,e1,e2,e3,e4⟩:=ih _ (hs _) (w:={w with drawn:=w.drawn+1}) ho hO hV.draw hr
   rw[e]at e1 e4
   exact⟨w2,by simp only[Sem.run,hf,Bool.false_eq_true,if_false];exact e1,e2,⟨e3.size,e3.block,e3.tape,e3.os,e3.output⟩,fun es e he=>e4 _ _ (by simpa only[Sem.runT,hf,Bool.false_eq_true,if_false]using he)⟩
 |sys c k ih=>
  intro ok w v a v2 hs ho hO hV hr
  exact absurd hr (jo (s:=.sys c k) hs)
 |program k ih=>
  intro ok w v a v2 hs ho hO hV hr
  simp only[Sem.run]at hr
  obtain⟨w2,e1,e2,e3,e4⟩:=ih _ hs ho hO hV hr
  exact⟨w2,by simp only[Sem.run];exact e1,e2,e3,fun es e he=>e4 _ _ (by simpa only[Sem.runT]using he)⟩
 |mark m k ih=>
  intro ok w v a v2 hs ho hO hV hr
  rcases hs with⟨hm,hs⟩|hd
  ·simp only[Sem.run]at hr
   obtain⟨w2,e1,e2,e3,e4⟩:=ih hs ho hO hV hr
   refine⟨w2,by simp only[Sem.run];exact e1,e2,e3,fun es e he=>?_⟩
   simp only[Sem.runT]at he
   refine(e4 _ _ he).push ?_
   rcases hm with⟨f,rfl⟩|hm|⟨ad,hm,hb⟩
   ·exact .inr (.inl ⟨f,rfl⟩)
   ·exact .inr (.inr (.inr (.inr ⟨m,_,_,rfl,.inl hm⟩)))
   exact .inr (.inr (.inr (.inr ⟨m,_,_,rfl,.inr ⟨ad,hm,(ho _ hb).1,Nat.lt_of_lt_of_le (ho _ hb).2 e3.size⟩⟩)))
  exact absurd hr (jo (s:=.mark m k) hd)
 |halt h=>
  intro ok w v a v2 _ _ _ _ hr
  cases hr
end Go.SE

namespace Go.SE
open Go Go.Conc Go.Co
variable [aG]
open Go.ConcN (upd upd_ne upd_same sumTo sumTo_congr)
section
variable{E:Geo}{N i:Nat}{G:Gh}{l:Lo}{w w':World}{t:Trace}
theorem JQ{es:Array Event}{mw:Bool}(h:GI E G w t)(hi:(G.th i).af=true)(hl:G.th i=l)(aJ:l.rel=none)(p:I3 l.ai w w' es):cQ E i G w w' t es (l.grow w.heap.size w'.heap.size) mw false:=by
 subst hl
 intro fn pos
 refine⟨_,⟨GI.tS h fn pos hi (.inl aJ) p,upd_same _ _ _,fun j hj=>upd_ne _ _ hj,rfl,fun j hj tP=>⟨p.size,fun b hb=>?_⟩,Nat.le_of_eq ((Geo.RE E).BR G i _ _)⟩,.inr (Calm.of rfl rfl rfl rfl rfl rfl),hi,fun e=>by cases e⟩
 exact p.block b (fun ho=>h.s.apart j i b hj hi tP hb ho) (h.s.old j b hj hb)
theorem JP{es:Array Event}{mw:Bool}{ad:Addr}{x:Value}(h:GI E G w t)(hi:(G.th i).af=true)(hl:G.th i=l)(aJ:l.rel=none)(hk:l.kn ad=some x)(he:es= #[]\/es= #[⟨.cell ad,false,false⟩]):w.cell? ad=some x/\cQ E i G w w t es l mw false:=by
 subst hl
 obtain⟨d,h1,h2⟩:=h.k.kn i ad x hi hk
 refine⟨(h.m.app ad x d h1).1,fun fn pos=>⟨G,⟨?_,rfl,fun _ _=>rfl,rfl,fun _ _ _=>View.refl _ _,Nat.le_refl _⟩,.inr ⟨fun _ h=>h,rfl⟩,hi,fun e=>by cases e⟩⟩
 rcases he with rfl|rfl
 ·have:t++MemOp.ofEvents i fn pos #[]=t:=by simp[MemOp.ofEvents]
  rw[this];exact h
 exact⟨h.a,h.s,h.m,h.k,h.g,h.j,h.more,h.read fn pos hi aJ h1 (by
  rcases h2 with h2|h2|h2
  ·exact .inl h2
  ·exact .inr (.inl h2)
  exact .inr (.inr (.inl h2)))⟩
end
structure VL(E:Geo)(l:Lo)(O:Nat->Prop)(w v:World):Prop where
 size:v.heap.size=w.heap.size
 ai: ∀b,O b->v.heap[b]?=w.heap[b]?
 plain: ∀b o,O b->v.heap[b]?=some o->plainO o=true
 uM: ∀b o,¬O b->v.heap[b]?=some o->o=poison\/∃c e,o= .pending c e/\∀off x,c[off]?=some x->x.oneCell'=true->l.kn ⟨b,off,none⟩=some x
 sub: ∀b,O b->l.ai b
 lt: ∀b,O b->b<w.heap.size
 tape:v.tape=E.w0.tape
structure Wn(l l':Lo)(O O':Nat->Prop)(w w':World):Prop where
 eq:l'={l with ai:=l'.ai}
 sub: ∀b,l.ai b->l'.ai b
 new: ∀b,l'.ai b->l.ai b\/(w.heap.size<=b/\O' b)
 Ox: ∀b,O b->O' b
 Rz: ∀b,O' b->O b\/w.heap.size<=b
 size:w.heap.size<=w'.heap.size
 keep: ∀b,l.ai b->¬O b->b<w.heap.size->w'.heap[b]?=w.heap[b]?
section
variable{E:Geo}{N i:Nat}{l l':Lo}{O:Nat->Prop}{w w' v:World}
theorem Wn.refl:Wn l l O O w w:=⟨rfl,fun _ h=>h,fun _ h=>.inl h,fun _ h=>h,fun _ h=>.inl h,Nat.le_refl _,fun _ _ _ _=>rfl⟩
theorem Wn.trans{O' O2:Nat->Prop}{l2:Lo}{w2:World}(h:Wn l l' O O' w w')(k:Wn l' l2 O' O2 w' w2):Wn l l2 O O2 w w2:=by
 refine⟨?_,fun b hb=>k.sub b (h.sub b hb),fun b hb=>?_,fun b hb=>k.Ox b (h.Ox b hb),fun b hb=>?_,Nat.le_trans h.size k.size,fun b hb hn bA=>?_⟩
 ·have e1:=h.eq
  have e2:=k.eq
  rw[e2,e1]
 ·rcases k.new b hb with hb|⟨h1,h2⟩
  ·exact(h.new b hb).imp id fun⟨h1,h2⟩=>⟨h1,k.Ox b h2⟩
  exact .inr ⟨Nat.le_trans h.size h1,h2⟩
 ·rcases k.Rz b hb with hb|hb
  ·exact h.Rz b hb
  exact .inr (Nat.le_trans h.size hb)
 rw[k.keep b (h.sub b hb) (fun ho=>?_) (Nat.lt_of_lt_of_le bA h.size),h.keep b hb hn bA]
 rcases h.Rz b ho with ho|ho
 ·exact hn ho
 omega
theorem Tt(v:World)(n d:Nat):Itf v {v with heap:=v.heap++Array.replicate n poison,drawn:=d}:=⟨⟨n,rfl⟩,rfl,rfl,rfl⟩
theorem VL.EZ{ae:World}(h:VL E l O w v)(hv:View l.ai w ae): ∃og,Itf v og/\VL E l O ae og/\og.drawn=ae.drawn:=by
 have hs:=hv.1
 have e8:=h.size
 refine⟨_,Tt v (ae.heap.size-w.heap.size) ae.drawn,⟨?_,fun b hb=>?_,fun b o hb he=>?_,fun b o hb he=>?_,h.sub,fun b hb=>Nat.lt_of_lt_of_le (h.lt b hb) hs,h.tape⟩,rfl⟩
 ·simp;omega
 ·have bA:=h.lt b hb
  simp only[]
  rw[Array.getElem?_append_left (by omega),hv.2 b (h.sub b hb)]
  exact h.ai b hb
 ·have bA:=h.lt b hb
  simp only[]at he
  rw[Array.getElem?_append_left (by omega)]at he
  exact h.plain b o hb he
 simp only[]at he
 by_cases bA:b<v.heap.size
 ·rw[Array.getElem?_append_left bA]at he
  exact h.uM b o hb he
 rw[Array.getElem?_append_right (by omega),Array.getElem?_replicate]at he
 split at he
 ·cases he;exact .inl rfl
 cases he
theorem VL.toV(h:VL E l O w v)(ht:w.tape=E.w0.tape)(hd:v.drawn=w.drawn):V (fun b=>O b\/w.heap.size<=b) l.kn w v:=by
 have e8:=h.size
 refine⟨h.size,fun b hb=>?_,fun b o hb he=>?_,fun b o hb he=>h.uM b o (fun x=>hb (.inl x)) he,h.tape.trans ht.symm,hd⟩
 ·rcases hb with hb|hb
  ·exact h.ai b hb
  rw[Array.getElem?_eq_none (by omega),Array.getElem?_eq_none hb]
 rcases hb with hb|hb
 ·exact h.plain b o hb he
 rw[Array.getElem?_eq_none (by omega)]at he;cases he
theorem VL.Zg{w2 v2:World}(h:VL E l O w v)(hV:V (fun b=>O b\/w.heap.size<=b) l.kn w2 v2)(hF:Fr (fun b=>O b\/w.heap.size<=b) w w2)(ht:w.tape=E.w0.tape):
  VL E (l.grow w.heap.size w2.heap.size) (fun b=>O b\/(w.heap.size<=b/\b<w2.heap.size)) w2 v2/\Wn l (l.grow w.heap.size w2.heap.size) O (fun b=>O b\/(w.heap.size<=b/\b<w2.heap.size)) w w2:=by
 refine⟨⟨hV.size,fun b hb=>hV.ai b (hb.imp id And.left),fun b o hb he=>hV.plain b o (hb.imp id And.left) he,fun b o hb he=>?_,fun b hb=>?_,fun b hb=>?_,hV.tape.trans (hF.tape.trans ht)⟩,
  ⟨rfl,fun b hb=>.inl hb,fun b hb=>?_,fun b hb=>.inl hb,fun b hb=>hb.imp id And.left,hF.size,fun b hb hn bA=>?_⟩⟩
 ·refine hV.uM b o (fun x=>hb ?_) he
  have bA:=(Array.getElem?_eq_some_iff.1 he).1
  rw[hV.size]at bA
  exact x.imp id fun y=>⟨y,bA⟩
 ·exact hb.imp (h.sub b) id
 ·rcases hb with hb|hb
  ·exact Nat.lt_of_lt_of_le (h.lt b hb) hF.size
  exact hb.2
 ·rcases hb with hb|hb
  ·exact .inl hb
  exact .inr ⟨hb.1,.inr hb⟩
 refine hF.block b fun x=>?_
 rcases x with x|x
 ·exact hn x
 omega
theorem VL.qY(h:VL E l O w v){b:Nat}(hb:Good v b):O b/\b<w.heap.size:=by
 obtain⟨o,h1,h2,h3⟩:=hb
 refine⟨Classical.byContradiction fun hn=>?_,?_⟩
 ·rcases h.uM b o hn h1 with e|⟨c,e,e',_⟩
  ·exact h2 e
  exact h3 c e e'
 rw[<-h.size];exact(Array.getElem?_eq_some_iff.1 h1).1
theorem Wn.EZ{ae:World}(hv:View l.ai w ae):Wn l l O O w ae:=⟨rfl,fun _ h=>h,fun _ h=>.inl h,fun _ h=>h,fun _ h=>.inl h,hv.1,fun b hb _ _=>hv.2 b hb⟩
theorem HC{α:Type}{g:Goroutine}{s:Sem α}{ok:Nat->Prop}{nx:α->Option Goroutine}{x:α}{v2:World}{g2:Goroutine}{G:Gh}{t:Trace}(aL: ∀b,ok b->Good v b)(hs:bB E.P ok (fun _=>True) s)
  (dI: ∀w a w' g',s.run E.P w= .ok a w'->nx a=some g'->g'.status= .running/\∃es,stepG E.P (i==0) g w= .go g' w' es/\∀e∈es,e∈s.events E.P w #[]/\∀f,e.loc≠ .mark (.extern f))
  (h1:s.run E.P v= .ok x v2/\nx x=some g2) (fP:GI E G w t) (au:(G.th i).af=true) (ax:G.th i=l) (aJ:l.rel=none) (hV:VL E l O w v) (hd:v.drawn=w.drawn):
  ∃w2 es O2,stepG E.P (i==0) g w= .go g2 w2 es/\g2.status= .running/\cQ E i G w w2 t es (l.grow w.heap.size w2.heap.size) (mayWake E.P g) false/\VL E (l.grow w.heap.size w2.heap.size) O2 w2 v2/\Wn l (l.grow w.heap.size w2.heap.size) O O2 w w2:=by
 have ht:w.tape=E.w0.tape:=fP.m.tape
 obtain⟨r1,r2⟩:=h1
 obtain⟨w2,e1,e2,e3,e4⟩:=ZY hs (fun b hb=>by
  obtain⟨q1,q2⟩:=hV.qY (aL b hb)
  exact⟨.inl q1,q2⟩) (fun b hb=>.inr hb) (hV.toV ht hd) r1
 obtain⟨aS,es,e5,e6⟩:=dI w _ _ _ e1 r2
 obtain⟨Ra,UY⟩:=hV.Zg e2 e3 ht
 have hp:I3 l.ai w w2 es:=by
  refine⟨e3.size,fun b hb bA=>e3.block b fun y=>?_,e3.tape,e3.os,e3.output,fun e he=>?_⟩
  ·rcases y with y|y
   ·exact hb (hV.sub b y)
   omega
  obtain⟨q1,q2⟩:=e6 e he
  have q1:e∈(s.runT E.P w #[]).2:=q1
  rcases e4 _ _ q1 with y|⟨f,y⟩|y
  ·simp at y
  ·exact absurd y (q2 f)
  have key: ∀b,((O b\/w.heap.size<=b)/\b<w2.heap.size)->(l.ai b\/(w.heap.size<=b/\b<w2.heap.size)):=fun b hb=>by
   rcases hb with⟨hb|hb,ES⟩
   ·exact .inl (hV.sub b hb)
   exact .inr ⟨hb,ES⟩
  rcases y with⟨a,wr,sy,y1,y2⟩|⟨r,wr,y1,y2⟩|⟨m,wr,sy,y1,y2|⟨a,y2,y3⟩⟩
  ·exact .inl ⟨a,wr,sy,y1,key _ y2⟩
  ·exact .inr (.inl ⟨r,wr,y1,key _ y2⟩)
  ·exact .inr (.inr ⟨m,wr,sy,y1,.inl y2⟩)
  exact .inr (.inr ⟨m,wr,sy,y1,.inr ⟨a,y2,key _ y3⟩⟩)
 exact⟨w2,es,_,e5,aS,JQ fP au ax aJ hp,Ra,UY⟩
theorem H0{g g':Goroutine}{ad:Addr}{x:Value}{G:Gh}{t:Trace}(hl:look v ad=some x)(hx:x.oneCell'=true)
  (dI: ∀w,w.cell? ad=some x->∃es,stepG E.P (i==0) g w= .go g' w es/\(es= #[]\/es= #[⟨.cell ad,false,false⟩]))
  (fP:GI E G w t) (au:(G.th i).af=true) (ax:G.th i=l) (aJ:l.rel=none) (hV:VL E l O w v):
  ∃es,stepG E.P (i==0) g w= .go g' w es/\cQ E i G w w t es l (mayWake E.P g) false:=by
 have hk:l.kn ad=some x:=by
  unfold SE.look at hl
  split at hl
  ·rename_i c e hb
   have wc: ¬O ad.block:=fun ho=>by
    have:=hV.plain _ _ ho hb
    cases this
   rcases hV.uM _ _ wc hb with e'|⟨c',e',e'',q⟩
   ·cases e'
   cases e''
   split at hl
   ·cases hl
   rename_i KA
   have:=q _ _ hl hx
   obtain⟨bb,oo,sp⟩:=ad
   cases sp with
   |none=>exact this
   |some z=>exact absurd rfl KA
  cases hl
 obtain⟨d,c1,c2⟩:=fP.k.kn i ad x au (by rw[ax];exact hk)
 obtain⟨es,e1,e2⟩:=dI w (fP.m.app ad x d c1).1
 exact⟨es,e1,(JP fP au ax aJ hk e2).2⟩
def ExtOk(E:Geo)(N i:Nat)(l0:Lo):Prop:=∀ (kd:CallKind) (f:FuncId) (args:Array Value) (c:Frame) (cs:List Frame) (after:Value->Frame) (R:Value->World->Prop) (l:Lo) (O:Nat->Prop) (w v:World),
 ((
  kd= .normal/\after=c.finish)\/(kd= .deferred/\c.mode= .returning/\after=fun _=>c))->aG.x E.P (i==0) kd f args v R->l={l0 with ai:=l.ai}->l.ch= .no->l.rel=none->VL E l O w v->
  (∀y v2 l' O' w',R y v2->VL E l' O' w' v2->Wn l l' O O' w w'->Tr E N i l' (Conc.G (after y) cs) w')->Tr E N i l (Conc.G (Frame.enter E.P f args kd) (c::cs)) w
theorem Wn.base{l0 l l':Lo}{O O':Nat->Prop}{w w':World}(h:Wn l l' O O' w w')(he:l={l0 with ai:=l.ai}):l'={l0 with ai:=l'.ai}:=by
 have:=h.eq
 rw[he]at this
 exact this
theorem lift{Fin:Goroutine->World->Prop}{g:Goroutine}{v:World}{l0:Lo}(hX:ExtOk E N i l0)(h:Iv E.P (i==0) Fin g v): ∀ {l:Lo} {O:Nat->Prop} {w:World},l={l0 with ai:=l.ai}->l.ch= .no->l.rel=none->VL E l O w v->
  (∀g' v' l' O' w',Fin g' v'->VL E l' O' w' v'->Wn l l' O O' w w'->Tr E N i l' g' w')->Tr E N i l g w:=by
 induction h with
 |fin h=>exact fun _ _ _ hV k=>k _ _ _ _ _ (h _ (Itf.refl _)) hV Wn.refl
 |step s ok nx x v2 g2 hg aL hs dI h1 h2 ih=>
  intro l O w he bP aJ hV k
  refine Tr.stop hg bP fun G ae t fP au ax hv=>?_
  obtain⟨og,iv,qB,hd⟩:=hV.EZ hv
  obtain⟨w2,es,O2,e1,e2,e3,Ra,UY⟩:=HC (fun b hb=>(aL b hb).lj iv) hs dI (h1 og iv) fP au ax aJ qB hd
  refine⟨_,w2,es,_,false,e1,e2,e3,?_⟩
  rw[if_neg (by simp)]
  exact ih og iv (l:=l.grow ae.heap.size w2.heap.size) (by rw[he];rfl) bP aJ Ra fun g' v' l' O' w' hf IE KE=>k g' v' l' O' w' hf IE (((Wn.EZ hv).trans UY).trans KE)
 |look ad x hg hl hx hr dI h ih=>
  intro l O w he bP aJ hV k
  refine Tr.stop hg bP fun G ae t fP au ax hv=>?_
  obtain⟨og,iv,qB,hd⟩:=hV.EZ hv
  obtain⟨es,e1,e2⟩:=H0 (iv.look hl) hx dI fP au ax aJ qB
  refine⟨_,ae,es,l,false,e1,hr,e2,?_⟩
  rw[if_neg (by simp)]
  exact ih og iv he bP aJ qB fun g' v' l' O' w' hf IE KE=>k g' v' l' O' w' hf IE ((Wn.EZ hv).trans KE)
 | @ext kd f args c cs v after R zM hx h ih=>
  intro l O w he bP aJ hV k
  refine hX kd f args c cs after (R v) l O w v zM (hx v (Itf.refl _)) he bP aJ hV fun y v2 l' O' w' hR Ra hW=>?_
  have el:=hW.eq
  refine ih v (Itf.refl _) y v2 hR (l:=l') (hW.base he) (by rw[el];exact bP) (by rw[el];exact aJ) Ra fun g' v' l2 O2 w2 hf IE KE=>k g' v' l2 O2 w2 hf IE (hW.trans KE)
theorem WC{g:Goroutine}(hX:ExtOk E N i l)(cb: ∀kd f args c cs,g=Conc.G (Frame.enter E.P f args kd) (c::cs)->∀v R,¬aG.x E.P (i==0) kd f args v R)(hg:Bb g)(bP:l.ch= .no)(aJ:l.rel=none)
  (h: ∀G ae t,GI E G ae t->(G.th i).af=true->G.th i=l->View l.ai w ae->∃O v Fin,Iv E.P (i==0) Fin g v/\VL E l O ae v/\(∀v',¬Fin g v')/\
   ∀g' v' l' O' w',Fin g' v'->VL E l' O' w' v'->Wn l l' O O' ae w'->Tr E N i l' g' w'):Tr E N i l g w:=by
 refine Tr.stop hg bP fun G ae t fP au ax hv=>?_
 obtain⟨O,v,Fin,hI,hV,hnf,k⟩:=h G ae t fP au ax hv
 obtain⟨og,iv,qB,hd⟩:=hV.EZ (View.refl _ _)
 cases hI with
 |fin h=>exact absurd (h _ (Itf.refl _)) (hnf _)
 |step s ok nx x v2 g2 hg aL hs dI h1 h2=>
  obtain⟨w2,es,O2,e1,e2,e3,Ra,UY⟩:=HC (fun b hb=>(aL b hb).lj iv) hs dI (h1 og iv) fP au ax aJ qB hd
  refine⟨_,w2,es,_,false,e1,e2,e3,?_⟩
  rw[if_neg (by simp)]
  exact lift hX (h2 og iv) (l:=l.grow ae.heap.size w2.heap.size) rfl bP aJ Ra fun g' v' l' O' w' hf IE KE=>k g' v' l' O' w' hf IE (UY.trans KE)
 |look ad x hg hl hx hr dI h=>
  obtain⟨es,e1,e2⟩:=H0 (iv.look hl) hx dI fP au ax aJ qB
  refine⟨_,ae,es,l,false,e1,hr,e2,?_⟩
  rw[if_neg (by simp)]
  exact lift hX (h og iv) rfl bP aJ qB fun g' v' l' O' w' hf IE KE=>k g' v' l' O' w' hf IE KE
 | @ext kd f args c cs v after R zM hx h=>exact absurd (hx v (Itf.refl _)) (cb kd f args c cs rfl _ _)
end
end Go.SE

namespace Go.SE
open Go Go.RowKit
theorem bz.same{ρ:aZ}{w w':World}{h:Nat}{r:bd}(hr:bz ρ w h r)(hb:(ρ h).nil=false->r.af=true->w'.heap[(ρ h).blk]?=w.heap[(ρ h).blk]?)(hs:w.heap.size<=w'.heap.size):bz ρ w' h r:=by
 cases r with
 |box cells sz e=>
  obtain⟨h1,h2,h3,ys,h4,h5⟩:=hr
  exact⟨h1,h2,h3,ys,(hb h1 rfl).trans h4,h5⟩
 |row xs sz e ai=>
  cases ai with
  |true=>
   obtain⟨h1,h2,h3|⟨h3,h4,ys,h5,h6⟩⟩:=hr
   ·exact⟨h1,h2,.inl h3⟩
   exact⟨h1,h2,.inr ⟨h3,h4,ys,(hb h3 rfl).trans h5,h6⟩⟩
  |false=>
   obtain⟨h1,h2,h3|⟨h3,h6⟩⟩:=hr
   ·exact⟨h1,h2,.inl h3⟩
   refine⟨h1,h2,.inr ⟨h3,fun i x hx=>?_⟩⟩
   rw[<-h6 i x hx]
   refine World.cell?_of_block (w:=w) (hb h3 ?_)
   cases xs with
   |nil=>simp at hx
   |cons y l=>rfl
 |obj o=>exact⟨hr.1,(hb hr.1 rfl).trans hr.2.1,hr.2.2⟩
 |loop nt env ps a b st pe hd=>obtain⟨h1,r,h2,h3⟩:=hr;exact⟨h1,r,(hb h1 rfl).trans h2,h3⟩
 |fR cells sz e=>obtain⟨h1,h2,h3,ys,zs,h4,h5⟩:=hr;exact⟨h1,h2,h3,ys,zs,(hb h1 rfl).trans h4,h5⟩
 |slot mh key val=>obtain⟨h1,h2,es,c,h3,h4⟩:=hr;exact⟨h1,h2,es,c,(hb h1 rfl).trans h3,h4⟩
 |iter mh a b c=>exact⟨hr.1,(hb hr.1.1 rfl).trans hr.2⟩
 |gone=>trivial
theorem bz.lt{ρ:aZ}{w:World}{h:Nat}{r:bd}(hr:bz ρ w h r)(hn:(ρ h).nil=false)(hl:r.af=true):(ρ h).blk<w.heap.size:=by
 cases r with
 |box cells sz e=>obtain⟨h1,h2,h3,ys,h4,h5⟩:=hr;exact(Array.getElem?_eq_some_iff.1 h4).1
 |row xs sz e ai=>
  cases ai with
  |true=>
   obtain⟨h1,h2,h3|⟨h3,h4,ys,h5,h6⟩⟩:=hr
   ·simp[h3.1]at hn
   exact(Array.getElem?_eq_some_iff.1 h5).1
  |false=>
   obtain⟨h1,h2,h3|⟨h3,h6⟩⟩:=hr
   ·simp[h3.1]at hn
   cases xs with
   |nil=>simp[bd.af]at hl
   |cons y l=>exact World.block_lt_of_cell? w ⟨(ρ h).blk,(ρ h).base+0,none⟩ (h6 0 y rfl)
 |obj o=>exact(Array.getElem?_eq_some_iff.1 hr.2.1).1
 |loop nt env ps a b st pe hd=>obtain⟨h1,r,h2,h3⟩:=hr;exact(Array.getElem?_eq_some_iff.1 h2).1
 |fR cells sz e=>obtain⟨h1,h2,h3,ys,zs,h4,h5⟩:=hr;exact(Array.getElem?_eq_some_iff.1 h4).1
 |slot mh key val=>obtain⟨h1,h2,es,c,h3,h4⟩:=hr;exact(Array.getElem?_eq_some_iff.1 h3).1
 |iter mh a b c=>exact(Array.getElem?_eq_some_iff.1 hr.2).1
 |gone=>cases hl
theorem bz.alloc{ρ:aZ}{w:World}{h:Nat}{r:bd}(o:Obj)(hr:bz ρ w h r):bz ρ (w.alloc o) h r:=
 hr.same (fun hn hl=>Below.heap_alloc _ _ _ (hr.lt hn hl)) (by simp)
theorem alloc_heap_new(w:World)(o:Obj):(w.alloc o).heap[w.heap.size]?=some o:=World.alloc_heap_new w o
theorem uq{r r':bd}(h:gR r r'=false):gR r' r=false:=by
 cases r<;>cases r'<;>first|rfl|(simp only[gR,Bool.not_eq_false',beq_iff_eq]at h ⊢;exact h.symm)
theorem bd.dp{r:bd}(h:r.ai=true):r.af=true:=by
 cases r<;>first|rfl|(cases h;rfl)|(cases h;done)
theorem kh.new{P:Program}{B:Nat}{w0:World}{ρ:aZ}{m:M}{w:World}{o:Obj}{r:bd}{k:Nat}(h:kh P B w0 ρ m w)(hb:(ρ m.nh).blk=w.heap.size)(hr:bz ρ (w.alloc o) m.nh r):
  kh P B w0 ρ (m.app {val:=.uL,aj:= [(m.nh,r)],nh:=k}) (w.alloc o):=by
 have bn: ∀h' r',(m.app {val:=.uL,aj:= [(m.nh,r)],nh:=k}).reg h'=some r'->(h'=m.nh/\r'=r)\/(h'≠m.nh/\m.reg h'=some r'):=by
  intro h' r' hh
  rw[lD]at hh
  simp only[aK,cond_eq_ite]at hh
  split at hh
  ·rename_i he
   have:=Nat.eq_of_beq_eq_true he
   simp at hh
   exact .inl ⟨this.symm,hh.symm⟩
  rename_i he
  simp at hh
  exact .inr ⟨fun e=>he (by rw[e];exact Nat.beq_refl _),hh⟩
 have IF:B<=w.heap.size:=Nat.le_trans h.hB h.below.size
 refine⟨?_,?_,?_,h.below.alloc IF o,h.hB⟩
 ·intro h' r' hh
  rcases bn h' r' hh with⟨rfl,rfl⟩|⟨_,hh⟩
  ·exact hr
  exact(h.aj _ _ hh).alloc o
 ·intro h1 h2 r1 r2 e1 e2 cb ht ho hl n1 n2
  rcases bn _ _ e1 with⟨rfl,rfl⟩|⟨g1,f1⟩<;>rcases bn _ _ e2 with⟨rfl,rfl⟩|⟨g2,f2⟩
  ·exact absurd rfl cb
  ·have:=(h.aj _ _ f2).lt n2 hl;omega
  ·have:=(h.aj _ _ f1).lt n1 (bd.dp ho);omega
  exact h.fG _ _ _ _ f1 f2 cb ht ho hl n1 n2
 intro h' r' hh ho hn
 rcases bn h' r' hh with⟨rfl,rfl⟩|⟨_,hh⟩
 ·omega
 exact h.base _ _ hh ho hn
def upd(ρ:aZ)(h:Nat)(L:Loc):aZ:=fun k=>if k=h then L else ρ k
theorem upd_same(ρ:aZ)(h:Nat)(L:Loc):upd ρ h L h=L:=by simp[upd]
theorem dN{D:Nat->Prop}(ρ:aZ){h:Nat}(L:Loc)(hd: ¬D h):an D ρ (upd ρ h L):=fun k hk=>by
 unfold upd;rw[if_neg];rintro rfl;exact hd hk
theorem xN{P:Program}{o:Oper}{env:Env}{m:M}{x:X}{cells:List S}{e:TypeId}(cap sz:Nat)(ZQ:cap*sz=cells.length)(ZE:sz≠0->cap<=maxLen)
  (h: ∀ (B:Nat) (w0:World) (ρ:aZ) (a:Act) (w:World),cq ρ env a->kh P B w0 ρ m w->∃y ys,(execOp a.eval o).run P w= .ok (.value y) (w.alloc (.cells (List.toArray ys) e (0,0)))/\bt ρ cells ys/\
   (ρ m.nh=⟨w.heap.size,0,cap,sz,false⟩->x.Rel ρ y)):
  dj P o env m {val:=x,aj:= [(m.nh,.box cells sz e)],nh:=m.nh+1}:=by
 refine⟨Nat.le_succ _,fun nt B w0 D ρ a w hD aL=>?_⟩
 obtain⟨y,ys,hy,_,_⟩:=h B w0 ρ a w (aL.env ρ (an.refl _ _)) (aL.mem ρ (an.refl _ _))
 have GP: ¬D m.nh:=hD m.nh ⟨Nat.le_refl _,Nat.lt_succ_self _⟩
 refine⟨y,_,upd ρ m.nh ⟨w.heap.size,0,cap,sz,false⟩,.inl hy,dN ρ _ GP,fun ρ'' aU=>?_⟩
 have hL:ρ'' m.nh=⟨w.heap.size,0,cap,sz,false⟩:=(aU m.nh (.inr ⟨Nat.le_refl _,Nat.lt_succ_self _⟩)).trans (upd_same _ _ _)
 have cW:an D ρ ρ'':=fun k hk=>(aU k (.inl hk)).trans (dN ρ _ GP k hk)
 have hm:=aL.mem ρ'' cW
 obtain⟨y',ys',pQ,hl,hx⟩:=h B w0 ρ'' a w (aL.env ρ'' cW) hm
 rw[hy]at pQ
 simp only[Result.ok.injEq,Next.value.injEq]at pQ
 obtain⟨rfl,hw⟩:=pQ
 have lW:ys=ys':=by
  have h1:=alloc_heap_new w (.cells ys.toArray e (0,0))
  rw[hw,alloc_heap_new]at h1
  simp at h1
  exact h1.symm
 subst lW
 refine⟨?_,hx hL⟩
 exact hm.new (r:=.box cells sz e) (k:=m.nh+1) (by rw[hL]) ⟨by rw[hL],by rw[hL],⟨by rw[hL],by rw[hL];exact ZQ,by rw[hL];exact ZE⟩,ys,by rw[hL];exact alloc_heap_new _ _,hl⟩
theorem T.Rel.cells{ρ:aZ}{t:T}{y:Value}(h:t.Rel ρ y):bt ρ t.cells y.cells.toList:=by
 cases t with
 |one s=>
  have h1:y.oneCell'=true:=S.Rel.one h
  cases y<;>first|(simp[Value.oneCell']at h1;done)|exact⟨h,trivial⟩
 |agg l=>obtain⟨ys,rfl,hl⟩:=h;exact hl
theorem T.Rel.nF{ρ:aZ}{t:T}{y:Value}(h:t.Rel ρ y):y.cells.size=t.cells.length:=by
 have:=h.cells.length;simp at this;exact this.symm
theorem TH{P:Program}{o:Oper}{env:Env}{m:M}{e:TypeId}{x:Operand}{t:T}(ho:o.op= .box e x)(hx:nU env x=some t)(NQ:t.cells.length<=16777216):
  dj P o env m {val:=.t (.one (.ptr m.nh 0)),aj:= [(m.nh,.box t.cells 1 e)],nh:=m.nh+1}:=by
 refine xN t.cells.length 1 (by simp) (fun _=>by simp only[maxLen];omega) fun B w0 ρ a w he hm=>?_
 have h1:=cM he hx
 refine⟨.pointer (some ⟨w.heap.size,0,none⟩),(a.eval x).cells.toList,?_,h1.cells,fun hL=>?_⟩
 ·simp[execOp,ho,Instr.box,newVar,newRow]
 simp[X.Rel,T.Rel,S.Rel,aB,hL]
theorem qN{P:Program}{t:TypeId}{z:Value}{i:TypeInfo}(h:P.info? t=some i)(hz:i.zero=some z)(w:World):(zeroValue t).run P w= .ok z w:=by
 simp[zeroValue,typeInfo,h,hz]
theorem iH{P:Program}{t:TypeId}{x:T}(h:nV P t=some x): ∃z,(∀w,(zeroValue t).run P w= .ok z w)/\ofValue z=some x:=by
 unfold nV at h
 split at h
 ·rename_i z hz
  cases hi:P.info? t with
  |none=>simp[hi]at hz
  |some i=>simp[hi]at hz;exact⟨z,fun w=>qN hi hz w,h⟩
 cases h
theorem NF{P:Program}{o:Oper}{env:Env}{m:M}{e:TypeId}{t:T}(ho:o.op= .alloc e)(hx:nV P e=some t)(NQ:t.cells.length<=16777216):
  dj P o env m {val:=.t (.one (.ptr m.nh 0)),aj:= [(m.nh,.box t.cells 1 e)],nh:=m.nh+1}:=by
 obtain⟨z,hz,hv⟩:=iH hx
 refine xN t.cells.length 1 (by simp) (fun _=>by simp only[maxLen];omega) fun B w0 ρ a w he hm=>?_
 have h1:t.Rel ρ z:=eG hv
 refine⟨.pointer (some ⟨w.heap.size,0,none⟩),z.cells.toList,?_,h1.cells,fun hL=>?_⟩
 ·simp[execOp,ho,Instr.alloc,hz,newVar,newRow]
 simp[X.Rel,T.Rel,S.Rel,aB,hL]
end Go.SE

namespace Go.SE
open Go Go.RowKit
structure dc(g:Nat)(w w':World):Prop where
 os:w'.os=w.os
 tape:w'.tape=w.tape
 output:w'.output=w.output
 size:w'.heap.size=w.heap.size
 block: ∀k,k≠g->w'.heap[k]?=w.heap[k]?
theorem dc.refl(g:Nat)(w:World):dc g w w:=⟨rfl,rfl,rfl,rfl,fun _ _=>rfl⟩
theorem dc.trans{g:Nat}{a b c:World}(h:dc g a b)(k:dc g b c):dc g a c:=
 ⟨k.os.trans h.os,k.tape.trans h.tape,k.output.trans h.output,k.size.trans h.size,fun i hi=>(k.block i hi).trans (h.block i hi)⟩
theorem dc.setCell(w:World)(a:Addr)(v:Value):dc a.block w (w.setCell a v):=⟨rfl,rfl,rfl,by simp,fun _ hk=>Below.heap_setCell _ _ _ _ hk⟩
theorem dc.below{g B:Nat}{w w':World}(h:dc g w w')(hB:B<=g):Below B w w':=
 ⟨h.os,h.tape,h.output,Nat.le_of_eq h.size.symm,fun k hk=>h.block k (by omega)⟩
theorem heap_setCell_same{w:World}{g o:Nat}{ys:List Value}{e:TypeId}{fz:Nat×Nat}(v:Value)(h:w.heap[g]?=some (.cells ys.toArray e fz)):
  (w.setCell ⟨g,o,none⟩ v).heap[g]?=some (.cells (ys.set o v).toArray e fz):=by
 simp[World.setCell,Array.getElem?_modify,h]
theorem gB{P:Program}(g o:Nat)(e:TypeId): ∀ (vs:List Value) (i:Nat) (cur:List Value) (w:World),w.heap[g]?=some (.cells cur.toArray e (0,0))->o+i+vs.length<=cur.length->
  (∀v∈vs,v.oneCell'=true)->∃w',(storeCells ⟨g,o,none⟩ vs i).run P w= .ok () w'/\w'.heap[g]?=some (.cells (bc cur (o+i) vs).toArray e (0,0))/\dc g w w'
 | [],i,cur,w,h,_,_=>⟨w,rfl,by rw[gM];exact h,dc.refl _ _⟩
 |v::vs,i,cur,w,h,hl,ho=>by
  simp only[List.length_cons]at hl
  have hc:w.cell? ⟨g,o+i,none⟩=some (cur[o+i]'(by omega)):=by simp[World.cell?,h]
  have hf:w.frozen? ⟨g,o+i,none⟩=false:=by simp[World.frozen?,h]
  have h1:(store ((⟨g,o,none⟩:Addr).add i) v).run P w= .ok () (w.setCell ⟨g,o+i,none⟩ v):=by
   rw[cN,run_store P w _ v _ (ho v (by simp)),hc]
   simp[hf]
  obtain⟨w',h2,h3,h4⟩:=gB (P:=P) g o e vs (i+1) (cur.set (o+i) v) (w.setCell ⟨g,o+i,none⟩ v) (heap_setCell_same v h) (by simp;omega) (fun x hx=>ho x (by simp[hx]))
  refine⟨w',?_,?_,(dc.setCell w ⟨g,o+i,none⟩ v).trans h4⟩
  ·simp only[storeCells,Sem.run_bind]
   rw[h1]
   simpa using h2
  rw[jS];exact h3
theorem kh.write{P:Program}{B:Nat}{w0:World}{ρ:aZ}{m:M}{w w':World}{r r':bd}{h k:Nat}(hm:kh P B w0 ρ m w)(hr:m.reg h=some r)(ho:r.ai=true)
  (hn:(ρ h).nil=false) (hs:dc (ρ h).blk w w') (lX:bz ρ w' h r') (x:X) (Of:(∀z,gR r z=false)/\∀z,gR r' z=false):
  kh P B w0 ρ (m.app {val:=x,aj:= [(h,r')],nh:=k}) w':=by
 have bn: ∀h2 r2,(m.app {val:=x,aj:= [(h,r')],nh:=k}).reg h2=some r2->(h2=h/\r2=r')\/(h2≠h/\m.reg h2=some r2):=by
  intro h2 r2 hh
  rw[lD]at hh
  simp only[aK,cond_eq_ite]at hh
  split at hh
  ·rename_i he
   have:=Nat.eq_of_beq_eq_true he
   simp at hh
   exact .inl ⟨this.symm,hh.symm⟩
  rename_i he
  simp at hh
  exact .inr ⟨fun e=>he (by rw[e];exact Nat.beq_refl _),hh⟩
 refine⟨?_,?_,?_,hm.below.trans (hs.below (hm.base _ _ hr ho hn)),hm.hB⟩
 ·intro h2 r2 hh
  rcases bn h2 r2 hh with⟨rfl,rfl⟩|⟨cb,hh⟩
  ·exact lX
  exact(hm.aj _ _ hh).same (fun n2 l2=>hs.block _ (fun e=>hm.fG _ _ _ _ hr hh (Ne.symm cb) (Of.1 _) ho l2 hn n2 e.symm)) (Nat.le_of_eq hs.size.symm)
 ·intro h1 h2 r1 r2 e1 e2 cb ht Ux hl n1 n2
  rcases bn _ _ e1 with⟨rfl,rfl⟩|⟨g1,f1⟩<;>rcases bn _ _ e2 with⟨rfl,rfl⟩|⟨g2,f2⟩
  ·exact absurd rfl cb
  ·exact hm.fG _ _ _ _ hr f2 cb (Of.1 _) ho hl n1 n2
  ·exact hm.fG _ _ _ _ f1 hr cb (uq (Of.1 _)) Ux (bd.dp ho) n1 n2
  exact hm.fG _ _ _ _ f1 f2 cb ht Ux hl n1 n2
 intro h2 r2 hh Cx n2
 rcases bn h2 r2 hh with⟨rfl,rfl⟩|⟨_,hh⟩
 ·exact hm.base _ _ hr ho n2
 exact hm.base _ _ hh Cx n2
theorem rB{P:Program}{o:Oper}{env:Env}{m:M}{h:Nat}{r r':bd}(hr:m.reg h=some r)(ho:r.ai=true)(Of:(∀z,gR r z=false)/\∀z,gR r' z=false)
  (hx: ∀ (B:Nat) (w0:World) (ρ:aZ) (a:Act) (w:World),cq ρ env a->kh P B w0 ρ m w->∃w',(execOp a.eval o).run P w= .ok .skip w'/\(ρ h).nil=false/\dc (ρ h).blk w w'/\bz ρ w' h r'):
  dj P o env m {val:=.uL,aj:= [(h,r')],nh:=m.nh}:=by
 refine⟨Nat.le_refl _,fun nt B w0 D ρ a w _ aL=>?_⟩
 obtain⟨w',hy,_⟩:=hx B w0 ρ a w (aL.env ρ (an.refl _ _)) (aL.mem ρ (an.refl _ _))
 refine⟨undef,w',ρ,.inr ⟨rfl,hy⟩,an.refl _ _,fun ρ'' aU=>?_⟩
 have cW:an D ρ ρ'':=aU.mono fun h hd=>.inl hd
 have hm:=aL.mem ρ'' cW
 obtain⟨GL,pQ,hn,hs,bn⟩:=hx B w0 ρ'' a w (aL.env ρ'' cW) hm
 rw[hy]at pQ
 cases pQ
 exact⟨hm.write hr ho hn hs bn .uL Of,trivial⟩
theorem S.bV{ρ:aZ}{s:S}{y:Value}{k:IntKind}{i:Int}{kn:Bool}(hs:s.int?=some (k,i,kn))(h:s.Rel ρ y):y= .int k i:=by
 cases s<;>simp[S.int?]at hs
 case v v=>cases v<;>simp at hs;obtain⟨rfl,rfl,rfl⟩:=hs;exact h.1
 case n=>obtain⟨rfl,rfl,rfl⟩:=hs;exact h
end Go.SE

namespace Go.SE
open Go Go.RowKit
theorem Ik{P:Program}{o:Oper}{env:Env}{m:M}{t t2:TypeId}{x:Operand}{sx s:S}{k k0 kd:IntKind}{i r:Int}{kx:Bool}
  (ho:o.op= .convert t t2 x) (hx:cJ env x=some sx) (pR:sx.int?=some (k,i,kx)) (h1:P.underlying t=some (.int k0)) (h2:P.underlying t2=some (.int kd))
  (hr:kd.wrap i=r) (hs:s= .n kd r\/s= .v (.int kd r)):dj P o env m {val:=.t (.one s),aj:= [],nh:=m.nh}:=by
 refine aH fun B w0 ρ a w he hm=>?_
 have Kc:=S.bV pR (aA he hx)
 refine⟨.int kd r,?_,?_⟩
 ·simp[execOp,ho,Kc,convert,run_underlying h1,run_underlying h2,Conv.intToInt,hr]
 rcases hs with rfl|rfl
 ·rfl
 exact⟨rfl,rfl⟩
theorem Fx{P:Program}{o:Oper}{env:Env}{m:M}{t:TypeId}{x:Operand}{sx s:S}{b:Bool}
  (ho:o.op= .unOp .not t x) (hx:cJ env x=some sx) (hb:sx= .b b\/sx= .v (.bool b)) (hs:s= .b (!b)\/s= .v (.bool (!b))):dj P o env m {val:=.t (.one s),aj:= [],nh:=m.nh}:=by
 refine aH fun B w0 ρ a w he hm=>?_
 have Kc:=aA he hx
 have Uu:a.eval x= .bool b:=by
  rcases hb with rfl|rfl
  ·exact Kc
  exact Kc.1
 refine⟨.bool (!b),?_,?_⟩
 ·simp[execOp,ho,Uu,Op.unary]
 rcases hs with rfl|rfl
 ·rfl
 exact⟨rfl,rfl⟩
theorem xL{ρ:aZ}{env:Env}{a:Act}(he:cq ρ env a): ∀ {l:List Operand} {ps:List (Nat×Nat)},AZ l env=some ps->l.map a.eval=ps.map fun p=>aB ρ p.1 p.2
 | [],ps,h=>by simp[AZ]at h;subst h;rfl
 |o::l,ps,h=>by
  simp only[AZ]at h
  split at h
  ·rename_i h' k' l' h1 h2
   cases h
   have:=aA he h1
   simp only[S.Rel]at this
   simp[this,xL he h2]
  cases h
theorem Er{P:Program}{o:Oper}{env:Env}{m:M}{f:FuncId}{cz:Array Operand}{ps:List (Nat×Nat)}
  (ho:o.op= .makeFunc (.func f) #[] cz) (hc:AZ cz.toList env=some ps):dj P o env m {val:=.t (.one (.fn f ps)),aj:= [],nh:=m.nh}:=by
 refine aH fun B w0 ρ a w he hm=>?_
 refine⟨_,?_,rfl⟩
 have:=xL he hc
 have h2:cz.map a.eval=(ps.map fun p=>aB ρ p.1 p.2).toArray:=by
  rw[<-this,<-Array.toList_map,Array.toArray_toList]
 simp[execOp,ho,Instr.makeFunc,h2]
theorem GA{P:Program}{o:Oper}{env:Env}{m:M}{i:Nat}{x:Operand}{l:List T}{t:T}
  (ho:o.op= .extract x i) (hx:ev env x=some (.lv l)) (hl:l[i]?=some t):dj P o env m {val:=.t t,aj:= [],nh:=m.nh}:=by
 refine aH fun B w0 ρ a w he hm=>?_
 obtain⟨ys,h1,h2⟩:=lN he hx
 obtain⟨y,h3,h4⟩:=h2.get hl
 refine⟨y,?_,h4⟩
 simp[execOp,ho,h1,Instr.extract,h3]
theorem qS: ∀ (vs:List Value) (cur:List Value) (off k:Nat),((vs.zipIdx k).foldl (fun cs (p:Value×Nat)=>cs.setIfInBounds (off+p.2) p.1) cur.toArray)=(bc cur (off+k) vs).toArray
 | [],cur,off,k=>by simp[gM]
 |v::vs,cur,off,k=>by
  rw[List.zipIdx_cons,List.foldl_cons,jS]
  have:=qS vs (cur.set (off+k) v) off (k+1)
  simpa [Nat.add_assoc]using this
theorem lO{ρ:aZ}{env:Env}{a:Act}(he:cq ρ env a): ∀ {l:List (Nat×Operand)} {ts:List (Nat×T)},gp env l=some ts->
  ∃vs:List (Nat×Value),l.map (fun p=>(p.1,a.eval p.2))=vs/\vs.length=ts.length/\∀ (i:Nat) (p:Nat×T) (q:Nat×Value),ts[i]?=some p->vs[i]?=some q->p.1=q.1/\p.2.Rel ρ q.2
 | [],ts,h=>by simp[gp]at h;subst h;exact⟨[],rfl,rfl,fun i p q hp=>by simp at hp⟩
 |(j,o)::l,ts,h=>by
  simp only[gp]at h
  split at h
  ·rename_i t ts' h1 h2
   cases h
   obtain⟨vs,g1,g2,g3⟩:=lO he h2
   refine⟨(j,a.eval o)::vs,by simp[g1],by simp[g2],fun i p q hp hq=>?_⟩
   cases i with
   |zero=>simp at hp hq;subst hp hq;exact⟨rfl,cM he h1⟩
   |succ i=>exact g3 i p q (by simpa using hp) (by simpa using hq)
  cases h
theorem qf{ρ:aZ}{place:Nat->Option (Nat×Nat)}: ∀ {ts:List (Nat×T)} {vs:List (Nat×Value)} {cells cs:List S} {ys:List Value},vs.length=ts.length->
  (∀ (i:Nat) (p:Nat×T) (q:Nat×Value),ts[i]?=some p->vs[i]?=some q->p.1=q.1/\p.2.Rel ρ q.2)->bt ρ cells ys->mB place cells ts=some cs->∃ys',Instr.fill place ys.toArray vs=some (List.toArray ys')/\bt ρ cs ys'
 | [],[],cells,cs,ys,_,_,hr,h=>by simp[mB]at h;subst h;exact⟨ys,rfl,hr⟩
 |(i,t)::ts,(j,v)::vs,cells,cs,ys,hl,hp,hr,h=>by
  obtain⟨h1,h2⟩:=hp 0 _ _ rfl rfl
  simp only at h1 h2
  subst h1
  simp only[mB]at h
  split at h
  ·cases h
  rename_i off size Yh
  simp only[cond_eq_ite,Bool.and_eq_true]at h
  split at h
  ·rename_i hc
   have c1:=Nat.eq_of_beq_eq_true hc.1
   have c2:=Nat.le_of_ble_eq_true hc.2
   have hs:=h2.nF
   have hlen:=hr.length
   obtain⟨ys',g1,g2⟩:=qf (ρ:=ρ) (place:=place) (vs:=vs) (by simpa using hl) (fun i p q a b=>hp (i+1) p q (by simpa using a) (by simpa using b)) (hr.setAt h2.cells off) h
   refine⟨ys',?_,g2⟩
   simp only[Instr.fill,Yh]
   rw[if_neg (by simp;omega)]
   have:=qS v.cells.toList ys off 0
   simp only[Nat.add_zero]at this
   rw[<-g1,<-this]
   congr 1
   rw[<-Array.foldl_toList]
   simp
  cases h
theorem vp{P:Program}(w:World): ∀ {l:List Field},pq P l=true->Sem.run P (l.mapM fun f=>do pure (f.offset,<-sizeOf f.type)) w= .ok (l.map fun f=>(f.offset,P.cellsOf f.type)) w
 | [],_=>rfl
 |f::l,h=>by
  simp only[pq,cond_eq_ite]at h
  split at h
  ·rename_i h1
   obtain⟨i,hi⟩:=Option.isSome_iff_exists.1 h1
   have ih:=vp (P:=P) w h
   rw[List.mapM_cons]
   simp only[Sem.run_bind,run_sizeOf w hi,Result.andThen_ok,Sem.run_pure,ih]
   rfl
  cases h
theorem v8{P:Program}{o:Oper}{env:Env}{m:M}{t:TypeId}{parts:Array (Nat×Operand)}{fields:Array Field}{z:T}{l:List (Nat×T)}{cs:List S}
  (ho:o.op= .build t parts) (hu:P.underlying t=some (.struct fields)) (hz:nV P t=some z) (hl:gp env parts.toList=some l) (hf:pq P fields.toList=true)
  (hc:mB (fun i=>(fields[i]?).map fun f=>(f.offset,P.cellsOf f.type)) z.cells l=some cs):dj P o env m {val:=.t (.agg cs),aj:= [],nh:=m.nh}:=by
 obtain⟨zv,Ut,Us⟩:=iH hz
 refine aH fun B w0 ρ a w he hm=>?_
 obtain⟨vs,h1,h2,h3⟩:=lO he hl
 have TZ:z.Rel ρ zv:=eG Us
 obtain⟨ys',h4,h5⟩:=qf h2 h3 TZ.cells hc
 refine⟨.agg ys'.toArray,?_,ys',rfl,h5⟩
 have P5:Sem.run P (fields.mapM fun f=>do pure (f.offset,<-sizeOf f.type)) w= .ok (fields.map fun f=>(f.offset,P.cellsOf f.type)) w:=by
  rw[Array.mapM_eq_mapM_toList]
  have:=vp (P:=P) w hf
  simp only[Sem.run_map,this,Result.andThen_ok]
  rw[<-Array.toList_map,Array.toArray_toList]
 have h6: ∀i:Nat,(fields.map fun(f:Field)=>(f.offset,P.cellsOf f.type))[i]?=(fields[i]?).map fun(f:Field)=>(f.offset,P.cellsOf f.type):=by
  intro i;simp
 have h7:(parts.map fun p=>(p.1,a.eval p.2)).toList=vs:=by rw[<-h1];simp
 simp only[Array.toArray_toList]at h4
 simp only[execOp,ho,Instr.build,Sem.run_bind,Ut,Result.andThen_ok,run_underlying hu,P5,h7]
 simp only[h6,h4]
 simp
theorem yU{P:Program}{o:Oper}{env:Env}{m:M}{t elem:TypeId}{n:Nat}{parts:Array (Nat×Operand)}{z:T}{l:List (Nat×T)}{cs:List S}
  (ho:o.op= .build t parts) (hu:P.underlying t=some (.array n elem)) (hz:nV P t=some z) (hl:gp env parts.toList=some l) (hf:(P.info? elem).isSome=true)
  (hc:mB (fun i=>some (i*P.cellsOf elem,P.cellsOf elem)) z.cells l=some cs):dj P o env m {val:=.t (.agg cs),aj:= [],nh:=m.nh}:=by
 obtain⟨zv,Ut,Us⟩:=iH hz
 obtain⟨ei,UN⟩:=Option.isSome_iff_exists.1 hf
 refine aH fun B w0 ρ a w he hm=>?_
 obtain⟨vs,h1,h2,h3⟩:=lO he hl
 have TZ:z.Rel ρ zv:=eG Us
 obtain⟨ys',h4,h5⟩:=qf h2 h3 TZ.cells hc
 refine⟨.agg ys'.toArray,?_,ys',rfl,h5⟩
 have h7:(parts.map fun p=>(p.1,a.eval p.2)).toList=vs:=by rw[<-h1];simp
 simp only[Array.toArray_toList]at h4
 simp only[execOp,ho,Instr.build,Sem.run_bind,Ut,Result.andThen_ok,run_underlying hu,run_sizeOf w UN,h7]
 simp[h4]
theorem Ge(z:List S)(n:Nat):(rep z n).length=n*z.length:=by
 induction n with
 |zero=>simp[rep]
 |succ n ih=>simp[rep,ih,Nat.succ_mul];omega
theorem Ab{ρ:aZ}{z:List S}{ys:List Value}(h:bt ρ z ys): ∀n,bt ρ (rep z n) ((List.range (n*ys.length)).map fun i=>ys.toArray[i%ys.length]!)
 |0=>by simp[rep,bt]
 |n+1=>by
  have ih:=Ab h n
  have e1:(List.range ((n+1)*ys.length)).map (fun i=>ys.toArray[i%ys.length]!)=ys++(List.range (n*ys.length)).map fun i=>ys.toArray[i%ys.length]!:=by
   rw[Nat.succ_mul,Nat.add_comm,List.range_add,List.map_append]
   congr 1
   ·apply List.ext_getElem
    ·simp
    intro i h1 h2
    have:i<ys.length:=by simpa using h1
    simp[Nat.mod_eq_of_lt this,this]
   simp[Function.comp_def]
  rw[e1,rep]
  exact h.append ih
theorem zJ{P:Program}{o:Oper}{env:Env}{m:M}{t elem:TypeId}{len:Nat}{parts:Array (Nat×Operand)}{z:T}{l:List (Nat×T)}{cs:List S}
  (ho:o.op= .buildSlice t len parts) (hu:P.underlying t=some (.slice elem)) (hz:nV P elem=some z) (hl:gp env parts.toList=some l) (Q2:z.cells.length=P.cellsOf elem) (hb:len*P.cellsOf elem<=16777216)
  (hc:mB (fun i=>some (i*P.cellsOf elem,P.cellsOf elem)) (rep z.cells len) l=some cs):
  dj P o env m {val:=.t (.one (.sl m.nh 0 len)),aj:= [(m.nh,.box cs (P.cellsOf elem) elem)],nh:=m.nh+1}:=by
 obtain⟨zv,Ut,Us⟩:=iH hz
 have wM: ∃i,P.info? elem=some i:=by
  unfold nV at hz
  cases hi:P.info? elem with
  |none=>simp[hi]at hz
  |some i=>exact⟨i,rfl⟩
 obtain⟨ei,UN⟩:=wM
 have hlen: ∀ {ts:List (Nat×T)} {cells cs:List S} {pl:Nat->Option (Nat×Nat)},mB pl cells ts=some cs->(∀a b:List S,∀o,(setAt a o b).length=a.length)->cs.length=cells.length:=by
  intro ts
  induction ts with
  |nil=>intro cells cs pl h _;simp[mB]at h;rw[h]
  |cons p ts ih=>
   intro cells cs pl h hs
   obtain⟨i,t⟩:=p
   simp only[mB]at h
   split at h
   ·cases h
   simp only[cond_eq_ite]at h
   split at h
   ·rw[ih h hs,hs]
   cases h
 have Yc: ∀a b:List S,∀o,(setAt a o b).length=a.length:=by
  intro a
  induction a with
  |nil=>intro b o;cases b<;>cases o<;>simp[setAt]
  |cons x a ih=>intro b o;cases b<;>cases o<;>simp[setAt,ih]
 have dt:cs.length=len*P.cellsOf elem:=by rw[hlen hc Yc,Ge,Q2]
 refine xN len (P.cellsOf elem) (by omega) (fun cb=>by have:len*1<=len*P.cellsOf elem:=Nat.mul_le_mul_left _ (by omega);simp only[maxLen];omega) fun B w0 ρ a w he hm=>?_
 obtain⟨vs,h1,h2,h3⟩:=lO he hl
 have TZ:z.Rel ρ zv:=eG Us
 have CF:=TZ.nF
 have Zq:=Ab TZ.cells len
 obtain⟨ys',h4,h5⟩:=qf h2 h3 Zq hc
 refine⟨.slice (some ⟨w.heap.size,0,none⟩) len len,ys',?_,h5,fun hL=>?_⟩
 ·have h7:(parts.map fun p=>(p.1,a.eval p.2)).toList=vs:=by rw[<-h1];simp
  simp only[execOp,ho,Instr.buildSlice,Sem.run_bind,run_underlying hu,Result.andThen_ok,run_sizeOf w UN,h7]
  rw[if_neg (by omega)]
  by_cases h0:len*P.cellsOf elem=0
  ·have e0:((List.range (len*zv.cells.toList.length)).map fun i=>zv.cells.toList.toArray[i%zv.cells.toList.length]!)= []:=by
    have e4:len*zv.cells.toList.length=0:=by rw[Array.length_toList,CF,Q2];exact h0
    rw[e4];rfl
   rw[e0]at h4
   simp only[h0, ↓reduceIte,Sem.run_bind,Sem.run_pure,Result.andThen_ok]
   have e1:(Array.map (fun x=>(#[]:Array Value)[x%(#[]:Array Value).size]!) (Array.range 0))= [].toArray:=by simp
   rw[e1,h4]
   simp[newRow]
  simp only[h0, ↓reduceIte,Ut,Sem.run_bind,Sem.run_pure,Result.andThen_ok]
  have e1:(Array.map (fun x=>zv.cells[x%zv.cells.size]!) (Array.range (len*P.cellsOf elem)))=((List.range (len*zv.cells.toList.length)).map fun i=>zv.cells.toList.toArray[i%zv.cells.toList.length]!).toArray:=by
   have e2:zv.cells.toList.length=P.cellsOf elem:=by simp[CF,Q2]
   have e3:zv.cells.size=P.cellsOf elem:=by rw[CF,Q2]
   rw[e2,e3,Array.toArray_toList]
   apply Array.ext'
   simp
  rw[e1,h4]
  simp[newRow]
 refine .inr ⟨by rw[hL],by rw[hL];simp,⟨w.heap.size,0,none⟩,by rw[hL];simp,fun _=>by rw[hL];simp⟩
end Go.SE

namespace Go.SE
open Go Go.RowKit
def cI(sz:Nat):Value->Loc
 |.slice (some a) _ cap=>⟨a.block,a.off,cap,sz,false⟩
 |_=>⟨0,0,0,sz,true⟩
def mC(L:Loc)(w:World)(xs:List Value)(sz:Nat)(e:TypeId):Prop:=
 L.sz=sz/\(∀x∈xs,x.oneCell'=true)/\((L.nil=true/\L.cap=0/\xs= [])\/
   (L.nil=false/\L.base=0/\∃ys:List Value,w.heap[L.blk]?=some (.cells ys.toArray e (0,0))/\(ys.length=L.cap*sz/\L.cap<=maxLen)/\xs<+:ys))
theorem As{ρ:aZ}{w:World}{h:Nat}{xs:List Value}{sz:Nat}{e:TypeId}:bz ρ w h (.row xs sz e true)↔mC (ρ h) w xs sz e:=Iff.rfl
theorem yg{L:Loc}{w:World}{B:Nat}{xs:List Value}{sz n:Nat}{e:TypeId}{v:Value}(h:mC L w xs sz e)(hs:jL L 0 n v)(hl:xs.length=n*sz)(hB:L.nil=false->B<=L.blk):w.ownsRow B e sz v n xs:=by
 refine⟨hl,?_⟩
 rcases hs with⟨_,_,_,rfl,rfl⟩|⟨hn,hle,a,rfl,ha⟩
 ·exact .inl ⟨rfl,rfl⟩
 rw[ha (.inr rfl)]
 obtain⟨h1,h2,⟨h3,_⟩|⟨_,h4,ys,h5,⟨h6,h7⟩,h8⟩⟩:=h
 ·rw[h3]at hn;cases hn
 refine .inr ⟨L.blk,L.cap,ys.toArray,by simp[h4],hB hn,h5,by omega,h7,by simpa using h6,?_⟩
 obtain⟨zs,rfl⟩:=h8
 rw[<-hl];simp
theorem kS{w:World}{B:Nat}{xs:List Value}{sz n:Nat}{e:TypeId}{v:Value}(h:w.ownsRow B e sz v n xs)(h1: ∀x∈xs,x.oneCell'=true):mC (cI sz v) w xs sz e/\jL (cI sz v) 0 n v:=by
 obtain⟨hl,⟨rfl,rfl⟩|⟨g,cap,cur,rfl,hb,hg,CH,Yx,NV,Od⟩⟩:=h
 ·have:xs= []:=List.eq_nil_of_length_eq_zero (by simpa using hl)
  subst this
  exact⟨⟨rfl,h1,.inl ⟨rfl,rfl,rfl⟩⟩,.inl ⟨rfl,rfl,rfl,rfl,rfl⟩⟩
 refine⟨⟨rfl,h1,.inr ⟨rfl,rfl,cur.toList,by simpa [cI]using hg,⟨by simpa [cI]using NV,Yx⟩,?_⟩⟩,.inr ⟨rfl,by simpa [cI]using CH,_,rfl,fun _=>by simp[cI]⟩⟩
 rw[<-Od];exact List.take_prefix _ _
inductive xh(w:World)(sz:Nat):Value->Nat->List Value->Prop where
 |none:xh w sz (.slice none 0 0) 0 []
 |some (a:Addr) (m c:Nat) (news:List Value):news.length=m*sz->(∀j u,news[j]?=some u->w.cell? (a.add j)=some u)->(∀u∈news,u.oneCell'=true)->xh w sz (.slice (some a) m c) m news
theorem yI{P:Program}{w:World}{L:Loc}{xs:List Value}{sz n:Nat}{e t ty:TypeId}{i:TypeInfo}{z v x:Value}{m:Nat}{news:List Value}(ht:P.underlying t=some (.slice e))(hi:P.info? e=some i)(hz:i.zero=some z)
  (fY:i.size=sz) (CF:z.cells.size=sz) (e8:0<sz) (h:mC L w xs sz e) (hs:jL L 0 n v) (hl:xs.length=n*sz) (hx:xh w sz x m news) (GU:n+m<=maxLen) (GR:(n+m)*i.bytes<=140737488355328):
  ∃v' w',(Builtin.append_ #[t,t] ty #[v,x]).run P w= .ok v' w'/\mC (cI sz v') w' (xs++news) sz e/\jL (cI sz v') 0 (n+m) v'/\w.grownBy w' v.ownBlock/\
   ((cI sz v').nil=false->w.heap.size<=(cI sz v').blk\/(L.nil=false/\(cI sz v').blk=L.blk)):=by
 have aN:=yg (B:=0) h hs hl (fun _=>Nat.zero_le _)
 have dK:(∀u∈news,u.oneCell'=true)->∀u∈xs++news,u.oneCell'=true:=fun h1 u hu=>by
  rcases List.mem_append.1 hu with hu|hu
  ·exact h.2.1 u hu
  exact h1 u hu
 have fresh: ∀ {v':Value} {w':World} {ys:List Value} {k:Nat},w'.ownsRow w.heap.size e sz v' k ys->(cI sz v').nil=false->w.heap.size<=(cI sz v').blk:=by
  intro v' w' ys k ho hn
  rcases ho.2 with⟨rfl,_⟩|⟨g,cap,cur,rfl,hb,_⟩
  ·cases hn
  exact hb
 have il:v.ownBlock=none\/(L.nil=false/\v= .slice (some ⟨L.blk,0,none⟩) n L.cap/\n<=L.cap):=by
  rcases hs with⟨_,_,_,rfl,rfl⟩|⟨hn,hle,a,rfl,ha⟩
  ·exact .inl rfl
  refine .inr ⟨hn,?_,by omega⟩
  rw[ha (.inr rfl)]
  obtain⟨h1,h2,⟨h3,_⟩|⟨_,h4,ys,h5,⟨h6,h7⟩,h8⟩⟩:=h
  ·rw[h3]at hn;cases hn
  simp[h4]
 cases hx with
 |none=>
  refine⟨v,w,run_append_owned_none w 0 t ty e i sz ht hi v n xs aN,?_⟩
  obtain⟨g1,g2⟩:=kS aN h.2.1
  rw[List.append_nil,Nat.add_zero]
  refine⟨g1,g2,⟨rfl,rfl,rfl,Nat.le_refl _,fun _ _ _=>rfl⟩,fun hn=>.inr ?_⟩
  rcases il with h1|⟨h1,rfl,_⟩
  ·cases v with
   |slice ao nn cc=>
    cases ao with
    |none=>cases hn
    |some a=>cases h1
   |_=>cases hn
  exact⟨h1,rfl⟩
 |some a m c news EP zT h1=>
  rcases il with h2|⟨h2,rfl,h3⟩
  ·have hv:v= .slice none 0 0/\n=0:=by
    rcases aN.2 with h4|⟨g,cap,cur,rfl,_⟩
    ·exact h4
    cases h2
   obtain⟨rfl,rfl⟩:=hv
   obtain rfl:xs= []:=List.eq_nil_of_length_eq_zero (by simpa using hl)
   obtain⟨v',w',hr,ho,hg,_⟩:=run_append_own w w.heap.size t ty e i z sz i.bytes ht hi hz fY rfl CF e8 _ _ _ (World.ownsRow_nil w _ e sz) a m c news EP zT h1 GU GR (Nat.le_refl _)
   obtain⟨g1,g2⟩:=kS ho (dK h1)
   exact⟨v',w',hr,g1,g2,hg,fun hn=>.inl (fresh ho hn)⟩
  by_cases Hi:n+m<=L.cap
  ·obtain⟨w',hr,ho,hg⟩:=run_append_fits w 0 t ty e i sz ht hi fY L.blk n L.cap xs aN a m c news EP zT h1 Hi
   obtain⟨g1,g2⟩:=kS ho (dK h1)
   exact⟨_,w',hr,g1,g2,hg,fun hn=>.inr ⟨h2,rfl⟩⟩
  obtain⟨_,h4⟩:=aN
  have holds: ∀j u,xs[j]?=some u->w.cell? (Addr.add ⟨L.blk,0,none⟩ j)=some u:=by
   intro j u hj
   obtain⟨q1,q2,⟨q3,_⟩|⟨_,q4,ys,q5,⟨q6,q7⟩,zs,q8⟩⟩:=h
   ·rw[q3]at h2;cases h2
   have bA:=(List.getElem?_eq_some_iff.1 hj).1
   rw[cN]
   simp only[World.cell?,q5,Nat.zero_add]
   rw[<-q8]
   simp[List.getElem?_append_left bA,hj]
  obtain⟨v',w',hr,ho,hg⟩:=run_append_arg_grows (P:=P) w t ty e i z sz i.bytes ht hi hz fY rfl CF e8 ⟨L.blk,0,none⟩ n L.cap xs hl holds a m c news EP zT (by omega) GU GR
  obtain⟨g1,g2⟩:=kS ho (dK h1)
  exact⟨v',w',hr,g1,g2,⟨hg.os,hg.tape,hg.output,hg.size,fun k hk _=>hg.block k hk (by simp)⟩,fun hn=>.inl (fresh ho hn)⟩
theorem yq(ho:Option Nat)(k:Nat):aK (mY ho) k=if ho=some k then some .gone else none:=by
 cases ho with
 |none=>simp[mY,aK]
 |some h=>
  simp only[mY,aK,cond_eq_ite,Option.some.injEq]
  by_cases e:h=k
  ·subst e;simp
  rw[if_neg (fun hb=>e (Nat.eq_of_beq_eq_true hb)),if_neg e]
theorem Av{P:Program}{o:Oper}{env:Env}{m:M}{sz n:Nat}{e:TypeId}{r:List Value}(ho:Option Nat)(bn: ∀h,ho=some h->∃z,m.reg h=some z/\z.ai=true/\∀r,gR z r=false)
  (hx: ∀ (B:Nat) (w0:World) (ρ:aZ) (a:Act) (w:World),cq ρ env a->kh P B w0 ρ m w->∃y w' ob,(execOp a.eval o).run P w= .ok (.value y) w'/\mC (cI sz y) w' r sz e/\jL (cI sz y) 0 n y/\w.grownBy w' ob/\
   (∀k,ob=some k->∃h,ho=some h/\(ρ h).nil=false/\k=(ρ h).blk)/\((cI sz y).nil=false->w.heap.size<=(cI sz y).blk\/∃h,ho=some h/\(ρ h).nil=false/\(cI sz y).blk=(ρ h).blk)):
  dj P o env m {val:=.t (.one (.sl m.nh 0 n)),aj:=(m.nh,.row r sz e true)::mY ho,nh:=m.nh+1}:=by
 refine⟨Nat.le_succ _,fun nt B w0 D ρ a w hD aL=>?_⟩
 obtain⟨y,w',ob,hy,_⟩:=hx B w0 ρ a w (aL.env ρ (an.refl _ _)) (aL.mem ρ (an.refl _ _))
 have GP: ¬D m.nh:=hD m.nh ⟨Nat.le_refl _,Nat.lt_succ_self _⟩
 refine⟨y,w',upd ρ m.nh (cI sz y),.inl hy,dN ρ _ GP,fun ρ'' aU=>?_⟩
 have hL:ρ'' m.nh=cI sz y:=(aU m.nh (.inr ⟨Nat.le_refl _,Nat.lt_succ_self _⟩)).trans (upd_same _ _ _)
 have cW:an D ρ ρ'':=fun k hk=>(aU k (.inl hk)).trans (dN ρ _ GP k hk)
 have hm:=aL.mem ρ'' cW
 obtain⟨y',w2,ob,pQ,h1,h2,h3,h4,h5⟩:=hx B w0 ρ'' a w (aL.env ρ'' cW) hm
 rw[hy]at pQ
 cases pQ
 refine⟨?_,by show jL (ρ'' m.nh) 0 n y;rw[hL];exact h2⟩
 have IF:B<=w.heap.size:=Nat.le_trans hm.hB hm.below.size
 have fZ: ∀k z,(m.app {val:=.t (.one (.sl m.nh 0 n)),aj:=(m.nh,.row r sz e true)::mY ho,nh:=m.nh+1}).reg k=some z->
   (k=m.nh/\z= .row r sz e true)\/z= .gone\/(k≠m.nh/\m.reg k=some z/\∀h,ho=some h->k≠h):=by
  intro k z hz
  rw[lD]at hz
  simp only[aK,cond_eq_ite]at hz
  split at hz
  ·rename_i he
   simp at hz
   exact .inl ⟨(Nat.eq_of_beq_eq_true he).symm,hz.symm⟩
  rename_i he
  have cb:k≠m.nh:=fun e=>he (by rw[e];exact Nat.beq_refl _)
  rw[yq]at hz
  split at hz
  ·simp at hz;exact .inr (.inl hz.symm)
  rename_i he2
  simp at hz
  exact .inr (.inr ⟨cb,hz,fun h' e=>fun e'=>he2 (by rw[e,e'])⟩)
 have rl: ∀k z,m.reg k=some z->(∀h,ho=some h->k≠h)->z.af=true->(ρ'' k).nil=false->(ρ'' k).blk<w.heap.size/\some (ρ'' k).blk≠ob/\∀h,ho=some h->(ρ'' h).nil=false->(ρ'' k).blk≠(ρ'' h).blk:=by
  intro k z hz hk hl hn
  have hd: ∀h,ho=some h->(ρ'' h).nil=false->(ρ'' k).blk≠(ρ'' h).blk:=by
   intro h hh dY
   obtain⟨zh,g1,g2,g3⟩:=bn h hh
   exact(hm.fG _ _ _ _ g1 hz (fun e=>hk h hh e.symm) (g3 _) g2 hl dY hn).symm
  refine⟨(hm.aj _ _ hz).lt hn hl,fun CG=>?_,hd⟩
  obtain⟨h,g1,g2,g3⟩:=h4 _ CG.symm
  exact hd h g1 g2 g3
 refine⟨fun k z hz=>?_,fun k k' z z' hz rL cb ht aN hl hn oz=>?_,fun k z hz aN hn=>?_,hm.below.trans ⟨h3.os,h3.tape,h3.output,h3.size,fun k hk=>h3.block k (by omega) fun CG=>?_⟩,hm.hB⟩
 ·rcases fZ k z hz with⟨rfl,rfl⟩|rfl|⟨_,hz,hk⟩
  ·exact As.2 (by rw[hL];exact h1)
  ·trivial
  exact(hm.aj _ _ hz).same (fun hn hl=>h3.block _ (rl k z hz hk hl hn).1 (rl k z hz hk hl hn).2.1) h3.size
 ·have key: ∀k z,m.reg k=some z->(∀h,ho=some h->k≠h)->z.af=true->(ρ'' k).nil=false->(ρ'' m.nh).nil=false->(ρ'' m.nh).blk≠(ρ'' k).blk:=by
   intro k z hz hk hl hn we
   obtain⟨q1,q2,q3⟩:=rl k z hz hk hl hn
   rw[hL]at we ⊢
   rcases h5 we with h6|⟨h,h6,h7,h8⟩
   ·omega
   rw[h8];exact(q3 h h6 h7).symm
  rcases fZ k z hz with⟨rfl,rfl⟩|rfl|⟨_,hz,hk⟩
  ·rcases fZ k' z' rL with⟨rfl,rfl⟩|rfl|⟨_,rL,cC⟩
   ·exact absurd rfl cb
   ·cases hl
   exact key k' z' rL cC hl oz hn
  ·cases aN
  rcases fZ k' z' rL with⟨rfl,rfl⟩|rfl|⟨_,rL,cC⟩
  ·exact(key k z hz hk (bd.dp aN) hn oz).symm
  ·cases hl
  exact hm.fG _ _ _ _ hz rL cb ht aN hl hn oz
 ·rcases fZ k z hz with⟨rfl,rfl⟩|rfl|⟨_,hz,hk⟩
  ·rw[hL]at hn ⊢
   rcases h5 hn with h6|⟨h,h6,h7,h8⟩
   ·omega
   rw[h8]
   obtain⟨zh,g1,g2,_⟩:=bn h h6
   exact hm.base _ _ g1 g2 h7
  ·cases aN
  exact hm.base _ _ hz aN hn
 obtain⟨h,g1,g2,g3⟩:=h4 _ CG.symm
 obtain⟨zh,q1,q2,_⟩:=bn h g1
 have:=hm.base _ _ q1 q2 g2
 omega
theorem yh{P:Program}{o:Oper}{env:Env}{m:M}{sz n:Nat}(r:Unit->bd)(zaD:(r ()).ai=true)(ho:Option Nat)(bn: ∀h,ho=some h->∃z,m.reg h=some z/\z.ai=true/\∀r,gR z r=false)
  (hx: ∀ (B:Nat) (w0:World) (ρ:aZ) (a:Act) (w:World),cq ρ env a->kh P B w0 ρ m w->∃y w' ob,(execOp a.eval o).run P w= .ok (.value y) w'/\(ρ m.nh=cI sz y->bz ρ w' m.nh (r ()))/\jL (cI sz y) 0 n y/\w.grownBy w' ob/\
   (∀k,ob=some k->∃h,ho=some h/\(ρ h).nil=false/\k=(ρ h).blk)/\((cI sz y).nil=false->w.heap.size<=(cI sz y).blk\/∃h,ho=some h/\(ρ h).nil=false/\(cI sz y).blk=(ρ h).blk)):
  dj P o env m {val:=.t (.one (.sl m.nh 0 n)),aj:=(m.nh,r ())::mY ho,nh:=m.nh+1}:=by
 refine⟨Nat.le_succ _,fun nt B w0 D ρ a w hD aL=>?_⟩
 obtain⟨y,w',ob,hy,_⟩:=hx B w0 ρ a w (aL.env ρ (an.refl _ _)) (aL.mem ρ (an.refl _ _))
 have GP: ¬D m.nh:=hD m.nh ⟨Nat.le_refl _,Nat.lt_succ_self _⟩
 refine⟨y,w',upd ρ m.nh (cI sz y),.inl hy,dN ρ _ GP,fun ρ'' aU=>?_⟩
 have hL:ρ'' m.nh=cI sz y:=(aU m.nh (.inr ⟨Nat.le_refl _,Nat.lt_succ_self _⟩)).trans (upd_same _ _ _)
 have cW:an D ρ ρ'':=fun k hk=>(aU k (.inl hk)).trans (dN ρ _ GP k hk)
 have hm:=aL.mem ρ'' cW
 obtain⟨y',w2,ob,pQ,h1,h2,h3,h4,h5⟩:=hx B w0 ρ'' a w (aL.env ρ'' cW) hm
 rw[hy]at pQ
 cases pQ
 refine⟨?_,by show jL (ρ'' m.nh) 0 n y;rw[hL];exact h2⟩
 have IF:B<=w.heap.size:=Nat.le_trans hm.hB hm.below.size
 have fZ: ∀k z,(m.app {val:=.t (.one (.sl m.nh 0 n)),aj:=(m.nh,r ())::mY ho,nh:=m.nh+1}).reg k=some z->
   (k=m.nh/\z=r ())\/z= .gone\/(k≠m.nh/\m.reg k=some z/\∀h,ho=some h->k≠h):=by
  intro k z hz
  rw[lD]at hz
  simp only[aK,cond_eq_ite]at hz
  split at hz
  ·rename_i he
   simp at hz
   exact .inl ⟨(Nat.eq_of_beq_eq_true he).symm,hz.symm⟩
  rename_i he
  have cb:k≠m.nh:=fun e=>he (by rw[e];exact Nat.beq_refl _)
  rw[yq]at hz
  split at hz
  ·simp at hz;exact .inr (.inl hz.symm)
  rename_i he2
  simp at hz
  exact .inr (.inr ⟨cb,hz,fun h' e=>fun e'=>he2 (by rw[e,e'])⟩)
 have rl: ∀k z,m.reg k=some z->(∀h,ho=some h->k≠h)->z.af=true->(ρ'' k).nil=false->(ρ'' k).blk<w.heap.size/\some (ρ'' k).blk≠ob/\∀h,ho=some h->(ρ'' h).nil=false->(ρ'' k).blk≠(ρ'' h).blk:=by
  intro k z hz hk hl hn
  have hd: ∀h,ho=some h->(ρ'' h).nil=false->(ρ'' k).blk≠(ρ'' h).blk:=by
   intro h hh dY
   obtain⟨zh,g1,g2,g3⟩:=bn h hh
   exact(hm.fG _ _ _ _ g1 hz (fun e=>hk h hh e.symm) (g3 _) g2 hl dY hn).symm
  refine⟨(hm.aj _ _ hz).lt hn hl,fun CG=>?_,hd⟩
  obtain⟨h,g1,g2,g3⟩:=h4 _ CG.symm
  exact hd h g1 g2 g3
 refine⟨fun k z hz=>?_,fun k k' z z' hz rL cb ht aN hl hn oz=>?_,fun k z hz aN hn=>?_,hm.below.trans ⟨h3.os,h3.tape,h3.output,h3.size,fun k hk=>h3.block k (by omega) fun CG=>?_⟩,hm.hB⟩
 ·rcases fZ k z hz with⟨rfl,rfl⟩|rfl|⟨_,hz,hk⟩
  ·exact h1 hL
  ·trivial
  exact(hm.aj _ _ hz).same (fun hn hl=>h3.block _ (rl k z hz hk hl hn).1 (rl k z hz hk hl hn).2.1) h3.size
 ·have key: ∀k z,m.reg k=some z->(∀h,ho=some h->k≠h)->z.af=true->(ρ'' k).nil=false->(ρ'' m.nh).nil=false->(ρ'' m.nh).blk≠(ρ'' k).blk:=by
   intro k z hz hk hl hn we
   obtain⟨q1,q2,q3⟩:=rl k z hz hk hl hn
   rw[hL]at we ⊢
   rcases h5 we with h6|⟨h,h6,h7,h8⟩
   ·omega
   rw[h8];exact(q3 h h6 h7).symm
  rcases fZ k z hz with⟨rfl,rfl⟩|rfl|⟨_,hz,hk⟩
  ·rcases fZ k' z' rL with⟨rfl,rfl⟩|rfl|⟨_,rL,cC⟩
   ·exact absurd rfl cb
   ·cases hl
   exact key k' z' rL cC hl oz hn
  ·cases aN
  rcases fZ k' z' rL with⟨rfl,rfl⟩|rfl|⟨_,rL,cC⟩
  ·exact(key k z hz hk (bd.dp aN) hn oz).symm
  ·cases hl
  exact hm.fG _ _ _ _ hz rL cb ht aN hl hn oz
 ·rcases fZ k z hz with⟨rfl,rfl⟩|rfl|⟨_,hz,hk⟩
  ·rw[hL]at hn ⊢
   rcases h5 hn with h6|⟨h,h6,h7,h8⟩
   ·omega
   rw[h8]
   obtain⟨zh,g1,g2,_⟩:=bn h h6
   exact hm.base _ _ g1 g2 h7
  ·cases aN
  exact hm.base _ _ hz aN hn
 obtain⟨h,g1,g2,g3⟩:=h4 _ CG.symm
 obtain⟨zh,q1,q2,_⟩:=bn h g1
 have:=hm.base _ _ q1 q2 g2
 omega
theorem Jy{P:Program}{o:Oper}{env:Env}{m:M}{x:X}{r:bd}
  (hf: ∃f:Value->World->Loc,∀ (B:Nat) (w0:World) (ρ:aZ) (a:Act) (w:World),cq ρ env a->kh P B w0 ρ m w->∃y w',(execOp a.eval o).run P w= .ok (.value y) w'/\w.grownBy w' none/\
   w.heap.size<=(f y w).blk/\(ρ m.nh=f y w->bz ρ w' m.nh r/\x.Rel ρ y)):
  dj P o env m {val:=x,aj:= [(m.nh,r)],nh:=m.nh+1}:=by
 obtain⟨f,hx⟩:=hf
 refine⟨Nat.le_succ _,fun nt B w0 D ρ a w hD aL=>?_⟩
 obtain⟨y,w',hy,hg,hb,_⟩:=hx B w0 ρ a w (aL.env ρ (an.refl _ _)) (aL.mem ρ (an.refl _ _))
 have GP: ¬D m.nh:=hD m.nh ⟨Nat.le_refl _,Nat.lt_succ_self _⟩
 refine⟨y,w',upd ρ m.nh (f y w),.inl hy,dN ρ _ GP,fun ρ'' aU=>?_⟩
 have hL:ρ'' m.nh=f y w:=(aU m.nh (.inr ⟨Nat.le_refl _,Nat.lt_succ_self _⟩)).trans (upd_same _ _ _)
 have cW:an D ρ ρ'':=fun k hk=>(aU k (.inl hk)).trans (dN ρ _ GP k hk)
 have hm:=aL.mem ρ'' cW
 obtain⟨y',w2,pQ,P8,P9,fb⟩:=hx B w0 ρ'' a w (aL.env ρ'' cW) hm
 rw[hy]at pQ
 cases pQ
 obtain⟨hr,ED⟩:=fb hL
 refine⟨?_,ED⟩
 have IF:B<=w.heap.size:=Nat.le_trans hm.hB hm.below.size
 have fZ: ∀k z,(m.app {val:=x,aj:= [(m.nh,r)],nh:=m.nh+1}).reg k=some z->(k=m.nh/\z=r)\/(k≠m.nh/\m.reg k=some z):=by
  intro k z hz
  rw[lD]at hz
  simp only[aK,cond_eq_ite]at hz
  split at hz
  ·rename_i he
   simp at hz
   exact .inl ⟨(Nat.eq_of_beq_eq_true he).symm,hz.symm⟩
  rename_i he
  simp at hz
  exact .inr ⟨fun e=>he (by rw[e];exact Nat.beq_refl _),hz⟩
 refine⟨fun k z hz=>?_,fun k k' z z' hz rL cb ht aN hl hn oz=>?_,fun k z hz aN hn=>?_,hm.below.trans ⟨hg.os,hg.tape,hg.output,hg.size,fun k hk=>hg.block k (by omega) (by simp)⟩,hm.hB⟩
 ·rcases fZ k z hz with⟨rfl,rfl⟩|⟨_,hz⟩
  ·exact hr
  exact(hm.aj _ _ hz).same (fun hn hl=>hg.block _ ((hm.aj _ _ hz).lt hn hl) (by simp)) hg.size
 ·rcases fZ k z hz with⟨rfl,rfl⟩|⟨_,f1⟩<;>rcases fZ k' z' rL with⟨rfl,rfl⟩|⟨_,f2⟩
  ·exact absurd rfl cb
  ·have:=(hm.aj _ _ f2).lt oz hl
   rw[hL];omega
  ·have:=(hm.aj _ _ f1).lt hn (bd.dp aN)
   rw[hL];omega
  exact hm.fG _ _ _ _ f1 f2 cb ht aN hl hn oz
 rcases fZ k z hz with⟨rfl,rfl⟩|⟨_,hz⟩
 ·rw[hL];omega
 exact hm.base _ _ hz aN hn
end Go.SE

namespace Go.SE
open Go Go.RowKit
variable{P:Program}
theorem S.iG{ρ:aZ}{s:S}{y:Value}{c kn:Bool}(hs:s.bool?=some (c,kn))(h:s.Rel ρ y):y= .bool c:=by
 cases s<;>simp[S.bool?]at hs
 case v v=>cases v<;>simp at hs;obtain⟨rfl,rfl⟩:=hs;exact h.1
 case b=>obtain⟨rfl,rfl⟩:=hs;exact h
theorem S.kH{ρ:aZ}{s:S}{y:Value}{x:ByteArray}(hs:s.wP=some x)(h:s.Rel ρ y):y= .string x:=by
 cases s<;>simp[S.wP]at hs
 case v v=>cases v<;>simp at hs;subst hs;exact h.1
theorem ql{a b:Option (Bool×Bool)}{c kn:Bool}(h:OJ a b=some (c,kn)): ∃x kx y ky,a=some (x,kx)/\b=some (y,ky)/\c=(x&&y):=by
 unfold OJ at h
 split at h
 ·rename_i x kx y ky
  simp only[Option.some.injEq,Prod.mk.injEq]at h
  exact⟨x,kx,y,ky,rfl,rfl,h.1.symm⟩
 cases h
theorem fN{ρ:aZ}{t:TypeId}{xs:List S}{ys:List Value}{off:Nat}{x:T}(h:oL P t xs off=some x)(hr:bt ρ xs ys)(w:World): ∃v,(part t ys.toArray off).run P w= .ok v w/\x.Rel ρ v:=by
 unfold oL at h
 split at h
 ·rename_i ha
  cases h
  have hd: ∃d,P.underlying t=some d:=by
   unfold bW at ha
   cases hu:P.underlying t with
   |none=>simp[hu]at ha
   |some d=>exact⟨d,rfl⟩
  obtain⟨d,hd⟩:=hd
  refine⟨.agg ((ys.drop off).take (P.cellsOf t)).toArray,?_,_,rfl,hr.cut _ _⟩
  simp only[part,Sem.run_bind,bX ha,Result.andThen_ok,eF hd,if_true,Sem.run_pure]
  congr 2
  apply Array.ext'
  simp[List.extract_eq_take_drop]
 ·rename_i ha
  split at h
  ·rename_i s hs
   cases h
   obtain⟨v,hv,aJ⟩:=hr.nth hs
   refine⟨v,?_,aJ⟩
   simp[part,bX ha,hv]
  cases h
 cases h
theorem Ij{ρ:aZ}{t:TypeId}{x y:S}{a b:Value}{c kn:Bool}(h:Rd P t x y=some (c,kn))(hx:x.Rel ρ a)(hy:y.Rel ρ b)(D:Nat)(w:World):(Op.equalIn (D+1) t a b).run P w= .ok c w:=by
 unfold Rd at h
 split at h
 ·rename_i k hk
  split at h
  ·rename_i h1 h2
   split at h
   ·rename_i NT
    subst NT
    simp only[Option.some.injEq,Prod.mk.injEq]at h
    obtain⟨rfl,_⟩:=h
    rw[S.bV h1 hx,S.bV h2 hy]
    simp[Op.equalIn,run_underlying hk]
   cases h
  cases h
 ·rename_i hk
  split at h
  ·rename_i h1 h2
   simp only[Option.some.injEq,Prod.mk.injEq]at h
   obtain⟨rfl,_⟩:=h
   rw[S.iG h1 hx,S.iG h2 hy]
   simp[Op.equalIn,run_underlying hk]
  cases h
 ·rename_i hk
  split at h
  ·rename_i h1 h2
   simp only[Option.some.injEq,Prod.mk.injEq]at h
   obtain⟨rfl,_⟩:=h
   rw[S.kH h1 hx,S.kH h2 hy]
   simp[Op.equalIn,run_underlying hk]
  cases h
 cases h
def L3(P:Program)(ρ:aZ)(D:Nat)(g:TypeId->T->T->Option (Bool×Bool)):Prop:=
 ∀t x y a b c kn,g t x y=some (c,kn)->T.Rel ρ x a->T.Rel ρ y b->∀w,(Op.equalIn D t a b).run P w= .ok c w
theorem No{ρ:aZ}{D:Nat}{g:TypeId->T->T->Option (Bool×Bool)}(hg:L3 P ρ D g){xs ys:List S}{tQ bs:List Value}(hx:bt ρ xs tQ)(hy:bt ρ ys bs)(w:World): ∀ (fs:List Field) (c kn:Bool),fx P g xs ys fs=some (c,kn)->
  ((
   forIn fs ((none,()):Option Bool×Unit) fun f _=>
   if f.name≠ "_" then do
    let p <-part f.type tQ.toArray f.offset
    let q <-part f.type bs.toArray f.offset
    let e <-Op.equalIn D f.type p q
    if(!e)=true then pure (ForInStep.done (some false,()))else pure (ForInStep.yield (none,()))
   else pure (ForInStep.yield (none,()))):Sem _).run P w= .ok (if c then none else some false,()) w:=by
 intro fs
 induction fs with
 |nil=>intro c kn h;simp[fx]at h;obtain⟨rfl,_⟩:=h;simp
 |cons f fs ih=>
  intro c kn h
  simp only[fx,cond_eq_ite]at h
  split at h
  ·cases h
  rename_i hn
  obtain⟨x,kx,y,ky,h1,h2,rfl⟩:=ql h
  unfold mZ at h1
  split at h1
  ·rename_i p q hp hq
   obtain⟨u,hu,AU⟩:=fN hp hx w
   obtain⟨v,hv,Q4⟩:=fN hq hy w
   have he:=hg _ _ _ _ _ _ _ h1 AU Q4 w
   have cb:f.name≠ "_" :=by simpa using hn
   rw[List.forIn_cons]
   simp only[cb,ne_eq,not_false_eq_true,if_true,Sem.run_bind,hu,hv,he,Result.andThen_ok]
   cases x
   ·simp
   simp only[Bool.not_true,Bool.false_eq_true,if_false,Sem.run_pure,Result.andThen_ok,Bool.true_and]
   exact ih _ _ h2
  cases h1
theorem JW{ρ:aZ}{D:Nat}{g:TypeId->T->T->Option (Bool×Bool)}(hg:L3 P ρ D g){xs ys:List S}{tQ bs:List Value}(hx:bt ρ xs tQ)(hy:bt ρ ys bs)(e n:Nat)(w:World): ∀ (len i:Nat) (c kn:Bool),eu P g e xs ys n len i=some (c,kn)->
  ((forIn (List.range' i len) ((none,()):Option Bool×Unit) fun i _=>do
    let p <-part e tQ.toArray (i*n)
    let q <-part e bs.toArray (i*n)
    let z <-Op.equalIn D e p q
    if(!z)=true then pure (ForInStep.done (some false,()))else pure (ForInStep.yield (none,()))):Sem _).run P w= .ok (if c then none else some false,()) w:=by
 intro len
 induction len with
 |zero=>intro i c kn h;simp[eu]at h;obtain⟨rfl,_⟩:=h;simp
 |succ len ih=>
  intro i c kn h
  simp only[eu]at h
  obtain⟨x,kx,y,ky,h1,h2,rfl⟩:=ql h
  unfold mZ at h1
  split at h1
  ·rename_i p q hp hq
   obtain⟨u,hu,AU⟩:=fN hp hx w
   obtain⟨v,hv,Q4⟩:=fN hq hy w
   have he:=hg _ _ _ _ _ _ _ h1 AU Q4 w
   rw[List.range'_succ,List.forIn_cons]
   simp only[Sem.run_bind,hu,hv,he,Result.andThen_ok]
   cases x
   ·simp
   simp only[Bool.not_true,Bool.false_eq_true,if_false,Sem.run_pure,Result.andThen_ok,Bool.true_and]
   exact ih _ _ _ h2
  cases h1
theorem BV{ρ:aZ}: ∀ (d:Nat) {D:Nat},d<=D->L3 P ρ D (EI P d)
 |0,D,_=>by intro t x y a b c kn h;simp[EI]at h
 |d+1,D+1,hd=>by
  intro t x y a b c kn h hx hy w
  cases x with
  |one x=>cases y with
   |one y=>exact Ij h hx hy D w
   |agg ys=>simp[EI]at h
  |agg xs=>cases y with
   |one y=>simp[EI]at h
   |agg ys=>
    obtain⟨tQ,rfl,hx⟩:=hx
    obtain⟨bs,rfl,hy⟩:=hy
    simp only[EI]at h
    have ih:=BV (ρ:=ρ) d (D:=D) (by omega)
    split at h
    ·rename_i fs hu
     simp only[cond_eq_ite]at h
     split at h
     ·cases h
     rename_i dI
     have:=No ih hx hy w fs.toList c kn h
     unfold Op.equalIn
     simp only[Sem.run_bind,run_underlying hu,Result.andThen_ok]
     have hp:(program:Sem Program).run P w= .ok P w:=rfl
     simp only[hp,Result.andThen_ok,dI,Bool.false_eq_true,if_false,Sem.run_bind]
     rw[<-Array.forIn_toList,this]
     cases c<;>simp
    ·rename_i len e hu
     simp only[cond_eq_ite]at h
     split at h
     ·rename_i hi
      replace hi:=(Bool.and_eq_true _ _▸hi).1
      have:=JW ih hx hy e (P.cellsOf e) w len 0 c kn h
      unfold Op.equalIn
      simp only[Sem.run_bind,run_underlying hu,Result.andThen_ok]
      obtain⟨inf,vO⟩:=Option.isSome_iff_exists.1 hi
      simp only[run_sizeOf w vO,Result.andThen_ok,Std.Legacy.Range.forIn_eq_forIn_range',Std.Legacy.Range.size,Nat.sub_zero,Nat.add_sub_cancel,Nat.div_one]
      rw[this]
      cases c<;>simp
     cases h
    cases h
def xX(P:Program)(ρ:aZ)(D:Nat)(g:TypeId->T->T->Option (Bool×Bool)):Prop:=
 ∀t x y a b r,g t x y=some r->T.Rel ρ x a->T.Rel ρ y b->∀w,(Op.eqGuardIn D t a b).run P w= .ok false w
theorem GC{ρ:aZ}{D:Nat}{g:TypeId->T->T->Option (Bool×Bool)}(hg:xX P ρ D g){xs ys:List S}{tQ bs:List Value}(hx:bt ρ xs tQ)(hy:bt ρ ys bs)(w:World): ∀ (fs:List Field) (r:Bool×Bool),fx P g xs ys fs=some r->
  ((
   forIn fs ((none,()):Option Bool×Unit) fun f _=>
   if f.name≠ "_" then do
    let p <-part f.type tQ.toArray f.offset
    let q <-part f.type bs.toArray f.offset
    let e <-Op.eqGuardIn D f.type p q
    if e=true then pure (ForInStep.done (some true,()))else pure (ForInStep.yield (none,()))
   else pure (ForInStep.yield (none,()))):Sem _).run P w= .ok (none,()) w:=by
 intro fs
 induction fs with
 |nil=>intro r h;simp
 |cons f fs ih=>
  intro r h
  obtain⟨c,kn⟩:=r
  simp only[fx,cond_eq_ite]at h
  split at h
  ·cases h
  rename_i hn
  obtain⟨x,kx,y,ky,h1,h2,rfl⟩:=ql h
  unfold mZ at h1
  split at h1
  ·rename_i p q hp hq
   obtain⟨u,hu,AU⟩:=fN hp hx w
   obtain⟨v,hv,Q4⟩:=fN hq hy w
   have he:=hg _ _ _ _ _ _ h1 AU Q4 w
   have cb:f.name≠ "_" :=by simpa using hn
   rw[List.forIn_cons]
   simp only[cb,ne_eq,not_false_eq_true,if_true,Sem.run_bind,hu,hv,he,Result.andThen_ok,Bool.false_eq_true,if_false,Sem.run_pure]
   exact ih _ h2
  cases h1
theorem Et{ρ:aZ}{D:Nat}{g:TypeId->T->T->Option (Bool×Bool)}(hg:xX P ρ D g){xs ys:List S}{tQ bs:List Value}(hx:bt ρ xs tQ)(hy:bt ρ ys bs)(e n:Nat)(w:World): ∀ (len i:Nat) (r:Bool×Bool),eu P g e xs ys n len i=some r->
  ((forIn (List.range' i len) ((none,()):Option Bool×Unit) fun i _=>do
    let p <-part e tQ.toArray (i*n)
    let q <-part e bs.toArray (i*n)
    let z <-Op.eqGuardIn D e p q
    if z=true then pure (ForInStep.done (some true,()))else pure (ForInStep.yield (none,()))):Sem _).run P w= .ok (none,()) w:=by
 intro len
 induction len with
 |zero=>intro i r h;simp
 |succ len ih=>
  intro i r h
  obtain⟨c,kn⟩:=r
  simp only[eu]at h
  obtain⟨x,kx,y,ky,h1,h2,rfl⟩:=ql h
  unfold mZ at h1
  split at h1
  ·rename_i p q hp hq
   obtain⟨u,hu,AU⟩:=fN hp hx w
   obtain⟨v,hv,Q4⟩:=fN hq hy w
   have he:=hg _ _ _ _ _ _ h1 AU Q4 w
   rw[List.range'_succ,List.forIn_cons]
   simp only[Sem.run_bind,hu,hv,he,Result.andThen_ok,Bool.false_eq_true,if_false,Sem.run_pure]
   exact ih _ _ h2
  cases h1
theorem AK{ρ:aZ}: ∀ (d:Nat) {D:Nat},d<=D->xX P ρ D (EI P d)
 |0,D,_=>by intro t x y a b r h;simp[EI]at h
 |d+1,D+1,hd=>by
  intro t x y a b r h hx hy w
  cases x with
  |one x=>cases y with
   |one y=>
    simp only[EI]at h
    unfold Rd at h
    unfold Op.eqGuardIn
    split at h<;>first|(rename_i hu;simp[run_underlying hu];done)|(rename_i k hu;simp[run_underlying hu];done)|cases h
   |agg ys=>simp[EI]at h
  |agg xs=>cases y with
   |one y=>simp[EI]at h
   |agg ys=>
    obtain⟨tQ,rfl,hx⟩:=hx
    obtain⟨bs,rfl,hy⟩:=hy
    simp only[EI]at h
    have ih:=AK (ρ:=ρ) d (D:=D) (by omega)
    split at h
    ·rename_i fs hu
     simp only[cond_eq_ite]at h
     split at h
     ·cases h
     have:=GC ih hx hy w fs.toList r h
     unfold Op.eqGuardIn
     simp only[Sem.run_bind,run_underlying hu,Result.andThen_ok]
     rw[<-Array.forIn_toList,this]
     simp
    ·rename_i len e hu
     simp only[cond_eq_ite]at h
     split at h
     ·rename_i hi
      replace hi:=(Bool.and_eq_true _ _▸hi).1
      have:=Et ih hx hy e (P.cellsOf e) w len 0 r h
      unfold Op.eqGuardIn
      simp only[Sem.run_bind,run_underlying hu,Result.andThen_ok]
      obtain⟨inf,vO⟩:=Option.isSome_iff_exists.1 hi
      simp only[run_sizeOf w vO,Result.andThen_ok,Std.Legacy.Range.forIn_eq_forIn_range',Std.Legacy.Range.size,Nat.sub_zero,Nat.add_sub_cancel,Nat.div_one]
      rw[this]
      simp
     cases h
    cases h
end Go.SE

namespace Go.SE
open Go Go.RowKit
variable [aG]
structure Ctx where
 P:Program
 nt:Nat
 p:Nat
 rd:Option Nat
def Ctx.pr(C:Ctx)(k:Program->Prop):Prop:=
 match C with
 |⟨P,_,_,_⟩=>k P
theorem Ctx.wW(C:Ctx)(k:Program->Prop):C.pr k=k C.P:=by cases C;rfl
def Ctx.qY(C:Ctx):Prop:=∀h,C.rd=some h->h<C.p
def Ctx.ro(C:Ctx)(ρ:aZ):Option Nat:=C.rd.map fun h=>(ρ h).blk
def Lex(m:M)(h:Nat):Prop:=h<m.nh
structure mm(P:Program)(nt B:Nat)(w0:World)(ρ:aZ)(env:Env)(m:M)(a:Act)(w:World):Prop where
 ok:Ok P nt B w0 (Lex m) ρ env m a w
 ds: ∀ρ',an (Lex m) ρ ρ'->a.defers=m.ds.map (lp.den ρ')
def After(C:Ctx)(B:Nat)(w0:World)(ρ:aZ)(K:Env->M->Prop)(a:Act)(w:World):Prop:=
 ∃ρ' env m,an (fun h=>h<C.p) ρ ρ'/\C.p<=m.nh/\mm C.P C.nt B w0 ρ' env m a w/\K env m
theorem After.from{C:Ctx}{B:Nat}{w0:World}{ρ ρ1:aZ}{K:Env->M->Prop}{a:Act}{w:World}(aU:an (fun h=>h<C.p) ρ ρ1)(h:After C B w0 ρ1 K a w):After C B w0 ρ K a w:=
 let⟨ρ',env,m,h1,h2,h3,h4⟩:=h;⟨ρ',env,m,aU.trans h1 (fun _ h=>h),h2,h3,h4⟩
def It(C:Ctx)(c:Code)(Q:Exit->Env->M->Prop)(env:Env)(m:M):Prop:=
 ∀ (B:Nat) (w0:World) (ρ:aZ) (a:Act) (w:World),mm C.P C.nt B w0 ρ env m a w->C.p<=m.nh->c.lT (C.ro ρ) C.P (fun e a' w'=>After C B w0 ρ (Q e) a' w') a w
def L2(C:Ctx)(o:Oper)(K:Env->M->Prop)(env:Env)(m:M):Prop:=
 ∀ (B:Nat) (w0:World) (ρ:aZ) (a:Act) (w:World),mm C.P C.nt B w0 ρ env m a w->C.p<=m.nh->o.lT (C.ro ρ) C.P a w (After C B w0 ρ K)
def iw(P:Program)(B:Nat)(w0:World)(ρ:aZ)(m:M)(w:World):Prop:=∀ρ',an (Lex m) ρ ρ'->kh P B w0 ρ' m w
def kF(P:Program)(f:FuncId):Prop:=∀ys,(∀w,(callFunc f ys).run P w= .ok (.enter f ys) w)/\bB P od (fun n=>n= .enter f ys) (callFunc f ys)
def B1(P:Program)(f:FuncId)(args:List T)(m:M)(K:X->M->Prop):Prop:=
 kF P f/\
 ∀ (B:Nat) (w0:World) (ρ:aZ) (w:World) (ys:List Value),iw P B w0 ρ m w->(∀ρ',an (Lex m) ρ ρ'->cD ρ' args ys)->
  jD P f ys.toArray w fun e w'=>∃v x ρ' m',e= .returned v/\an (Lex m) ρ ρ'/\m.nh<=m'.nh/\iw P B w0 ρ' m' w'/\(∀ρ'',an (Lex m') ρ' ρ''->x.Rel ρ'' v)/\K x m'
def NG(P:Program)(h:Nat)(args:List T)(m:M)(K:X->M->Prop):Prop:=
 ∀ (B:Nat) (w0:World) (ρ:aZ) (w:World) (ys:List Value),iw P B w0 ρ m w->(∀ρ',an (Lex m) ρ ρ'->cD ρ' args ys)->
  TP P (ρ h).blk ys.toArray w fun e w'=>∃v x ρ' m',e= .returned v/\an (Lex m) ρ ρ'/\m.nh<=m'.nh/\iw P B w0 ρ' m' w'/\(∀ρ'',an (Lex m') ρ' ρ''->x.Rel ρ'' v)/\K x m'
def PT(C:Ctx)(c:Code)(Q:Exit->Env->M->Prop)(env:Env)(m:M):Prop:=
 ∀ (B:Nat) (w0:World) (ρ:aZ) (a:Act) (w:World),mm C.P C.nt B w0 ρ env m a w->C.p<=m.nh->
  c.lT (C.ro ρ) C.P (Exit.then (rv (C.ro ρ) C.P c (fun e a' w'=>After C B w0 ρ (Q e) a' w')) (fun e a' w'=>After C B w0 ρ (Q e) a' w')) a w
def NI(C:Ctx)(c r:Code)(Q:Exit->Env->M->Prop)(env:Env)(m:M):Prop:=
 ∀ (B:Nat) (w0:World) (ρ:aZ) (a:Act) (w:World),mm C.P C.nt B w0 ρ env m a w->C.p<=m.nh->Ir (C.ro ρ) C.P c r (fun e a' w'=>After C B w0 ρ (Q e) a' w') a w
structure Split(c:Bool)(A B:Prop):Prop where
 yes:c=true->A
 no:c=false->B
structure oU{α:Type}(p K:α->Prop):Prop where
 out: ∃x,p x/\K x
def Mt(P:Program)(f:FuncId)(args:List T)(m:M)(K:X->M->Prop):Prop:=
 ∀ (B:Nat) (w0:World) (ρ:aZ) (w:World) (ys:List Value),iw P B w0 ρ m w->(∀ρ',an (Lex m) ρ ρ'->cD ρ' args ys)->
  (∃ok:Nat->Prop,(∀b,ok b->Good w b)/\bB P ok (fun _=>True) (callFunc f ys.toArray))/\
  ∃v x ρ' m' w',(callFunc f ys.toArray).run P w= .ok (.value v) w'/\an (Lex m) ρ ρ'/\m.nh<=m'.nh/\iw P B w0 ρ' m' w'/\(∀ρ'',an (Lex m') ρ' ρ''->x.Rel ρ'' v)/\K x m'
structure dS(P:Program)(f:FuncId)(args:List T)(m:M)(K:X->M->Prop)(rP:Bool:=true):Prop where
 out:B1 P f args m K\/(rP=true/\Mt P f args m K)
theorem dS.of{P:Program}{f:FuncId}{args:List T}{m:M}{K:X->M->Prop}{rP:Bool}(h:B1 P f args m K):dS P f args m K rP:=⟨.inl h⟩
theorem dS.rP{P:Program}{f:FuncId}{args:List T}{m:M}{K:X->M->Prop}(h:Mt P f args m K):dS P f args m K:=⟨.inr ⟨rfl,h⟩⟩
theorem dS.EB{P:Program}{f:FuncId}{args:List T}{m:M}{K:X->M->Prop}(h:dS P f args m K false):B1 P f args m K:=h.out.elim id fun h=>by cases h.1
structure BC(P:Program)(h:Nat)(args:List T)(m:M)(K:X->M->Prop):Prop where
 out:NG P h args m K
structure Stop(C:Ctx)(o:Oper)(env:Env)(m:M)(K:Env->M->Prop):Prop where
 out:C.qY->L2 C o K env m
structure nZ(C:Ctx)(c:Code)(Q:Exit->Env->M->Prop)(env:Env)(m:M):Prop where
 out:C.qY->PT C c Q env m
structure qF(C:Ctx)(c:Code)(Q:Exit->Env->M->Prop)(env:Env)(m:M):Prop where
 out:C.qY->It C c Q env m
structure TQ(C:Ctx)(c r:Code)(Q:Exit->Env->M->Prop)(env:Env)(m:M):Prop where
 out:C.qY->NI C c r Q env m
def gD(C:Ctx)(d:Option Nat):Bool:=
 match d with
 |some d=>Nat.blt d C.nt
 |none=>true
def M.cs(m:M)(k:List (Nat×bd)->Nat->List lp->Prop):Prop:=
 match m with
 |⟨r,n,d⟩=>k r n d
def Eff.cs(m:Eff)(k:X->List (Nat×bd)->Nat->Prop):Prop:=
 match m with
 |⟨r,n,d⟩=>k r n d
def zg:List (Nat×bd)->List (Nat×bd)->(List (Nat×bd)->Prop)->Prop
 | [],l,k=>k l
 |x::xs,l,k=>zg xs l fun l=>k (x::l)
def Env.go(env:Env)(d:Option Nat)(v:X)(k:Env->Prop):Prop:=
 match d with
 |some d=>k ((d,v)::env)
 |none=>k env
theorem M.cy(m:M)(k:List (Nat×bd)->Nat->List lp->Prop):m.cs k=k m.aj m.nh m.ds:=by cases m;rfl
theorem Eff.cy(m:Eff)(k:X->List (Nat×bd)->Nat->Prop):m.cs k=k m.val m.aj m.nh:=by cases m;rfl
theorem ny: ∀ (l l':List (Nat×bd)) (k:List (Nat×bd)->Prop),zg l l' k=k (l++l')
 | [],_,_=>rfl
 |x::xs,l,k=>by simp[zg,ny xs l]
theorem Env.go_eq(env:Env)(d:Option Nat)(v:X)(k:Env->Prop):Env.go env d v k=k (eL env d v):=by cases d<;>rfl
def Env.force:Env->(Env->Prop)->Prop
 | [],k=>k []
 |(a,x)::l,k=>aY a fun a=>Env.force l fun l=>k ((a,x)::l)
def uQ(C:Ctx)(o:Oper)(K:Env->M->Prop)(env:Env)(m:M):Prop:=
 match classify C.P o env m with
 |.EJ e=>e.cs fun v rs nh=>l8 v fun v=>ja rs fun rs=>aY nh fun nh=>m.cs fun aj _ ds=>zg rs aj fun l=>env.go o.dst v fun env=>K env ⟨l,nh,ds⟩
 |.ask p f=>Unit->oU p fun x=>(f x).cs fun v rs nh=>m.cs fun aj _ ds=>zg rs aj fun l=>env.go o.dst v fun env=>K env ⟨l,nh,ds⟩
 |.call f args=>C.pr fun P=>Unit->dS P f args m fun x m'=>m'.cs fun r n _=>m.cs fun _ _ ds=>env.go o.dst x fun env=>K env ⟨r,n,ds⟩
 |.yield h args=>C.pr fun P=>Unit->BC P h args m fun x m'=>m'.cs fun r n _=>m.cs fun _ _ ds=>env.go o.dst x fun env=>K env ⟨r,n,ds⟩
 |.none=>Unit->Stop C o env m K
inductive Ask where
 |run|skip|ask (slot:Nat) (c:Bool)|bad
def guardOf(ops:Array Oper)(env:Env)(o:Oper):Ask:=
 match o.guard with
 |none=>.run
 |some (j,want)=>
  match(ops[j]?).bind (·.dst)with
  |some d=>match env.get d with
   |some (.t (.one (.v (.bool true))))=>bif want then .run else .skip
   |some (.t (.one (.v (.bool false))))=>bif want then .skip else .run
   |some (.t (.one (.b c)))=>.ask d c
   |some (.lv [])=>.skip
   |_=>.bad
  |none=>.bad
def known(b:Bool):X:=.t (.one (.v (.bool b)))
def gC(C:Ctx)(ops:Array Oper):List Oper->(Env->M->Prop)->Env->M->Prop
 | [],K,env,m=>K env m
 |o::rest,K,env,m=>
  bif gD C o.dst then
   match guardOf ops env o with
   |.run=>uQ C o (gC C ops rest K) env m
   |.skip=>env.go o.dst (.lv []) fun env=>gC C ops rest K env m
   |.ask d c=>match o.guard with
    |some (_,true)=>Unit->Split c (uQ C o (gC C ops rest K) ((d,known true)::env) m) (Env.go ((d,known false)::env) o.dst (.lv []) fun env=>gC C ops rest K env m)
    |some (_,false)=>Unit->Split c (Env.go ((d,known true)::env) o.dst (.lv []) fun env=>gC C ops rest K env m) (uQ C o (gC C ops rest K) ((d,known false)::env) m)
    |none=>False
   |.bad=>False
  else False
def BX(env:Env)(c:Operand)(b:Bool):Env:=
 match c with
 |.tmp d=>(d,known b)::env
 |_=>env
def se(C:Ctx):Code->(Exit->Env->M->Prop)->Env->M->Prop
 |.skip,Q,env,m=>Q .normal env m
 |.region id ops draw,Q,env,m=>bif draw then Unit->qF C (.region id ops true) Q env m else gC C ops ops.toList (Q .normal) env m
 |.seq a b,Q,env,m=>se C a (fun e env m=>match e with|.normal=>se C b Q env m|e=>Q e env m) env m
 |.cond c a b,Q,env,m=>match cJ env c with
  |some (.v (.bool true))=>se C a Q env m
  |some (.v (.bool false))=>se C b Q env m
  |some (.b t)=>Unit->Split t (se C a Q (BX env c true) m) (se C b Q (BX env c false) m)
  |_=>False
 |.block id c,Q,env,m=>se C c (fun e env m=>match e with|.exit i=>(bif Nat.beq i id then Q .normal env m else Q (.exit i) env m)|e=>Q e env m) env m
 |.exit id,Q,env,m=>Q (.exit id) env m
 |.loop c,Q,env,m=>Unit->nZ C c Q env m
 |.rangeFunc f ps a b,Q,env,m=>Unit->qF C (.rangeFunc f ps a b) Q env m
 |.scope c,Q,env,m=>Unit->TQ C c c Q env m
 |.label _,Q,env,m=>Q .normal env m
 |.goto l,Q,env,m=>Q (.goto l) env m
 |.ret,Q,env,m=>Q .ret env m
 |.refuse _,_,_,_=>False
end Go.SE

namespace Go.SE
open Go Go.RowKit
variable [aG]
theorem Itf.cell{v v':World}(i:Itf v v'){a:Addr}{x:Value}(h:v.cell? a=some x):v'.cell? a=some x:=by
 by_cases hb:a.block<v.heap.size
 ·rw[World.cell?_of_block (w:=v) (i.lt hb)];exact h
 unfold World.cell? at h
 rw[Array.getElem?_eq_none (by omega)]at h
 cases h
theorem bz.lj{ρ:aZ}{v v':World}(i:Itf v v'){h:Nat}: ∀ {r:bd},bz ρ v h r->bz ρ v' h r
 |.box _ _ _,⟨h1,h2,h3,ys,h4,h5⟩=>⟨h1,h2,h3,ys,i.get h4,h5⟩
 |.row _ _ _ true,⟨h1,h2,h3⟩=>⟨h1,h2,h3.imp id fun⟨g1,g2,ys,g3,g4⟩=>⟨g1,g2,ys,i.get g3,g4⟩⟩
 |.row _ _ _ false,⟨h1,h2,h3⟩=>⟨h1,h2,h3.imp id fun⟨g1,g2⟩=>⟨g1,fun k x hx=>i.cell (g2 k x hx)⟩⟩
 |.obj _,⟨h1,h2,h3⟩=>⟨h1,i.get h2,h3⟩
 |.loop ..,⟨h1,r,h2,h3⟩=>⟨h1,r,i.get h2,h3⟩
 |.fR _ _ _,⟨h1,h2,h3,ys,zs,h4,h5⟩=>⟨h1,h2,h3,ys,zs,i.get h4,h5⟩
 |.slot _ _ _,⟨h1,h2,es,c,h3,h4⟩=>⟨h1,h2,es,c,i.get h3,h4⟩
 |.iter _ _ _ _,⟨h1,h2⟩=>⟨h1,i.get h2⟩
 |.gone,_=>trivial
theorem Itf.below{B:Nat}{w0 v v':World}(i:Itf v v')(h:Below B w0 v)(hB:B<=w0.heap.size):Below B w0 v':=
 ⟨i.os.trans h.os,i.tape.trans h.tape,i.output.trans h.output,Nat.le_trans h.size i.size,fun k hk=>(i.lt (by have:=h.size;omega)).trans (h.block k hk)⟩
theorem kh.lj{P:Program}{B:Nat}{w0:World}{ρ:aZ}{m:M}{v v':World}(h:kh P B w0 ρ m v)(i:Itf v v'):kh P B w0 ρ m v':=
 ⟨fun k r hr=>(h.aj k r hr).lj i,h.fG,h.base,i.below h.below h.hB,h.hB⟩
theorem iw.lj{P:Program}{B:Nat}{w0:World}{ρ:aZ}{m:M}{v v':World}(h:iw P B w0 ρ m v)(i:Itf v v'):iw P B w0 ρ m v':=fun ρ' aU=>(h ρ' aU).lj i
theorem Ok.lj{P:Program}{nt B:Nat}{w0:World}{D:Nat->Prop}{ρ:aZ}{env:Env}{m:M}{a:Act}{v v':World}(h:Ok P nt B w0 D ρ env m a v)(i:Itf v v'):Ok P nt B w0 D ρ env m a v':=⟨h.env,fun ρ' aU=>(h.mem ρ' aU).lj i,h.size⟩
theorem mm.lj{P:Program}{nt B:Nat}{w0:World}{ρ:aZ}{env:Env}{m:M}{a:Act}{v v':World}(h:mm P nt B w0 ρ env m a v)(i:Itf v v'):mm P nt B w0 ρ env m a v':=
 ⟨⟨h.ok.env,fun ρ' aU=>(h.ok.mem ρ' aU).lj i,h.ok.size⟩,h.ds⟩
def xB(P:Program)(o:Oper)(env:Env):Prop:=∀ρ a,cq ρ env a->bB P od (fun _=>True) (execOp a.eval o)
theorem xB.op{P:Program}{o:Oper}{env:Env}{ρ:aZ}{a:Act}(h:xB P o env)(he:cq ρ env a){ro:Option Nat}(iP:Oper.semAt ro a.eval o=execOp a.eval o)(v:World):LZ ro P o a v:=
 ⟨od,fun _ h=>h.elim,iP▸h ρ a he⟩
theorem kF.QX{P:Program}{f:FuncId}(h:kF P f)(ys:Array Value):bB P od (fun _=>True) (callFunc f ys):=bH (h ys).2
end Go.SE

namespace Go.SE
open Go Go.RowKit
variable [aG]
theorem aQ(n:Nat)(k:Nat->Prop):aY n k=k n:=by cases n<;>rfl
theorem JU(n:Int)(k:Int->Prop):FL n k=k n:=by
 cases n with
 |ofNat n=>simp only[FL,aQ];rfl
 |negSucc n=>simp only[FL,aQ];rw[Int.negSucc_eq]
theorem mL(x:S)(k:S->Prop):rm x k=k x:=by cases x<;>simp[rm,aQ,JU]
theorem dP: ∀ (l:List S) (k:List S->Prop),jC l k=k l
 | [],_=>rfl
 |x::l,k=>by simp[jC,mL,dP l]
theorem AH(x:T)(k:T->Prop):Bq x k=k x:=by cases x<;>simp[Bq,mL,dP]
theorem yu: ∀ (l:List T) (k:List T->Prop),wy l k=k l
 | [],_=>rfl
 |x::l,k=>by simp[wy,AH,yu l]
theorem gK(x:X)(k:X->Prop):l8 x k=k x:=by cases x<;>simp[l8,AH,yu]
theorem AI(x:Option S)(k:Option S->Prop):Br x k=k x:=by cases x<;>simp[Br,mL]
theorem yv(x:Option Nat)(k:Option Nat->Prop):wz x k=k x:=by cases x<;>simp[wz,aQ]
theorem JS(x:bd)(k:bd->Prop):FK x k=k x:=by cases x<;>simp[FK,dP,aQ,AI,yv]
theorem gz: ∀ (l:List (Nat×bd)) (k:List (Nat×bd)->Prop),ja l k=k l
 | [],_=>rfl
 |(h,r)::l,k=>by simp[ja,aQ,JS,gz l]
theorem Env.force_eq: ∀ (l:Env) (k:Env->Prop),Env.force l k=k l
 | [],k=>rfl
 |(h,r)::l,k=>by simp[Env.force,aQ,Env.force_eq l]
theorem Ctx.nW{C:Ctx}{ρ ρ':aZ}(hg:C.qY)(h:an (fun h=>h<C.p) ρ ρ'):C.ro ρ'=C.ro ρ:=by
 unfold Ctx.ro
 cases hr:C.rd with
 |none=>rfl
 |some k=>simp[h k (hg k hr)]
theorem yz{P:Program}{o:Oper}{a:Act}{w:World}{y:Value}{w':World}(h:Sz P o a w y w')(ro:Option Nat):Oper.semAt ro a.eval o=execOp a.eval o:=by
 refine Oper.semAt_eq ro a.eval o fun c hc=>?_
 unfold Sz at h
 simp only[execOp,hc,Sem.run_bind]at h
 cases hr:Sem.run P (resolve a.eval c o.type) w<;>simp[hr]at h
theorem fy(env:Env)(d:Option Nat)(x:X)(k:Nat):Env.get (eL env d x) k=if d=some k then some x else env.get k:=by
 cases d with
 |none=>simp[eL]
 |some d=>
  simp only[eL,Env.get,cond_eq_ite]
  by_cases h:d=k
  ·subst h;simp
  have:Nat.beq d k=false:=by rw[<-Bool.not_eq_true];exact fun e=>h (Nat.eq_of_beq_eq_true e)
  simp[this,h]
theorem cq.put{ρ:aZ}{env:Env}{a:Act}{nt:Nat}{d:Option Nat}{x:X}{y:Value}(h:cq ρ env a)(hs:nt<=a.tmps.size)(hd: ∀k,d=some k->k<nt)(hx:x.Rel ρ y):
  cq ρ (eL env d x) (a.put d y):=by
 intro k s hk
 rw[fy]at hk
 split at hk
 ·rename_i ln
  cases hk
  subst ln
  have:=hd k rfl
  exact⟨y,by simp[Act.put,Array.getElem?_setIfInBounds,show k<a.tmps.size by omega],hx⟩
 rename_i ln
 obtain⟨z,hz,hr⟩:=h k s hk
 refine⟨z,?_,hr⟩
 cases d with
 |none=>exact hz
 |some d=>simp only[Act.put];rw[Array.getElem?_setIfInBounds_ne (fun e=>ln (by rw[e]))];exact hz
theorem gb(a:Act)(d:Option Nat)(y:Value):(a.put d y).tmps.size=a.tmps.size:=by cases d<;>simp[Act.put]
theorem put_defers(a:Act)(d:Option Nat)(y:Value):(a.put d y).defers=a.defers:=by cases d<;>simp[Act.put]
theorem di{C:Ctx}{d:Option Nat}(h:gD C d=true): ∀k,d=some k->k<C.nt:=by
 rintro k rfl
 have h':Nat.ble (k+1) C.nt=true:=h
 exact Nat.le_of_ble_eq_true h'
theorem tf{C:Ctx}{o:Oper}{K:Env->M->Prop}{env:Env}{m:M}{e:Eff}(hd:gD C o.dst=true)(h:dj C.P o env m e)(za:xB C.P o env)(hK:K (eL env o.dst e.val) (m.app e)):L2 C o K env m:=by
 intro B w0 ρ a w aL hp
 obtain⟨dY,h⟩:=h
 obtain⟨y,w',ρ',hex,aU,hm⟩:=h C.nt B w0 (Lex m) ρ a w (fun k hk hl=>Nat.lt_irrefl _ (Nat.lt_of_lt_of_le hl hk.1)) aL.ok
 have tV:=yz hex (C.ro ρ)
 refine⟨za.op (aL.ok.env ρ (an.refl _ _)) tV w,?_⟩
 have xc:After C B w0 ρ K (a.put o.dst y) w':=by
  refine⟨ρ',eL env o.dst e.val,m.app e,aU.mono fun k (hk:k<C.p)=>(show k<m.nh by omega),Nat.le_trans hp dY,⟨⟨?_,?_,?_⟩,?_⟩,hK⟩
  ·intro ρ'' jP
   have Fa:an (fun h=>Lex m h\/Lr m e h) ρ' ρ'':=jP.mono fun k hk=>by
    rcases hk with hk|hk
    ·exact Nat.lt_of_lt_of_le hk dY
    exact hk.2
   have ZV:an (Lex m) ρ ρ'':=fun k hk=>(jP k (Nat.lt_of_lt_of_le hk dY)).trans (aU k hk)
   exact(aL.ok.env ρ'' ZV).put aL.ok.size (di hd) (hm ρ'' Fa).2
  ·intro ρ'' jP
   exact(hm ρ'' (jP.mono fun k hk=>by
    rcases hk with hk|hk
    ·exact Nat.lt_of_lt_of_le hk dY
    exact hk.2)).1
  ·rw[gb];exact aL.ok.size
  intro ρ'' jP
  rw[put_defers]
  exact aL.ds ρ'' fun k hk=>(jP k (Nat.lt_of_lt_of_le hk dY)).trans (aU k hk)
 rcases hex with hex|⟨rfl,hex⟩
 ·rw[eM (tV▸hex)];exact xc
 rw[eM (tV▸hex)];exact xc
end Go.SE

namespace Go.SE
open Go Go.RowKit
variable [aG]
def Comes.Ok(P:Program)(o:Oper)(env:Env)(m:M):Comes->Prop
 |.EJ e=>dj P o env m e
 |.ask p f=>∀x,p x->dj P o env m (f x)
 |.call f args=>∀a:Act,∃ys:List Value,∀ρ,cq ρ env a->cD ρ args ys/\execOp a.eval o=callFunc f ys.toArray/\∀c,o.op≠ .defer c
 |.yield h args=>∀a:Act,∃ys:List Value,∀ρ,cq ρ env a->cD ρ args ys/\execOp a.eval o=Instr.yield (ρ h).blk ys.toArray/\∀c,o.op≠ .defer c
 |.none=>True
variable{P:Program}{o:Oper}{env:Env}{m:M}
theorem Comes.Ok.bif{b:Bool}{c:Comes}(h:b=true->c.Ok P o env m):(bif b then c else Comes.none).Ok P o env m:=by
 cases b
 ·trivial
 exact h rfl
theorem Comes.Ok.tY{b:Bool}{c d:Comes}(h:b=true->c.Ok P o env m)(h':b=false->d.Ok P o env m):(bif b then c else d).Ok P o env m:=by
 cases b
 ·exact h' rfl
 exact h rfl
theorem Comes.Ok.ite{p:Prop}[Decidable p]{c:Comes}(h:p->c.Ok P o env m):(if p then c else Comes.none).Ok P o env m:=by
 split
 ·rename_i hp;exact h hp
 trivial
theorem ez{op:BinOp}{t t2:TypeId}{x y:Operand}{tx ty s:T}{r:Value}(ho:o.op= .binOp op t x y t2)(hx:nU env x=some tx)(hy:nU env y=some ty)(hs: ∀ρ,s.Rel ρ r)
  (aS: ∀ρ a b w,tx.Rel ρ a->ty.Rel ρ b->(eqGuard op t x y a b).run P w= .ok () w/\(binOp op t a b).run P w= .ok r w):dj P o env m {val:=.t s,aj:= [],nh:=m.nh}:=by
 refine aH fun B w0 ρ a w he hm=>?_
 obtain⟨h1,h2⟩:=aS ρ _ _ w (cM he hx) (cM he hy)
 exact⟨r,by simp[execOp,ho,h1,h2],hs ρ⟩
theorem HQ{op:BinOp}{t:TypeId}{k k':IntKind}{a b r:Int}(h:dx op k a b r)(hk:sr op=true\/k=k')(w:World):(binOp op t (.int k a) (.int k' b)).run P w= .ok (.int k r) w:=by
 unfold dx at h
 cases op<;>simp only at h<;>first
  |exact h.elim
  |(
   obtain⟨h1,rfl⟩:=h
   simp[binOp,Op.shift,show ¬b<0 by omega];done)
  |(
   obtain rfl:k=k':=by simpa [sr]using hk
   first
    |(subst h;simp[binOp,Op.intArith,Op.intBits];done)
    |(obtain⟨h1,rfl⟩:=h;simp[binOp,Op.intDiv,h1]))
theorem GG{op:BinOp}{k:IntKind}{a b r:Int}(h:LV op k a b=some r):dx op k a b r:=by
 unfold LV at h
 cases op<;>simp only[reduceCtorEq,Option.some.injEq]at h<;>first
  |exact h
  |(split at h<;>first
    |(rename_i hb;simp only[Option.some.injEq]at h;exact⟨hb,h⟩)
    |cases h)
theorem Pb{op:BinOp}{t:TypeId}{k:IntKind}{a b:Int}{c:Bool}(h:Hn op a b=some c)(w:World):(binOp op t (.int k a) (.int k b)).run P w= .ok (.bool c) w:=by
 cases op<;>simp only[Hn,Option.some.injEq,reduceCtorEq]at h<;>subst h<;>simp[binOp,Op.intCmp]<;>(try rfl)
theorem dE{c kn:Bool}(h: ∀s:S,(∀ρ,s.Rel ρ (.bool c))->dj P o env m {val:=.t (.one s),aj:= [],nh:=m.nh}):(ed m c kn).Ok P o env m:=by
 unfold ed
 refine Comes.Ok.tY (fun _=>?_) fun _=>h (.b c) fun _=>rfl
 cases c
 ·exact h (.v (.bool false)) fun _=>⟨rfl,rfl⟩
 exact h (.v (.bool true)) fun _=>⟨rfl,rfl⟩
theorem uF{op:BinOp}{t:TypeId}{x y:Operand}{a b:Value}(h:(∃k i,a= .int k i)\/(∃c,a= .bool c)\/(∃s,a= .string s))(w:World):(eqGuard op t x y a b).run P w= .ok () w:=by
 rcases h with⟨k,i,rfl⟩|⟨c,rfl⟩|⟨s,rfl⟩<;>(unfold eqGuard;split<;>simp)
theorem DY{op:BinOp}{t t2:TypeId}{x y:Operand}{sx sy:S}{k k':IntKind}{a b:Int}{ka kb kn:Bool}(ho:o.op= .binOp op t x y t2)(hx:nU env x=some (.one sx))(hy:nU env y=some (.one sy))
  (pR:sx.int?=some (k,a,ka)) (Cy:sy.int?=some (k',b,kb)) (hk:sr op=true\/k=k'):(Df op m k a b kn).Ok P o env m:=by
 have key: ∀ (s:S) (r:Value),(∀ρ,s.Rel ρ r)->(∀w,(binOp op t (.int k a) (.int k' b)).run P w= .ok r w)->dj P o env m {val:=.t (.one s),aj:= [],nh:=m.nh}:=by
  intro s r hs hr
  refine ez (s:=.one s) ho hx hy hs fun ρ u v w hu hv=>?_
  rw[S.bV pR hu,S.bV Cy hv]
  exact⟨uF (.inl ⟨_,_,rfl⟩) w,hr w⟩
 unfold Df
 split
 ·rename_i c hc
  refine dE fun s hs=>key s _ hs fun w=>?_
  obtain rfl:k=k':=by
   rcases hk with hk|hk
   ·cases op<;>simp[sr]at hk<;>simp[Hn]at hc
   exact hk
  exact Pb hc w
 refine Comes.Ok.tY (fun _=>?_) fun _=>?_
 ·split
  ·rename_i r hr;rw[cG];exact key (.n k r) (.int k r) (fun _=>rfl) fun w=>HQ (GG hr) hk w
  trivial
 intro r hr;exact key (.v (.int k r)) (.int k r) (fun _=>⟨rfl,rfl⟩) fun w=>HQ hr hk w
theorem JY{op:BinOp}{t t2:TypeId}{x y:Operand}{sx sy:S}{a b:Bool}{ka kb kn:Bool}(ho:o.op= .binOp op t x y t2)(ht:P.underlying t=some .bool)(hx:nU env x=some (.one sx))(hy:nU env y=some (.one sy))
  (pR:sx.bool?=some (a,ka)) (Cy:sy.bool?=some (b,kb)):(xy op m a b kn).Ok P o env m:=by
 have key: ∀ (s:S) (r:Value),(∀ρ,s.Rel ρ r)->(∀w,(binOp op t (.bool a) (.bool b)).run P w= .ok r w)->dj P o env m {val:=.t (.one s),aj:= [],nh:=m.nh}:=by
  intro s r hs hr
  refine ez (s:=.one s) ho hx hy hs fun ρ u v w hu hv=>?_
  rw[S.iG pR hu,S.iG Cy hv]
  exact⟨uF (.inr (.inl ⟨_,rfl⟩)) w,hr w⟩
 have e: ∀w,(Op.equalIn Op.maxDepth t (.bool a) (.bool b)).run P w= .ok (a==b) w:=fun w=>by
  have h0:Rd P t (.v (.bool a)) (.v (.bool b))=some (a==b,true&&true):=by simp only[Rd,ht];rfl
  exact Ij (ρ:=fun _=>⟨0,0,0,0,true⟩) h0 ⟨rfl,rfl⟩ ⟨rfl,rfl⟩ 9999 w
 unfold xy
 split
 ·exact dE fun s hs=>key s _ hs fun w=>by simp only[binOp,Op.equal,Sem.run_bind,e w,Result.andThen_ok,Sem.run_pure]
 ·exact dE fun s hs=>key s _ hs fun w=>by simp only[binOp,Op.equal,Sem.run_bind,e w,Result.andThen_ok,Sem.run_pure]
 trivial
theorem Nr{op:BinOp}{t t2:TypeId}{x y:Operand}{sx sy:S}{a b:ByteArray}(ho:o.op= .binOp op t x y t2)(hx:nU env x=some (.one sx))(hy:nU env y=some (.one sy))
  (pR:sx.wP=some a) (Cy:sy.wP=some b):(Hm op m a b).Ok P o env m:=by
 have key: ∀ (s:S) (r:Value),(∀ρ,s.Rel ρ r)->(∀w,(binOp op t (.string a) (.string b)).run P w= .ok r w)->dj P o env m {val:=.t (.one s),aj:= [],nh:=m.nh}:=by
  intro s r hs hr
  refine ez (s:=.one s) ho hx hy hs fun ρ u v w hu hv=>?_
  rw[S.kH pR hu,S.kH Cy hv]
  exact⟨uF (.inr (.inr ⟨_,rfl⟩)) w,hr w⟩
 unfold Hm
 split
 ·rename_i c hc
  refine key (.b c) (.bool c) (fun _=>rfl) fun w=>?_
  cases op<;>simp only[L8,Option.some.injEq,reduceCtorEq]at hc<;>subst hc<;>simp[binOp,Op.stringOp]
 split
 ·rintro r ⟨rfl,hr⟩
  refine key (.v (.string (a++b))) (.string (a++b)) (fun _=>⟨rfl,rfl⟩) fun w=>?_
  have: ¬(((a.size+b.size:Nat):Int)>IntKind.i64.max):=by omega
  simp only[binOp,Op.stringOp,this,if_false,Sem.run_pure]
 trivial
theorem JN{op:BinOp}{t:TypeId}{x y:Operand}(tQ bs:Array Value){w:World}(h2:(Op.eqGuardIn Op.maxDepth t (.agg tQ) (.agg bs)).run P w= .ok false w):(eqGuard op t x y (.agg tQ) (.agg bs)).run P w= .ok () w:=by
 have hp:(program:Sem Program).run P w= .ok P w:=rfl
 unfold eqGuard
 generalize Op.maxDepth=D at*
 have key:(Sem.run P (do
   if !(<-program).eqGuardType (<-program).depth t then return
   if <-Op.eqGuardIn D t (.agg tQ) (.agg bs)then unsupported (.noEntry "binop/eql: two nil values of an interface type with methods, in a part of a struct or an array")) w)= .ok () w:=by
  rw[Sem.run_bind,hp]
  show Sem.run P _ w=_
  rw[Sem.run_bind,hp]
  show Sem.run P _ w=_
  generalize P.eqGuardType P.depth t=q
  cases q
  ·rfl
  show Sem.run P (Op.eqGuardIn D t (.agg tQ) (.agg bs)>>=_) w=_
  rw[Sem.run_bind,h2]
  rfl
 split
 ·exact key
 ·exact key
 rfl
theorem TB{op:BinOp}{t:TypeId}{tQ bs:Array Value}{w:World}{c:Bool}(aF:op= .eql\/op= .neq)(h1:(Op.equalIn Op.maxDepth t (.agg tQ) (.agg bs)).run P w= .ok c w):
  (binOp op t (.agg tQ) (.agg bs)).run P w= .ok (.bool (if op= .eql then c else !c)) w:=by
 have e:(Op.equal t (.agg tQ) (.agg bs)).run P w= .ok c w:=h1
 rcases aF with rfl|rfl
 ·show Sem.run P (do pure (Value.bool (<-Op.equal t (.agg tQ) (.agg bs)))) w=_
  simp only[Sem.run_bind,e,Result.andThen_ok,Sem.run_pure,if_true]
 show Sem.run P (do pure (Value.bool (!(<-Op.equal t (.agg tQ) (.agg bs))))) w=_
 simp only[Sem.run_bind,e,Result.andThen_ok,Sem.run_pure]
 rfl
theorem tC{g g':TypeId->T->T->Option (Bool×Bool)}{t:TypeId}{xs ys:List S}{off:Nat}(h: ∀a b,g t a b=g' t a b):mZ P g t xs ys off=mZ P g' t xs ys off:=by
 unfold mZ
 split
 ·exact h _ _
 rfl
theorem yC{g g':TypeId->T->T->Option (Bool×Bool)}{xs ys:List S}: ∀ {fs:List Field},(∀f∈fs,∀a b,g f.type a b=g' f.type a b)->fx P g xs ys fs=fx P g' xs ys fs
 | [],_=>rfl
 |f::fs,h=>by
  unfold fx
  rw[tC (h f (by simp)),yC fun f' hf=>h f' (by simp[hf])]
theorem vB{g g':TypeId->T->T->Option (Bool×Bool)}{e:TypeId}{xs ys:List S}{n:Nat}(h: ∀a b,g e a b=g' e a b): ∀ (len i:Nat),eu P g e xs ys n len i=eu P g' e xs ys n len i
 |0,_=>rfl
 |len+1,i=>by
  unfold eu
  rw[tC h,vB h len (i+1)]
theorem sA: ∀ (d:Nat) (t:TypeId),fu P d t=true->∀a b,EI P d t a b=Fe P d t a b
 |0,t,_,a,b=>by cases a<;>cases b<;>rfl
 |d+1,t,h,.one x,.one y=>rfl
 |d+1,t,h,.one x,.agg y=>rfl
 |d+1,t,h,.agg x,.one y=>rfl
 |d+1,t,h,.agg xs,.agg ys=>by
  unfold fu at h
  unfold EI Fe
  split
  ·rename_i fs hu
   rw[hu]at h
   simp only[Bool.and_eq_true,Bool.not_eq_true']at h
   rw[h.1,cond_false]
   exact yC fun f hf a b=>sA d f.type (List.all_eq_true.1 h.2 f hf) a b
  ·rename_i len e hu
   rw[hu]at h
   rw[vB (fun a b=>sA d e h a b)]
  rfl
theorem PF{op:BinOp}{t t2:TypeId}{x y:Operand}{xs ys:List S}(ho:o.op= .binOp op t x y t2)(hx:nU env x=some (.agg xs))(hy:nU env y=some (.agg ys)):(Fg P op m t xs ys).Ok P o env m:=by
 have key: ∀ (c kn:Bool),EI P 8 t (.agg xs) (.agg ys)=some (c,kn)->op= .eql\/op= .neq->∀ (s:S),(∀ρ,s.Rel ρ (.bool (if op= .eql then c else !c)))->dj P o env m {val:=.t (.one s),aj:= [],nh:=m.nh}:=by
  intro c kn hc aF s hs
  refine ez (s:=.one s) ho hx hy hs fun ρ u v w hu hv=>?_
  have hD:8<=Op.maxDepth:=by unfold Op.maxDepth;omega
  have h1:=BV (ρ:=ρ) 8 hD _ _ _ _ _ _ _ hc hu hv w
  have h2:=AK (ρ:=ρ) 8 hD _ _ _ _ _ _ hc hu hv w
  obtain⟨tQ,rfl,_⟩:=hu
  obtain⟨bs,rfl,_⟩:=hv
  exact⟨JN _ _ h2,TB aF h1⟩
 have EJ: ∀ (c kn:Bool),(∀s:S,(∀ρ,s.Rel ρ (.bool c))->dj P o env m {val:=.t (.one s),aj:= [],nh:=m.nh})->dj P o env m (sE m c kn):=by
  intro c kn h
  unfold sE
  cases kn
  ·exact h (.b c) fun _=>rfl
  cases c
  ·exact h (.v (.bool false)) fun _=>⟨rfl,rfl⟩
  exact h (.v (.bool true)) fun _=>⟨rfl,rfl⟩
 unfold Fg
 split
 ·split
  ·rename_i c kn hc
   intro _ hf
   rw[<-sA _ _ hf]at hc
   exact EJ _ _ fun s hs=>key c kn hc (.inl rfl) s (by simpa using hs)
  trivial
 ·split
  ·rename_i c kn hc
   intro _ hf
   rw[<-sA _ _ hf]at hc
   exact EJ _ _ fun s hs=>key c kn hc (.inr rfl) s (by simpa using hs)
  trivial
 trivial
theorem iE{op:BinOp}{t:TypeId}{x y:Operand}{a b:Value}(h:(∃p l c,a= .slice p l c)\/(∃p,a= .pointer p))(w:World):(eqGuard op t x y a b).run P w= .ok () w:=by
 rcases h with⟨k,i,c,rfl⟩|⟨c,rfl⟩<;>(unfold eqGuard;split<;>simp)
theorem lP{t e:TypeId}{p q:Option Addr}{l c l' c':Nat}(h:P.underlying t=some (.slice e))(hq:q=none)(w:World):(Op.equal t (.slice p l c) (.slice q l' c')).run P w= .ok p.isNone w:=by
 subst hq
 have e1:Op.maxDepth=9999+1:=rfl
 unfold Op.equal
 rw[e1]
 generalize 9999=d
 cases p<;>simp[Op.equalIn,run_underlying h]
theorem mj{t e:TypeId}{p:Option Addr}(h:P.underlying t=some (.pointer e))(w:World):(Op.equal t (.pointer p) (.pointer none)).run P w= .ok p.isNone w:=by
 have e1:Op.maxDepth=9999+1:=rfl
 unfold Op.equal
 rw[e1]
 generalize 9999=d
 cases p<;>simp[Op.equalIn,run_underlying h]
theorem kO{op:BinOp}{c:Bool}(hc:uf op=some c){t:TypeId}{a b:Value}(h:(∃p l c,a= .slice p l c)\/(∃p,a= .pointer p)){r:Bool}{w:World}(hr:(Op.equal t a b).run P w= .ok r w):(binOp op t a b).run P w= .ok (.bool (if r then !c else c)) w:=by
 unfold uf at hc
 split at hc
 ·cases hc
  rcases h with⟨k,i,c,rfl⟩|⟨c,rfl⟩<;>(simp only[binOp,Sem.run_bind,hr,Result.andThen_ok,Sem.run_pure];cases r<;>rfl)
 ·cases hc
  rcases h with⟨k,i,c,rfl⟩|⟨c,rfl⟩<;>(simp only[binOp,Sem.run_bind,hr,Result.andThen_ok,Sem.run_pure];cases r<;>rfl)
 cases hc
theorem yp{op:BinOp}{t:TypeId}{x y:Operand}{a b:Value}(h:(∃f r c,a= .func f r c)\/a= .nilFunc)(w:World):(eqGuard op t x y a b).run P w= .ok () w:=by
 rcases h with⟨k,i,c,rfl⟩|rfl<;>(unfold eqGuard;split<;>simp)
theorem yB{t:TypeId}{ps rs:Array TypeId}{v:Bool}{a:Value}(h:P.underlying t=some (.func ps rs v))(ha:(∃f r c,a= .func f r c)\/a= .nilFunc)(w:World):(Op.equal t a .nilFunc).run P w= .ok (match a with|.nilFunc=>true|_=>false) w:=by
 have e1:Op.maxDepth=9999+1:=rfl
 unfold Op.equal
 rw[e1]
 generalize 9999=d
 rcases ha with⟨k,i,c,rfl⟩|rfl<;>simp[Op.equalIn,run_underlying h]
theorem AN{op:BinOp}{c:Bool}(hc:uf op=some c){t:TypeId}{a b:Value}(h:(∃f r c,a= .func f r c)\/a= .nilFunc){r:Bool}{w:World}(hr:(Op.equal t a b).run P w= .ok r w):(binOp op t a b).run P w= .ok (.bool (if r then !c else c)) w:=by
 unfold uf at hc
 split at hc
 ·cases hc
  rcases h with⟨k,i,c,rfl⟩|rfl<;>(simp only[binOp,Sem.run_bind,hr,Result.andThen_ok,Sem.run_pure];cases r<;>rfl)
 ·cases hc
  rcases h with⟨k,i,c,rfl⟩|rfl<;>(simp only[binOp,Sem.run_bind,hr,Result.andThen_ok,Sem.run_pure];cases r<;>rfl)
 cases hc
theorem Ns{op:BinOp}{t t2:TypeId}{x y:Operand}{sx sy:S}(ho:o.op= .binOp op t x y t2)(hx:nU env x=some (.one sx))(hy:nU env y=some (.one sy)):(xd P op m t sx sy).Ok P o env m:=by
 unfold xd
 split
 ·trivial
 rename_i c hc
 split
 ·rename_i e h off len vG
  split
  ·rename_i cells sz te bn
   refine dE fun s hs=>?_
   refine aH fun B w0 ρ a w he hm=>?_
   have h1:=cM he hx
   obtain⟨h2,_⟩:=cM he hy
   have h4:=(hm.aj _ _ bn).1
   rcases h1 with⟨h3,_⟩|⟨_,_,ad,h3,_⟩
   ·rw[h4]at h3;cases h3
   refine⟨.bool c,?_,hs ρ⟩
   simp[execOp,ho,h2,h3,iE (.inl ⟨_,_,_,rfl⟩) w,kO hc (.inl ⟨_,_,_,rfl⟩) (lP vG rfl w)]
  ·rename_i xs sz te ai bn
   intro _ hl
   refine aH fun B w0 ρ a w he hm=>?_
   have h1:=cM he hx
   obtain⟨h2,_⟩:=cM he hy
   have h4:(ρ h).nil=true->xs= []:=by
    intro hn
    have:=hm.aj _ _ bn
    cases ai<;>rcases this with⟨_,_,⟨_,_,h⟩|⟨h,_⟩⟩<;>first|exact h|(rw[hn]at h;cases h)
   rcases h1 with⟨h5,_,_,h3,_⟩|⟨_,_,ad,h3,_⟩
   ·rcases hl with hl|hl
    ·omega
    exact absurd (h4 h5) hl
   refine⟨.bool c,?_,rfl,rfl⟩
   simp[execOp,ho,h2,h3,iE (.inl ⟨_,_,_,rfl⟩) w,kO hc (.inl ⟨_,_,_,rfl⟩) (lP vG rfl w)]
  trivial
 ·rename_i e vG
  refine dE fun s hs=>ez (s:=.one s) ho hx hy hs fun ρ u v w hu hv=>?_
  obtain⟨rfl,_⟩:=hu
  obtain⟨rfl,_⟩:=hv
  exact⟨iE (.inl ⟨_,_,_,rfl⟩) w,kO hc (.inl ⟨_,_,_,rfl⟩) (lP vG rfl w)⟩
 ·rename_i e ad l2 c2 vG
  refine dE fun s hs=>ez (s:=.one s) ho hx hy hs fun ρ u v w hu hv=>?_
  obtain⟨rfl,_⟩:=hu
  obtain⟨rfl,_⟩:=hv
  exact⟨iE (.inl ⟨_,_,_,rfl⟩) w,kO hc (.inl ⟨_,_,_,rfl⟩) (lP vG rfl w)⟩
 ·rename_i e h off vG
  refine dE fun s hs=>ez (s:=.one s) ho hx hy hs fun ρ u v w hu hv=>?_
  have hu:u=aB ρ h off:=hu
  subst hu
  obtain⟨rfl,_⟩:=hv
  exact⟨iE (.inr ⟨_,rfl⟩) w,kO hc (.inr ⟨_,rfl⟩) (mj vG w)⟩
 ·rename_i e h off vG
  refine dE fun s hs=>ez (s:=.one s) ho hx hy hs fun ρ u v w hu hv=>?_
  have hu:u=aB ρ h off:=hu
  subst hu
  obtain⟨rfl,_⟩:=hv
  exact⟨iE (.inr ⟨_,rfl⟩) w,kO hc (.inr ⟨_,rfl⟩) (mj vG w)⟩
 ·rename_i e1 e2 e3 f cz vG
  refine dE fun s hs=>ez (s:=.one s) ho hx hy hs fun ρ u v w hu hv=>?_
  obtain⟨rfl,_⟩:=hv
  have hu:u= .func (.func f) #[] (cz.map fun p=>aB ρ p.1 p.2).toArray:=hu
  subst hu
  exact⟨yp (.inl ⟨_,_,_,rfl⟩) w,AN hc (.inl ⟨_,_,_,rfl⟩) (yB vG (.inl ⟨_,_,_,rfl⟩) w)⟩
 ·rename_i e1 e2 e3 vG
  refine dE fun s hs=>ez (s:=.one s) ho hx hy hs fun ρ u v w hu hv=>?_
  obtain⟨rfl,_⟩:=hu
  obtain⟨rfl,_⟩:=hv
  exact⟨yp (.inr rfl) w,AN hc (.inr rfl) (yB vG (.inr rfl) w)⟩
 ·rename_i e vG
  refine dE fun s hs=>ez (s:=.one s) ho hx hy hs fun ρ u v w hu hv=>?_
  obtain⟨rfl,_⟩:=hu
  obtain⟨rfl,_⟩:=hv
  exact⟨iE (.inr ⟨_,rfl⟩) w,kO hc (.inr ⟨_,rfl⟩) (mj vG w)⟩
 trivial
theorem PO{op:BinOp}{t t2:TypeId}{x y:Operand}(ho:o.op= .binOp op t x y t2):(Ld P env m op t x y).Ok P o env m:=by
 unfold Ld;split
 ·rename_i sx sy hx hy
  unfold xe;split
  ·rename_i pR Cy
   refine Comes.Ok.tY (fun hs=>DY ho hx hy pR Cy (.inl hs)) fun _=>?_
   split
   ·rename_i hk;exact DY ho hx hy pR Cy (.inr hk)
   trivial
  split
  ·rename_i pR Cy
   split
   ·rename_i ht;exact JY ho ht hx hy pR Cy
   trivial
  split
  ·rename_i pR Cy;exact Nr ho hx hy pR Cy
  exact Ns ho hx hy
 ·rename_i hx hy;exact PF ho hx hy
 trivial
end Go.SE

namespace Go.SE
open Go Go.RowKit
variable [aG]
variable{P:Program}{o:Oper}{env:Env}{m:M}
theorem ia{t e:TypeId}(h:iF P t=some e):P.underlying t=some (.slice e):=by
 unfold iF at h;split at h
 ·rename_i h1;cases h;exact h1
 cases h
theorem jd{t:TypeId}{e sz by_:Nat}(h:gX P t=some ⟨e,sz,by_⟩):P.underlying t=some (.slice e)/\∃i z,P.info? e=some i/\i.zero=some z/\i.size=sz/\z.cells.size=sz/\0<sz/\i.bytes=by_:=by
 unfold gX at h
 split at h
 ·rename_i e' hu
  split at h
  ·rename_i i hi
   split at h
   ·rename_i z hz
    simp only[cond_eq_ite]at h
    split at h
    ·rename_i hb
     rw[Bool.and_eq_true]at hb
     simp only[eY,Option.some.injEq,OM.mk.injEq]at h
     obtain⟨rfl,rfl,rfl⟩:=h
     exact⟨hu,i,z,hi,hz,rfl,Nat.eq_of_beq_eq_true hb.1,Nat.le_of_ble_eq_true hb.2,rfl⟩
    cases h
   cases h
  cases h
 cases h
theorem o6{ρ:aZ}{w:World}{h:Nat}{xs:List Value}{sz:Nat}{e:TypeId}{ai:Bool}(hb:bz ρ w h (.row xs sz e ai)):
  (∀x∈xs,x.oneCell'=true)/\∀i y,xs[i]?=some y->w.cell? ⟨(ρ h).blk,(ρ h).base+i,none⟩=some y:=by
 cases ai with
 |true=>
  obtain⟨_,h1,⟨_,_,rfl⟩|⟨_,h3,ys,h4,_,h5⟩⟩:=hb
  ·exact⟨h1,fun i y hy=>by simp at hy⟩
  refine⟨h1,fun i y hy=>?_⟩
  obtain⟨zs,rfl⟩:=h5
  have hi:i<xs.length:=(List.getElem?_eq_some_iff.1 hy).1
  simp[World.cell?,h4,h3,List.getElem?_append_left hi,hy]
 |false=>
  obtain⟨_,h1,⟨_,_,rfl⟩|⟨_,h5⟩⟩:=hb
  ·exact⟨h1,fun i y hy=>by simp at hy⟩
  exact⟨h1,h5⟩
theorem pH{ρ:aZ}{B:Nat}{w0 w:World}{sz k:Nat}{s:S}{y:Value}{news:List Value}(hm:kh P B w0 ρ m w)(h:jR m sz s=some (news,k))(hs:s.Rel ρ y)(hl:news.length=k*sz)(e8:0<sz):xh w sz y k news:=by
 have key: ∀ (hh off len:Nat) (xs:List Value),(ρ hh).sz=sz->(∀x∈xs,x.oneCell'=true)->(∀i y,xs[i]?=some y->w.cell? ⟨(ρ hh).blk,(ρ hh).base+i,none⟩=some y)->jL (ρ hh) off len y->
   ((xs.drop (off*sz)).take (len*sz)).length=len*sz->xh w sz y len ((xs.drop (off*sz)).take (len*sz)):=by
  intro hh off len xs h1 h2 h3 h4 h5
  rcases h4 with⟨_,_,rfl,rfl,rfl⟩|⟨hn,hle,a,rfl,ha⟩
  ·have:(List.take (0*sz) (List.drop (0*sz) xs))= []:=by simp
   rw[this];exact .none
  refine .some a len _ _ h5 (fun j u hj=>?_) (fun u hu=>h2 u (List.mem_of_mem_drop (List.mem_of_mem_take hu)))
  rw[List.getElem?_take]at hj
  split at hj
  ·rename_i bA
   rw[List.getElem?_drop]at hj
   have hlen:0<len:=by
    rcases Nat.eq_zero_or_pos len with h0|h0
    ·subst h0;simp at bA
    exact h0
   rw[ha (.inl (by omega)),cN,h1]
   have:=h3 _ _ hj
   rw[<-this,Nat.add_assoc]
  cases hj
 unfold jR at h
 split at h
 ·cases h
  obtain⟨rfl,_⟩:=hs
  exact .none
 ·rename_i ad cap
  cases h
  obtain⟨rfl,_⟩:=hs
  exact .some ad 0 cap [] (by simp) (by simp) (by simp)
 ·rename_i hh off len
  split at h
  ·rename_i xs jN e ai hr
   simp only[cond_eq_ite]at h
   split at h
   ·rename_i hb
    cases h
    have hb:=Nat.eq_of_beq_eq_true hb
    subst hb
    have bn:=hm.aj _ _ hr
    obtain⟨h2,h3⟩:=o6 bn
    have h1:(ρ hh).sz=jN:=by cases ai<;>exact bn.1
    exact key hh off k xs h1 h2 h3 hs hl
   cases h
  ·rename_i cells jN e hr
   simp only[cond_eq_ite]at h
   split at h
   ·rename_i hb
    split at h
    ·rename_i xs hv
     have hb:=Nat.eq_of_beq_eq_true hb
     subst hb
     obtain⟨g1,g2,g3,ys,g4,g5⟩:=hm.aj _ _ hr
     have e5:=dA hv g5
     rw[e5]at g4 g5
     have mA: ∀ (i:Nat) (y:Value),xs[i]?=some y->w.cell? ⟨(ρ hh).blk,(ρ hh).base+i,none⟩=some y:=fun i y hy=>by simp[World.cell?,g4,g2,hy]
     split at h
     ·rename_i hfull
      rw[Bool.and_eq_true]at hfull
      have e0:=Nat.eq_of_beq_eq_true hfull.1
      have e1:=Nat.eq_of_beq_eq_true hfull.2
      simp only[Option.some.injEq,Prod.mk.injEq]at h
      obtain⟨h6,h7⟩:=h
      subst h6;subst h7;subst e0
      have e2:((xs.drop (0*jN)).take (len*jN))=xs:=by
       rw[Nat.zero_mul,List.drop_zero,e1,g5.length,List.take_length]
      have:=key hh 0 len xs g3.1 (bt.one g5) mA hs (by rw[e2];exact hl)
      rwa [e2]at this
     simp only[Option.some.injEq,Prod.mk.injEq]at h
     obtain⟨h6,h7⟩:=h
     subst h6;subst h7
     exact key hh off len xs g3.1 (bt.one g5) mA hs hl
    cases h
   cases h
  cases h
 cases h
theorem Ek{ρ:aZ}{B:Nat}{w0 w:World}{sz n:Nat}{e:TypeId}{s:S}{y:Value}{ho:Option Nat}{xs:List Value}(hm:kh P B w0 ρ m w)(h:np m sz e s=some ⟨ho,xs,n⟩)(hs:s.Rel ρ y)(hl:xs.length=n*sz)(e8:0<sz):
  (∀h,ho=some h->∃z,m.reg h=some z/\z.ai=true/\∀r,gR z r=false)/\∃L,mC L w xs sz e/\jL L 0 n y/\(L.nil=false->∃h,ho=some h/\L=ρ h):=by
 unfold np at h
 split at h
 ·cases h
  obtain⟨rfl,_⟩:=hs
  exact⟨fun _ h=>(by cases h),⟨0,0,0,sz,true⟩,⟨rfl,by simp,.inl ⟨rfl,rfl,rfl⟩⟩,.inl ⟨rfl,rfl,rfl,rfl,rfl⟩,fun h=>by cases h⟩
 ·rename_i hh len
  split at h
  ·rename_i NK jN e' hr
   simp only[cond_eq_ite]at h
   split at h
   ·rename_i hb
    rw[Bool.and_eq_true]at hb
    simp only[Option.some.injEq,Own.mk.injEq]at h
    obtain⟨rfl,rfl,rfl⟩:=h
    have IC:=Nat.eq_of_beq_eq_true hb.1
    have ES:=Nat.eq_of_beq_eq_true hb.2
    subst IC;subst ES
    exact⟨fun h e=>by cases e;exact⟨_,hr,rfl,fun _=>rfl⟩,ρ hh,As.1 (hm.aj _ _ hr),hs,fun _=>⟨hh,rfl,rfl⟩⟩
   cases h
  ·rename_i cells jN e' hr
   simp only[cond_eq_ite]at h
   split at h
   ·rename_i hb
    rw[Bool.and_eq_true]at hb
    split at h
    ·rename_i vs hv
     simp only[Option.some.injEq,Own.mk.injEq]at h
     obtain⟨rfl,rfl,rfl⟩:=h
     have IC:=Nat.eq_of_beq_eq_true hb.1
     have ES:=Nat.eq_of_beq_eq_true hb.2
     subst IC;subst ES
     refine⟨fun h e=>by cases e;exact⟨_,hr,rfl,fun _=>rfl⟩,ρ hh,?_,hs,fun _=>⟨hh,rfl,rfl⟩⟩
     obtain⟨g1,g2,⟨g3,g6,g7⟩,ys,g4,g5⟩:=hm.aj _ _ hr
     have:=dA hv g5
     subst this
     refine⟨g3,fun x hx=>bt.one g5 x (List.mem_of_mem_take hx),.inr ⟨g1,g2,ys,g4,⟨?_,g7 (by omega)⟩,List.take_prefix _ _⟩⟩
     rw[<-g5.length];exact g6.symm
    cases h
   cases h
  cases h
 cases h
theorem sD{ρ:aZ}{w:World}{h:Nat}{cells:List S}{sz:Nat}{e:TypeId}(hb:bz ρ w h (.box cells sz e))(e8:0<sz):
  ∃ys:List Value,bt ρ cells ys/\mC (ρ h) w ys sz e/\(ρ h).nil=false/\(ρ h).base=0/\(ρ h).cap*sz=cells.length/\∀i y,ys[i]?=some y->w.cell? ⟨(ρ h).blk,i,none⟩=some y:=by
 obtain⟨g1,g2,⟨g3,g6,g7⟩,ys,g4,g5⟩:=hb
 exact⟨ys,g5,⟨g3,bt.one g5,.inr ⟨g1,g2,ys,g4,⟨by rw[<-g5.length];exact g6.symm,g7 (by omega)⟩,List.prefix_refl _⟩⟩,g1,g2,g6,fun i y hy=>by simp[World.cell?,g4,hy]⟩
theorem tl{a b c:Nat}(h:a*c=b*c)(hc:0<c):a=b:=Nat.eq_of_mul_eq_mul_right hc h
theorem vF{ρ:aZ}{B:Nat}{w0 w:World}{L:Loc}{xs:List Value}{h2 k n sz:Nat}{fj:List S}{e e2 t ty:TypeId}{i:TypeInfo}{z y x:Value}(hm:kh P B w0 ρ m w)(EF:m.reg h2=some (.box fj sz e2))(e8:0<sz)(hk:0<k)(Ua:k*sz=fj.length)
  (hu:P.underlying t=some (.slice e)) (hi:P.info? e=some i) (hz:i.zero=some z) (fY:i.size=sz) (CF:z.cells.size=sz) (tW:mC L w xs sz e) (hs:jL L 0 n y) (hl:xs.length=n*sz) (hx:S.Rel ρ (.sl h2 0 k) x) (GU:n+k<=maxLen) (GR:(n+k)*i.bytes<=140737488355328):
  ∃v' w',(Builtin.append_ #[t,t] ty #[y,x]).run P w= .ok v' w'/\(∃zs,bt ρ fj zs/\mC (cI sz v') w' (xs++zs) sz e)/\jL (cI sz v') 0 (n+k) v'/\w.grownBy w' y.ownBlock/\
   ((cI sz v').nil=false->w.heap.size<=(cI sz v').blk\/(L.nil=false/\(cI sz v').blk=L.blk)):=by
 obtain⟨zs,j1,j2,j3,j4,j5,j6⟩:=sD (hm.aj _ _ EF) e8
 rcases hx with⟨q,_⟩|⟨-,q4,ad2,q5,q6⟩
 ·rw[j3]at q;cases q
 have q6:=q6 (.inr rfl)
 rw[j4]at q6
 simp only[Nat.zero_mul,Nat.add_zero]at q6
 have g:xh w sz x k zs:=by
  rw[q5,q6]
  refine .some _ _ _ _ (by rw[<-j1.length,Ua]) (fun j u hj=>by rw[cN,Nat.zero_add];exact j6 j u hj) (bt.one j1)
 obtain⟨v',w',r1,r2,r3,r4,r5⟩:=yI (ty:=ty) hu hi hz fY CF e8 tW hs hl g GU GR
 exact⟨v',w',r1,⟨zs,j1,r2⟩,r3,r4,r5⟩
theorem HD{ρ:aZ}{w:World}{h sz:Nat}{e:TypeId}{v:Value}{cells:List S}{xs:List Value}(hL:ρ h=cI sz v)(hr:mC (cI sz v) w xs sz e)(hx:bt ρ cells xs)(cb: ¬xs= []):bz ρ w h (.fR cells sz e):=by
 obtain⟨g1,g2,⟨_,_,g3⟩|⟨g5,g6,us,g7,⟨g8,g9⟩,IG⟩⟩:=hr
 ·exact absurd g3 cb
 exact⟨by rw[hL];exact g5,by rw[hL];exact g6,⟨by rw[hL];exact g1,by rw[hL];exact g9⟩,us,xs,by rw[hL];exact g7,by rw[hL];exact g8,IG,hx⟩
theorem Ez{c:Call}(ho:o.op= .call c)(hc:c.callee= .builtin .append){s x:Operand}{t e sz by_:Nat}{vs vx:S}(ha:c.args.toList= [s,x])(ht:c.argTypes.toList= [t,t])
  (wM:gX P t=some ⟨e,sz,by_⟩) (Ke:cJ env s=some vs) (Oc:cJ env x=some vx):(mF m e sz by_ vs vx).Ok P o env m:=by
 obtain⟨hu,i,z,hi,hz,fY,CF,e8,oY⟩:=jd wM
 have dh:c.args= #[s,x]:=by rw[<-Array.toArray_toList (xs:=c.args),ha]
 have ze:c.argTypes= #[t,t]:=by rw[<-Array.toArray_toList (xs:=c.argTypes),ht]
 unfold mF
 split
 ·rename_i h n
  split
  ·rename_i cells jN e' hr
   refine Comes.Ok.bif fun hb=>?_
   simp only[Bool.and_eq_true]at hb
   obtain⟨b1,b2,b3,b4⟩:=hb
   have b1:=Nat.eq_of_beq_eq_true b1
   have b2:=Nat.eq_of_beq_eq_true b2
   have b4:=Nat.eq_of_beq_eq_true b4
   subst b1;subst b2
   split
   ·refine aH fun B w0 ρ a w he hm=>?_
    obtain⟨ys,k1,k2,k3,k4,k5,k6⟩:=sD (hm.aj _ _ hr) e8
    have hs:=aA he Ke
    obtain⟨hx,_⟩:=aA he Oc
    have aN:=yg (B:=0) k2 hs (by rw[<-k1.length,b4]) (fun _=>Nat.zero_le _)
    exact⟨a.eval s,by simp[execOp,ho,resolve,hc,invoke,Go.builtin,dh,ze,hx,run_append_owned_none w 0 t o.type e' i jN hu hi (a.eval s) n ys aN],hs⟩
   ·rename_i h2 k
    split
    ·rename_i fj tN e2 EF
     refine Comes.Ok.bif fun hb=>?_
     simp only[Bool.and_eq_true]at hb
     obtain⟨d1,d2,d3⟩:=hb
     have d1:=Nat.eq_of_beq_eq_true d1
     have d2:0<k:=Nat.le_of_ble_eq_true d2
     have d3:=Nat.eq_of_beq_eq_true d3
     subst d1
     rw[eY]
     rintro _ ⟨GU,GR⟩
     refine Jy ⟨fun y _=>cI tN y,fun B w0 ρ a w he hm=>?_⟩
     obtain⟨ys,k1,k2,k3,k4,k5,k6⟩:=sD (hm.aj _ _ hr) e8
     obtain⟨zs,j1,j2,j3,j4,j5,j6⟩:=sD (hm.aj _ _ EF) e8
     have hs:=aA he Ke
     have hx:=aA he Oc
     rcases hs with⟨q,_⟩|⟨-,q1,ad,q2,q3⟩
     ·rw[k3]at q;cases q
     rcases hx with⟨q,_⟩|⟨-,q4,ad2,q5,q6⟩
     ·rw[j3]at q;cases q
     have e1:(ρ h).cap=n:=tl (by rw[k5,b4]) e8
     have NS:ys.length=n*tN:=by rw[<-k1.length,b4]
     have EP:zs.length=k*tN:=by rw[<-j1.length,d3]
     have q3:=q3 (.inr rfl)
     have q6:=q6 (.inr rfl)
     rw[k4]at q3
     rw[j4]at q6
     simp only[Nat.zero_mul,Nat.add_zero]at q3 q6
     subst q3;subst q6
     obtain⟨v',w',aS,aN,hg⟩:=run_append_arg_grows (P:=P) w t o.type e' i z tN i.bytes hu hi hz fY rfl CF e8 ⟨(ρ h).blk,0,none⟩ n ((ρ h).cap-0) ys NS (fun j u hj=>by rw[cN,Nat.zero_add];exact k6 j u hj)
      ⟨(ρ h2).blk,0,none⟩ k ((ρ h2).cap-0) zs EP (fun j u hj=>by rw[cN,Nat.zero_add];exact j6 j u hj) (by omega) GU (by rw[oY];exact GR)
     have wS: ∀u∈ys++zs,u.oneCell'=true:=fun u hu=>by
      rcases List.mem_append.1 hu with hu|hu
      ·exact bt.one k1 u hu
      exact bt.one j1 u hu
     obtain⟨⟨g1,g2,g3⟩,g4⟩:=kS aN wS
     have cb: ¬(ys++zs= []):=fun q=>by
      have:=congrArg List.length q
      simp only[List.length_append,List.length_nil]at this
      have:1*tN<=k*tN:=Nat.mul_le_mul_right _ d2
      omega
     rcases g3 with⟨_,_,g3⟩|⟨g5,g6,us,g7,⟨g8,g9⟩,IG⟩
     ·exact absurd g3 cb
     refine⟨v',w',?_,hg,?_,fun hL=>⟨?_,?_⟩⟩
     ·simp only[Nat.sub_zero]at aS
      simp[execOp,ho,resolve,hc,invoke,Go.builtin,dh,ze,q2,q5,aS]
     ·rcases aN.2 with⟨rfl,_⟩|⟨g,cap,cur,rfl,hb,_⟩
      ·cases g5
      exact hb
     ·exact⟨by rw[hL];exact g5,by rw[hL];exact g6,⟨by rw[hL];exact g1,by rw[hL];exact g9⟩,us,ys++zs,by rw[hL];exact g7,by rw[hL];exact g8,IG,k1.append j1⟩
     show jL (ρ m.nh) 0 (n+k) v'
     rw[hL];exact g4
    trivial
   trivial
  ·rename_i cells jN e' hr
   refine Comes.Ok.bif fun hb=>?_
   simp only[Bool.and_eq_true]at hb
   obtain⟨b1,b2,b3,b4⟩:=hb
   have b1:=Nat.eq_of_beq_eq_true b1
   have b2:=Nat.eq_of_beq_eq_true b2
   have b4:=Nat.eq_of_beq_eq_true b4
   subst b1;subst b2
   split
   ·rename_i h2 k
    split
    ·rename_i fj tN e2 EF
     refine Comes.Ok.bif fun hb=>?_
     simp only[Bool.and_eq_true]at hb
     obtain⟨d1,d2,d3⟩:=hb
     have d1:=Nat.eq_of_beq_eq_true d1
     have d2:0<k:=Nat.le_of_ble_eq_true d2
     have d3:=Nat.eq_of_beq_eq_true d3
     subst d1
     rw[eY,eY,Iq]
     rintro _ ⟨GU,GR⟩
     refine yh (sz:=tN) (fun _=>.fR (cells++fj) tN e') rfl (some h) (fun h' e=>by cases e;exact⟨_,hr,rfl,fun _=>rfl⟩) fun B w0 ρ a w he hm=>?_
     obtain⟨k1,k2,⟨k3,k4⟩,ys,xs,k5,k6,k7,k8⟩:=hm.aj _ _ hr
     have tW:mC (ρ h) w xs tN e':=⟨k3,bt.one k8,.inr ⟨k1,k2,ys,k5,⟨k6,k4⟩,k7⟩⟩
     obtain⟨v',w',r1,r2,r3,r4,r5⟩:=vF (ty:=o.type) hm EF e8 d2 d3 hu hi hz fY CF tW (aA he Ke) (by rw[<-k8.length,b4]) (aA he Oc) GU (by rw[oY];exact GR)
     obtain⟨zs,j1,r2⟩:=r2
     have EP:zs.length=k*tN:=by rw[<-j1.length,d3]
     refine⟨v',w',(a.eval s).ownBlock,?_,fun hL=>?_,r3,r4,fun kk hk=>?_,fun hn=>?_⟩
     ·simp[execOp,ho,resolve,hc,invoke,Go.builtin,dh,ze,r1]
     ·exact HD hL r2 (k8.append j1) (fun q=>by
       have:=congrArg List.length q
       simp only[List.length_append,List.length_nil]at this
       have:1*tN<=k*tN:=Nat.mul_le_mul_right _ d2
       omega)
     ·rcases aA he Ke with⟨q,_⟩|⟨hn,_,ad,hv,Ol⟩
      ·rw[k1]at q;cases q
      rw[hv]at hk
      simp only[Value.ownBlock,Option.some.injEq]at hk
      exact⟨h,rfl,k1,by rw[<-hk,Ol (.inr rfl)]⟩
     rcases r5 hn with h5|⟨h5,h6⟩
     ·exact .inl h5
     exact .inr ⟨h,rfl,h5,h6⟩
    trivial
   trivial
  trivial
 ·split
  ·rename_i h2 k
   split
   ·rename_i fj tN e2 EF
    refine Comes.Ok.bif fun hb=>?_
    simp only[Bool.and_eq_true]at hb
    obtain⟨d1,d2,d3⟩:=hb
    have d1:=Nat.eq_of_beq_eq_true d1
    have d2:0<k:=Nat.le_of_ble_eq_true d2
    have d3:=Nat.eq_of_beq_eq_true d3
    subst d1
    rw[eY]
    rintro _ ⟨GU,GR⟩
    refine yh (sz:=tN) (fun _=>.fR fj tN e) rfl none (fun h' e=>by cases e) fun B w0 ρ a w he hm=>?_
    obtain⟨hv,_⟩:=aA he Ke
    have tW:mC ⟨0,0,0,tN,true⟩ w [] tN e:=⟨rfl,by simp,.inl ⟨rfl,rfl,rfl⟩⟩
    obtain⟨v',w',r1,r2,r3,r4,r5⟩:=vF (n:=0) (y:=a.eval s) (ty:=o.type) hm EF e8 d2 d3 hu hi hz fY CF tW (.inl ⟨rfl,rfl,rfl,rfl,hv⟩) (by simp) (aA he Oc) (by simpa using GU) (by rw[oY];simpa using GR)
    obtain⟨zs,j1,r2⟩:=r2
    have EP:zs.length=k*tN:=by rw[<-j1.length,d3]
    refine⟨v',w',(a.eval s).ownBlock,?_,fun hL=>?_,by simpa using r3,r4,fun kk hk=>?_,fun hn=>?_⟩
    ·simp[execOp,ho,resolve,hc,invoke,Go.builtin,dh,ze,r1]
    ·exact HD hL r2 j1 (fun q=>by
      have:=congrArg List.length q
      simp only[List.nil_append,List.length_nil]at this
      have:1*tN<=k*tN:=Nat.mul_le_mul_right _ d2
      omega)
    ·rw[hv]at hk;cases hk
    rcases r5 hn with h5|⟨h5,h6⟩
    ·exact .inl h5
    cases h5
   trivial
  trivial
 trivial
theorem GK{c:Call}(ho:o.op= .call c)(hc:c.callee= .builtin .append):(wH P env m c).Ok P o env m:=by
 unfold wH
 split
 ·rename_i s x t t' ha ht
  refine Comes.Ok.bif fun hb=>?_
  have hb:=Nat.eq_of_beq_eq_true hb
  subst hb
  split
  ·rename_i e sz by_ vs vx wM Ke Oc
   split
   ·rename_i hov xs n news k h1 h2
    rw[eY]
    rintro r ⟨rfl,NS,EP,GU,GR⟩
    obtain⟨hu,i,z,hi,hz,fY,CF,e8,oY⟩:=jd wM
    have bn: ∀h,hov=some h->∃z,m.reg h=some z/\z.ai=true/\∀r,gR z r=false:=by
     intro h hh
     subst hh
     unfold np at h1
     split at h1
     ·cases h1
     ·rename_i hh len
      split at h1
      ·rename_i hr
       simp only[cond_eq_ite]at h1
       split at h1
       ·cases h1;exact⟨_,hr,rfl,fun _=>rfl⟩
       cases h1
      ·rename_i hr
       simp only[cond_eq_ite]at h1
       split at h1
       ·split at h1
        ·cases h1;exact⟨_,hr,rfl,fun _=>rfl⟩
        cases h1
       cases h1
      cases h1
     cases h1
    refine Av hov bn fun B w0 ρ a w he hm=>?_
    obtain⟨_,L,q1,q2,q3⟩:=Ek hm h1 (aA he Ke) NS e8
    have q4:=pH hm h2 (aA he Oc) EP e8
    obtain⟨v',w',r1,r2,r3,r4,r5⟩:=yI (ty:=o.type) hu hi hz fY CF e8 q1 q2 NS q4 GU (by rw[oY];exact GR)
    have dh:c.args= #[s,x]:=by rw[<-Array.toArray_toList (xs:=c.args),ha]
    have ze:c.argTypes= #[t,t]:=by rw[<-Array.toArray_toList (xs:=c.argTypes),ht]
    refine⟨v',w',(a.eval s).ownBlock,?_,r2,r3,r4,fun kk hk=>?_,fun hn=>?_⟩
    ·simp[execOp,ho,resolve,hc,invoke,Go.builtin,dh,ze,r1]
    ·rcases q2 with⟨_,_,_,_,hv⟩|⟨hn,_,ad,hv,Ol⟩
     ·rw[hv]at hk;cases hk
     rw[hv]at hk
     simp only[Value.ownBlock,Option.some.injEq]at hk
     obtain⟨h,g1,g2⟩:=q3 hn
     refine⟨h,g1,by rw[<-g2];exact hn,?_⟩
     rw[<-hk,Ol (.inr rfl),g2]
    rcases r5 hn with h5|⟨h5,h6⟩
    ·exact .inl h5
    obtain⟨h,g1,g2⟩:=q3 h5
    exact .inr ⟨h,g1,by rw[<-g2];exact h5,by rw[h6,g2]⟩
   exact Ez ho hc ha ht wM Ke Oc
  trivial
 trivial
theorem qk{ρ:aZ}{a:Act}(he:cq ρ env a){d:Nat}{x:Option Operand}{i:Int}(h:bound env d x=some i):(x=none/\i=d)\/∃y k,x=some y/\a.eval y= .int k i:=by
 unfold bound at h
 split at h
 ·cases h;exact .inl ⟨rfl,rfl⟩
 rename_i y
 split at h
 ·rename_i s hs
  split at h
  ·rename_i k i' kn hi
   cases h
   exact .inr ⟨y,k,rfl,S.bV hi (aA he hs)⟩
  cases h
 cases h
theorem O4{ρ:aZ}{B:Nat}{w0 w:World}{h sz:Nat}(hm:kh P B w0 ρ m w)(hs:IJ m h=some sz):(ρ h).sz=sz:=by
 unfold IJ at hs
 split at hs
 ·rename_i xs jN e ai hr
  cases hs
  have:=hm.aj _ _ hr
  cases ai<;>exact this.1
 ·rename_i hr
  cases hs
  exact(hm.aj _ _ hr).2.2.1.1
 cases hs
theorem rA{ρ:aZ}{a:Act}(he:cq ρ env a){lo hi:Option Operand}{len cap l u:Nat}(hl:bound env 0 lo=some (l:Int))(hu:bound env len hi=some (u:Int))(UH:l<=u)(UA:u<=cap)(w:World):
  (Instr.sliceBounds true len cap (lo.map a.eval) (hi.map a.eval) none).run P w= .ok (l,u,cap) w:=by
 rcases qk he hl with⟨rfl,h1⟩|⟨y,k,rfl,h1⟩<;>rcases qk he hu with⟨rfl,h2⟩|⟨z,k',rfl,h2⟩
 ·have e1:l=0:=by omega
  have e2:u=len:=by omega
  subst e1;subst e2
  simp[Instr.sliceBounds]
 ·have e1:l=0:=by omega
  subst e1
  simp[Instr.sliceBounds,Instr.sliceBound,h2,asIntOf,UA]
 ·have e2:u=len:=by omega
  subst e2
  simp[Instr.sliceBounds,Instr.sliceBound,h1,asIntOf,UH]
 simp[Instr.sliceBounds,Instr.sliceBound,h1,h2,asIntOf,UH,UA]
theorem Ct{t:TypeId}{n:Nat}{e:TypeId}(h:B0 P t=some (n,e)):P.underlying t=some (.array n e):=by
 unfold B0 at h
 split at h
 ·rename_i h1;cases h;exact h1
 cases h
theorem yQ{ρ:aZ}{a:Act}(he:cq ρ env a){lo hi:Option Operand}{n l u:Nat}(hl:bound env 0 lo=some (l:Int))(hu:bound env n hi=some (u:Int))(UH:l<=u)(UA:u<=n)(w:World):
  (Instr.sliceBounds false n n (lo.map a.eval) (hi.map a.eval) none).run P w= .ok (l,u,n) w:=by
 rcases qk he hl with⟨rfl,h1⟩|⟨y,k,rfl,h1⟩<;>rcases qk he hu with⟨rfl,h2⟩|⟨z,k',rfl,h2⟩
 ·have e1:l=0:=by omega
  have e2:u=n:=by omega
  subst e1;subst e2
  simp[Instr.sliceBounds]
 ·have e1:l=0:=by omega
  subst e1
  simp[Instr.sliceBounds,Instr.sliceBound,h2,asIntOf,UA]
 ·have e2:u=n:=by omega
  subst e2
  simp[Instr.sliceBounds,Instr.sliceBound,h1,asIntOf,UH]
 simp[Instr.sliceBounds,Instr.sliceBound,h1,h2,asIntOf,UH,UA]
theorem Eh{n:Nat}{k k':IntKind}(w:World):(Instr.sliceBounds true n n none (some (.int k (n:Int))) (some (.int k' (n:Int)))).run P w= .ok (0,n,n) w:=by
 simp[Instr.sliceBounds,Instr.sliceBound,asIntOf]
theorem J4{t:TypeId}{x:Operand}{lo hi mx:Option Operand}(ho:o.op= .slice t x lo hi mx):(Bv P env m t x lo hi mx).Ok P o env m:=by
 unfold Bv
 split
 ·rename_i c
  split
  ·rename_i e h len y wM hx
   split
   ·rename_i ku u kku kc c' kkc cells sz te hu hc bn
    refine Comes.Ok.bif fun hb=>?_
    simp only[Bool.and_eq_true]at hb
    have IC:=Nat.eq_of_beq_eq_true hb.1
    obtain⟨inf,vO⟩:=Option.isSome_iff_exists.1 hb.2.1
    have e8:0<sz:=Nat.le_of_ble_eq_true hb.2.2
    refine Comes.Ok.ite fun hp=>?_
    obtain⟨rfl,rfl,hlen⟩:=hp
    have vG:=ia wM
    obtain⟨su,hsu,hu⟩:=Option.bind_eq_some_iff.1 hu
    obtain⟨sc,gQ,hc⟩:=Option.bind_eq_some_iff.1 hc
    refine aH fun B w0 ρ a w he hm=>?_
    have hu1:=S.bV hu (aA he hsu)
    have IB:=S.bV hc (aA he gQ)
    have hs:=aA he hx
    obtain⟨ys,k1,k2,k3,k4,k5,k6⟩:=sD (hm.aj _ _ bn) e8
    refine⟨a.eval x,?_,hs⟩
    rcases hs with⟨q,_⟩|⟨-,q1,ad,q2,q3⟩
    ·rw[k3]at q;cases q
    have e1:(ρ h).cap=len:=tl (by rw[k5,hlen]) e8
    rw[q3 (.inr rfl),e1,Nat.sub_zero]at q2
    have Oj:=Eh (P:=P) (n:=len) (k:=ku) (k':=kc) w
    simp only[execOp,ho,q2,hu1,IB,Instr.sliceAt,Instr.slice,run_underlying vG,Oj,run_sizeOf w vO,Sem.run_bind,Result.andThen_ok,Sem.run_pure,Option.map_some,Option.map_none,Nat.zero_mul,Nat.sub_zero,cN,Nat.add_zero,ite_self]
   trivial
  trivial
 split
 ·rename_i e h off len wM hx
  split
  ·rename_i l u sz hl hu e8
   refine Comes.Ok.bif fun hb=>?_
   rw[Bool.and_eq_true]at hb
   rintro⟨p,q⟩ ⟨rfl,rfl,h3,h4⟩
   have IC:=Nat.eq_of_beq_eq_true hb.1
   obtain⟨inf,vO⟩:=Option.isSome_iff_exists.1 hb.2
   have vG:=ia wM
   refine aH fun B w0 ρ a w he hm=>?_
   have hL:=O4 hm e8
   simp only at h3 h4
   rcases aA he hx with⟨g1,g2,g3,g4,g5⟩|⟨g1,g2,ad,g3,g4⟩
   ·have e1:p=0:=by omega
    have e2:q=0:=by omega
    subst e1;subst e2;subst g3;subst g4
    refine⟨.slice none 0 0,?_,.inl ⟨g1,g2,rfl,rfl,rfl⟩⟩
    have Oj:=rA (P:=P) he (cap:=0) hl hu (Nat.le_refl _) (Nat.le_refl _) w
    simp[execOp,ho,g5,Instr.sliceAt,Instr.slice,run_underlying vG,Oj,run_sizeOf w vO]
   refine⟨.slice (some (if(ρ h).cap-off=p then ad else ad.add (p*P.cellsOf e))) (q-p) ((ρ h).cap-off-p),?_,.inr ⟨g1,by simp only;omega,if(ρ h).cap-off=p then ad else ad.add (p*P.cellsOf e),?_,fun hc=>?_⟩⟩
   ·have Oj:=rA (P:=P) he (cap:=(ρ h).cap-off) hl hu h3 (by omega) w
    simp only[execOp,ho,g3,Instr.sliceAt,Instr.slice,run_underlying vG,Oj,run_sizeOf w vO,Sem.run_bind,Result.andThen_ok,Sem.run_pure,Option.map_none]
    congr 2
    split<;>simp_all
   ·rw[Nat.sub_sub]
   simp only at hc ⊢
   have ha:=g4 (by omega)
   subst ha
   rw[hL,IC]
   split
   ·rcases hc with hc|hc
    ·omega
    have e1:off=0:=by omega
    have e2:p=0:=by omega
    subst e1;subst e2;simp
   rw[cN,Nat.add_mul,Nat.add_assoc]
  trivial
 ·rename_i e wM hx
  split
  ·rename_i l u hl hu
   refine Comes.Ok.bif fun hb=>?_
   rintro _ ⟨rfl,rfl⟩
   obtain⟨inf,vO⟩:=Option.isSome_iff_exists.1 hb
   have vG:=ia wM
   refine aH fun B w0 ρ a w he hm=>?_
   obtain⟨g5,_⟩:=aA he hx
   have Oj:=rA (P:=P) he (l:=0) (u:=0) (len:=0) (cap:=0) hl hu (Nat.le_refl _) (Nat.le_refl _) w
   exact⟨.slice none 0 0,by simp[execOp,ho,g5,Instr.sliceAt,Instr.slice,run_underlying vG,Oj,run_sizeOf w vO],rfl,rfl⟩
  trivial
 ·rename_i h k wM hx
  split
  ·rename_i n e cells sz te har bn
   refine Comes.Ok.bif fun hb=>?_
   simp only[Bool.and_eq_true]at hb
   obtain⟨b1,b2,b3,b4,b5⟩:=hb
   have b1:=Nat.eq_of_beq_eq_true b1
   have b2:=Nat.eq_of_beq_eq_true b2
   have b3:=Nat.eq_of_beq_eq_true b3
   have b4:=Nat.eq_of_beq_eq_true b4
   obtain⟨inf,vO⟩:=Option.isSome_iff_exists.1 b5
   subst b1;subst b2
   split
   ·rename_i l u hl hu
    rintro⟨p,q⟩ ⟨rfl,rfl,h3,h4⟩
    simp only at h3 h4
    have vG:=Ct har
    refine aH fun B w0 ρ a w he hm=>?_
    have g1:a.eval x=aB ρ h 0:=aA he hx
    obtain⟨r1,r2,⟨r3,r4,r5⟩,ys,r6,r7⟩:=hm.aj _ _ bn
    have Oj:=yQ (P:=P) he (n:=n) hl hu h3 h4 w
    refine⟨.slice (some (if n=p then⟨(ρ h).blk,0,none⟩else(⟨(ρ h).blk,0,none⟩:Addr).add (p*P.cellsOf e))) (q-p) (n-p),?_,.inr ⟨r1,by simp only;omega,if n=p then⟨(ρ h).blk,0,none⟩else(⟨(ρ h).blk,0,none⟩:Addr).add (p*P.cellsOf e),?_,fun hc=>?_⟩⟩
    ·simp only[execOp,ho,g1,aB,r2,Nat.add_zero,Instr.sliceAt,Instr.sureAddr,run_underlying vG,Oj,run_sizeOf w vO,Sem.run_bind,Result.andThen_ok,Sem.run_pure,Option.map_none]
    ·simp only
     rw[show(ρ h).cap=n by omega]
    simp only at hc ⊢
    rw[r2,r3,b4]
    split
    ·rcases hc with hc|hc
     ·omega
     subst hc;simp
    rw[cN]
   trivial
  trivial
 trivial
theorem x9: ∀ (xs:List Value) (r s:ByteArray),strOf xs r=some s->∃ns:List Int,xs=ns.map (Value.int .u8)/\ns.foldl (fun r n=>r.push (UInt8.ofNat n.toNat)) r=s
 | [],r,s,h=>by simp[strOf]at h;exact⟨[],rfl,h⟩
 |x::xs,r,s,h=>by
  cases x<;>first
   |(simp[strOf]at h;done)
   |skip
  rename_i k n
  cases k<;>first
   |(simp[strOf]at h;done)
   |skip
  obtain⟨ns,rfl,h2⟩:=x9 xs _ s h
  exact⟨n::ns,rfl,h2⟩
theorem Cn{s d:TypeId}{x:Operand}(ho:o.op= .convert s d x)(hd:P.underlying d=some .string):(mM P env m s x).Ok P o env m:=by
 unfold mM
 refine Comes.Ok.bif fun hb=>?_
 split
 ·rename_i vx hx
  split
  ·rename_i xs k hg
   rintro r ⟨hr,hl⟩
   have GR: ∃e,P.underlying s=some (.slice e)/\P.underlying e=some (.int .u8):=by
    unfold wv at hb
    split at hb
    ·rename_i e he
     split at hb
     ·rename_i h2;exact⟨e,he,h2⟩
     cases hb
    cases hb
   obtain⟨e,h1,h2⟩:=GR
   refine aH fun B w0 ρ a w he hm=>?_
   have h3:=pH hm hg (aA he hx) (by omega) (Nat.lt_succ_self 0)
   obtain⟨ns,rfl,h4⟩:=x9 _ _ _ hr
   refine⟨.string r,?_,rfl,rfl⟩
   have aS:(convert s d (a.eval x)).run P w= .ok (.string r) w:=by
    generalize a.eval x=y at h3
    generalize zT:ns.map (Value.int .u8)=news' at h3
    cases h3 with
    |none=>
     rw[run_convert_bytes_string w s d e none 0 0 h1 h2 hd]
     have:ns= []:=by
      cases ns with
      |nil=>rfl
      |cons n ns=>simp at zT
     subst this
     simp at h4
     subst h4
     simp[Conv.bytesToString]
    |some ad k c news g1 g2 g3=>
     subst zT
     rw[run_convert_bytes_string w s d e (some ad) _ c h1 h2 hd]
     have zK:=run_loadCells_list (P:=P) w ad (ns.map (Value.int .u8)) g2
     rw[hl]at zK
     have hb:=run_bytesToString (P:=P) w ad k c ns zK
     rw[hb,h4]
   simp[execOp,ho,aS]
  trivial
 trivial
end Go.SE

namespace Go.SE
open Go Go.RowKit
variable [aG]
theorem cD.append{ρ:aZ}: ∀ {l:List T} {ys:List Value} {l':List T} {ys':List Value},cD ρ l ys->cD ρ l' ys'->cD ρ (l++l') (ys++ys')
 | [],[],_,_,_,h=>h
 |_::_,_::_,_,_,h,h'=>⟨h.1,cD.append h.2 h'⟩
theorem nE{ρ:aZ}{env:Env}{a:Act}(he:cq ρ env a): ∀ {l:List Operand} {ts:List T},kD env l=some ts->cD ρ ts (l.map a.eval)
 | [],ts,h=>by simp[kD]at h;subst h;trivial
 |o::l,ts,h=>by
  simp only[kD]at h
  split at h
  ·rename_i t l' h1 h2
   cases h
   exact⟨cM he h1,nE he h2⟩
  cases h
theorem xW{ρ:aZ}: ∀ (cz:List (Nat×Nat)),cD ρ (cz.map fun p=>.one (.ptr p.1 p.2)) (cz.map fun p=>aB ρ p.1 p.2)
 | []=>trivial
 |_::l=>⟨rfl,xW l⟩
def nG:Value->List Value
 |.func _ _ c=>c.toList
 |_=> []
def BU:Value->List Value
 |.func _ b _=>b.toList
 |_=> []
variable{P:Program}{o:Oper}{env:Env}{m:M}
theorem PJ{c:Call}{f:Operand}{g:FuncId}{cz:List (Nat×Nat)}{l:List T}
  (ho:o.op= .call c) (hc:c.callee= .value f) (hf:cJ env f=some (.fn g cz)) (hl:kD env c.args.toList=some l):
  (Comes.call g (l++cz.map fun p=>.one (.ptr p.1 p.2))).Ok P o env m:=by
 intro a
 refine⟨c.args.toList.map a.eval++nG (a.eval f),fun ρ he=>?_⟩
 have h1:=aA he hf
 simp only[S.Rel]at h1
 refine⟨(nE he hl).append ?_,?_,fun c=>by rw[ho];simp⟩
 ·rw[h1];simp only[nG];exact xW cz
 have e1:(c.args.toList.map a.eval++nG (a.eval f)).toArray=c.args.map a.eval++(cz.map fun p=>aB ρ p.1 p.2).toArray:=by
  rw[h1];simp[nG]
 rw[e1]
 simp only[execOp,ho,resolve,hc,h1,Deferred.ofValue,Array.empty_append]
 rfl
theorem Nw{c:Call}{f:Operand}{g:FuncId}{h k:Nat}{l:List T}
  (ho:o.op= .call c) (hc:c.callee= .value f) (hf:cJ env f=some (.bm g h k)) (hl:kD env c.args.toList=some l):
  (Comes.call g (.one (.ptr h k)::l)).Ok P o env m:=by
 intro a
 refine⟨BU (a.eval f)++c.args.toList.map a.eval,fun ρ he=>?_⟩
 have h1:=aA he hf
 simp only[S.Rel]at h1
 refine⟨?_,?_,fun c=>by rw[ho];simp⟩
 ·rw[h1];exact⟨rfl,nE he hl⟩
 have e1:(BU (a.eval f)++c.args.toList.map a.eval).toArray= #[aB ρ h k]++c.args.map a.eval:=by
  rw[h1];simp[BU]
 rw[e1]
 simp only[execOp,ho,resolve,hc,h1,Deferred.ofValue,Array.empty_append]
 rfl
theorem Mw{c:Call}{f:Operand}{h:Nat}{l:List T}
  (ho:o.op= .call c) (hc:c.callee= .value f) (hf:cJ env f=some (.Cu h)) (hl:kD env c.args.toList=some l):
  (Comes.yield h l).Ok P o env m:=by
 intro a
 refine⟨c.args.toList.map a.eval,fun ρ he=>?_⟩
 have h1:=aA he hf
 simp only[S.Rel]at h1
 refine⟨nE he hl,?_,fun c=>by rw[ho];simp⟩
 have e1:(c.args.toList.map a.eval).toArray=c.args.map a.eval:=by rw[<-Array.toList_map,Array.toArray_toList]
 rw[e1]
 simp only[execOp,ho,resolve,hc,h1,Deferred.ofValue,Array.empty_append]
 rfl
theorem uE{c:Call}{x:Operand}{t e:TypeId}{h off len:Nat}{s:S}
  (ho:o.op= .call c) (hc:c.callee= .builtin .len) (ha:c.args.toList= [x]) (hx:cJ env x=some (.sl h off len)) (ht:c.argTypes[0]?=some t) (hu:P.underlying t=some (.slice e)) (hs:s= .n .i64 len\/s= .v (.int .i64 len)):
  dj P o env m {val:=.t (.one s),aj:= [],nh:=m.nh}:=by
 refine aH fun B w0 ρ a w he hm=>?_
 have h1:=aA he hx
 have yZ:c.args= #[x]:=by rw[<-Array.toArray_toList (xs:=c.args),ha]
 refine⟨.int .i64 len,?_,?_⟩
 ·rcases h1 with⟨_,_,_,rfl,h1⟩|⟨_,_,ad,h1,_⟩<;>simp[execOp,ho,resolve,hc,invoke,builtin,Builtin.len_,yZ,ht,h1,run_underlying hu,goInt]
 rcases hs with rfl|rfl
 ·rfl
 exact⟨rfl,rfl⟩
theorem eQ{t:TypeId}(h:(P.info? t).isSome=true)(w:World):(sizeOf t).run P w= .ok (P.cellsOf t) w:=by
 obtain⟨i,hi⟩:=Option.isSome_iff_exists.1 h
 exact run_sizeOf w hi
theorem nP{t:TypeId}{x ix:Operand}{h k:Nat}{kk:IntKind}{j:Int}{s sx sy:S}{kn:Bool}{len:Nat}{elem:TypeId}
  (ho:o.op= .indexAddr t x ix) (hx:cJ env x=some sx) (pR:sx= .ptr h k\/sx= .lV h k) (hi:cJ env ix=some s) (hs:s.int?=some (kk,j,kn)) (hu:P.underlying t=some (.array len elem)) (hd:(P.info? elem).isSome=true)
  (wh:0<=j/\j<len) (Cy:sy= .ptr h (k+j.toNat*P.cellsOf elem)\/sy= .lV h (k+j.toNat*P.cellsOf elem)):dj P o env m {val:=.t (.one sy),aj:= [],nh:=m.nh}:=by
 refine aH fun B w0 ρ a w he hm=>?_
 have Kc:a.eval x=aB ρ h k:=by
  have:=aA he hx
  rcases pR with rfl|rfl<;>exact this
 have Yp:=S.bV hs (aA he hi)
 refine⟨aB ρ h (k+j.toNat*P.cellsOf elem),?_,?_⟩
 ·simp[execOp,ho,Kc,Yp,aB,Instr.indexAt,Instr.sureAddr,asIntOf,run_underlying hu,eQ hd,wh.1,wh.2,cN,Nat.add_assoc]
 rcases Cy with rfl|rfl<;>rfl
theorem lM{t:TypeId}{x ix:Operand}{h off len:Nat}{kk:IntKind}{j:Int}{s sy:S}{kn:Bool}{elem:TypeId}{r:bd}{sz:Nat}
  (ho:o.op= .indexAddr t x ix) (hx:cJ env x=some (.sl h off len)) (hi:cJ env ix=some s) (hs:s.int?=some (kk,j,kn)) (hu:P.underlying t=some (.slice elem)) (hd:(P.info? elem).isSome=true)
  (hr:m.reg h=some r) (T5: ∀ρ w,bz ρ w h r->(ρ h).sz=sz) (e8:sz=P.cellsOf elem) (wh:0<=j/\j<len) (Cy:sy= .ptr h ((off+j.toNat)*sz)\/sy= .lV h ((off+j.toNat)*sz)):
  dj P o env m {val:=.t (.one sy),aj:= [],nh:=m.nh}:=by
 refine aH fun B w0 ρ a w he hm=>?_
 have Kc:=aA he hx
 have Yp:=S.bV hs (aA he hi)
 have Ye:=T5 ρ w (hm.aj _ _ hr)
 refine⟨aB ρ h ((off+j.toNat)*sz),?_,?_⟩
 ·rcases Kc with⟨_,_,_,h5,_⟩|⟨_,h6,ad,h7,h8⟩
  ·omega
  have h9:=h8 (by omega)
  subst h9
  simp[execOp,ho,h7,Yp,aB,Instr.indexAt,asIntOf,run_underlying hu,eQ hd,wh.1,wh.2,cN,Ye,e8,Nat.add_mul,Nat.add_assoc]
 rcases Cy with rfl|rfl<;>rfl
theorem AB{t:TypeId}{x:Operand}{h k:Nat}{cells:List S}{sz:Nat}{e:TypeId}{sx:S}
  (ho:o.op= .load t x) (hx:cJ env x=some sx) (pR:sx= .ptr h k\/sx= .lV h k) (hr:m.reg h=some (.box cells sz e)) (ha:bW P t=some true) (hs:k+P.cellsOf t<=cells.length):
  dj P o env m {val:=.t (.agg (cut cells k (P.cellsOf t))),aj:= [],nh:=m.nh}:=by
 refine aH fun B w0 ρ a w he hm=>?_
 have h1:a.eval x=aB ρ h k:=by
  have:=aA he hx
  rcases pR with rfl|rfl<;>exact this
 obtain⟨h2,ys,h3,h4,h5⟩:=px (hm.aj _ _ hr)
 refine⟨.agg ((ys.drop k).take (P.cellsOf t)).toArray,?_,_,rfl,h4.cut _ _⟩
 have hd: ∃d,P.underlying t=some d:=by
  unfold bW at ha
  cases hu:P.underlying t with
  |none=>simp[hu]at ha
  |some d=>exact⟨d,rfl⟩
 obtain⟨d,hd⟩:=hd
 have hl:=h4.length
 have zK:=run_loadCells_list (P:=P) (w:=w) ⟨(ρ h).blk,k,none⟩ ((ys.drop k).take (P.cellsOf t)) (by
  intro j v hv
  rw[cN,h5]
  rw[List.getElem?_take]at hv
  split at hv
  ·rw[List.getElem?_drop]at hv;exact hv
  cases hv)
 have hlen:((ys.drop k).take (P.cellsOf t)).length=P.cellsOf t:=by simp;omega
 rw[hlen]at zK
 simp[execOp,ho,h1,aB,Instr.loadAt,Instr.sureAddr,loadVar,bX ha,h2,eF hd,zK]
theorem AA{t:TypeId}{x:Operand}{h k:Nat}{cells:List S}{sz:Nat}{e:TypeId}{s sx:S}
  (ho:o.op= .load t x) (hx:cJ env x=some sx) (pR:sx= .ptr h k\/sx= .lV h k) (hr:m.reg h=some (.box cells sz e)) (ha:bW P t=some false) (hs:nth cells k=some s):
  dj P o env m {val:=.t (.one s),aj:= [],nh:=m.nh}:=by
 refine aH fun B w0 ρ a w he hm=>?_
 have h1:a.eval x=aB ρ h k:=by
  have:=aA he hx
  rcases pR with rfl|rfl<;>exact this
 obtain⟨h2,ys,h3,h4,h5⟩:=px (hm.aj _ _ hr)
 obtain⟨y,hy,aJ⟩:=h4.nth hs
 refine⟨y,?_,aJ⟩
 simp[execOp,ho,h1,aB,Instr.loadAt,Instr.sureAddr,loadVar,bX ha,h2,h5,hy]
theorem Cf{t:TypeId}{x:Operand}{h k:Nat}{xs:List Value}{sz:Nat}{e:TypeId}{ai:Bool}{y:Value}
  (ho:o.op= .load t x) (hx:cJ env x=some (.lV h k)) (hr:m.reg h=some (.row xs sz e ai)) (ha:bW P t=some false) (hs:xs[k]?=some y):
  dj P o env m {val:=.t (.one (.v y)),aj:= [],nh:=m.nh}:=by
 refine aH fun B w0 ρ a w he hm=>?_
 have h1:a.eval x=aB ρ h k:=aA he hx
 obtain⟨h2,h3⟩:=o6 (hm.aj _ _ hr)
 refine⟨y,?_,rfl,h2 y (List.mem_of_getElem? hs)⟩
 simp[execOp,ho,h1,aB,Instr.loadAt,Instr.sureAddr,loadVar,bX ha,h3 k y hs]
theorem Cg{t:TypeId}{x:Operand}{h k:Nat}{xs:List Value}{sz:Nat}{e:TypeId}{ai:Bool}
  (ho:o.op= .load t x) (hx:cJ env x=some (.lV h k)) (hr:m.reg h=some (.row xs sz e ai)) (ha:bW P t=some true) (hs:k+P.cellsOf t<=xs.length):
  dj P o env m {val:=.t (.agg (vS ((xs.drop k).take (P.cellsOf t)))),aj:= [],nh:=m.nh}:=by
 refine aH fun B w0 ρ a w he hm=>?_
 have h1:a.eval x=aB ρ h k:=aA he hx
 obtain⟨h2,h3⟩:=o6 (hm.aj _ _ hr)
 have wS: ∀y∈(xs.drop k).take (P.cellsOf t),y.oneCell'=true:=fun y hy=>h2 y (List.mem_of_mem_drop (List.mem_of_mem_take hy))
 refine⟨.agg ((xs.drop k).take (P.cellsOf t)).toArray,?_,_,rfl,L7 wS⟩
 have hd: ∃d,P.underlying t=some d:=by
  unfold bW at ha
  cases hu:P.underlying t with
  |none=>simp[hu]at ha
  |some d=>exact⟨d,rfl⟩
 obtain⟨d,hd⟩:=hd
 have zK:=run_loadCells_list (P:=P) (w:=w) ⟨(ρ h).blk,(ρ h).base+k,none⟩ ((xs.drop k).take (P.cellsOf t)) (by
  intro j v hv
  rw[cN]
  rw[List.getElem?_take]at hv
  split at hv
  ·rw[List.getElem?_drop]at hv
   have:=h3 (k+j) v hv
   rwa [<-Nat.add_assoc]at this
  cases hv)
 have hlen:((xs.drop k).take (P.cellsOf t)).length=P.cellsOf t:=by simp;omega
 rw[hlen]at zK
 simp[execOp,ho,h1,aB,Instr.loadAt,Instr.sureAddr,loadVar,bX ha,eF hd,zK]
theorem Ma{t:TypeId}{x y:Operand}{h k:Nat}{cells:List S}{sz:Nat}{e:TypeId}{v:T}{d:TypeDesc}{sx:S}
  (ho:o.op= .store t x y) (hx:cJ env x=some sx) (pR:sx= .ptr h k\/sx= .lV h k) (hy:nU env y=some v) (hr:m.reg h=some (.box cells sz e)) (hd:P.underlying t=some d) (hl:v.cells.length=P.cellsOf t) (hs:k+v.cells.length<=cells.length):
  dj P o env m {val:=.uL,aj:= [(h,.box (setAt cells k v.cells) sz e)],nh:=m.nh}:=by
 refine rB hr rfl ⟨fun _=>rfl,fun _=>rfl⟩ fun B w0 ρ a w he hm=>?_
 have h1:a.eval x=aB ρ h k:=by
  have:=aA he hx
  rcases pR with rfl|rfl<;>exact this
 have h2:=cM he hy
 obtain⟨g1,g2,g3,ys,g4,g5⟩:=hm.aj _ _ hr
 have hlen:=g5.length
 have e8:=h2.nF
 obtain⟨w',h3,h4,h5⟩:=gB (P:=P) (ρ h).blk k e (a.eval y).cells.toList 0 ys w g4 (by simp;omega) (bt.one h2.cells)
 refine⟨w',?_,g1,h5,g1,g2,?_,_,h4,g5.setAt h2.cells _⟩
 ·simp[execOp,ho,h1,aB,Instr.storeAt,Instr.sureAddr,storeVar,eF hd,g2,e8,hl]
  rw[h3];rfl
 have:=(g5.setAt h2.cells k).length
 rw[fC]at this
 omega
theorem yx{t:TypeId}{x:Operand}{i h k:Nat}{fields:Array Field}{f:Field}{sx sy:S}
  (ho:o.op= .fieldAddr t x i) (hx:cJ env x=some sx) (pR:sx= .ptr h k\/sx= .lV h k) (hu:P.underlying t=some (.struct fields)) (hf:fields[i]?=some f) (hz:P.cellsOf f.type≠0)
  (Cy:sy= .ptr h (k+f.offset)\/sy= .lV h (k+f.offset)):
  dj P o env m {val:=.t (.one sy),aj:= [],nh:=m.nh}:=by
 refine aH fun B w0 ρ a w he hm=>?_
 have h1:a.eval x=aB ρ h k:=by
  have:=aA he hx
  rcases pR with rfl|rfl<;>exact this
 refine⟨aB ρ h (k+f.offset),?_,?_⟩
 ·have hi: ∃i,P.info? f.type=some i:=by
   unfold Program.cellsOf at hz
   cases hi:P.info? f.type with
   |none=>simp[hi]at hz
   |some i=>exact⟨i,rfl⟩
  obtain⟨inf,hi⟩:=hi
  simp[execOp,ho,h1,aB,Instr.fieldAt,Instr.sureAddr,run_underlying hu,hf,fieldPlace,run_sizeOf w hi,hz,cN,Nat.add_assoc]
 rcases Cy with rfl|rfl<;>rfl
end Go.SE

namespace Go.SE
open Go Go.RowKit
variable [aG]
variable{P:Program}{o:Oper}{env:Env}{m:M}
theorem qG(z:List Value): ∀n,(fa z n).length=n*z.length
 |0=>by simp[fa]
 |n+1=>by simp[fa,qG z n,Nat.succ_mul];omega
theorem xZ(z:List Value): ∀n k,fa z (n+k)=fa z n++fa z k
 |0,k=>by simp[fa]
 |n+1,k=>by
  rw[show n+1+k=(n+k)+1 by omega]
  simp[fa,xZ z n k]
theorem oa(z:List Value): ∀n,(madeCells z.toArray (n*z.length)).toList=fa z n
 |0=>by simp[madeCells,fa]
 |n+1=>by
  have ih:=oa z n
  simp only[madeCells,Array.toList_map,Array.toList_range]at ih ⊢
  have e1:(List.range ((n+1)*z.length)).map (fun i=>z.toArray[i%z.toArray.size]!)=z++(List.range (n*z.length)).map fun i=>z.toArray[i%z.toArray.size]!:=by
   rw[Nat.succ_mul,Nat.add_comm,List.range_add,List.map_append]
   congr 1
   ·apply List.ext_getElem
    ·simp
    intro i h1 h2
    have:i<z.length:=by simpa using h1
    simp[Nat.mod_eq_of_lt this,this]
   simp[Function.comp_def]
  rw[e1,ih,fa]
theorem zA{t:TypeId}{el:OM}{z:List Value}(h:xU P t=some (el,z)):gX P t=some el/\∃i zv,P.info? el.e=some i/\i.zero=some zv/\zv.cells.toList=z/\m0 z=true:=by
 unfold xU at h
 split at h
 ·rename_i el' wM
  split at h
  ·rename_i zv hz
   simp only[cond_eq_ite]at h
   split at h
   ·rename_i hb
    simp only[Option.some.injEq,Prod.mk.injEq]at h
    obtain⟨rfl,rfl⟩:=h
    cases hi:P.info? el'.e with
    |none=>simp[hi]at hz
    |some i=>exact⟨wM,i,zv,rfl,by simpa [hi]using hz,rfl,hb⟩
   cases h
  cases h
 cases h
theorem yK: ∀ {l:List Value},m0 l=true->∀x∈l,x.oneCell'=true
 | [],_,x,hx=>by simp at hx
 |y::l,h,x,hx=>by
  simp only[m0,cond_eq_ite]at h
  split at h
  ·rename_i h1
   rcases List.mem_cons.1 hx with rfl|hx
   ·exact h1
   exact yK h x hx
  cases h
theorem xY{z:List Value}(h:m0 z=true): ∀n,∀x∈fa z n,x.oneCell'=true
 |0,x,hx=>by simp[fa]at hx
 |n+1,x,hx=>by
  simp only[fa,List.mem_append]at hx
  rcases hx with hx|hx
  ·exact yK h x hx
  exact xY h n x hx
theorem rJ(w:World)(ob:Obj):w.grownBy (w.alloc ob) none:=World.grownBy_alloc w ob none
theorem zG{t:TypeId}{l c:Operand}(ho:o.op= .makeSlice t l c):(nI P env m t l c).Ok P o env m:=by
 unfold nI
 split
 ·rename_i el z sl sc wM hl hc
  split
  ·rename_i kl l kl' kc c kc' h1 h2
   rw[eY]
   rintro⟨p,q,r⟩ ⟨e1,e2,h3,h4,h5,e3⟩
   simp only at e1 e2 h3 h4 h5 e3 ⊢
   subst e1;subst e2;subst e3
   obtain⟨UN,i,zv,hi,hz,Q2,wS⟩:=zA wM
   obtain⟨e,sz,by_⟩:=el
   obtain⟨hu,i',z',yY,rL,fY,CF,e8,oY⟩:=jd UN
   simp only at hi yY
   rw[hi]at yY;cases yY
   rw[hz]at rL;cases rL
   refine Av none (fun _ h=>by cases h) fun B w0 ρ a w he hm=>?_
   have g1:=S.bV h1 (aA he hl)
   have g2:=S.bV h2 (aA he hc)
   have hb:(i.bytes:Int)*(q:Int)<=281474976710656:=by
    have h:((i.bytes*q:Nat):Int)<=281474976710656:=by
     have h4':q*by_<=281474976710656:=h4
     rw[oY,Nat.mul_comm];omega
    rwa [Int.natCast_mul]at h
   have GU:(q:Int)<=9223372036854775807:=by
    have h:=h5
    simp[maxLen]at h
    omega
   have hr:=run_make (P:=P) w t e i zv hu hi hz kl kc (p:Int) (q:Int) (Int.natCast_nonneg _) (by omega) hb GU
   simp only[Int.toNat_natCast]at hr
   have Qw:z.length=sz:=by rw[<-Q2];simpa using CF
   have lW:(madeCells zv.cells (q*i.size)).toList=fa z q:=by
    have:=oa z q
    rw[Qw,<-fY]at this
    rw[<-this,<-Q2,Array.toArray_toList]
   refine⟨.slice (some ⟨w.heap.size,0,none⟩) p q,w.alloc (.cells (madeCells zv.cells (q*i.size)) e),none,by simp[execOp,ho,g1,g2,hr],?_,?_,rJ _ _,fun k hk=>(by cases hk),fun _=>.inl (by simp[cI])⟩
   ·refine⟨rfl,xY wS p,.inr ⟨rfl,rfl,fa z q,?_,⟨?_,by simpa [cI]using h5⟩,?_⟩⟩
    ·simp only[cI]
     rw[World.alloc_heap_new,<-lW]
    ·rw[qG,Qw];rfl
    have:q=p+(q-p):=by omega
    rw[this,xZ]
    exact List.prefix_append _ _
   exact .inr ⟨rfl,by simpa [cI]using h3,_,rfl,fun _=>by simp[cI]⟩
  trivial
 trivial
theorem kZ: ∀ (xs:List Value) (k:Nat) (vs zs:List Value),k+vs.length<=xs.length->bc (xs++zs) k vs=bc xs k vs++zs
 | [],0,[],zs,_=>by cases zs<;>simp[bc]
 | [],0,v::vs,zs,h=>by simp at h
 | [],k+1,vs,zs,h=>by simp at h
 |x::xs,0,[],zs,_=>by simp[bc]
 |x::xs,0,v::vs,zs,h=>by simp[bc,kZ xs 0 vs zs (by simpa using h)]
 |x::xs,k+1,vs,zs,h=>by
  have:=kZ xs k vs zs (by simp at h;omega)
  cases vs<;>simp[bc,this]
theorem pB: ∀ (xs:List Value) (k:Nat) (vs:List Value) (x:Value),x∈bc xs k vs->x∈xs\/x∈vs
 | [],k,vs,x,h=>by cases k<;>cases vs<;>simp[bc]at h
 |y::xs,0,[],x,h=>.inl (by simpa [bc]using h)
 |y::xs,0,v::vs,x,h=>by
  simp only[bc,List.mem_cons]at h
  rcases h with rfl|h
  ·exact .inr (by simp)
  rcases pB xs 0 vs x h with h|h
  ·exact .inl (by simp[h])
  exact .inr (by simp[h])
 |y::xs,k+1,vs,x,h=>by
  have:bc (y::xs) (k+1) vs=y::bc xs k vs:=by cases vs<;>simp[bc]
  rw[this,List.mem_cons]at h
  rcases h with rfl|h
  ·exact .inl (by simp)
  rcases pB xs k vs x h with h|h
  ·exact .inl (by simp[h])
  exact .inr h
theorem Ap{ρ:aZ}{w:World}{h k sz:Nat}{xs vs:List Value}{e:TypeId}(hr:bz ρ w h (.row xs sz e true))(hn:(ρ h).nil=false)(hk:k+vs.length<=xs.length)(hv: ∀v∈vs,v.oneCell'=true):
  ∃w',(storeCells ⟨(ρ h).blk,k,none⟩ vs 0).run P w= .ok () w'/\dc (ρ h).blk w w'/\bz ρ w' h (.row (bc xs k vs) sz e true):=by
 obtain⟨g1,g2,⟨g3,_⟩|⟨g3,g4,ys,g5,g6,g7⟩⟩:=hr
 ·rw[g3]at hn;cases hn
 obtain⟨zs,rfl⟩:=g7
 obtain⟨w',h1,h2,h3⟩:=gB (P:=P) (ρ h).blk k e vs 0 (xs++zs) w g5 (by simp;omega) hv
 refine⟨w',h1,h3,g1,fun x hx=>?_,.inr ⟨g3,g4,_,h2,?_,?_⟩⟩
 ·rcases pB _ _ _ _ hx with hx|hx
  ·exact g2 x hx
  exact hv x hx
 ·rw[fC];exact g6
 rw[Nat.add_zero,kZ _ _ _ _ hk];exact List.prefix_append _ _
theorem B6{t:TypeId}{x y:Operand}{h k:Nat}{xs vs:List Value}{sz:Nat}{e:TypeId}{v:T}{d:TypeDesc}
  (ho:o.op= .store t x y) (hx:cJ env x=some (.lV h k)) (hy:nU env y=some v) (hr:m.reg h=some (.row xs sz e true)) (hd:P.underlying t=some d) (hl:v.cells.length=P.cellsOf t) (Ke:fi v.cells=some vs)
  (vL:0<v.cells.length) (hs:k+vs.length<=xs.length):
  dj P o env m {val:=.uL,aj:= [(h,.row (bc xs k vs) sz e true)],nh:=m.nh}:=by
 refine rB hr rfl ⟨fun _=>rfl,fun _=>rfl⟩ fun B w0 ρ a w he hm=>?_
 have h1:a.eval x=aB ρ h k:=aA he hx
 have h2:=cM he hy
 have bn:=hm.aj _ _ hr
 have Yb:=dA Ke h2.cells
 have hlen:vs.length=v.cells.length:=by rw[<-Yb];exact h2.cells.length.symm
 have hn:(ρ h).nil=false:=by
  rcases bn.2.2 with⟨_,_,rfl⟩|⟨g,_⟩
  ·have:=hs;simp only[List.length_nil]at this;omega
  exact g
 have hb:(ρ h).base=0:=by
  rcases bn.2.2 with⟨g,_⟩|⟨_,g,_⟩
  ·rw[g]at hn;cases hn
  exact g
 obtain⟨w',h3,h4,h5⟩:=Ap (P:=P) bn hn hs (by rw[<-Yb];exact bt.one h2.cells)
 refine⟨w',?_,hn,h4,h5⟩
 have e8:=h2.nF
 simp[execOp,ho,h1,aB,Instr.storeAt,Instr.sureAddr,storeVar,eF hd,hb,e8,hl]
 rw[Yb,h3];rfl
theorem kh.Mx{B:Nat}{w0:World}{ρ:aZ}{w:World}{r':bd}{h k:Nat}(hm:kh P B w0 ρ m w)(hn:(ρ h).nil=true)(lX:bz ρ w h r')(x:X):
  kh P B w0 ρ (m.app {val:=x,aj:= [(h,r')],nh:=k}) w:=by
 have bn: ∀h2 r2,(m.app {val:=x,aj:= [(h,r')],nh:=k}).reg h2=some r2->(h2=h/\r2=r')\/(h2≠h/\m.reg h2=some r2):=by
  intro h2 r2 hh
  rw[lD]at hh
  simp only[aK,cond_eq_ite]at hh
  split at hh
  ·rename_i he
   have:=Nat.eq_of_beq_eq_true he
   simp at hh
   exact .inl ⟨this.symm,hh.symm⟩
  rename_i he
  simp at hh
  exact .inr ⟨fun e=>he (by rw[e];exact Nat.beq_refl _),hh⟩
 refine⟨?_,?_,?_,hm.below,hm.hB⟩
 ·intro h2 r2 hh
  rcases bn h2 r2 hh with⟨rfl,rfl⟩|⟨_,hh⟩
  ·exact lX
  exact hm.aj _ _ hh
 ·intro h1 h2 r1 r2 e1 e2 cb ht Ux hl n1 n2
  rcases bn _ _ e1 with⟨rfl,rfl⟩|⟨g1,f1⟩
  ·rw[hn]at n1;cases n1
  rcases bn _ _ e2 with⟨rfl,rfl⟩|⟨g2,f2⟩
  ·rw[hn]at n2;cases n2
  exact hm.fG _ _ _ _ f1 f2 cb ht Ux hl n1 n2
 intro h2 r2 hh Cx n2
 rcases bn h2 r2 hh with⟨rfl,rfl⟩|⟨_,hh⟩
 ·rw[hn]at n2;cases n2
 exact hm.base _ _ hh Cx n2
theorem Em{h:Nat}{r r':bd}{x:X}{y:Value}(hr:m.reg h=some r)(ho:r.ai=true)(Of:(∀z,gR r z=false)/\∀z,gR r' z=false)(hxy: ∀ρ,x.Rel ρ y)
  (hx: ∀ (B:Nat) (w0:World) (ρ:aZ) (a:Act) (w:World),cq ρ env a->kh P B w0 ρ m w->∃w',(execOp a.eval o).run P w= .ok (.value y) w'/\bz ρ w' h r'/\(((ρ h).nil=false/\dc (ρ h).blk w w')\/((ρ h).nil=true/\w'=w))):
  dj P o env m {val:=x,aj:= [(h,r')],nh:=m.nh}:=by
 refine⟨Nat.le_refl _,fun nt B w0 D ρ a w _ aL=>?_⟩
 obtain⟨w',hy,_⟩:=hx B w0 ρ a w (aL.env ρ (an.refl _ _)) (aL.mem ρ (an.refl _ _))
 refine⟨y,w',ρ,.inl hy,an.refl _ _,fun ρ'' aU=>?_⟩
 have cW:an D ρ ρ'':=aU.mono fun h hd=>.inl hd
 have hm:=aL.mem ρ'' cW
 obtain⟨GL,pQ,bn,hc⟩:=hx B w0 ρ'' a w (aL.env ρ'' cW) hm
 rw[hy]at pQ
 cases pQ
 rcases hc with⟨hn,hs⟩|⟨hn,rfl⟩
 ·exact⟨hm.write hr ho hn hs bn x Of,hxy _⟩
 exact⟨hm.Mx hn bn x,hxy _⟩
theorem Gb{h:Nat}{sz:Nat}{xs:List Value}{e:TypeId}(h1:rowOf m h=some (xs,sz,e))(e8:0<sz):(∃r,m.reg h=some r/\r.ai=true/\∀z,gR r z=false)/\∀ {B:Nat} {w0:World} {ρ:aZ} {w:World},kh P B w0 ρ m w->bz ρ w h (.row xs sz e true):=by
 unfold rowOf at h1
 split at h1
 ·rename_i hr
  cases h1
  exact⟨⟨_,hr,rfl,fun _=>rfl⟩,fun hm=>hm.aj _ _ hr⟩
 ·rename_i hr
  split at h1
  ·rename_i vs hv
   cases h1
   refine⟨⟨_,hr,rfl,fun _=>rfl⟩,fun{B w0 ρ w} hm=>?_⟩
   obtain⟨g1,g2,⟨g3,g6,g7⟩,ys,g4,g5⟩:=hm.aj _ _ hr
   have:=dA hv g5
   subst this
   exact⟨g3,bt.one g5,.inr ⟨g1,g2,ys,g4,⟨by rw[<-g5.length];exact g6.symm,g7 (by omega)⟩,List.prefix_refl _⟩⟩
  cases h1
 cases h1
theorem JR{w:World}{sz k:Nat}{y:Value}{news:List Value}(h:xh w sz y k news)(n:Nat)(hn:n<=k)(hl:news.length=k*sz):
  (Builtin.lenOf y).run P w= .ok k w/\(Builtin.firstCells sz n y).run P w= .ok (news.take (n*sz)).toArray w/\∀v∈news.take (n*sz),v.oneCell'=true:=by
 cases h with
 |none=>exact⟨by simp[Builtin.lenOf],by simp[Builtin.firstCells],fun v hv=>by simp at hv⟩
 |some ad k c news g1 g2 g3=>
  have zK:=run_loadCells_list (P:=P) w ad (news.take (n*sz)) (fun j v hv=>g2 j v (by
   rw[List.getElem?_take]at hv
   split at hv
   ·exact hv
   cases hv))
  have Q6:(news.take (n*sz)).length=n*sz:=by
   rw[List.length_take,g1]
   exact Nat.min_eq_left (Nat.mul_le_mul_right _ hn)
  rw[Q6]at zK
  exact⟨by simp[Builtin.lenOf],by simpa [Builtin.firstCells]using zK,fun v hv=>g3 v (List.mem_of_mem_take hv)⟩
theorem NA{c:Call}(ho:o.op= .call c)(hc:c.callee= .builtin .copy):(Hq P env m c).Ok P o env m:=by
 unfold Hq
 split
 ·rename_i d s t t' ha ht
  split
  ·rename_i e sz by_ h off len vx wM hd hs
   split
   ·rename_i xs jN e' news k tW hgv
    refine Comes.Ok.bif fun hb=>?_
    have hb:=Nat.eq_of_beq_eq_true hb
    subst hb
    rintro⟨n,r⟩ ⟨e1,EP,VD,e2⟩
    simp only at e1 EP VD e2 ⊢
    subst e1;subst e2
    obtain⟨hu,i,z,hi,hz,fY,CF,e8,oY⟩:=jd wM
    obtain⟨⟨r0,UC,aN,E5⟩,ZA⟩:=Gb (P:=P) tW e8
    have dh:c.args= #[d,s]:=by rw[<-Array.toArray_toList (xs:=c.args),ha]
    have ze:c.argTypes[0]?=some t:=by
     have:c.argTypes= #[t,t']:=by rw[<-Array.toArray_toList (xs:=c.argTypes),ht]
     rw[this];rfl
    refine Em (y:=.int .i64 ((Nat.min k len:Nat):Int)) UC aN ⟨E5,fun _=>rfl⟩ (fun ρ=>⟨rfl,rfl⟩) fun B w0 ρ a w he hm=>?_
    have bn:=ZA hm
    have q4:=pH hm hgv (aA he hs) EP e8
    have Yw:=aA he hd
    have FG: ∀w,(sizeOf e).run P w= .ok jN w:=fun w=>by rw[run_sizeOf w hi,Program.cellsOf,hi];simp[fY]
    obtain⟨FH,uj,wS⟩:=JR (P:=P) q4 (Nat.min k len) (Nat.min_le_left _ _) EP
    rcases Yw with⟨g1,g2,rfl,rfl,g5⟩|⟨g1,g2,ad,g3,g4⟩
    ·have e0:Nat.min k 0=0:=Nat.min_zero k
     refine⟨w,?_,?_,.inr ⟨g1,rfl⟩⟩
     ·simp only[e0,Nat.zero_mul,List.take_zero]at uj ⊢
      simp[execOp,ho,resolve,hc,invoke,Go.builtin,dh,Builtin.copy_,ze,run_underlying hu,g5,FH,FG,uj,goInt,e0]
     simp only[e0,Nat.zero_mul,List.take_zero,gM]
     exact bn
    by_cases T0:Nat.min k len*jN=0
    ·refine⟨w,?_,?_,.inl ⟨g1,dc.refl _ _⟩⟩
     ·rw[T0]at uj
      simp only[List.take_zero]at uj
      simp[execOp,ho,resolve,hc,invoke,Go.builtin,dh,Builtin.copy_,ze,run_underlying hu,g3,FH,FG,uj,goInt,storeCells]
     simp only[T0,List.take_zero,gM]
     exact bn
    have vL:0<Nat.min k len:=Nat.pos_of_ne_zero fun e0=>T0 (by rw[e0,Nat.zero_mul])
    have hlen:Nat.min k len<=len:=Nat.min_le_right _ _
    have hsr:(ρ h).sz=jN:=bn.1
    have WU:(ρ h).base=0:=by
     rcases bn.2.2 with⟨g,_⟩|⟨_,g,_⟩
     ·rw[g]at g1;cases g1
     exact g
    have Ol:=g4 (.inl (by omega))
    subst Ol
    have Q6:(news.take (Nat.min k len*jN)).length=Nat.min k len*jN:=by
     rw[List.length_take,EP]
     exact Nat.min_eq_left (Nat.mul_le_mul_right _ (Nat.min_le_left _ _))
    obtain⟨w',h3,h4,h5⟩:=Ap (P:=P) bn g1 (k:=off*jN) (vs:=news.take (Nat.min k len*jN)) (by rw[Q6,<-Nat.add_mul];exact VD) wS
    refine⟨w',?_,h5,.inl ⟨g1,h4⟩⟩
    simp[execOp,ho,resolve,hc,invoke,Go.builtin,dh,Builtin.copy_,ze,run_underlying hu,g3,FH,FG,uj,goInt,WU,hsr,h3]
   trivial
  trivial
 trivial
theorem yG{c:Call}{b:Bool}(ho:o.op= .call c)(hc:c.callee= .builtin (if b then .max else .min)):(p5 env m b c).Ok P o env m:=by
 unfold p5
 split
 ·rename_i x y ha
  split
  ·rename_i sx sy hx hy
   split
   ·rename_i k i ki k' j kj h1 h2
    have dh:c.args= #[x,y]:=by rw[<-Array.toArray_toList (xs:=c.args),ha]
    have key: ∀s:S,(∀ρ,s.Rel ρ (.int k (uh b i j)))->dj P o env m {val:=.t (.one s),aj:= [],nh:=m.nh}:=by
     intro s hs
     refine aH fun B w0 ρ a w he hm=>?_
     have g1:=S.bV h1 (aA he hx)
     have g2:=S.bV h2 (aA he hy)
     refine⟨.int k (uh b i j),?_,hs ρ⟩
     cases b
     ·simp[execOp,ho,resolve,hc,invoke,Go.builtin,dh,g1,g2,Builtin.min_,Builtin.min2,uh]
     simp[execOp,ho,resolve,hc,invoke,Go.builtin,dh,g1,g2,Builtin.max_,Builtin.max2,uh]
    exact Comes.Ok.tY (fun _=>by rw[cG];exact key _ fun ρ=>rfl) fun _=>key _ fun ρ=>⟨rfl,rfl⟩
   trivial
  trivial
 trivial
theorem PL{t:TypeId}{x:Operand}(ho:o.op= .unOp .xor t x):(OE env m x).Ok P o env m:=by
 unfold OE
 split
 ·rename_i sx hx
  split
  ·rename_i k i kn h1
   have key: ∀ (s:S) (r:Int),k.wrap (BitVec.ofInt k.bits (if k.signed then -1 else k.max)^^^BitVec.ofInt k.bits i).toNat=r->(∀ρ,s.Rel ρ (.int k r))->dj P o env m {val:=.t (.one s),aj:= [],nh:=m.nh}:=by
    intro s r hr hs
    refine aH fun B w0 ρ a w he hm=>?_
    have g1:=S.bV h1 (aA he hx)
    refine⟨.int k r,?_,hs ρ⟩
    subst hr
    simp[execOp,ho,g1,Op.unary,Op.intBits]
   exact Comes.Ok.tY (fun _=>by rw[cG];exact key _ _ rfl fun ρ=>rfl) fun _ r hr=>key _ r hr fun ρ=>⟨rfl,rfl⟩
  trivial
 trivial
theorem PM{t:TypeId}{x:Operand}(ho:o.op= .unOp .neg t x):(OF env m x).Ok P o env m:=by
 unfold OF
 split
 ·rename_i sx hx
  split
  ·rename_i k i kn h1
   have key: ∀ (s:S) (r:Int),k.wrap (0-i)=r->(∀ρ,s.Rel ρ (.int k r))->dj P o env m {val:=.t (.one s),aj:= [],nh:=m.nh}:=by
    intro s r hr hs
    refine aH fun B w0 ρ a w he hm=>?_
    have g1:=S.bV h1 (aA he hx)
    refine⟨.int k r,?_,hs ρ⟩
    subst hr
    simp[execOp,ho,g1,Op.unary,Op.intArith]
   exact Comes.Ok.tY (fun _=>by rw[cG];exact key _ _ rfl fun ρ=>rfl) fun _ r hr=>key _ r hr fun ρ=>⟨rfl,rfl⟩
  trivial
 trivial
theorem Dv{ρ:aZ}{xs:List S}{ys:List Value}(hl:bt ρ xs ys){t:TypeId}{off:Nat}{x:T}(h:oL P t xs off=some x)(hd:(P.info? t).isSome=true)(w:World): ∃y,(part t ys.toArray off).run P w= .ok y w/\x.Rel ρ y:=by
 unfold oL at h
 split at h
 ·rename_i ha
  cases h
  refine⟨.agg ((ys.drop off).take (P.cellsOf t)).toArray,?_,_,rfl,hl.cut _ _⟩
  simp[part,bX ha,eQ hd]
 ·rename_i ha
  split at h
  ·rename_i s hs
   cases h
   obtain⟨y,h1,h2⟩:=hl.nth hs
   exact⟨y,by simp[part,bX ha,h1],h2⟩
  cases h
 cases h
theorem J6{t:TypeId}{x:Operand}{i:Nat}(ho:o.op= .field t x i):(By P env m t x i).Ok P o env m:=by
 unfold By
 split
 ·rename_i fields xs hu hx
  split
  ·rename_i f hf
   refine Comes.Ok.bif fun hd=>?_
   split
   ·rename_i y hp
    refine aH fun B w0 ρ a w he hm=>?_
    obtain⟨ys,h1,h2⟩:=cM he hx
    obtain⟨v,h4,h5⟩:=Dv (P:=P) h2 hp hd w
    refine⟨v,?_,h5⟩
    simp[execOp,ho,h1,Instr.field,asAgg,run_underlying hu,hf,h4]
   trivial
  trivial
 trivial
theorem J5{t:TypeId}{x i:Operand}(ho:o.op= .index t x i):(Bw P env m t x i).Ok P o env m:=by
 unfold Bw
 split
 ·rename_i xs si len elem hx hi hu
  split
  ·rename_i k j kn hs
   refine Comes.Ok.bif fun hd=>?_
   have key: ∀y:T,0<=j/\j<len->oL P elem xs (j.toNat*P.cellsOf elem)=some y->dj P o env m {val:=.t y,aj:= [],nh:=m.nh}:=by
    intro y wh hp
    refine aH fun B w0 ρ a w he hm=>?_
    obtain⟨ys,h1,h2⟩:=cM he hx
    have h3:=S.bV hs (aA he hi)
    obtain⟨v,h4,h5⟩:=Dv (P:=P) h2 hp hd w
    refine⟨v,?_,h5⟩
    simp[execOp,ho,h1,h3,Instr.index,asIntOf,run_underlying hu,wh.1,wh.2,eQ hd,h4]
   refine Comes.Ok.tY (fun _=>?_) fun _ y hy=>key y hy.1 hy.2
   refine Comes.Ok.ite fun wh=>?_
   split
   ·rename_i y hy;exact key y wh hy
   trivial
  trivial
 ·rename_i s si hx hi hu
  split
  ·rename_i str k j kn hstr hs
   rintro b ⟨h0,hb⟩
   refine aH fun B w0 ρ a w he hm=>?_
   have h1:a.eval x= .string str:=by
    have:=cM he hx
    unfold S.wP at hstr
    split at hstr
    ·cases hstr;exact this.1
    cases hstr
   have h3:=S.bV hs (aA he hi)
   refine⟨.int .u8 b.toNat,?_,⟨rfl,rfl⟩⟩
   simp[execOp,ho,h1,h3,Instr.index,asIntOf,run_underlying hu,h0,hb]
  trivial
 trivial
end Go.SE

namespace Go.SE
open Go Go.RowKit
variable [aG]
variable{P:Program}{o:Oper}{env:Env}{m:M}
theorem jE{r:Nat}{es:Array MapEntry}{c:Nat}{w:World}(h:w.heap[r]?=some (.map es c)):(getObj r).run P w= .ok (.map es c) w:=by simp[getObj,Sem.run,h]
theorem vZ{r:Nat}{es:Array MapEntry}{c:Nat}{w:World}(o:Obj)(h:w.heap[r]?=some (.map es c)):(setObj r o).run P w= .ok () (w.putObj r o):=by simp[setObj,Sem.run,h,World.putObj]
theorem tI{b:Bool}{n:Nat}{t:TypeId}{q:IntKind}{v:Value}(h:P.underlying t=some (.int q))(w:World):(Instr.checkKey b (n+1) t v).run P w= .ok () w:=by
 simp only[Instr.checkKey,Sem.run_bind,run_underlying h,Result.andThen_ok]
 rfl
theorem qt{ρ:aZ}{b:Bool}{n:Nat}{xs:List S}{ys:List Value}(hx:bt ρ xs ys)(w:World): ∀fs:List Field,mJ P xs fs=true->
  ((forIn fs PUnit.unit fun f _=>do
    if f.name≠ "_" then Instr.checkKey b (n+1) f.type (<-part f.type ys.toArray f.offset)
    pure (ForInStep.yield PUnit.unit)):Sem PUnit).run P w= .ok PUnit.unit w:=by
 intro fs
 induction fs with
 |nil=>intro _;simp
 |cons f fs ih=>
  intro h
  unfold mJ at h
  split at h
  ·rename_i q x hu hp
   obtain⟨v,hv,_⟩:=fN hp hx w
   rw[List.forIn_cons]
   by_cases hn:f.name= "_"
   ·simp only[hn,ne_eq,not_true_eq_false,if_false,Sem.run_bind,Sem.run_pure,Result.andThen_ok]
    simpa using ih h
   simp only[hn,ne_eq,not_false_eq_true,if_true,Sem.run_bind,hv,Result.andThen_ok,tI hu,Sem.run_pure]
   simpa using ih h
  cases h
theorem yn{kt:TypeId}{xs:List S}(h:zR P kt xs=true): ∃fs,P.underlying kt=some (.struct fs)/\mJ P xs fs.toList=true:=by
 unfold zR at h
 split at h
 ·rename_i fs hu;exact⟨fs,hu,h⟩
 cases h
theorem fW{ρ:aZ}{b:Bool}{kt:TypeId}{xs:List S}{ys:List Value}(h:zR P kt xs=true)(hx:bt ρ xs ys)(w:World):(Instr.checkKey b 10000 kt (.agg ys.toArray)).run P w= .ok () w:=by
 obtain⟨fs,hu,hi⟩:=yn h
 have e:(10000:Nat)=9998+1+1:=rfl
 rw[e]
 generalize 9998=n
 have:=qt (P:=P) (b:=b) (n:=n) hx w fs.toList hi
 unfold Instr.checkKey
 simp only[Sem.run_bind,run_underlying hu,Result.andThen_ok]
 rw[<-Array.forIn_toList]
 rw[this]
 rfl
theorem JK{ρ:aZ}{kt:TypeId}{xs:List S}{ys:List Value}{k:Value}{c:Bool}(hf:fu P 5 kt=true)(h:Hf P kt xs k=some c)(hx:bt ρ xs ys)(w:World):(Op.equal kt (.agg ys.toArray) k).run P w= .ok c w:=by
 unfold Hf at h
 split at h
 ·rename_i ky hk
  split at h
  ·rename_i c' kn he
   cases h
   rw[<-sA _ _ hf]at he
   have:(5:Nat)<=Op.maxDepth:=by decide
   exact BV 5 this _ _ _ _ _ _ _ he ⟨ys,rfl,hx⟩ (eG hk) w
  cases h
 cases h
theorem oc{ρ:aZ}{kt:TypeId}{xs:List S}{ys:List Value}{z v:Value}{ok:Bool}(hf:fu P 5 kt=true)(hx:bt ρ xs ys)(w:World): ∀ (es:List MapEntry) (i:Nat),kL P kt xs z v ok es->
  ∃r,(Instr.findAsking kt (.agg ys.toArray) es i).run P w= .ok r w/\((ok=true/\∃i,r=some (i,v))\/(ok=false/\r=none/\v=z))
 | [],i,h=>⟨none,rfl,.inr ⟨h.2,rfl,h.1⟩⟩
 |e::es,i,h=>by
  unfold kL at h
  split at h
  ·rename_i c hc
   have he:=JK hf hc hx w
   cases c with
   |true=>
    obtain⟨rfl,rfl⟩:=h.1 rfl
    exact⟨some (i,e.val),by simp[Instr.findAsking,he],.inl ⟨rfl,i,rfl⟩⟩
   |false=>
    obtain⟨r,h1,h2⟩:=oc hf hx w es (i+1) (h.2 rfl)
    exact⟨r,by simp[Instr.findAsking,he,h1],h2⟩
  exact h.elim
theorem tw{ρ:aZ}{kt:TypeId}{xs:List S}{ys:List Value}{z v:Value}{ok:Bool}(hk:zR P kt xs=true)(hf:fu P 5 kt=true)(hx:bt ρ xs ys)(w:World){es:List MapEntry}(h:kL P kt xs z v ok es):
  ∃r,(Instr.findKey kt (.agg ys.toArray) es).run P w= .ok r w/\((ok=true/\∃i,r=some (i,v))\/(ok=false/\r=none/\v=z)):=by
 obtain⟨fs,hu,_⟩:=yn hk
 cases es with
 |nil=>exact⟨none,by simp[Instr.findKey,run_underlying hu,Instr.findNow],.inr ⟨h.2,rfl,h.1⟩⟩
 |cons e es=>
  obtain⟨r,h1,h2⟩:=oc hf hx w (e::es) 0 h
  exact⟨r,by simp[Instr.findKey,run_underlying hu,Instr.findNow,Instr.sameNow,h1],h2⟩
theorem qM{kt:TypeId}{xs:List S}: ∀ {es:List MapEntry},Ha P kt xs es=true->kL P kt xs undef undef false es
 | [],_=>⟨rfl,rfl⟩
 |e::es,h=>by
  unfold Ha at h
  split at h
  ·rename_i hc
   unfold kL
   simp only[hc]
   exact And.intro (fun q=>nomatch q) (fun _=>qM h)
  cases h
theorem Mu{t:TypeId}{z:Value}(h:(P.info? t).bind (fun i=>i.zero)=some z)(w:World):(zeroValue t).run P w= .ok z w:=by
 cases hi:P.info? t with
 |none=>simp[hi]at h
 |some i=>rw[hi]at h;exact qN hi h w
theorem Ew{t:TypeId}{mp k:Operand}(ho:o.op= .lookup t mp k true):(sW P env m t mp k).Ok P o env m:=by
 unfold sW
 split
 ·rename_i kt e h xs hu Kh hk
  split
  ·rename_i es c z hr hz
   refine Comes.Ok.bif fun NT=>?_
   rintro⟨v,ok⟩ ⟨h1,h2,h3⟩
   refine aH fun B w0 ρ a w he hm=>?_
   have g1:a.eval mp= .map (some (ρ h).blk):=aA he Kh
   obtain⟨ys,g2,g3⟩:T.Rel ρ (.agg xs) (a.eval k):=cM he hk
   obtain⟨_,g4,_⟩:=hm.aj _ _ hr
   obtain⟨r,g5,g6⟩:=tw NT h2 g3 w h3
   refine⟨.tuple #[v,.bool ok],?_,[v,.bool ok],rfl,⟨rfl,h1⟩,rfl,trivial⟩
   rcases g6 with⟨rfl,i,rfl⟩|⟨rfl,rfl,rfl⟩
   ·simp[execOp,ho,g1,g2,Instr.lookup,run_underlying hu,jE g4,fW NT g3,g5]
   simp[execOp,ho,g1,g2,Instr.lookup,run_underlying hu,jE g4,fW NT g3,g5,Mu hz]
  trivial
 trivial
theorem zF{t:TypeId}{mp k v:Operand}(ho:o.op= .mapUpdate t mp k v):(nH P env m t mp k v).Ok P o env m:=by
 unfold nH
 split
 ·rename_i kt e h xs s hu Kh hk hv
  split
  ·rename_i es c ks y hr hks hy
   refine Comes.Ok.bif fun NT=>?_
   rintro _ ⟨h2,h3⟩
   refine rB hr rfl ⟨fun _=>rfl,fun _=>rfl⟩ fun B w0 ρ a w he hm=>?_
   have g1:a.eval mp= .map (some (ρ h).blk):=aA he Kh
   obtain⟨ys,g2,g3⟩:T.Rel ρ (.agg xs) (a.eval k):=cM he hk
   obtain⟨g0,g4,_⟩:=hm.aj _ _ hr
   obtain⟨r,g5,g6⟩:=tw NT h2 g3 w (qM h3)
   have e1:ys=ks:=dA hks g3
   have e2:a.eval v=y:=by
    have:=dA (ρ:=ρ) (ys:= [a.eval v]) hy ⟨aA he hv,trivial⟩
    simpa using this
   rcases g6 with⟨q,_⟩|⟨_,rfl,_⟩
   ·cases q
   refine⟨w.putObj (ρ h).blk (.map (es.push {key:=.agg ks.toArray,val:=y,born:=c}) (c+1)),?_,g0,⟨rfl,rfl,rfl,by simp[World.putObj],fun _ hk=>World.putObj_heap_other (by first|exact hk|exact Ne.symm hk)⟩,g0,World.putObj_heap_same (Array.getElem?_eq_some_iff.1 g4).1,fun _ _ h=>by cases h⟩
   rw[e1]at g2 g5
   simp only[execOp,ho,g1,g2,e2]
   have:(Instr.mapUpdate t (.map (some (ρ h).blk)) (.agg ks.toArray) y).run P w= .ok () (w.putObj (ρ h).blk (.map (es.push {key:=.agg ks.toArray,val:=y,born:=c}) (c+1))):=by
    rw[e1]at g3
    simp[Instr.mapUpdate,run_underlying hu,jE g4,fW NT g3,g5,vZ _ g4]
   simp[this]
  trivial
 trivial
theorem Cq{t:TypeId}(ho:o.op= .makeMap t none):(qi P m t).Ok P o env m:=by
 unfold qi
 split
 ·rw[eY]
  refine⟨Nat.le_add_right _ _,fun nt B w0 D ρ a w hD aL=>?_⟩
  have aS:(execOp a.eval o).run P w= .ok (.value (.map (some w.heap.size))) (w.alloc (.map #[] 0)):=by simp[execOp,ho,Instr.makeMap]
  have GP: ¬D m.nh:=hD m.nh ⟨Nat.le_refl _,by show m.nh<m.nh+8;omega⟩
  refine⟨_,_,upd ρ m.nh ⟨w.heap.size,0,0,0,false⟩,.inl aS,dN ρ _ GP,fun ρ'' aU=>?_⟩
  have hL:ρ'' m.nh=⟨w.heap.size,0,0,0,false⟩:=(aU m.nh (.inr ⟨Nat.le_refl _,by show m.nh<m.nh+8;omega⟩)).trans (upd_same _ _ _)
  have cW:an D ρ ρ'':=fun k hk=>(aU k (.inl hk)).trans (dN ρ _ GP k hk)
  have hm:=aL.mem ρ'' cW
  refine⟨?_,by show Value.map _=Value.map _;rw[hL]⟩
  exact hm.new (r:=.obj (.map #[] 0)) (k:=m.nh+8) (by rw[hL]) ⟨by rw[hL],by rw[hL];exact alloc_heap_new _ _,fun _ _ h=>by cases h⟩
 trivial
end Go.SE
