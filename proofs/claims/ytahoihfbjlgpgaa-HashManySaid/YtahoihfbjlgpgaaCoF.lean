/- HashMany returns true for every slice of tuples, in whatever order its goroutines run, and its argument reads as before. No condition. -/
import Derived.Test.YtahoihfbjlgpgaaCoE
import Derived.ProofKit
import Derived.OpenShut
import Derived.Below
import Derived.ChangeSame
import Derived.KernelRfl
import Derived.Test.YtahoihfbjlgpgaaProg
import Derived.Conc.QuitsD
import Derived.Conc.Beside
set_option linter.all false
namespace Go.SE
open Go Go.RowKit
variable [aG]
def xA:List bd->Bool
 | []=>true
 |r::l=>bif r.KT then xA l else false
theorem kV: ∀ {l:List bd},xA l=true->∀ (i:Nat) (r:bd),l[i]?=some r->r.KT=true
 | [],_,i,r,h=>by simp at h
 |x::l,h,i,r,hr=>by
  simp only[xA,cond_eq_ite]at h
  split at h
  ·rename_i h1
   cases i with
   |zero=>simp at hr;subst hr;exact h1
   |succ i=>exact kV h i r (by simpa using hr)
  cases h
structure Is(res:X)(post:List bd)(x:X)(m:M):Prop where
 out:Entails 0 [(0,x)] ⟨m.aj,m.nh,[]⟩ [(0,res)] ⟨fI post 0,post.length,[]⟩
 ai:xA post=true
theorem dk{res:X}{post:List bd}{x:X}{m:M}(h:m.cs fun rs nh _=>De 0 [(0,x)] ⟨rs,nh,[]⟩ [(0,res)] ⟨fI post 0,post.length,[]⟩)(ho:xA post=true):Is res post x m:=by
 rw[M.cy]at h
 exact⟨nQ h,ho⟩
theorem yf: ∀ (l:List bd) (i j:Nat) (r:bd),l[j]?=some r->aK (fI l i) (i+j)=some r
 | [],_,_,_,h=>by simp at h
 |x::l,i,0,r,h=>by
  simp at h;subst h
  simp[fI,aK]
 |x::l,i,j+1,r,h=>by
  have:=yf l (i+1) j r (by simpa using h)
  simp only[fI,aK,cond_eq_ite]
  rw[if_neg,show i+(j+1)=i+1+j by omega,this]
  intro e
  have:=Nat.eq_of_beq_eq_true e
  omega
theorem bg{P:Program}{f:FuncId}{args:List T}{pre:List bd}{res:X}{post:List bd}(gQ:(KP pre.length args&&gw pre.length pre&&pre.all fun r=>!r.ai)=true)
  (h:dS P f args ⟨fI pre 0,pre.length,[]⟩ (fun x m=>Unit->Is res post x m) false):bo P f args pre res post:=by
 simp only[Bool.and_eq_true]at gQ
 obtain⟨⟨gQ,RL⟩,iP⟩:=gQ
 replace RL:=ju RL
 replace iP: ∀r∈pre,r.ai=false:=fun r hr=>by simpa using(List.all_eq_true.1 iP) r hr
 obtain⟨qo,hgo⟩:=h.EB
 refine⟨qo,fun ρ w ys mU lW=>?_⟩
 have CR:iw P w.heap.size w ρ ⟨fI pre 0,pre.length,[]⟩ w:=by
  intro ρ' aU
  have bn: ∀k r,M.reg ⟨fI pre 0,pre.length,[]⟩ k=some r->k<pre.length/\pre[k]?=some r:=by
   intro k r hr
   obtain⟨j,h1,h2⟩:=vt pre 0 k r hr
   have:k=j:=by omega
   subst this
   exact⟨(List.getElem?_eq_some_iff.1 h2).1,h2⟩
  refine⟨fun k r hr=>?_,fun k k' r r' hr _ _ _ ho=>?_,fun k r hr ho=>?_,Below.refl _ _,Nat.le_refl _⟩
  ·obtain⟨h1,h2⟩:=bn k r hr
   exact mH (RL r (List.mem_of_getElem? h2)) (fun j hj=>aU j hj) h1 (mU k r h2)
  ·have:=iP r (List.mem_of_getElem? (bn k r hr).2);rw[this]at ho;cases ho
  have:=iP r (List.mem_of_getElem? (bn k r hr).2);rw[this]at ho;cases ho
 refine(hgo w.heap.size w ρ w ys CR fun ρ' aU=>Ts.bY (fun j hj=>aU j hj) gQ lW).mono ?_
 rintro e w' ⟨v,x,ρ',m',rfl,h1,h2,h3,h4,oF⟩
 obtain⟨⟨th,ns,hE⟩,aN⟩:=oF ()
 have aL:mm P 1 w.heap.size w ρ' [(0,x)] ⟨m'.aj,m'.nh,[]⟩ {tmps:= #[v],defers:= []} w':=by
  refine⟨⟨fun ρ'' aU k y hk=>?_,fun ρ'' aU=>?_,by simp⟩,fun _ _=>rfl⟩
  ·simp only[Env.get,cond_eq_ite]at hk
   split at hk
   ·rename_i e
    cases hk
    have:=Nat.eq_of_beq_eq_true e
    subst this
    exact⟨v,rfl,h4 ρ'' aU⟩
   cases hk
  have:=h3 ρ'' aU
  exact⟨this.aj,this.fG,this.base,this.below,this.hB⟩
 obtain⟨lr,_,_⟩:=hE.okL aL
 have hM:=lr.ok.mem _ (an.refl _ _)
 have hV:res.Rel (jf ρ' th ns) v:=by
  obtain⟨y,g1,g2⟩:=lr.ok.env _ (an.refl _ _) 0 res rfl
  simp at g1
  subst g1
  exact g2
 have vP: ∀i r,post[i]?=some r->M.reg ⟨fI post 0,post.length,[]⟩ i=some r:=fun i r hr=>by
  have:=yf post 0 i r hr
  rw[Nat.zero_add]at this
  exact this
 refine⟨v,jf ρ' th ns,rfl,hV,fun i r hr=>?_,fun i j hi hj cb n1 n2=>?_,hM.below⟩
 ·have ho:=kV aN i r hr
  have ho:=bd.pD ho
  exact⟨hM.aj _ _ (vP i r hr),ho,fun hn=>hM.base _ _ (vP i r hr) ho hn⟩
 exact hM.fG _ _ _ _ (vP i _ (List.getElem?_eq_getElem hi)) (vP j _ (List.getElem?_eq_getElem hj)) cb (B5 (kV aN i _ (List.getElem?_eq_getElem hi)) _) (bd.pD (kV aN i _ (List.getElem?_eq_getElem hi)))
  (bd.dp (bd.pD (kV aN j _ (List.getElem?_eq_getElem hj)))) n1 n2
theorem kM{c:Bool}{A B:Prop}(h:Split c A B):Split c A B:=h
theorem dz{α:Type}{p K:α->Prop}(h:oU p K):oU p K:=h
theorem fK{op:BinOp}{k:IntKind}{a b:Int}{K:Int->Prop}(h:oU (dx op k a b) K):oU (fun r=>dx op k a b r) K:=h
theorem Lw{op:BinOp}{k:IntKind}{a b:Int}{K:Int->Prop}(h:oU (dx op k a b) K):oU (dx op k a b) K:=h
theorem nq{k:IntKind}{a:Int}{K:Int->Prop}(h:oU (fun r=>k.wrap a=r) K):oU (fun r=>k.wrap a=r) K:=h
theorem BP{C:Ctx}{c:Code}{Q:Exit->Env->M->Prop}{env:Env}{m:M}(h:nZ C c Q env m):nZ C c Q env m:=h
theorem sO{C:Ctx}{f:Operand}{ps:Array Tmp}{a b:Code}{Q:Exit->Env->M->Prop}{env:Env}{m:M}(h:qF C (.rangeFunc f ps a b) Q env m):qF C (.rangeFunc f ps a b) Q env m:=h
theorem nu{C:Ctx}{id:Nat}{ops:Array Oper}{d:Bool}{Q:Exit->Env->M->Prop}{env:Env}{m:M}(h:qF C (.region id ops d) Q env m):qF C (.region id ops d) Q env m:=h
theorem cL{P:Program}{f:FuncId}{args:List T}{m:M}{K:X->M->Prop}{rP:Bool}(h:dS P f args m K rP):dS P f args m K rP:=h
theorem pf{P:Program}{f:FuncId}{args:List T}{m:M}{K:List Nat->X->List (Nat×bd)->Nat->Prop}(h:Aa P f args m K):Aa P f args m K:=h
theorem sN{P:Program}{h0:Nat}{args:List T}{m:M}{K:X->M->Prop}(h:BC P h0 args m K):BC P h0 args m K:=h
theorem J0{P:Program}{f:FuncId}{args gG:List T}{m:M}{K:List Nat->X->List (Nat×bd)->Nat->Prop}{pre:List bd}{res:X}{post:List bd}(hc:bo P f gG pre res post)(hs:List Nat)
  (ha:lZ args (ly (pick hs) gG)) (hp:im m hs pre) (gQ:(res.sc post.length&&gw post.length post)=true)
  (h:m.cs fun _ n0 _=>aY post.length fun q=>aY (n0+q) fun nh=>K hs (res.lU fun k=>n0+k) (cO n0 post 0) nh):Aa P f args m K:=by
 rw[M.cy,aQ,aQ]at h
 exact⟨⟨gG,pre,res,post,hs,hc,ha,hp,gQ,h⟩⟩
theorem Nx{P:Program}{f:FuncId}{args eE:List T}{pre:List bd}{res:X}{post:List bd}{m:M}{K:X->M->Prop}{rP:Bool}(h:bo P f args pre res post)(hs:List Nat)
  (dh:lZ eE (ly (pick hs) args)) (mU:im m hs pre) (gQ:(res.sc post.length&&gw post.length post)=true)
  (hK:m.cs fun aj n0 ds=>aY post.length fun q=>aY (n0+q) fun nh=>l8 (res.lU fun k=>n0+k) fun x=>ja (cO n0 post 0) fun rs=>zg rs aj fun l=>K x {aj:=l,nh:=nh,ds:=ds}):dS P f eE m K rP:=by
 refine h.use hs dh mU gQ ?_
 rw[M.cy,aQ,aQ]at hK
 rw[gK,gz,aQ,M.cy]
 rw[gK,gz]at hK
 exact hK
def vK(l:List (Nat×Nat)):Nat->Nat->List Nat
 |_,0=> []
 |i,n+1=>lq l i::vK l (i+1) n
def sw:List Nat->(List Nat->Prop)->Prop
 | [],k=>k []
 |x::l,k=>aY x fun x=>sw l fun l=>k (x::l)
theorem yw: ∀ (l:List Nat) (k:List Nat->Prop),sw l k=k l
 | [],_=>rfl
 |x::l,k=>by simp[sw,aQ,yw l]
theorem e9{P:Program}{f:FuncId}{args eE:List T}{pre:List bd}{res:X}{post:List bd}{m:M}{K:X->M->Prop}{rP:Bool}(h:bo P f args pre res post)
  (dh:lZ eE (ly (pick (vK (iz eE args []) 0 pre.length)) args)) (mU:im m (vK (iz eE args []) 0 pre.length) pre) (gQ:(res.sc post.length&&gw post.length post)=true)
  (hK:m.cs fun aj n0 ds=>aY post.length fun q=>aY (n0+q) fun nh=>l8 (res.lU fun k=>n0+k) fun x=>ja (cO n0 post 0) fun rs=>zg rs aj fun l=>K x {aj:=l,nh:=nh,ds:=ds}):dS P f eE m K rP:=
 Nx h _ dh mU gQ hK
theorem eO{P:Program}{f:FuncId}{args gG:List T}{m:M}{K:List Nat->X->List (Nat×bd)->Nat->Prop}{pre:List bd}{res:X}{post:List bd}(hc:bo P f gG pre res post)
  (ha:lZ args (ly (pick (vK (iz args gG []) 0 pre.length)) gG)) (hp:im m (vK (iz args gG []) 0 pre.length) pre) (gQ:(res.sc post.length&&gw post.length post)=true)
  (h:m.cs fun _ n0 _=>aY post.length fun q=>aY (n0+q) fun nh=>sw (vK (iz args gG []) 0 pre.length) fun hs=>K hs (res.lU fun k=>n0+k) (cO n0 post 0) nh):Aa P f args m K:=by
 refine J0 hc (vK (iz args gG []) 0 pre.length) ha hp gQ ?_
 rw[M.cy,aQ,aQ,yw]at h
 rw[M.cy,aQ,aQ]
 exact h
theorem BY{P:Program}{f:FuncId}{args eE:List T}{pre:List bd}{res:X}{post:List bd}{m:M}{K:X->M->Prop}{rP:Bool}
  (dh:lZ eE (ly (pick (vK (iz eE args []) 0 pre.length)) args)) (h:bo P f args pre res post) (mU:im m (vK (iz eE args []) 0 pre.length) pre) (gQ:(res.sc post.length&&gw post.length post)=true)
  (hK:m.cs fun aj n0 ds=>aY post.length fun q=>aY (n0+q) fun nh=>l8 (res.lU fun k=>n0+k) fun x=>ja (cO n0 post 0) fun rs=>zg rs aj fun l=>K x {aj:=l,nh:=nh,ds:=ds}):dS P f eE m K rP:=
 e9 h dh mU gQ hK
theorem gf{P:Program}{f:FuncId}{args gG:List T}{m:M}{K:List Nat->X->List (Nat×bd)->Nat->Prop}{pre:List bd}{res:X}{post:List bd}
  (ha:lZ args (ly (pick (vK (iz args gG []) 0 pre.length)) gG)) (hc:bo P f gG pre res post) (hp:im m (vK (iz args gG []) 0 pre.length) pre) (gQ:(res.sc post.length&&gw post.length post)=true)
  (h:m.cs fun _ n0 _=>aY post.length fun q=>aY (n0+q) fun nh=>sw (vK (iz args gG []) 0 pre.length) fun hs=>K hs (res.lU fun k=>n0+k) (cO n0 post 0) nh):Aa P f args m K:=
 eO hc ha hp gQ h
end Go.SE

namespace Go.SE
open Go Go.RowKit
variable [aG]
def Bytes(l:List Int):Prop:=∀x∈l,0<=x/\x<=255
end Go.SE

namespace Go.SE
open Go Go.RowKit Go.WideShapes Go.ChangeShapes
variable [aG]
section
variable{H:Type}{enc:TypeId×Value->H}{P:Program}
end
end Go.SE

namespace Go.SE
open Go Go.RowKit
variable [aG]
variable{C:Ctx}{ops:Array Oper}
def oK(ops:Array Oper):Nat->Nat->Nat->Bool
 |0,_,_=>false
 |f+1,x,i=>match ops[i]? with
  |some o=>o.after.toList.any fun e=>Region.binds .any e&&(Nat.beq e.on x||oK ops f x e.on)
  |none=>false
def jq(ops:Array Oper)(listed:Array Bool):Prop:=
 ∀i o,ops[i]?=some o->∀e∈o.after,Region.binds .any e=true->listed.getD e.on true=false->listed.getD i true=false
theorem td{listed:Array Bool}(hu:jq ops listed): ∀ (f x i:Nat),oK ops f x i=true->listed.getD x true=false->∃o,ops[i]?=some o/\∃e∈o.after,Region.binds .any e=true/\listed.getD e.on true=false
 |0,_,_,h,_=>by simp[oK]at h
 |f+1,x,i,h,hx=>by
  unfold oK at h
  split at h
  ·rename_i o ho
   obtain⟨e,he,hb⟩:=List.any_eq_true.1 h
   rw[Bool.and_eq_true,Bool.or_eq_true]at hb
   refine⟨o,ho,e,by simpa using he,hb.1,?_⟩
   rcases hb.2 with h1|h1
   ·rw[Nat.eq_of_beq_eq_true h1];exact hx
   obtain⟨o',wL,e',KC,P9,vH⟩:=td hu f x e.on h1 hx
   exact hu e.on o' wL e' KC P9 vH
  cases h
theorem Ax{listed:Array Bool}{i x f:Nat}(hu:jq ops listed)(hs:listed.size=ops.size)(hp:oK ops f x i=true)(hx:listed.getD x true=false):i∉Region.ready .any ops listed:=by
 intro hi
 obtain⟨h1,o,ho,dK⟩:=mem_ready.1 hi
 obtain⟨o',wL,e,he,hb,hl⟩:=td hu f x i hp hx
 rw[ho]at wL;cases wL
 have h2:=dK e he hb
 have bA:e.on<listed.size:=by
  refine Classical.byContradiction fun hn=>?_
  simp[Array.getD,hn]at hl
 simp[Array.getD,bA]at hl h2
 rw[hl]at h2;cases h2
theorem jq.set{listed:Array Bool}(hu:jq ops listed)(hs:listed.size=ops.size){i:Nat}(hi:i∈Region.ready .any ops listed):jq ops (listed.setIfInBounds i true):=by
 intro y o ho e he hb hx
 obtain⟨h1,oi,hoi,dK⟩:=mem_ready.1 hi
 have cb:e.on≠i:=by
  intro h
  rw[h]at hx
  by_cases bA:i<listed.size
  ·simp[Array.getD,bA]at hx
  simp[Array.getD,bA]at hx
 rw[getD_set_ne true (Ne.symm cb)]at hx
 have hy:=hu y o ho e he hb hx
 by_cases hyi:y=i
 ·subst hyi
  rw[hoi]at ho;cases ho
  have h2:=dK e he hb
  have bA:e.on<listed.size:=by
   refine Classical.byContradiction fun hn=>?_
   simp[Array.getD,hn]at hx
  simp[Array.getD,bA]at hx h2
  rw[hx]at h2;cases h2
 rw[getD_set_ne true (Ne.symm hyi)];exact hy
theorem Nq{ro:Option Nat}(hF: ∃ρ,ro=C.ro ρ){B:Nat}{w0:World}{Q:Exit->Act->World->Prop}(rest:Nat->Prop)(kr:Nat): ∀ (k:Nat) (l:List Rec) (listed:Array Bool) (σ:Fs) (D:Nat->Prop) (ρ:aZ) (a:Act) (w:World),l.length=k->Rp ops l->z8 C ops σ l->
  listed.size=ops.size->(∀i,i<ops.size->(listed.getD i true=false↔(∃r∈l,r.idx=i)\/rest i))->jq ops listed->(∀i,rest i->∀r∈l,r.idx<i/\∃f,oK ops f r.idx i=true)->
  (∀r∈l,∀h,r.uU h->¬D h)->Rt C B w0 D ρ σ a w->
  (∀ (D':Nat->Prop) ρ' a' w' fe,(∀h,D' h↔D h\/∃r∈l,r.uU h)->an D ρ ρ'->a'.defers=a.defers->Rt C B w0 D' ρ' (uY σ l) a' w'->fe.size=ops.size->(∀i,i<ops.size->(fe.getD i true=false↔rest i))->jq ops fe->
   fh ro C.P .any ops Q kr fe a' w')->
  fh ro C.P .any ops Q (k+kr) listed a w:=by
 intro k
 induction k with
 |zero=>
  intro l listed σ D ρ a w hk hl La e8 gF Kf Da jh aL hQ
  obtain rfl:=List.eq_nil_of_length_eq_zero hk
  rw[Nat.zero_add]
  exact hQ D ρ a w listed (fun h=>by simp) (an.refl _ _) rfl aL e8 (fun i hi=>by rw[gF i hi];simp) Kf
 |succ k ih=>
  intro l listed σ D ρ a w hk hl La e8 gF Kf Da jh aL hQ
  have vP: ∀i,i<ops.size->listed.getD i true=listed.getD i false:=fun i hi=>by
   have:i<listed.size:=by omega
   simp[Array.getD,this]
  rw[Nat.succ_add]
  refine⟨fun hr=>?_,fun i hi ae iv=>?_⟩
  ·exfalso
   cases l with
   |nil=>simp at hk
   |cons r l=>
    have K6:=hl.op r (by simp)
    have K7:=(Array.getElem?_eq_some_iff.1 K6).1
    have:r.idx∈Region.ready .any ops listed:=by
     refine mem_ready.2 ⟨(gF _ K7).2 (.inl ⟨r,by simp,rfl⟩),r.o,K6,fun e he hb=>?_⟩
     have bA:=hl.back r (by simp) e he hb
     refine Classical.byContradiction fun cb=>?_
     have h0:listed.getD e.on true=false:=by rw[vP _ (by omega)];simpa using cb
     rcases(gF _ (by omega)).1 h0 with⟨x,hx,Kz⟩|hx
     ·rcases List.mem_cons.1 hx with rfl|hx
      ·omega
      have:=(List.pairwise_cons.1 hl.up).1 x hx;omega
     have:=(Da _ hx r (by simp)).1;omega
    rw[hr]at this;cases this
  obtain⟨h1,o,ho,dK⟩:=mem_ready.1 hi
  have E7:=(Array.getElem?_eq_some_iff.1 ho).1
  rcases(gF i E7).1 h1 with⟨r,hr,Yf⟩|Hj
  ·obtain⟨l1,l2,rfl⟩:=List.append_of_mem hr
   have iP:ops[i]?=some r.o:=by rw[<-Yf];exact hl.op r hr
   have RX: ∀x∈l1,lz x r:=by
    intro x hx
    have GM:x∈l1++r::l2:=by simp[hx]
    rcases(List.pairwise_append.1 hl.pair).2.2 x hx r (by simp)with h|⟨e,he,hb,Yt⟩
    ·exact h
    exfalso
    rw[ho]at iP;cases iP
    have h2:=dK e he hb
    have K0:=(Array.getElem?_eq_some_iff.1 (hl.op x GM)).1
    have h3:=(gF _ K0).2 (.inl ⟨x,GM,rfl⟩)
    rw[vP _ K0,<-Yt,h2]at h3
    cases h3
   obtain⟨hv,LK,oF⟩:=FN l1 La RX
   obtain⟨env,aj,he,C9,aL⟩:=aL.lj iv
   obtain⟨hle,Yv⟩:=hv env ⟨aj,r.lo,[]⟩ ⟨fun k _=>by rw[he],fun k _=>by show aK aj k=_;rw[C9],rfl⟩
   unfold dH
   rw[iP]
   refine Yv ro hF B w0 D ρ a ae _ (fun h hh=>jh r hr h hh) (aL r.lo []) fun ρ' a' w' aU my oh=>?_
   refine ih (l1++l2) (listed.setIfInBounds i true) (r.app σ) (fun h=>D h\/r.uU h) ρ' a' w' ?_ hl.drop LK (by simpa using e8) ?_ (Kf.set e8 hi) (fun i' yY x hx=>Da i' yY x (by
    rcases List.mem_append.1 hx with hx|hx<;>simp[hx])) ?_ ?_ ?_
   ·simp at hk ⊢;omega
   ·intro j hj
    by_cases tP:i=j
    ·subst tP
     constructor
     ·intro h
      have:i<listed.size:=by omega
      simp[Array.getD,this]at h
     rintro(⟨x,hx,Kz⟩|hx)
     ·exfalso
      rcases List.mem_append.1 hx with hx|hx
      ·have:=(List.pairwise_append.1 hl.up).2.2 x hx r (by simp);omega
      have:=(List.pairwise_cons.1 (List.pairwise_append.1 hl.up).2.1).1 x hx;omega
     exfalso
     have:=(Da _ hx r (by simp)).1;omega
    have:(listed.setIfInBounds i true).getD j true=listed.getD j true:=getD_set_ne true tP
    rw[this,gF j hj]
    constructor
    ·rintro(⟨x,hx,Kz⟩|hx)
     ·refine .inl ⟨x,?_,Kz⟩
      rcases List.mem_append.1 hx with hx|hx
      ·simp[hx]
      rcases List.mem_cons.1 hx with rfl|hx
      ·omega
      simp[hx]
     exact .inr hx
    rintro(⟨x,hx,Kz⟩|hx)
    ·refine .inl ⟨x,?_,Kz⟩
     rcases List.mem_append.1 hx with hx|hx<;>simp[hx]
    exact .inr hx
   ·intro x hx h hh hD
    have GM:x∈l1++r::l2:=by
     rcases List.mem_append.1 hx with hx|hx<;>simp[hx]
    rcases hD with hD|hD
    ·exact jh x GM h hh hD
    rcases List.mem_append.1 hx with hx|hx
    ·exact(List.pairwise_append.1 hl.new).2.2 x hx r (by simp) h hh hD
    exact(List.pairwise_cons.1 (List.pairwise_append.1 hl.new).2.1).1 x hx h hD hh
   ·refine⟨_,_,?_,?_,fun k ds=>oh.nh⟩
    ·funext k;rw[fy,he];rfl
    funext h;rw[cA,C9];rfl
   intro D' ρ'' YS GL Nc Om cW LQ LI Zz ZI Zs
   refine hQ D' ρ'' YS GL Nc (fun h=>?_) (fun h hh=>(cW h (.inl hh)).trans (aU h hh)) (LQ.trans my) (by rw[<-oF];exact LI) Zz ZI Zs
   rw[Om]
   constructor
   ·rintro((h1|h1)|⟨x,hx,h1⟩)
    ·exact .inl h1
    ·exact .inr ⟨r,hr,h1⟩
    refine .inr ⟨x,?_,h1⟩
    rcases List.mem_append.1 hx with hx|hx<;>simp[hx]
   rintro(h1|⟨x,hx,h1⟩)
   ·exact .inl (.inl h1)
   rcases List.mem_append.1 hx with hx|hx
   ·exact .inr ⟨x,by simp[hx],h1⟩
   rcases List.mem_cons.1 hx with rfl|hx
   ·exact .inl (.inr h1)
   exact .inr ⟨x,by simp[hx],h1⟩
  exfalso
  cases l with
  |nil=>simp at hk
  |cons r l=>
   obtain⟨_,f,hf⟩:=Da i Hj r (by simp)
   have K7:=(Array.getElem?_eq_some_iff.1 (hl.op r (by simp))).1
   exact Ax Kf e8 hf ((gF _ K7).2 (.inl ⟨r,by simp,rfl⟩)) hi
def u9(acc:List Nat):List Go.Edge->Nat
 | []=>0
 |e::l=>bif Region.binds .any e then(1 <<< e.on)|||((acc.getD e.on 0)|||u9 acc l)else u9 acc l
def LW:List Oper->List Nat->List Nat
 | [],acc=>acc
 |o::l,acc=>LW l (acc++ [u9 acc o.after.toList])
theorem rH{acc:List Nat}{x:Nat}: ∀ {l:List Go.Edge},(u9 acc l).testBit x=true->∃e∈l,Region.binds .any e=true/\(e.on=x\/(acc.getD e.on 0).testBit x=true)
 | [],h=>by simp[u9]at h
 |e::l,h=>by
  simp only[u9,cond_eq_ite]at h
  split at h
  ·rename_i hb
   rw[Nat.testBit_or,Nat.testBit_or,Bool.or_eq_true,Bool.or_eq_true]at h
   rcases h with h|h|h
   ·refine⟨e,by simp,hb,.inl ?_⟩
    rw[Nat.one_shiftLeft,Nat.testBit_two_pow]at h
    simpa using h
   ·exact⟨e,by simp,hb,.inr h⟩
   obtain⟨e',he,h'⟩:=rH h
   exact⟨e',by simp[he],h'⟩
  obtain⟨e',he,h'⟩:=rH h
  exact⟨e',by simp[he],h'⟩
theorem yJ: ∀ (l:List Oper) (acc:List Nat),ops.toList=(ops.toList.take acc.length)++l->(∀i x,(acc.getD i 0).testBit x=true->∃f,oK ops f x i=true)->
  ∀i x,((LW l acc).getD i 0).testBit x=true->∃f,oK ops f x i=true
 | [],acc,_,h=>h
 |o::l,acc,hl,h=>by
  have hlen:acc.length<ops.toList.length:=by
   have:=congrArg List.length hl
   simp only[List.length_append,List.length_take,List.length_cons]at this
   omega
  have ho:ops[acc.length]?=some o:=by
   have h1:ops.toList[acc.length]?=some o:=by
    rw[hl,List.getElem?_append_right (by simp;omega)]
    simp only[List.length_take]
    rw[Nat.min_eq_left (by omega)]
    simp
   simpa using h1
  refine yJ l (acc++ [u9 acc o.after.toList]) ?_ fun i x hx=>?_
  ·rw[List.length_append,List.length_singleton,List.take_succ_eq_append_getElem (by omega)]
   have:ops.toList[acc.length]'hlen=o:=by
    have:=List.getElem?_eq_getElem hlen
    have h2:ops.toList[acc.length]?=some o:=by simpa using ho
    rw[h2]at this
    exact(Option.some.inj this).symm
   rw[this,List.append_assoc]
   exact hl
  by_cases hi:i<acc.length
  ·rw[List.getD_eq_getElem?_getD,List.getElem?_append_left hi,<-List.getD_eq_getElem?_getD]at hx
   exact h i x hx
  by_cases hie:i=acc.length
  ·subst hie
   rw[List.getD_eq_getElem?_getD,List.getElem?_append_right (Nat.le_refl _)]at hx
   simp only[Nat.sub_self,List.getElem?_cons_zero,Option.getD_some]at hx
   obtain⟨e,he,hb,h1⟩:=rH hx
   rcases h1 with h1|h1
   ·exact⟨1,by
     unfold oK
     rw[ho]
     exact List.any_eq_true.2 ⟨e,he,by rw[hb,h1];simp⟩⟩
   obtain⟨f,hf⟩:=h e.on x h1
   exact⟨f+1,by
    unfold oK
    rw[ho]
    exact List.any_eq_true.2 ⟨e,he,by rw[hb,hf];simp⟩⟩
  exfalso
  have:(acc++ [u9 acc o.after.toList]).getD i 0=0:=by
   simp only[List.getD_eq_getElem?_getD]
   rw[List.getElem?_eq_none (by simp;omega)]
   rfl
  rw[this]at hx
  simp at hx
def Sv(ops:Array Oper)(k j:Nat):Bool:=
 let A:=LW ops.toList []
 (List.range ops.size).all fun i=>bif Nat.blt i j then true else(List.range ops.size).all fun x=>
  bif Nat.ble k x&&Nat.blt x (bif Nat.beq i j then j else j+1)then(A.getD i 0).testBit x else true
theorem AR{k j:Nat}(h:Sv ops k j=true): ∀i x,i<ops.size->j<=i->k<=x->(x<j\/(x=j/\j<i))->∃f,oK ops f x i=true:=by
 intro i x hi ox hkx hx
 unfold Sv at h
 have h1:=List.all_eq_true.1 h i (by simpa using hi)
 have hb:Nat.blt i j=false:=by
  rw[<-Bool.not_eq_true];intro hc;have:=fo hc;omega
 rw[hb,cond_false]at h1
 have h2:=List.all_eq_true.1 h1 x (by simp;omega)
 have hc:(Nat.ble k x&&Nat.blt x (bif Nat.beq i j then j else j+1))=true:=by
  rw[Bool.and_eq_true]
  refine⟨Nat.ble_eq_true_of_le hkx,?_⟩
  by_cases tP:i=j
  ·subst tP
   rw[Nat.beq_refl,cond_true]
   exact Nat.ble_eq_true_of_le (by omega)
  have:Nat.beq i j=false:=by rw[<-Bool.not_eq_true];exact fun e=>tP (Nat.eq_of_beq_eq_true e)
  rw[this,cond_false]
  exact Nat.ble_eq_true_of_le (by omega)
 rw[hc,cond_true]at h2
 exact yJ ops.toList [] (by simp) (fun i x hx=>by simp at hx) i x h2
def gW(C:Ctx)(B:Nat)(w0:World)(ρ:aZ)(Q:Exit->Env->M->Prop)(e:Exit)(a:Act)(w:World):Prop:=After C B w0 ρ (Q e) a w
theorem gW.from{B:Nat}{w0:World}{ρ ρ1:aZ}{Q:Exit->Env->M->Prop}{e:Exit}{a:Act}{w:World}(aU:an (fun h=>h<C.p) ρ ρ1)(h:gW C B w0 ρ1 Q e a w):gW C B w0 ρ Q e a w:=After.from aU h
structure z4(C:Ctx)(ops:Array Oper)(k:Nat)(Q:Exit->Env->M->Prop)(env:Env)(m:M):Prop where
 out:C.qY->∀ (B:Nat) (w0:World) (ρ:aZ) (a:Act) (w:World) (listed:Array Bool),mm C.P C.nt B w0 ρ env m a w->C.p<=m.nh->listed.size=ops.size->(∀i,i<ops.size->(listed.getD i true=false↔k<=i))->jq ops listed->
  fh (C.ro ρ) C.P .any ops (gW C B w0 ρ Q) (ops.size-k) listed a w
theorem Mi{l:List Oper}{k:Nat}{env env':Env}{m m':M}{dv:List Rec}(dI:rn ops=true)(hl: ∀i o,l[i]?=some o->ops[k+i]?=some o)(ht:Trace C ops l k [] [] env m env' m' dv):
  Rp ops dv/\dv.length=l.length/\∀i,(∃r∈dv,r.idx=i)↔(k<=i/\i<k+l.length):=by
 unfold rn at dI
 rw[Bool.and_eq_true]at dI
 have CR: ∀r∈dv,(r.idx,r.o)∈number k l:=fun r hr=>by rw[<-ht.num];exact List.mem_map.2 ⟨r,hr,rfl⟩
 have UU: ∀r∈dv,k<=r.idx/\l[r.idx-k]?=some r.o:=fun r hr=>(dC _ _ _).1 (CR r hr)
 have aF: ∀r∈dv,ops[r.idx]?=some r.o:=fun r hr=>by
  obtain⟨h1,h2⟩:=UU r hr
  have:=hl _ _ h2
  rwa [show k+(r.idx-k)=r.idx by omega]at this
 have Kf:dv.Pairwise fun x y=>x.idx<y.idx:=by
  have:=uB l k
  rw[<-ht.num,List.pairwise_map]at this
  exact this
 have dK: ∀r∈dv,(r.idx,r.o)∈number 0 ops.toList:=fun r hr=>(dC _ _ _).2 ⟨Nat.zero_le _,by simpa using aF r hr⟩
 have Yc:=ma dI.1
 have FF:dv.Pairwise fun x y=>ga x.idx y.o.after.toList=true\/kB ops x.o y.o=true:=by
  refine List.Pairwise.imp_of_mem (R:=fun x y=>x.idx<y.idx) (fun{x y} hx hy bA=>?_) Kf
  have h1:=(dC ops.toList 0 (x.idx,x.o)).1 (dK x hx)
  have h2:=(dC ops.toList 0 (y.idx,y.o)).1 (dK y hy)
  have key: ∀ (L:List Oper) (i0:Nat),(number i0 L).Pairwise (fun p q=>ga p.1 q.2.after.toList=true\/kB ops p.2 q.2=true)->∀p q,p∈number i0 L->q∈number i0 L->p.1<q.1->ga p.1 q.2.after.toList=true\/kB ops p.2 q.2=true:=by
   intro L
   induction L with
   |nil=>intro i0 _ p q hp;simp[number]at hp
   |cons o L ih=>
    intro i0 Xv p q hp hq bA
    simp only[number]at Xv hp hq
    rw[List.pairwise_cons]at Xv
    rcases List.mem_cons.1 hp with rfl|hp<;>rcases List.mem_cons.1 hq with rfl|hq
    ·exact absurd bA (Nat.lt_irrefl _)
    ·exact Xv.1 q hq
    ·have:=((dC L (i0+1) p).1 hp).1
     have RU:p.1<i0:=bA
     omega
    exact ih (i0+1) Xv.2 p q hp hq bA
  exact key _ _ Yc _ _ (dK x hx) (dK y hy) bA
 have LF:dv.Pairwise fun x y=>lz x y\/Go.SE.Edge x y:=by
  refine List.Pairwise.imp_of_mem (R:=fun x y=>(ga x.idx y.o.after.toList=true\/kB ops x.o y.o=true)/\(Go.SE.Edge x y\/sZ x y)) (fun{x y} hx hy hh=>?_) (FF.and ht.mem)
  obtain⟨h1,h2⟩:=hh
  rcases h1 with h1|h1
  ·exact .inr (wA h1)
  rcases h2 with h2|h2
  ·exact .inr h2
  exact .inl (DL (ht.looks x hx) (ht.looks y hy) h1 h2)
 refine⟨⟨aF,Kf,LF,ht.new.imp fun{x y} hh k hk cC=>?_,fun r hr=>jZ dI.2 _ (dK r hr)⟩,?_,fun i=>⟨?_,?_⟩⟩
 ·have:=hk.2;have:=cC.1;omega
 ·have:=congrArg List.length ht.num
  simpa [mf]using this
 ·rintro⟨r,hr,rfl⟩
  obtain⟨h1,h2⟩:=UU r hr
  have:=(List.getElem?_eq_some_iff.1 h2).1
  exact⟨h1,by omega⟩
 rintro⟨h1,h2⟩
 have:(i,l[i-k]'(by omega))∈number k l:=(dC _ _ _).2 ⟨h1,by simp⟩
 rw[<-ht.num]at this
 obtain⟨r,hr,he⟩:=List.mem_map.1 this
 exact⟨r,hr,congrArg Prod.fst he⟩
theorem HU{k:Nat}{Q:Exit->Env->M->Prop}{env:Env}{m:M}(dI:rn ops=true)(hk:Nat.ble k ops.size=true)(h:dr C ops (ops.toList.drop k) k [] [] (Q .normal) env m):z4 C ops k Q env m:=by
 replace hk:=Nat.le_of_ble_eq_true hk
 refine⟨fun hg B w0 ρ a w listed aL hp hs gF Kf=>?_⟩
 obtain⟨dv,env',m',ht,hK⟩:=sS _ _ _ _ _ _ _ h
 obtain⟨K9,hlen,RY⟩:=Mi dI (fun i o ho=>by
  rw[List.getElem?_drop]at ho
  simpa using ho) ht
 have LL:dv.length=ops.size-k:=by rw[hlen];simp
 refine DW (C:=C) (B:=B) (w0:=w0) ⟨ρ,rfl⟩ (ops.size-k) dv listed (Fs.of env m) (Lex m) ρ a w LL K9 ht.lex hs (fun i hi=>?_) (fun r hr k hk hl=>?_) ?_ (fun D' ρ' a' w' Om aU my oh=>?_)
 ·rw[gF i hi,RY]
  constructor
  ·intro h1;exact⟨h1,by simp;omega⟩
  exact fun h1=>h1.1
 ·have:=(ht.lo r hr).1;have:=hk.1;unfold Lex at hl;omega
 ·exact⟨env,m.aj,rfl,rfl,fun k ds=>Ok.nh (k:=m.nh) (ds:=m.ds) aL.ok⟩
 rw[ht.fin]at oh
 obtain⟨eJ,CY,he,hr,lr⟩:=oh
 have U0: ∀k,D' k->Lex m' k:=fun k hk=>by
  rcases(Om k).1 hk with h1|⟨r,hr,h1⟩
  ·exact Nat.lt_of_lt_of_le h1 ht.nh
  have:=(ht.lo r hr).2.2;have:=h1.2;unfold Lex;omega
 have bn: ∀k,m'.reg k=aK CY k:=fun k=>by rw[hr];rfl
 have wT:=(lr 0 []).YL U0
 show After C B w0 ρ (Q .normal) a' w'
 refine⟨ρ',env',m',fun k hk=>aU k (by unfold Lex;omega),Nat.le_trans hp ht.nh,⟨⟨fun ρ'' hh k x hx=>?_,fun ρ'' hh=>?_,wT.size⟩,fun ρ'' hh=>?_⟩,hK⟩
 ·have:eJ.get k=some x:=by rw[he];exact hx
  exact wT.env ρ'' hh k x this
 ·have h5:=wT.mem ρ'' hh
  exact⟨fun k r hk=>h5.aj k r ((bn k).symm.trans hk),fun k k' r r' hk cC=>h5.fG k k' r r' ((bn k).symm.trans hk) ((bn k').symm.trans cC),fun k r hk=>h5.base k r ((bn k).symm.trans hk),h5.below,h5.hB⟩
 rw[my,ht.ds]
 refine aL.ds ρ'' fun k hk=>(hh k (Nat.lt_of_lt_of_le hk ht.nh)).trans (aU k hk)
theorem Bi{o:Oper}{K:Env->M->Prop}{env:Env}{m:M}(h:gC C ops [o] K env m){B:Nat}{w0:World}{ρ:aZ}{a:Act}{w:World}(aL:mm C.P C.nt B w0 ρ env m a w):
  gD C o.dst=true/\((∃env',mm C.P C.nt B w0 ρ env' m a w/\uQ C o K env' m/\Region.wanted o (yielded ops a.tmps)=true)\/
   (∃env',mm C.P C.nt B w0 ρ env' m a w/\K (eL env' o.dst (.lv [])) m/\Region.wanted o (yielded ops a.tmps)=false)):=by
 have hE:=aL.ok.env ρ (an.refl _ _)
 have hgw:=jV (ops:=ops) (o:=o) hE
 have eK:(fun env m=>gC C ops [] K env m)=K:=by funext env m;rfl
 simp only[gC,cond_eq_ite,Env.go_eq]at h
 split at h
 ·rename_i hd
  refine⟨hd,?_⟩
  split at h
  ·rename_i hgo
   exact .inl ⟨env,aL,by rw[<-eK];exact h,hgw.1 hgo⟩
  ·rename_i hgo
   exact .inr ⟨env,aL,h,hgw.2 hgo⟩
  ·rename_i d c hgo
   unfold guardOf at hgo
   split at hgo
   ·cases hgo
   rename_i j want hn
   split at hgo
   ·rename_i d' ln
    split at hgo
    ·rename_i hv;cases want<;>simp at hgo
    ·rename_i hv;cases want<;>simp at hgo
    ·rename_i c' hv
     cases hgo
     have hw:=dT hE hn ln (.inr hv)
     have rY:=aL.xT hv
     split at h
     ·rename_i j' oz
      rw[hn]at oz;cases oz
      have hs:=h ()
      cases c
      ·exact .inr ⟨_,rY,hs.no rfl,by rw[hw];rfl⟩
      exact .inl ⟨_,rY,by rw[<-eK];exact hs.yes rfl,by rw[hw];rfl⟩
     ·rename_i j' oz
      rw[hn]at oz;cases oz
      have hs:=h ()
      cases c
      ·exact .inl ⟨_,rY,by rw[<-eK];exact hs.no rfl,by rw[hw];rfl⟩
      exact .inr ⟨_,rY,hs.yes rfl,by rw[hw];rfl⟩
     exact h.elim
    ·cases hgo
    cases hgo
   cases hgo
  exact h.elim
 exact h.elim
theorem AQ{id:Nat}{Q:Exit->Env->M->Prop}{env:Env}{m:M}(hm:C.P.follows .mixedOrders=true)(h:z4 C ops 0 Q env m):qF C (.region id ops true) Q env m:=by
 refine⟨fun hg B w0 ρ a w aL hp=>kX hm fun ae iv=>?_⟩
 replace aL:=aL.lj iv
 refine h.out hg B w0 ρ a _ (Array.replicate ops.size false) ⟨⟨aL.ok.env,fun ρ' aU=>(aL.ok.mem ρ' aU).drew,aL.ok.size⟩,aL.ds⟩ hp (by simp) (fun i hi=>?_) (fun i o ho e _ _ _=>?_)
 ·simp[Array.getD,hi]
 have:=(Array.getElem?_eq_some_iff.1 ho).1
 simp[Array.getD,this]
theorem Dy{k:Nat}{Q:Exit->Env->M->Prop}{env:Env}{m:M}(j:Nat){o:Oper}(dI:rn ops=true)(ho:ops[j]?=some o)(Ym:Nat.ble k j=true)(VF:Sv ops k j=true)
  (h:dr C ops ((ops.toList.drop k).take (j-k)) k [] [] (fun env m=>gC C ops [o] (fun env m=>Unit->z4 C ops (j+1) Q env m) env m) env m):z4 C ops k Q env m:=by
 replace Ym:=Nat.le_of_ble_eq_true Ym
 have Oi:j<ops.size:=(Array.getElem?_eq_some_iff.1 ho).1
 refine⟨fun hg B w0 ρ a w listed aL hp hs gF Kf=>?_⟩
 obtain⟨dv,env',m',ht,hK⟩:=sS _ _ _ _ _ _ _ h
 obtain⟨K9,hlen,RY⟩:=Mi dI (fun i o ho=>by
  rw[List.getElem?_take]at ho
  split at ho
  ·rw[List.getElem?_drop]at ho
   simpa using ho
  cases ho) ht
 have LL:dv.length=j-k:=by rw[hlen];simp;omega
 have QK: ∀i,(∃r∈dv,r.idx=i)↔(k<=i/\i<j):=fun i=>by
  rw[RY i]
  have:((ops.toList.drop k).take (j-k)).length=j-k:=by simp;omega
  rw[this]
  constructor<;>(intro h;omega)
 have e:ops.size-k=(j-k)+(ops.size-j):=by omega
 rw[e]
 refine Nq (C:=C) (B:=B) (w0:=w0) ⟨ρ,rfl⟩ (fun i=>j<=i/\i<ops.size) (ops.size-j) (j-k) dv listed (Fs.of env m) (Lex m) ρ a w LL K9 ht.lex hs (fun i hi=>?_) Kf (fun i hi r hr=>?_) (fun r hr k hk hl=>?_) ?_ (fun D' ρ' a' w' fe Om aU my oh AS Bp Vw=>?_)
 ·rw[gF i hi,QK]
  constructor
  ·intro h1
   by_cases h2:i<j
   ·exact .inl ⟨h1,h2⟩
   exact .inr ⟨by omega,hi⟩
  rintro(h1|h1)<;>omega
 ·have h1:=(QK r.idx).1 ⟨r,hr,rfl⟩
  exact⟨by omega,AR VF i r.idx hi.2 hi.1 h1.1 (.inl h1.2)⟩
 ·have:=(ht.lo r hr).1;have:=hk.1;unfold Lex at hl;omega
 ·exact⟨env,m.aj,rfl,rfl,fun k ds=>Ok.nh (k:=m.nh) (ds:=m.ds) aL.ok⟩
 rw[ht.fin]at oh
 obtain⟨eJ,CY,he,hr,lr⟩:=oh
 have U0: ∀k,D' k->Lex m' k:=fun k hk=>by
  rcases(Om k).1 hk with h1|⟨r,hr,h1⟩
  ·exact Nat.lt_of_lt_of_le h1 ht.nh
  have:=(ht.lo r hr).2.2;have:=h1.2;unfold Lex;omega
 have bn: ∀k,m'.reg k=aK CY k:=fun k=>by rw[hr];rfl
 have wT:=(lr 0 []).YL U0
 have RQ:mm C.P C.nt B w0 ρ' env' m' a' w':=by
  refine⟨⟨fun ρ'' hh k x hx=>?_,fun ρ'' hh=>?_,wT.size⟩,fun ρ'' hh=>?_⟩
  ·have:eJ.get k=some x:=by rw[he];exact hx
   exact wT.env ρ'' hh k x this
  ·have h5:=wT.mem ρ'' hh
   exact⟨fun k r hk=>h5.aj k r ((bn k).symm.trans hk),fun k k' r r' hk cC=>h5.fG k k' r r' ((bn k).symm.trans hk) ((bn k').symm.trans cC),fun k r hk=>h5.base k r ((bn k).symm.trans hk),h5.below,h5.hB⟩
  rw[my,ht.ds]
  refine aL.ds ρ'' fun k hk=>(hh k (Nat.lt_of_lt_of_le hk ht.nh)).trans (aU k hk)
 have hp':C.p<=m'.nh:=Nat.le_trans hp ht.nh
 have cW:an (fun h=>h<C.p) ρ ρ':=fun k hk=>aU k (by unfold Lex;omega)
 have VP:C.ro ρ'=C.ro ρ:=Ctx.nW hg cW
 have Z0:ops.size-j=(ops.size- (j+1))+1:=by omega
 rw[Z0]
 have H8:fe.getD j true=false:=(Bp j Oi).2 ⟨Nat.le_refl _,Oi⟩
 have Qz: ∀i,i<ops.size->((fe.setIfInBounds j true).getD i true=false↔j+1<=i):=by
  intro i hi
  by_cases tP:j=i
  ·subst tP
   constructor
   ·intro h1
    have:j<fe.size:=by omega
    simp[Array.getD,this]at h1
   intro h1;omega
  rw[getD_set_ne true tP,Bp i hi]
  constructor
  ·intro h1;omega
  intro h1;exact⟨by omega,hi⟩
 have WL: ∀i,i∈Region.ready .any ops fe->i=j:=by
  intro i hi
  obtain⟨h1,o',wL,_⟩:=mem_ready.1 hi
  have E7:=(Array.getElem?_eq_some_iff.1 wL).1
  have h2:=(Bp i E7).1 h1
  refine Classical.byContradiction fun cb=>?_
  obtain⟨f,hf⟩:=AR VF i j E7 h2.1 Ym (.inr ⟨rfl,by omega⟩)
  exact Ax Vw AS hf H8 hi
 have RV:j∈Region.ready .any ops fe:=by
  refine mem_ready.2 ⟨H8,o,ho,fun e he hb=>?_⟩
  have RJ:=dI
  unfold rn at RJ
  rw[Bool.and_eq_true]at RJ
  have bA:=jZ RJ.2 (j,o) ((dC _ _ _).2 ⟨Nat.zero_le _,by simpa using ho⟩) e he hb
  have RU:e.on<j:=bA
  have h3: ¬fe.getD e.on true=false:=fun h3=>by
   have:=(Bp e.on (by omega)).1 h3
   omega
  have:e.on<fe.size:=by omega
  simp[Array.getD,this]at h3 ⊢
  exact h3
 refine⟨fun UC=>?_,fun i hi ae iv=>?_⟩
 ·rw[UC]at RV;cases RV
 obtain rfl:=WL i hi
 unfold dH
 rw[ho]
 simp only
 have Vv:=Vw.set AS RV
 replace RQ:=RQ.lj iv
 obtain⟨hd,⟨OC,RO,aS,hw⟩|⟨OC,RO,UK,hw⟩⟩:=Bi hK RQ
 ·rw[if_pos hw]
  have tV:=jw hd hg aS B w0 ρ' a' ae RO hp'
  rw[VP]at tV
  refine mD ?_ tV
  rintro a2 w2 ⟨ρ2,zaS,m4,q1,q2,q3,q4⟩
  have:=(q4 ()).out hg B w0 ρ2 a2 w2 (fe.setIfInBounds i true) q3 q2 (by simpa using AS) Qz Vv
  have q5:an (fun h=>h<C.p) ρ ρ2:=cW.trans q1 fun _ h=>h
  rw[Ctx.nW hg q5]at this
  exact lG this fun a w h=>gW.from q5 h
 rw[if_neg (by rw[hw];simp)]
 have:=(UK ()).out hg B w0 ρ' _ ae (fe.setIfInBounds i true) (RO.skip (di hd)) hp' (by simpa using AS) Qz Vv
 rw[VP]at this
 exact lG this fun a w h=>gW.from cW h
theorem H5{k:Nat}{Q:Exit->Env->M->Prop}{env:Env}{m:M}(h:z4 C ops k Q env m):z4 C ops k Q env m:=h
end Go.SE

namespace Go.SE
open Go Go.RowKit
variable [aG]
variable{P:Program}
def lA{α:Type}(P:Program)(s:Sem α):Prop:=∀w,∃h w',s.run P w= .halt h w'
def eh{α:Type}(P:Program)(s:Sem α):Prop:=(∃r,∀w,s.run P w= .ok r w)\/lA P s
theorem kT{α β:Type}{s:Sem α}{f:α->Sem β}(h: ∀r,lA P (f r)):lA P (s>>=f):=by
 intro w
 rw[Sem.run_bind]
 cases hr:s.run P w with
 |ok r w'=>obtain⟨h1,w1,e⟩:=h r w';exact⟨h1,w1,e⟩
 |halt h1 w'=>exact⟨h1,w',rfl⟩
theorem gN{α β:Type}{s:Sem α}{f:α->Sem β}(h:lA P s):lA P (s>>=f):=by
 intro w
 rw[Sem.run_bind]
 obtain⟨h1,w1,e⟩:=h w
 rw[e]
 exact⟨h1,w1,rfl⟩
theorem cF{α:Type}(x:α):eh P (pure x:Sem α):=.inl ⟨x,fun _=>rfl⟩
theorem tq{α:Type}{s:Sem α}(h:lA P s):eh P s:=.inr h
theorem cR{α β:Type}{s:Sem α}{f:α->Sem β}(h:eh P s)(hf: ∀r,eh P (f r)):eh P (s>>=f):=by
 rcases h with⟨r,hr⟩|h
 ·rcases hf r with⟨r2,h2⟩|h2
  ·exact .inl ⟨r2,fun w=>by rw[Sem.run_bind,hr w];exact h2 w⟩
  exact .inr fun w=>by rw[Sem.run_bind,hr w];exact h2 w
 exact .inr (gN h)
theorem fA{α:Type}(s:String):lA P (stuck s:Sem α):=fun w=>⟨_,_,rfl⟩
theorem qR{α:Type}(v:Value):lA P (goPanic v:Sem α):=fun w=>⟨_,_,rfl⟩
theorem lh{α:Type}(e:RuntimeError):lA P (runtimePanic e:Sem α):=by
 unfold runtimePanic
 refine kT fun p=>?_
 cases e<;>first
  |exact qR _
  |exact kT fun _=>kT fun _=>qR _
theorem tK{α:Type}(k:IntKind)(x y:Int)(c:BoundsCode):lA P (boundsPanic k x y c:Sem α):=by
 unfold boundsPanic
 simp only
 split
 ·exact kT fun _=>lh _
 exact kT fun _=>lh _
theorem tJ{α:Type}(e:Unsupported):lA P (unsupported e:Sem α):=fun w=>⟨_,_,rfl⟩
theorem yL:eh P program:=.inl ⟨P,fun _=>rfl⟩
theorem vW(t:TypeId):eh P (typeInfo t):=by
 unfold typeInfo
 refine cR yL fun p=>?_
 split
 ·exact cF _
 exact .inr (fA _)
theorem zm(t:TypeId):eh P (sizeOf t):=by
 unfold sizeOf
 exact cR (vW t) fun _=>cF _
theorem vX(v:Value):eh P (Instr.sureAddr v):=by
 unfold Instr.sureAddr
 split
 ·exact cF _
 exact .inr (fA _)
theorem yN(v:Value):eh P (asIntOf v):=by
 unfold asIntOf
 split
 ·exact cF _
 ·exact .inr (tJ _)
 exact .inr (fA _)
theorem ff(x:Value)(y:Nat)(c:BoundsCode):eh P (Instr.sliceBound x y c):=by
 unfold Instr.sliceBound
 refine cR (yN x) fun r=>?_
 split
 split
 ·exact cF _
 exact .inr (tK _ _ _ _)
theorem rI(b:Bool)(len cap:Nat)(lo hi mx:Option Value):eh P (Instr.sliceBounds b len cap lo hi mx):=by
 have hl: ∀ (m h:Nat),eh P (do
   let l <-match lo with
    |some v=>Instr.sliceBound v h (if mx.isSome then .slice3C else .sliceB)
    |none=>pure 0
   pure (l,h,m):Sem (Nat×Nat×Nat)):=fun m h=>by
  cases lo with
  |some v=>exact cR (ff _ _ _) fun _=>cF _
  |none=>exact cR (cF _) fun _=>cF _
 have hh: ∀m:Nat,eh P (do
   let h <-match hi,mx with
    |some v,some _=>Instr.sliceBound v m .slice3B
    |some v,none=>Instr.sliceBound v m (if b then .sliceAcap else .sliceAlen)
    |none,none=>pure len
    |none,some _=>stuck "Slice: max without high"
   let l <-match lo with
    |some v=>Instr.sliceBound v h (if mx.isSome then .slice3C else .sliceB)
    |none=>pure 0
   pure (l,h,m):Sem (Nat×Nat×Nat)):=fun m=>by
  cases hi<;>cases mx
  ·exact cR (cF _) fun h=>hl m h
  ·exact .inr (gN (fA _))
  ·exact cR (ff _ _ _) fun h=>hl m h
  exact cR (ff _ _ _) fun h=>hl m h
 unfold Instr.sliceBounds
 cases mx with
 |some v=>exact cR (ff _ _ _) fun m=>hh m
 |none=>exact cR (cF _) fun m=>hh m
def Hg(P:Program)(t:TypeId):Bool:=
 match P.underlying t with
 |some (.slice _)=>true
 |_=>false
theorem B8{t e:TypeId}(ht:P.underlying t=some (.slice e))(x:Value)(lo hi mx:Option Value):eh P (Instr.sliceAt t x lo hi mx):=by
 have hu: ∀w,(underlying t).run P w= .ok (.slice e) w:=fun w=>run_underlying ht w
 unfold Instr.sliceAt
 have key:eh P (Instr.slice t x lo hi mx):=by
  unfold Instr.slice
  have:eh P (match(TypeDesc.slice e),x with
   |.slice elem,.slice a len cap=>do
    let(l,h,m)<-Instr.sliceBounds true len cap lo hi mx
    let size <-sizeOf elem
    pure (Value.slice (if m=l then a else a.map (·.add (l*size))) (h-l) (m-l))
   |_,_=>stuck "Slice: string, slice or pointer to array expected"):=by
   split
   ·refine cR (rI _ _ _ _ _ _) fun r=>?_
    split
    exact cR (zm _) fun _=>cF _
   exact .inr (fA _)
  rcases this with⟨r,hr⟩|hh
  ·refine .inl ⟨r,fun w=>?_⟩
   rw[Sem.run_bind,hu w]
   have:=hr w
   cases x<;>exact this
  refine .inr fun w=>?_
  rw[Sem.run_bind,hu w]
  have:=hh w
  cases x<;>exact this
 rcases key with⟨r,hr⟩|hh
 ·exact .inl ⟨r,fun w=>by rw[Sem.run_bind,hu w];exact hr w⟩
 exact .inr fun w=>by rw[Sem.run_bind,hu w];exact hh w
def sP(P:Program)(t:TypeId)(i:Nat):Bool:=
 match P.underlying t with
 |some (.struct fields)=>(match fields[i]? with|some f=>!Nat.beq (P.cellsOf f.type) 0|none=>false)
 |_=>false
theorem yM{t:TypeId}{i:Nat}(h:sP P t i=true)(x:Value):eh P (Instr.fieldAt t x i):=by
 unfold sP at h
 split at h
 ·rename_i fields hu
  split at h
  ·rename_i f hf
   have hz:P.cellsOf f.type≠0:=fun e=>by rw[e]at h;cases h
   have hi: ∃i,P.info? f.type=some i:=by
    unfold Program.cellsOf at hz
    cases hi:P.info? f.type with
    |none=>simp[hi]at hz
    |some i=>exact⟨i,rfl⟩
   obtain⟨inf,hi⟩:=hi
   rcases vX (P:=P) x with⟨a,ha⟩|hh
   ·exact .inl ⟨.pointer (some (a.add f.offset)),fun w=>by simp[Instr.fieldAt,run_underlying hu,hf,ha w,fieldPlace,run_sizeOf w hi,hz]⟩
   refine .inr fun w=>?_
   obtain⟨r,w',e⟩:=hh w
   exact⟨r,w',by simp[Instr.fieldAt,run_underlying hu,hf,e]⟩
  cases h
 cases h
def Bn(P:Program)(c:Call):Bool:=
 match c.callee,c.args.toList,c.argTypes.toList with
 |.builtin .len,[_],[t]=>Hg P t
 |_,_,_=>false
theorem F2{o:Oper}{c:Call}(ho:o.op= .call c)(h:Bn P c=true)(f:Operand->Value):((∃v,∀w,(execOp f o).run P w= .ok (.value v) w)\/lA P (execOp f o))/\(∀w,o.about P w f=none)/\∀cs b,o.op≠ .select cs b:=by
 unfold Bn at h
 split at h
 ·rename_i x t hc ha ht
  unfold Hg at h
  split at h
  ·rename_i e hu
   have yZ:c.args= #[x]:=by rw[<-Array.toArray_toList (xs:=c.args),ha]
   have ht':c.argTypes= #[t]:=by rw[<-Array.toArray_toList (xs:=c.argTypes),ht]
   refine⟨?_,fun w=>?_,by simp[ho]⟩
   ·by_cases hv: ∃a n cap,f x= .slice a n cap
    ·obtain⟨a,n,cap,hv⟩:=hv
     exact .inl ⟨.int .i64 n,fun w=>by simp[execOp,ho,resolve,hc,invoke,builtin,Builtin.len_,yZ,ht',hv,run_underlying hu,goInt]⟩
    refine .inr fun w=>?_
    cases hx:f x<;>first|(simp[execOp,ho,resolve,hc,invoke,builtin,Builtin.len_,yZ,ht',hx,run_underlying hu];done)|(exact absurd ⟨_,_,_,hx⟩ hv)
   simp[Oper.about,ho,resolve,hc,Target.leads]
  cases h
 cases h
theorem D4(x:Value)(k:IntKind)(i:Int):eh P (Builtin.min2 x (.int k i)):=by
 unfold Builtin.min2
 cases x<;>first|exact cF _|exact tq (fun w=>⟨_,_,rfl⟩)|skip
 all_goals(rename_i o;cases o<;>exact tq (fun w=>⟨_,_,rfl⟩))
def Bm(c:Call):Bool:=
 match c.callee,c.args.toList with
 |.builtin .min,[_,.const (.int _ _)]=>true
 |_,_=>false
theorem F0{o:Oper}{c:Call}(ho:o.op= .call c)(h:Bm c=true)(f:Operand->Value)(hf: ∀v,f (.const v)=v):((∃v,∀w,(execOp f o).run P w= .ok (.value v) w)\/lA P (execOp f o))/\(∀w,o.about P w f=none)/\∀cs b,o.op≠ .select cs b:=by
 unfold Bm at h
 split at h
 ·rename_i x k i hc ha
  have yZ:c.args= #[x,.const (.int k i)]:=by rw[<-Array.toArray_toList (xs:=c.args),ha]
  refine⟨?_,fun w=>?_,by simp[ho]⟩
  ·have e1: ∀w,(execOp f o).run P w=(do let v <-Builtin.min2 (f x) (.int k i);pure (Next.value v):Sem Next).run P w:=by
    intro w
    simp[execOp,ho,resolve,hc,invoke,builtin,Builtin.min_,yZ,hf]
   rcases D4 (P:=P) (f x) k i with⟨r,hr⟩|hh
   ·exact .inl ⟨r,fun w=>by rw[e1 w,Sem.run_bind,hr w];rfl⟩
   refine .inr fun w=>?_
   rw[e1 w]
   exact gN hh w
  simp[Oper.about,ho,resolve,hc,Target.leads]
 cases h
def still(P:Program):Op->Bool
 |.call c=>Bn P c||Bm c
 |.move _=>true
 |.assign _=>true
 |.slice t _ _ _ _=>Hg P t
 |.fieldAddr t _ i=>sP P t i
 |.extract _ _=>true
 |_=>false
theorem FX{o:Oper}(h:still P o.op=true)(f:Operand->Value)(hf: ∀v,f (.const v)=v):((∃v,∀w,(execOp f o).run P w= .ok (.value v) w)\/lA P (execOp f o))/\(∀w,o.about P w f=none)/\∀cs b,o.op≠ .select cs b:=by
 unfold still at h
 split at h
 ·rename_i c ho
  rw[Bool.or_eq_true]at h
  rcases h with h|h
  ·exact F2 ho h f
  exact F0 ho h f hf
 ·rename_i x ho
  refine⟨.inl ⟨f x,fun w=>by simp[execOp,ho]⟩,fun w=>by simp[Oper.about,ho],by simp[ho]⟩
 ·rename_i x ho
  refine⟨.inl ⟨f x,fun w=>by simp[execOp,ho]⟩,fun w=>by simp[Oper.about,ho],by simp[ho]⟩
 ·rename_i t x lo hi mx ho
  refine⟨?_,fun w=>by simp[Oper.about,ho],by simp[ho]⟩
  unfold Hg at h
  split at h
  ·rename_i e he
   have e1:execOp f o=(do let v <-Instr.sliceAt t (f x) (lo.map f) (hi.map f) (mx.map f);pure (Next.value v)):=by simp[execOp,ho]
   rcases B8 he (f x) (lo.map f) (hi.map f) (mx.map f)with⟨r,hr⟩|hh
   ·exact .inl ⟨r,fun w=>by rw[e1,Sem.run_bind,hr w];rfl⟩
   exact .inr (by rw[e1];exact gN hh)
  cases h
 ·rename_i t x i ho
  refine⟨?_,fun w=>by simp[Oper.about,ho],by simp[ho]⟩
  have e1:execOp f o=(do let v <-Instr.fieldAt t (f x) i;pure (Next.value v)):=by simp[execOp,ho]
  rcases yM h (f x)with⟨r,hr⟩|hh
  ·exact .inl ⟨r,fun w=>by rw[e1,Sem.run_bind,hr w];rfl⟩
  exact .inr (by rw[e1];exact gN hh)
 ·rename_i t i ho
  refine⟨?_,fun w=>by simp[Oper.about,ho],by simp[ho]⟩
  have e1:execOp f o=(do let v <-Instr.extract (f t) i;pure (Next.value v)):=by simp[execOp,ho]
  have hs:eh P (Instr.extract (f t) i):=by
   unfold Instr.extract
   split
   ·split
    ·exact cF _
    exact .inr (fA _)
   exact .inr (fA _)
  rcases hs with⟨r,hr⟩|hh
  ·exact .inl ⟨r,fun w=>by rw[e1,Sem.run_bind,hr w];rfl⟩
  exact .inr (by rw[e1];exact gN hh)
 cases h
theorem FY{o:Oper}{a:Act}{w:World}(h:still P o.op=true):fT P o a w=none:=by
 unfold fT
 split
 ·rename_i ho;rw[ho]at h;cases h
 rfl
theorem Je{o:Oper}(h:still P o.op=true)(f:Operand->Value):bB P od (fun _=>True) (execOp f o):=by
 unfold still at h
 split at h
 ·rename_i c ho
  have key: ∀b,c.callee= .builtin b->execOp f o=builtin b c.argTypes o.type (c.args.map fun|.const _=>true|_=>false) (c.args.map f):=fun b hb=>by
   simp only[execOp,ho,resolve,hb]
   rfl
  rw[Bool.or_eq_true]at h
  rcases h with h|h
  ·unfold Bn at h
   split at h
   ·rename_i hc _ _;rw[key _ hc];exact bL HO
   cases h
  unfold Bm at h
  split at h
  ·rename_i hc _;rw[key _ hc];exact bL HM
  cases h
 ·rename_i x ho;simp only[execOp,ho];exact trivial
 ·rename_i x ho;simp only[execOp,ho];exact trivial
 ·rename_i ho;simp only[execOp,ho];exact bL vg
 ·rename_i t x i ho
  simp only[execOp,ho]
  unfold sP at h
  split at h
  ·rename_i fields hu
   split at h
   ·rename_i fl hf
    exact bL (vk hu hf fun e=>by rw[e]at h;cases h)
   cases h
  cases h
 ·rename_i ho;simp only[execOp,ho];exact bL vl
 cases h
def iX(n:Nat):List Nat->Array Bool
 | []=>Array.replicate n false
 |j::l=>(iX n l).setIfInBounds j true
variable{C:Ctx}{ops:Array Oper}
structure z5(C:Ctx)(ops:Array Oper)(done:List Nat)(Q:Exit->Env->M->Prop)(env:Env)(m:M):Prop where
 out:C.qY->C.rd=none->∀ (B:Nat) (w0:World) (ρ:aZ) (a:Act) (w:World),mm C.P C.nt B w0 ρ env m a w->C.p<=m.nh->
  fh (C.ro ρ) C.P .any ops (gW C B w0 ρ Q) (ops.size-done.length) (iX ops.size done) a w
theorem Gl{id:Nat}{Q:Exit->Env->M->Prop}{env:Env}{m:M}(hm:C.P.follows .mixedOrders=true)(hr:C.rd=none)(h:z5 C ops [] Q env m):qF C (.region id ops true) Q env m:=by
 refine⟨fun hg B w0 ρ a w aL hp=>kX hm fun ae iv=>?_⟩
 replace aL:=aL.lj iv
 exact h.out hg hr B w0 ρ a _ ⟨⟨aL.ok.env,fun ρ' aU=>(aL.ok.mem ρ' aU).drew,aL.ok.size⟩,aL.ds⟩ hp
theorem JC{done:List Nat}{Q:Exit->Env->M->Prop}{env:Env}{m:M}(j:Nat){o:Oper}(ho:ops[j]?=some o)(dI:still C.P o.op=true)
  (hc:(Region.noSelect ops&&Region.free .any ops (iX ops.size done) j&&(Region.ready .any ops (iX ops.size done)).contains j&&Nat.blt done.length ops.size)=true)
  (h:gC C ops [o] (fun env m=>Unit->z5 C ops (j::done) Q env m) env m):z5 C ops done Q env m:=by
 simp only[Bool.and_eq_true]at hc
 obtain⟨⟨⟨c1,c2⟩,c3⟩,c4⟩:=hc
 have c4:=fo c4
 refine⟨fun hg hr B w0 ρ a w aL hp=>?_⟩
 have iP:C.ro ρ=none:=by simp[Ctx.ro,hr]
 have e1:ops.size-done.length=(ops.size- (done.length+1))+1:=by omega
 rw[e1,iP]
 obtain⟨hd,⟨eJ,lr,aS,hw⟩|⟨eJ,lr,hk,hw⟩⟩:=Bi h aL
 ·obtain⟨za,_⟩:=FX dI a.eval (fun _=>rfl)
  have h2:=(jw hd hg aS B w0 ρ a w lr hp).2
  rcases za with⟨v,hv⟩|hh
  ·rw[iP,eM (by rw[Oper.semAt_none];exact hv w)]at h2
   refine vb (x:=v) ho c1 c2 c3 ⟨.inl ⟨hw,hv⟩,fun _ v'=>⟨od,fun _ h=>h.elim,by rw[Oper.semAt_none];exact Je dI a.eval⟩⟩ ?_
   obtain⟨ρ2,OC,m3,q1,q2,q3,q4⟩:=h2
   have:=(q4 ()).out hg hr B w0 ρ2 _ _ q3 q2
   rw[Ctx.nW hg q1,iP]at this
   exact lG this fun a w h=>gW.from q1 h
  obtain⟨h1,w1,e⟩:=hh w
  rw[Ac (FY dI),iP,Oper.semAt_none,e]at h2
  cases h1<;>exact h2.elim
 refine vb (x:=undef) ho c1 c2 c3 ⟨.inr ⟨hw,rfl⟩,fun P0=>by rw[hw]at P0;cases P0⟩ ?_
 have:=(hk ()).out hg hr B w0 ρ _ w (lr.skip (di hd)) hp
 rw[iP]at this
 exact this
theorem PD{done:List Nat}{Q:Exit->Env->M->Prop}{env:Env}{m:M}(h:z5 C ops done Q env m):z5 C ops done Q env m:=h
end Go.SE

namespace Go.SE
open Go Go.RowKit
variable [aG]
theorem PG{P:Program}{f:FuncId}{args:List T}{pre:List bd}{res:X}{post:List bd}{sz:Nat}{e:TypeId}(eE:List T)(tU:List bd)(mU:pre=tU++ [.row [] sz e false])(h:bo P f args pre res post)
  (hle:xg [] [(tU.length,sz)] eE args) (gQ:gw tU.length tU=true):bo P f eE tU res post:=by
 subst mU
 refine⟨h.zb,fun ρ w ys hp lW=>?_⟩
 have gQ:=ju gQ
 have cb: ∀j,j<tU.length->jf ρ [] [(tU.length,sz)] j=ρ j:=by
  intro j hj
  have:gE [(tU.length,sz)] j=none:=by
   unfold gE
   rw[cond_eq_ite,if_neg (fun hb=>by have:=Nat.eq_of_beq_eq_true hb;omega)]
   rfl
  unfold jf
  rw[this]
  rfl
 refine h.go (jf ρ [] [(tU.length,sz)]) w ys (fun i r hi=>?_) (hle.rel lW)
 by_cases bA:i<tU.length
 ·rw[List.getElem?_append_left bA]at hi
  exact mH (gQ r (List.mem_of_getElem? hi)) (fun j hj=>cb j hj) bA (hp i r hi)
 have yY:i=tU.length:=by
  have:=(List.getElem?_eq_some_iff.1 hi).1
  simp at this;omega
 subst yY
 simp at hi
 subst hi
 have:jf ρ [] [(tU.length,sz)] tU.length=⟨0,0,0,sz,true⟩:=by
  unfold jf gE
  rw[Nat.beq_refl]
  rfl
 exact⟨by rw[this],by simp,.inl ⟨by rw[this],by rw[this],rfl⟩⟩
end Go.SE

namespace Go.SE
open Go Go.RowKit
variable [aG]
section
variable{P:Program}{ops:Array Oper}{Q:Exit->Act->World->Prop}{md:Region.Mode}{W:World->Prop}
def iB(P:Program)(ops:Array Oper)(W:World->Prop)(o:Oper)(v:Value)(a:Act):Prop:=
 ((Region.wanted o (yielded ops a.tmps)=true/\∀w,W w->(execOp a.eval o).run P w= .ok (.value v) w)\/
 (Region.wanted o (yielded ops a.tmps)=false/\v=undef))/\(Region.wanted o (yielded ops a.tmps)=true->bB P od (fun _=>True) (execOp a.eval o))
theorem iB.dH{i:Nat}{o:Oper}{v:Value}{a:Act}(hi:ops[i]?=some o)(hy:iB P ops W o v a){K:Act->World->Prop}{w:World}(hW:W w)(h:K (a.put o.dst v) w):dH none P ops i K a w:=by
 unfold SE.dH
 simp only[hi]
 rcases hy.1 with⟨hw,hv⟩|⟨hw,rfl⟩
 ·rw[if_pos hw]
  refine⟨⟨od,fun _ h=>h.elim,by rw[Oper.semAt_none];exact hy.2 hw⟩,?_⟩
  rw[eM (by rw[Oper.semAt_none];exact hv w hW)];exact h
 rw[if_neg (by rw[hw];simp)];exact h
theorem iB.of_same{o:Oper}{v:Value}{a a':Act}(hy:iB P ops W o v a)(he:execOp a'.eval o=execOp a.eval o)
  (hw:Region.wanted o (yielded ops a'.tmps)=Region.wanted o (yielded ops a.tmps)):iB P ops W o v a':=by
 unfold iB at*
 rw[he,hw]
 exact hy
theorem FQ{j:Nat}{oi oj:Oper}{v:Value}(hj:ops[j]?=some oj)(YA:oi.apart ops oj=true)
  (Yd: ∀cs b,oi.op≠ .select cs b) (UB: ∀cs b,oj.op≠ .select cs b) {K:Act->World->Prop} {a:Act} {w:World}
  (hy:iB P ops W oi v a) (h:dH none P ops j K (a.put oi.dst v) w):
  dH none P ops j (fun a' w'=>iB P ops W oi v a'/\K (a'.put oi.dst v) w') a w:=by
 obtain⟨h1,h2,h3⟩:=Oper.apart_spec YA
 have keep: ∀ (a:Act),iB P ops W oi v a->∀u,iB P ops W oi v (a.put oj.dst u):=fun a hy u=>
  hy.of_same (execOp_put oi Yd a oj.dst u h3) (wanted_put oi a oj.dst u h3)
 have Lt: ∀d,iB P ops W oi v {a with defers:=d::a.defers}:=fun d=>hy.of_same rfl rfl
 unfold SE.dH at*
 simp only[hj]at*
 rw[wanted_put oj a oi.dst v h1]at h
 split
 ·rename_i hw
  rw[if_pos hw]at h
  obtain⟨⟨ok,g1,g2⟩,h⟩:=h
  rw[Oper.semAt_none,execOp_put oj UB a oi.dst v h1]at g2
  refine⟨⟨ok,g1,by rw[Oper.semAt_none];exact g2⟩,?_⟩
  rw[Dk h1 (execOp_put oj UB a oi.dst v h1)]at h
  generalize tR none P oj a w=r at*
  cases r with
  |ok x w'=>
   cases x<;>simp only[oG]at h ⊢
   case value u=>exact⟨keep a hy u,by rw[<-Act.put_comm a v u h2];exact h⟩
   case skip=>exact⟨keep a hy _,by rw[<-Act.put_comm a v undef h2];exact h⟩
   case defer d=>
    refine⟨keep _ (Lt d) _,?_⟩
    rw[<-Act.put_comm _ v undef h2,<-Act.put_defers]
    exact h
   case enter f args=>
    refine jD.mono h fun e GL he=>?_
    cases e with
    |returned u=>exact⟨keep a hy u,by rw[<-Act.put_comm a v u h2];exact he⟩
    |panicked c=>exact he
    |outgrown=>exact he
   case round l f tmps assign body=>
    refine l9.mono h fun e GL he=>?_
    cases e with
    |returned u=>exact⟨keep a hy u,by rw[<-Act.put_comm a v u h2];exact he⟩
    |panicked c=>exact he
    |outgrown=>exact he
  |halt x w'=>cases x<;>exact h
 rename_i hw
 rw[if_neg hw]at h
 exact⟨keep a hy _,by rw[<-Act.put_comm a v undef h2];exact h⟩
def fc(ro:Option Nat)(P:Program)(md:Region.Mode)(ops:Array Oper)(Q:Exit->Act->World->Prop)(W:World->Prop):Nat->Array Bool->Act->World->Prop
 |0,listed,a,w=>Region.ready md ops listed= []/\∀w',Itf w w'->Q .normal a w'
 |fuel+1,listed,a,w=>
  (Region.ready md ops listed= []->∀w',Itf w w'->Q .normal a w')/\
  ∀i∈Region.ready md ops listed,∀w',Itf w w'->dH ro P ops i (fun a' GL=>W GL/\fc ro P md ops Q W fuel (listed.setIfInBounds i true) a' GL) a w'
theorem vc{ro:Option Nat}{listed:Array Bool}{a:Act}{v v':World}(i:Itf v v'): ∀ {k:Nat},fc ro P md ops Q W k listed a v->fc ro P md ops Q W k listed a v'
 |0,h=>⟨h.1,fun u iu=>h.2 u (i.trans iu)⟩
 |_+1,h=>⟨fun hr u iu=>h.1 hr u (i.trans iu),fun j hj u iu=>h.2 j hj u (i.trans iu)⟩
theorem pK{ro:Option Nat}: ∀ (fuel:Nat) (listed:Array Bool) (a:Act) (w:World),fc ro P md ops Q W fuel listed a w->fh ro P md ops Q fuel listed a w
 |0,_,_,_,h=>h
 |fuel+1,_,_,_,h=>⟨h.1,fun i hi w' iv=>iI (fun a' w' h'=>pK fuel _ a' w' h'.2) (h.2 i hi w' iv)⟩
theorem zk{i:Nat}{oi:Oper}{v:Value}(ID: ∀w w',W w->Itf w w'->W w')(hi:ops[i]?=some oi)(K5: ∀ (j:Nat) (o:Oper) cs b,ops[j]?=some o->o.op≠ .select cs b):
  ∀ (fuel:Nat) (listed:Array Bool) (a:Act) (w:World),
   (∀j oj,ops[j]?=some oj->j≠i->listed.getD j true=false->(∀e∈oj.after,Region.binds md e=true->e.on≠i)->oi.apart ops oj=true)->
   i∈Region.ready md ops listed->iB P ops W oi v a->W w->
   fc none P md ops Q W fuel (listed.setIfInBounds i true) (a.put oi.dst v) w->fc none P md ops Q W (fuel+1) listed a w:=by
 intro fuel
 induction fuel with
 |zero=>
  intro listed a w _ hr hy hW H
  refine⟨fun h=>(by rw[h]at hr;cases hr),fun j hj w' iv=>?_⟩
  by_cases ox:j=i
  ·subst ox;exact hy.dH hi (ID _ _ hW iv) ⟨ID _ _ hW iv,vc iv H⟩
  have:=ready_mono hj ox
  rw[H.1]at this
  cases this
 |succ fuel ih=>
  intro listed a w oO hr hy hW H
  refine⟨fun h=>(by rw[h]at hr;cases hr),fun j hj w' iv=>?_⟩
  by_cases ox:j=i
  ·subst ox;exact hy.dH hi (ID _ _ hW iv) ⟨ID _ _ hW iv,vc iv H⟩
  have h1:=H.2 j (ready_mono hj ox) w' iv
  obtain⟨Lb,oj,Q5,dK⟩:=mem_ready.1 hj
  have RR: ∀e∈oj.after,Region.binds md e=true->e.on≠i:=fun e he hb heq=>by
   have h1:=dK e he hb
   have h0:=(mem_ready.1 hr).1
   rw[heq]at h1
   rcases Nat.lt_or_ge i listed.size with h'|h'
   ·simp[h']at h0 h1;rw[h0]at h1;cases h1
   simp[Array.getElem?_eq_none h']at h1
  have h2:=FQ Q5 (oO j oj Q5 ox Lb RR) (fun cs b=>K5 i oi cs b hi) (fun cs b=>K5 j oj cs b Q5) hy h1
  have FI: ∀k ok,ops[k]?=some ok->k≠i->(listed.setIfInBounds j true).getD k true=false->
    (∀e∈ok.after,Region.binds md e=true->e.on≠i)->oi.apart ops ok=true:=fun k ok hk zL P1 wc=>by
   refine oO k ok hk zL ?_ wc
   by_cases Cz:j=k
   ·subst Cz;exact Lb
   rw[getD_set_ne true Cz]at P1;exact P1
  refine iI (fun a' w' h3=>⟨h3.2.1,ih (listed.setIfInBounds j true) a' w' FI (ready_mono hr (Ne.symm ox)) h3.1 h3.2.1 ?_⟩) h2
  rw[Array.setIfInBounds_comm _ _ ox]
  exact h3.2.2
theorem s9{i:Nat}{oi:Oper}{v:Value}{fuel:Nat}{listed:Array Bool}{a:Act}{w:World}(ID: ∀w w',W w->Itf w w'->W w')(hi:ops[i]?=some oi)
  (hs:Region.noSelect ops=true) (hf:Region.free md ops listed i=true) (hr:(Region.ready md ops listed).contains i=true)
  (hy:iB P ops W oi v a) (hW:W w)
  (h:fc none P md ops Q W fuel (listed.setIfInBounds i true) (a.put oi.dst v) w):fc none P md ops Q W (fuel+1) listed a w:=
 zk ID hi (Region.noSelect_spec hs) fuel listed a w (Region.free_spec hi hf) (by simpa using hr) hy hW h
theorem D3{ro:Option Nat}{rs:List Nat}{fuel:Nat}{listed:Array Bool}{a:Act}{w:World}(hr:Region.ready md ops listed=rs)(cb:rs≠ [])
  (h: ∀i∈rs,∀w',Itf w w'->dH ro P ops i (fun a' GL=>W GL/\fc ro P md ops Q W fuel (listed.setIfInBounds i true) a' GL) a w'):fc ro P md ops Q W (fuel+1) listed a w:=
 ⟨fun h0=>absurd (hr▸h0) cb,hr▸h⟩
theorem B4{ro:Option Nat}{listed:Array Bool}{a:Act}{w:World}(hr:Region.ready md ops listed= [])(h: ∀w',Itf w w'->Q .normal a w'):
  ∀fuel,fc ro P md ops Q W fuel listed a w
 |0=>⟨hr,h⟩
 |_+1=>⟨fun _=>h,by rw[hr];simp⟩
theorem nN{ro:Option Nat}{Q':Exit->Act->World->Prop}: ∀ {k:Nat} {listed:Array Bool} {a:Act} {w:World},fc ro P md ops Q W k listed a w->(∀a w,Q .normal a w->Q' .normal a w)->fc ro P md ops Q' W k listed a w
 |0,_,_,_,h,hq=>⟨h.1,fun u iu=>hq _ _ (h.2 u iu)⟩
 |_+1,_,_,_,h,hq=>⟨fun hr u iu=>hq _ _ (h.1 hr u iu),fun j hj u iu=>iI (fun _ _ h=>⟨h.1,nN h.2 hq⟩) (h.2 j hj u iu)⟩
theorem Jx{ro:Option Nat}{o:Oper}{a:Act}{w:World}{K:Act->World->Prop}(h:o.lT ro P a w K):o.lT ro P a w (fun a' w'=>K a' w'/\∃v,a'.tmps=(a.put o.dst v).tmps):=by
 refine⟨h.1,?_⟩
 have h2:=h.2
 generalize tR ro P o a w=r at h2 ⊢
 cases r with
 |ok x w'=>
  cases x<;>simp only[oG]at h2 ⊢ <;>first
   |exact⟨h2,_,rfl⟩
   |exact⟨h2,undef,by cases o.dst<;>rfl⟩
   |exact jD.mono h2 fun e w' he=>by
     cases e<;>first
      |exact⟨he,_,rfl⟩
      |exact he
   |exact l9.mono h2 fun e w' he=>by
     cases e<;>first
      |exact⟨he,_,rfl⟩
      |exact he
 |halt x w'=>cases x<;>exact h2
end
theorem JV{a b:Act}(h:a.tmps=b.tmps):a.eval=b.eval:=by
 funext x
 cases x<;>simp[Act.eval,h]
def Hc(P:Program)(env:Env)(m:M)(o:Oper):Option Value:=
 match o.op with
 |.load t x=>match cJ env x with
  |some (.ptr h k)=>match m.reg h with
   |some (.box cells _ _)=>match bW P t with
    |some true=>bif Nat.ble (k+P.cellsOf t) cells.length then(match fi (cut cells k (P.cellsOf t))with|some l=>some (.agg l.toArray)|none=>none)else none
    |some false=>match nth cells k with
     |some s=>match fi [s]with
      |some [x]=>some x
      |_=>none
     |none=>none
    |none=>none
   |_=>none
  |_=>none
 |_=>none
theorem JG{P:Program}{env:Env}{m:M}{o:Oper}{v:Value}(h:Hc P env m o=some v){B:Nat}{w0:World}{ρ:aZ}{a:Act}{w:World}(he:cq ρ env a)(hm:kh P B w0 ρ m w):
  (execOp a.eval o).run P w= .ok (.value v) w:=by
 unfold Hc at h
 split at h
 ·rename_i t x ho
  split at h
  ·rename_i hh k hx
   split at h
   ·rename_i cells sz e hr
    have h1:a.eval x=aB ρ hh k:=aA he hx
    obtain⟨h2,ys,h3,h4,h5⟩:=px (hm.aj _ _ hr)
    split at h
    ·rename_i ha
     rw[cond_eq_ite]at h
     split at h
     ·rename_i hs
      have hs:=Nat.le_of_ble_eq_true hs
      split at h
      ·rename_i l hl
       cases h
       have:=dA hl (h4.cut k (P.cellsOf t))
       subst this
       have hd: ∃d,P.underlying t=some d:=by
        unfold bW at ha
        cases hu:P.underlying t with
        |none=>simp[hu]at ha
        |some d=>exact⟨d,rfl⟩
       obtain⟨d,hd⟩:=hd
       have hl:=h4.length
       have zK:=run_loadCells_list (P:=P) (w:=w) ⟨(ρ hh).blk,k,none⟩ ((ys.drop k).take (P.cellsOf t)) (by
        intro j v hv
        rw[cN,h5]
        rw[List.getElem?_take]at hv
        split at hv
        ·rw[List.getElem?_drop]at hv;exact hv
        cases hv)
       have hlen:((ys.drop k).take (P.cellsOf t)).length=P.cellsOf t:=by simp;omega
       rw[hlen]at zK
       simp[execOp,ho,h1,aB,Instr.loadAt,Instr.sureAddr,loadVar,bX ha,h2,eF hd,zK]
      cases h
     cases h
    ·rename_i ha
     split at h
     ·rename_i s hs
      split at h
      ·rename_i y hy
       cases h
       obtain⟨y',pQ,aJ⟩:=h4.nth hs
       have:=dA (ρ:=ρ) (ys:= [y']) hy ⟨aJ,trivial⟩
       cases this
       simp[execOp,ho,h1,aB,Instr.loadAt,Instr.sureAddr,loadVar,bX ha,h2,h5,pQ]
      cases h
     cases h
    cases h
   cases h
  cases h
 cases h
section
variable{C:Ctx}{ops:Array Oper}
def holds(C:Ctx)(ops:Array Oper)(env:Env)(m:M):List (Nat×Value)->Prop
 | []=>True
 |(j,v)::l=>(match ops[j]? with
  |some o=>C.pr fun P=>m.cs fun rs nh ds=>Hc P env ⟨rs,nh,ds⟩ o=some v
  |none=>False)/\holds C ops env m l
def Bo(C:Ctx)(ops:Array Oper)(env:Env)(m:M):List Nat->(List (Nat×Value)->Prop)->Prop
 | [],k=>k []
 |j::l,k=>match ops[j]? with
  |some o=>(match Hc C.P env m o with
   |some v=>Bo C ops env m l fun r=>k ((j,v)::r)
   |none=>False)
  |none=>False
def wU(C:Ctx)(ops:Array Oper)(a:Act)(p:Nat×Value)(w:World):Prop:=∃o,ops[p.1]?=some o/\∀w',Itf w w'->(execOp a.eval o).run C.P w'= .ok (.value p.2) w'
theorem wU.lj{a:Act}{p:Nat×Value}{w w':World}(h:wU C ops a p w)(i:Itf w w'):wU C ops a p w':=let⟨o,h1,h2⟩:=h;⟨o,h1,fun u iu=>h2 u (i.trans iu)⟩
theorem rE{env:Env}{m:M}{B:Nat}{w0:World}{ρ:aZ}{a:Act}{w:World}(he:cq ρ env a)(hm:kh C.P B w0 ρ m w): ∀ (l:List (Nat×Value)),holds C ops env m l->∀p∈l,wU C ops a p w
 | [],_=>by simp
 |(j,v)::l,h=>by
  obtain⟨h1,h2⟩:=h
  intro p hp
  rcases List.mem_cons.1 hp with rfl|hp
  ·split at h1
   ·rename_i o ho
    rw[Ctx.wW,M.cy]at h1
    exact⟨o,ho,fun w' iv=>JG h1 he (hm.lj iv)⟩
   exact h1.elim
  exact rE he hm l h2 p hp
theorem vy{env:Env}{m:M}: ∀ (l:List Nat) (k:List (Nat×Value)->Prop),Bo C ops env m l k->∃r,k r/\holds C ops env m r
 | [],k,h=>⟨[],h,trivial⟩
 |j::l,k,h=>by
  unfold Bo at h
  split at h
  ·rename_i o ho
   split at h
   ·rename_i v hv
    obtain⟨r,h1,h2⟩:=vy l _ h
    refine⟨(j,v)::r,h1,?_,h2⟩
    rw[ho]
    show C.pr _
    rw[Ctx.wW,M.cy]
    exact hv
   exact h.elim
  exact h.elim
def sC(ops:Array Oper)(j:Nat):List (Nat×Value)->Bool
 | []=>true
 |(i,_)::l=>(match ops[i]?,ops[j]? with
  |some oi,some oj=>(match oi.op with|.load _ _=>true|_=>false)&&(match oj.dst with|some d=>!(oi.looksAt ops).contains d|none=>true)
  |_,_=>false)&&sC ops j l
theorem nR{j:Nat}{oj:Oper}(hj:ops[j]?=some oj){a a':Act}{v:Value}(ha:a'.tmps=(a.put oj.dst v).tmps): ∀ (l:List (Nat×Value)),sC ops j l=true->∀p∈l,∀w,wU C ops a' p w↔wU C ops a p w
 | [],_=>by simp
 |(i,x)::l,h=>by
  simp only[sC,Bool.and_eq_true]at h
  obtain⟨h1,h2⟩:=h
  intro p hp w
  rcases List.mem_cons.1 hp with rfl|hp
  ·split at h1
   ·rename_i oi oj' hi kg
    rw[hj]at kg;cases kg
    simp only[Bool.and_eq_true]at h1
    obtain⟨h3,h4⟩:=h1
    have hs: ∀cs b,oi.op≠ .select cs b:=by
     intro cs b e;rw[e]at h3;cases h3
    have hd: ∀d,oj.dst=some d->d∉oi.looksAt ops:=by
     intro d hd
     rw[hd]at h4
     simpa using h4
    have e:execOp a'.eval oi=execOp a.eval oi:=by
     rw[JV ha]
     exact execOp_put oi hs a oj.dst v hd
    unfold wU
    constructor
    ·rintro⟨o,ho,hr⟩;simp only at ho hr;rw[hi]at ho;cases ho;exact⟨oi,hi,by rw[<-e];exact hr⟩
    rintro⟨o,ho,hr⟩;simp only at ho hr;rw[hi]at ho;cases ho;exact⟨oi,hi,by rw[e];exact hr⟩
   cases h1
  exact nR hj ha l h2 p hp w
def xo:List (Nat×Value)->List Nat
 | []=> []
 |(j,_)::l=>j::xo l
def xz(ops:Array Oper)(j:Nat):List Nat->Bool
 | []=>true
 |i::l=>(match ops[i]?,ops[j]? with
  |some oi,some oj=>(match oi.op with|.load _ _=>true|_=>false)&&(match oj.dst with|some d=>!(oi.looksAt ops).contains d|none=>true)
  |_,_=>false)&&xz ops j l
theorem uH(j:Nat): ∀l:List (Nat×Value),sC ops j l=xz ops j (xo l)
 | []=>rfl
 |(i,x)::l=>by simp only[sC,xo,xz,uH j l]
structure va(C:Ctx)(ops:Array Oper)(js:List (Nat×Value))(done:List Nat)(Q:Exit->Env->M->Prop)(env:Env)(m:M):Prop where
 out:C.qY->C.rd=none->∀ (B:Nat) (w0:World) (ρ:aZ) (a:Act) (w:World) (W:World->Prop),mm C.P C.nt B w0 ρ env m a w->C.p<=m.nh->(∀w',W w'↔∀p∈js,wU C ops a p w')->W w->
  fc (C.ro ρ) C.P .any ops (gW C B w0 ρ Q) W (ops.size-done.length) (iX ops.size done) a w
theorem Gw{done:List Nat}{Q:Exit->Env->M->Prop}{env:Env}{m:M}(l:List Nat)(h:Bo C ops env m l fun js=>va C ops js done Q env m):z5 C ops done Q env m:=by
 obtain⟨js,h1,h2⟩:=vy l _ h
 refine⟨fun hg hr B w0 ρ a w aL hp=>pK (W:=fun w'=>∀p∈js,wU C ops a p w') _ _ _ _ ?_⟩
 exact h1.out hg hr B w0 ρ a w _ aL hp (fun _=>Iff.rfl) (rE (aL.ok.env ρ (an.refl _ _)) (aL.ok.mem ρ (an.refl _ _)) js h2)
theorem Nm{js:List (Nat×Value)}{done:List Nat}{Q:Exit->Env->M->Prop}{env:Env}{m:M}(hd:(Region.ready .any ops (iX ops.size done)).isEmpty=true)(h:Q .normal env m):va C ops js done Q env m:=by
 refine⟨fun hg hr B w0 ρ a w W aL hp _ _=>B4 (List.isEmpty_iff.1 hd) ?_ _⟩
 exact fun ae iv=>⟨ρ,env,m,an.refl _ _,hp,aL.lj iv,h⟩
def DJ:Op->Bool
 |.load _ _=>true
 |_=>false
theorem JM(ks:List Nat){js:List (Nat×Value)}{done:List Nat}{Q:Exit->Env->M->Prop}{env:Env}{m:M}(j:Nat)(v:Value){o:Oper}(ho:ops[j]?=some o)(Oi:(j,v)∈js)(hk:xo js=ks)
  (hc:(Region.noSelect ops&&Region.free .any ops (iX ops.size done) j&&(Region.ready .any ops (iX ops.size done)).contains j&&Nat.blt done.length ops.size&&DJ o.op&&xz ops j ks)=true)
  (h:gC C ops [o] (fun env m=>Unit->va C ops js (j::done) Q env m) env m):va C ops js done Q env m:=by
 rw[<-hk,<-uH]at hc
 simp only[Bool.and_eq_true]at hc
 obtain⟨⟨⟨⟨⟨c1,c2⟩,c3⟩,c4⟩,c5⟩,c7⟩:=hc
 have c4:=fo c4
 refine⟨fun hg hr B w0 ρ a w W aL hp hW hw=>?_⟩
 have iP:C.ro ρ=none:=by simp[Ctx.ro,hr]
 have ID: ∀w w',W w->Itf w w'->W w':=fun w w' h i=>(hW w').2 fun p hp=>((hW w).1 h p hp).lj i
 have e1:ops.size-done.length=(ops.size- (done.length+1))+1:=by omega
 rw[e1,iP]
 have Kr:bB C.P od (fun _=>True) (execOp a.eval o):=by
  cases aF:o.op<;>rw[aF]at c5<;>first|(simp[DJ]at c5;done)|(simp only[execOp,aF];exact bL nC)
 have hv: ∀w',W w'->(execOp a.eval o).run C.P w'= .ok (.value v) w':=by
  intro w' h'
  obtain⟨o',wL,lX⟩:=(hW w').1 h' _ Oi
  simp only at wL lX
  rw[ho]at wL;cases wL
  exact lX w' (Itf.refl _)
 have dt:=fun(a':Act) (u:Value) (ha:a'.tmps=(a.put o.dst u).tmps)=>nR (C:=C) ho ha js c7
 obtain⟨hd,⟨eJ,lr,aS,Cx⟩|⟨eJ,lr,hk,Cx⟩⟩:=Bi h aL
 ·have h2:=(jw hd hg aS B w0 ρ a w lr hp).2
  rw[iP,eM (by rw[Oper.semAt_none];exact hv w hw)]at h2
  refine s9 (v:=v) ID ho c1 c2 c3 ⟨.inl ⟨Cx,hv⟩,fun _=>Kr⟩ hw ?_
  obtain⟨ρ2,OC,m3,q1,q2,q3,q4⟩:=h2
  have:=(q4 ()).out hg hr B w0 ρ2 _ _ W q3 q2 (fun w'=>(hW w').trans (by
   constructor
   ·intro hh p hp;exact(dt _ v rfl p hp w').2 (hh p hp)
   intro hh p hp;exact(dt _ v rfl p hp w').1 (hh p hp))) hw
  rw[Ctx.nW hg q1,iP]at this
  exact nN this fun a w h=>gW.from q1 h
 have Xx: ∀u w',W w'↔∀p∈js,wU C ops (a.put o.dst u) p w':=fun u w'=>(hW w').trans (by
  constructor
  ·intro hh p hp;exact(dt _ u rfl p hp w').2 (hh p hp)
  intro hh p hp;exact(dt _ u rfl p hp w').1 (hh p hp))
 refine s9 (v:=undef) ID ho c1 c2 c3 ⟨.inr ⟨Cx,rfl⟩,fun h=>by rw[Cx]at h;cases h⟩ hw ?_
 have:=(hk ()).out hg hr B w0 ρ _ w W (lr.skip (di hd)) hp (Xx undef) hw
 rw[iP]at this
 exact this
structure Kept(C:Ctx)(ops:Array Oper)(js:List (Nat×Value))(done:List Nat)(Q:Exit->Env->M->Prop)(env:Env)(m:M):Prop where
 kept:holds C ops env m js
 go:va C ops js done Q env m
theorem mK(ks:List Nat){js:List (Nat×Value)}{done:List Nat}{Q:Exit->Env->M->Prop}{env:Env}{m:M}(j:Nat){o:Oper}(ho:ops[j]?=some o)(hk:xo js=ks)
  (hc:((match Region.ready .any ops (iX ops.size done)with| [i]=>Nat.beq i j|_=>false)&&Nat.blt done.length ops.size&&xz ops j ks)=true)
  (h:gC C ops [o] (fun env m=>Unit->Kept C ops js (j::done) Q env m) env m):va C ops js done Q env m:=by
 rw[<-hk,<-uH]at hc
 simp only[Bool.and_eq_true]at hc
 obtain⟨⟨c1,c4⟩,c7⟩:=hc
 have c4:=fo c4
 have Tw:Region.ready .any ops (iX ops.size done)= [j]:=by
  split at c1
  ·rename_i i hi;rw[hi,Nat.eq_of_beq_eq_true c1]
  cases c1
 refine⟨fun hg hr B w0 ρ a w W aL hp hW hw=>?_⟩
 have dt:=fun(a':Act) (u:Value) (ha:a'.tmps=(a.put o.dst u).tmps)=>nR (C:=C) ho ha js c7
 have Xx: ∀ (a':Act) (u:Value),a'.tmps=(a.put o.dst u).tmps->∀w',W w'↔∀p∈js,wU C ops a' p w':=fun a' u ha w'=>(hW w').trans (by
  constructor
  ·intro hh p hp;exact(dt a' u ha p hp w').2 (hh p hp)
  intro hh p hp;exact(dt a' u ha p hp w').1 (hh p hp))
 have e1:ops.size-done.length=(ops.size- (done.length+1))+1:=by omega
 rw[e1]
 refine D3 Tw (by simp) fun i hi ae iv=>?_
 replace aL:=aL.lj iv
 replace hw:W ae:=(hW ae).2 fun p hp=>((hW w).1 hw p hp).lj iv
 obtain rfl:i=j:=by simpa using hi
 unfold SE.dH
 rw[ho]
 simp only
 obtain⟨hd,⟨eJ,lr,aS,Cx⟩|⟨eJ,lr,hk,Cx⟩⟩:=Bi h aL
 ·rw[if_pos Cx]
  refine mD (fun a2 w2 h2=>?_) (Jx (jw hd hg aS B w0 ρ a ae lr hp))
  obtain⟨⟨ρ2,OC,m3,q1,q2,q3,q4⟩,u,hu⟩:=h2
  have hm:=Xx a2 u hu
  have hw3:W w2:=(hm w2).2 (rE (q3.ok.env ρ2 (an.refl _ _)) (q3.ok.mem ρ2 (an.refl _ _)) js (q4 ()).kept)
  refine⟨hw3,?_⟩
  have:=(q4 ()).go.out hg hr B w0 ρ2 _ _ W q3 q2 hm hw3
  rw[Ctx.nW hg q1]at this
  exact nN this fun a w h=>gW.from q1 h
 rw[if_neg (by rw[Cx];simp)]
 refine⟨hw,?_⟩
 exact(hk ()).go.out hg hr B w0 ρ _ ae W (lr.skip (di hd)) hp (Xx _ undef rfl) hw
theorem wu{js:List (Nat×Value)}{done:List Nat}{Q:Exit->Env->M->Prop}{env:Env}{m:M}(h:va C ops js done Q env m):va C ops js done Q env m:=h
theorem H6{js:List (Nat×Value)}{done:List Nat}{Q:Exit->Env->M->Prop}{env:Env}{m:M}(h:Kept C ops js done Q env m):Kept C ops js done Q env m:=h
end
end Go.SE

namespace Go.SE
open Go Go.RowKit
variable [aG]
def wX(env:Env):List Nat->Env
 | []=> []
 |k::l=>match env.get k with
  |some x=>(k,x)::wX env l
  |none=>wX env l
def Tb(e:Env)(ks:List Nat):bd->bd
 |.loop nt env ps a b st pe hd=>.loop nt (e++wX env ks) ps a b st pe hd
 |r=>r
def pX(aj:List (Nat×bd)):List (Nat×Env×List Nat)->List (Nat×bd)
 | []=> []
 |(h,e,ks)::l=>match aK aj h with
  |some r=>(h,Tb e ks r)::pX aj l
  |none=>pX aj l
def C5:List (Nat×Env×List Nat)->List Nat
 | []=> []
 |(k,_,_)::l=>k::C5 l
theorem mI{C:Ctx}{c:Code}{Q:Exit->Env->M->Prop}{env:Env}{m:M}{ι:Type}(μ:ι->Nat)(I:ι->Prop)(keep:List Nat)(P:ι->Env)(RP:ι->List (Nat×bd))(LP:ι->List (Nat×Env×List Nat))(rd:List Nat)(k:Nat)(i0:ι)(h0:I i0)
  (qo:De C.p env m (P i0++wX env keep) (m.wi fun rs nh ds=>⟨RP i0++(pX rs (LP i0)++kG rs (rd++C4 (RP i0)++C5 (LP i0))),nh+k,ds⟩))
  (wZ: ∀i,I i->m.cs fun rs nh ds=>Env.force (P i++wX env keep) fun env'=>po (RP i++(pX rs (LP i)++kG rs (rd++C4 (RP i)++C5 (LP i)))) fun N7=>aY (nh+k) fun N8=>
   se C c (fun e IU m1=>match e with|.normal=>Unit->Ht C.p μ I (fun i=>P i++wX env keep) (fun i=>m.wi fun rs nh ds=>⟨RP i++(pX rs (LP i)++kG rs (rd++C4 (RP i)++C5 (LP i))),nh+k,ds⟩) i IU m1|e=>Q e IU m1) env' ⟨N7,N8,ds⟩):nZ C c Q env m:=by
 refine M9 μ I (fun i=>P i++wX env keep) (fun i=>m.wi fun rs nh ds=>⟨RP i++(pX rs (LP i)++kG rs (rd++C4 (RP i)++C5 (LP i))),nh+k,ds⟩) i0 h0 (nQ qo) fun i hi=>?_
 have:=wZ i hi
 simp only[M.cy,Env.force_eq,pI,aQ]at this
 rw[M.TF]
 exact this
end Go.SE

namespace Go.SE
open Go Go.RowKit Go.WideShapes Go.ChangeShapes
variable [aG]
section
variable{H:Type}{enc:TypeId×Value->H}{P:Program}
end
end Go.SE

namespace Go.SE
open Go Go.RowKit Go.WideShapes Go.ChangeShapes
variable [aG]
section
variable{H:Type}{enc:TypeId×Value->H}{P:Program}
def iM(P:Program)(g:TypeId->Option (List IntKind)):List Field->Nat->Option (List IntKind)
 | [],_=>some []
 |f::l,off=>match g f.type with
  |some ks=>bif Nat.beq f.offset off&&Nat.beq (P.cellsOf f.type) ks.length then(match iM P g l (off+ks.length)with|some r=>some (ks++r)|none=>none)else none
  |none=>none
def yD(c:Nat)(e:TypeId)(n:Nat):List Field:=(List.range n).map fun i=>⟨"",e,i*c,false, "", "",0⟩
def leafInts(P:Program):Nat->TypeId->Option (List IntKind)
 |0,_=>none
 |d+1,t=>match P.underlying t with
  |some (.int k)=>some [k]
  |some (.struct fs)=>(match iM P (leafInts P d) fs.toList 0 with
   |some ks=>bif Nat.beq (P.cellsOf t) ks.length then some ks else none
   |none=>none)
  |some (.array n e)=>(match iM P (leafInts P d) (yD (P.cellsOf e) e n) 0 with
   |some ks=>bif Nat.beq (P.cellsOf t) ks.length then some ks else none
   |none=>none)
  |_=>none
theorem yo: ∀ {ks PX:List IntKind} {ns Xm:List Int},HasAll ks ns->HasAll PX Xm->HasAll (ks++PX) (ns++Xm)/\intsOf (ks++PX) (ns++Xm)=intsOf ks ns++intsOf PX Xm
 | [],_,[],_,_,h'=>⟨h',rfl⟩
 | [],_,_::_,_,h,_=>h.elim
 |_::_,_,[],_,h,_=>h.elim
 |k::ks,_,n::ns,_,h,h'=>by
  obtain⟨h1,h2⟩:=yo h.2 h'
  exact⟨⟨h.1,h1⟩,by simp only[List.cons_append,intsOf,h2]⟩
theorem pz{w:World}{base:Nat}{sp:Nat->Bool}{hd:Bool}{g:TypeId->Option (List IntKind)}{n:Nat}{cs:List Value}
  (hg: ∀t ks cs x,g t=some ks->DataW.trod enc P w base sp hd n t cs=some x->∃ns,cs=intsOf ks ns/\HasAll ks ns): ∀ (l:List Field) (off:Nat) (ks:List IntKind),iM P g l off=some ks->cs.length=off+ks.length->
   (∀f∈l,∃x,DataW.trod enc P w base sp hd n f.type ((cs.drop f.offset).take (P.cellsOf f.type))=some x)->∃ns,cs.drop off=intsOf ks ns/\HasAll ks ns
 | [],off,ks,h,hl,_=>by
  simp only[iM,Option.some.injEq]at h
  subst h
  exact⟨[],by rw[List.drop_eq_nil_of_le (by simp at hl;omega)];rfl,trivial⟩
 |f::l,off,ks,h,hl,hf=>by
  simp only[iM]at h
  split at h
  ·rename_i k1 oC
   rw[cond_eq_ite]at h
   split at h
   ·rename_i hb
    rw[Bool.and_eq_true]at hb
    have e1:=Nat.eq_of_beq_eq_true hb.1
    have e2:=Nat.eq_of_beq_eq_true hb.2
    split at h
    ·rename_i r hr
     cases h
     obtain⟨x,hx⟩:=hf f (by simp)
     obtain⟨n1,g1,g2⟩:=hg _ _ _ _ oC hx
     rw[List.length_append]at hl
     obtain⟨n2,g3,g4⟩:=pz hg l (off+k1.length) r hr (by omega) fun f' h'=>hf f' (by simp[h'])
     obtain⟨q1,q2⟩:=yo g2 g4
     refine⟨n1++n2,?_,q1⟩
     rw[q2,<-g1,<-g3,e1,e2,<-List.drop_drop,List.take_append_drop]
    cases h
   cases h
  cases h
theorem uo{w:World}{base:Nat}{sp:Nat->Bool}{hd:Bool}: ∀ (d:Nat) (t:TypeId) (ks:List IntKind) (fuel:Nat) (cs:List Value) (x:DataW H×List MemPlace),leafInts P d t=some ks->
  DataW.trod enc P w base sp hd fuel t cs=some x->∃ns,cs=intsOf ks ns/\HasAll ks ns
 |0,t,ks,fuel,cs,x,h,_=>by simp[leafInts]at h
 |d+1,t,ks,fuel,cs,x,h,hx=>by
  simp only[leafInts]at h
  split at h
  ·rename_i k hu
   cases h
   obtain⟨n,rfl,_,hw⟩:=DataW.trod_int hu hx
   exact⟨[n],rfl,by simpa [Lit.wf,IntKind.has]using hw,trivial⟩
  ·rename_i fs hu
   split at h
   ·rename_i k1 oC
    rw[cond_eq_ite]at h
    split at h
    ·rename_i hb
     cases h
     have e:=Nat.eq_of_beq_eq_true hb
     obtain⟨xs,n,rfl,rfl,hl,GM,hf⟩:=DataW.trod_struct hu hx
     have:=pz (enc:=enc) (w:=w) (base:=base) (sp:=sp) (hd:=hd) (n:=n) (cs:=cs) (fun t' PX wi x' h1 h2=>uo d t' PX n wi x' h1 h2) fs.toList 0 _ oC (by omega) fun f XA=>by
      obtain⟨i,hi⟩:=List.getElem?_of_mem XA
      have h3:=hf i f (by simpa using hi)
      have bA:i<xs.length:=by
       have:=(List.getElem?_eq_some_iff.1 hi).1
       rw[GM];simpa using this
      exact⟨xs[i],by rw[h3];exact List.getElem?_eq_getElem bA⟩
     simpa using this
    cases h
   cases h
  ·rename_i na e hu
   split at h
   ·rename_i k1 oC
    rw[cond_eq_ite]at h
    split at h
    ·rename_i hb
     cases h
     have e1:=Nat.eq_of_beq_eq_true hb
     obtain⟨xs,n,rfl,rfl,hl,GM,hf⟩:=DataW.trod_array hu hx
     have:=pz (enc:=enc) (w:=w) (base:=base) (sp:=sp) (hd:=hd) (n:=n) (cs:=cs) (fun t' PX wi x' h1 h2=>uo d t' PX n wi x' h1 h2) _ 0 _ oC (by omega) fun f XA=>by
      unfold yD at XA
      obtain⟨i,hi,rfl⟩:=List.mem_map.1 XA
      have hi:=List.mem_range.1 hi
      exact⟨xs[i],by rw[hf i hi];exact List.getElem?_eq_getElem (by omega)⟩
     simpa using this
    cases h
   cases h
  cases h
end
end Go.SE

namespace Go.SE
open Go Go.RowKit
variable [aG]
end Go.SE

namespace Go.SE
open Go Go.RowKit
variable [aG]
theorem JE{C:Ctx}{o:Oper}{K:Env->M->Prop}{env:Env}{m:M}{t:TypeId}{p:Operand}{h k:Nat}{c:Array Value}{e:TypeId}(x:Value)(hd:gD C o.dst=true)(ho:o.op= .load t p)(ht:bW C.P t=some false)
  (hp:cJ env p=some (.ptr h k)\/cJ env p=some (.lV h k)) (hr:m.reg h=some (.obj (.pending c e))) (hc:c[k]?=some x) (hx:x.oneCell'=true) (hK:m.cs fun rs nh ds=>rm (rW x) fun s=>env.go o.dst (.t (.one s)) fun env=>K env ⟨rs,nh,ds⟩):Stop C o env m K:=by
 rw[M.cy,mL,Env.go_eq]at hK
 refine⟨fun hg B w0 ρ a w aL hle=>?_⟩
 have hE:=aL.ok.env ρ (an.refl _ _)
 obtain⟨g1,g2,g3⟩:=(aL.ok.mem ρ (an.refl _ _)).aj _ _ hr
 have hb:=(g3 c e rfl).1
 have hv:a.eval p=aB ρ h k:=by rcases hp with hp|hp<;>exact aA hE hp
 have hl:look w ⟨(ρ h).blk,k,none⟩=some x:=by
  unfold SE.look
  simp only[g2]
  simpa using hc
 have ax:fT C.P o a w=some x:=by
  unfold fT
  simp only[ho,ht,if_true,hv,aB,hb,Nat.zero_add,hl]
  simp[hx]
 refine⟨⟨od,fun _ h=>h.elim,?_⟩,?_⟩
 ·rw[Oper.semAt_eq _ _ _ (fun c hc=>by rw[ho]at hc;cases hc)]
  simp only[execOp,ho]
  exact bL nC
 rw[Ad ax]
 refine⟨ρ,eL env o.dst (.t (.one (rW x))),⟨m.aj,m.nh,m.ds⟩,an.refl _ _,hle,⟨⟨fun ρ' aU=>?_,aL.ok.mem,by rw[gb];exact aL.ok.size⟩,fun ρ' aU=>by rw[put_defers];exact aL.ds ρ' aU⟩,hK⟩
 exact(aL.ok.env ρ' aU).put aL.ok.size (di hd) (p9 hx)
theorem Pf{P:Program}{B:Nat}{w0:World}{ρ:aZ}{m:M}{w:World}{h k b:Nat}{c:Array Value}(hm:kh P B w0 ρ m w)(hr:m.reg h=some (.obj (.pending c b))):Value.pointer (some ⟨b,k,none⟩)=aB ρ h k:=by
 obtain⟨_,_,g3⟩:=hm.aj _ _ hr
 obtain⟨h1,h2⟩:=g3 c b rfl
 simp[aB,h1,h2]
theorem Pe{C:Ctx}{o:Oper}{K:Env->M->Prop}{env:Env}{m:M}{h k b:Nat}{c:Array Value}(hd:gD C o.dst=true)(hr:m.reg h=some (.obj (.pending c b)))(bA:Nat.blt h m.nh=true)
  (za: ∀ρ a,cq ρ env a->bB C.P od (fun _=>True) (execOp a.eval o)) (aF: ∀c,o.op≠ .defer c) (aS: ∀ρ a w,cq ρ env a->(execOp a.eval o).run C.P w= .ok (.value (.pointer (some ⟨b,k,none⟩))) w)
  (hK:m.cs fun rs nh ds=>env.go o.dst (.t (.one (.ptr h k))) fun env=>K env ⟨rs,nh,ds⟩):Stop C o env m K:=by
 rw[M.cy,Env.go_eq]at hK
 refine⟨fun hg B w0 ρ a w aL hle=>?_⟩
 have hE:=aL.ok.env ρ (an.refl _ _)
 have e:=Oper.semAt_eq (C.ro ρ) a.eval o aF
 refine⟨⟨od,fun _ h=>h.elim,by rw[e];exact za ρ a hE⟩,?_⟩
 rw[eM (by rw[e];exact aS ρ a w hE)]
 refine⟨ρ,eL env o.dst (.t (.one (.ptr h k))),⟨m.aj,m.nh,m.ds⟩,an.refl _ _,hle,⟨⟨fun ρ' aU=>?_,aL.ok.mem,by rw[gb];exact aL.ok.size⟩,fun ρ' aU=>by rw[put_defers];exact aL.ds ρ' aU⟩,hK⟩
 exact(aL.ok.env ρ' aU).put aL.ok.size (di hd) (Pf (aL.ok.mem ρ' aU) hr)
theorem Pg{C:Ctx}{o:Oper}{K:Env->M->Prop}{env:Env}{m:M}{x:Operand}(h:Nat){k b:Nat}{c:Array Value}(hd:gD C o.dst=true)(ho:o.op= .nilCheck x)(hx:cJ env x=some (.v (.pointer (some ⟨b,k,none⟩))))
  (hr:m.reg h=some (.obj (.pending c b))) (bA:Nat.blt h m.nh=true) (hK:m.cs fun rs nh ds=>env.go o.dst (.t (.one (.ptr h k))) fun env=>K env ⟨rs,nh,ds⟩):Stop C o env m K:=by
 have hv: ∀ρ a,cq ρ env a->a.eval x= .pointer (some ⟨b,k,none⟩):=fun ρ a he=>(aA he hx).1
 refine Pe hd hr bA (fun ρ a he=>?_) (fun c=>by rw[ho];simp) (fun ρ a w he=>?_) hK
 ·simp only[execOp,ho,hv ρ a he];exact trivial
 simp only[execOp,ho,hv ρ a he];rfl
theorem MZ{C:Ctx}{o:Oper}{K:Env->M->Prop}{env:Env}{m:M}{t:TypeId}{p:Operand}{h k sz:Nat}{xs:List Value}{e:TypeId}(x:Value)(hd:gD C o.dst=true)(ho:o.op= .load t p)(ht:bW C.P t=some false)
  (hp:cJ env p=some (.ptr h k)) (hr:m.reg h=some (.row xs sz e false)) (hx:xs[k]?=some x) (hK:m.cs fun rs nh ds=>rm (rW x) fun s=>env.go o.dst (.t (.one s)) fun env=>K env ⟨rs,nh,ds⟩):Stop C o env m K:=by
 rw[M.cy,mL,Env.go_eq]at hK
 refine⟨fun hg B w0 ρ a w aL hle=>?_⟩
 have hE:=aL.ok.env ρ (an.refl _ _)
 obtain⟨g1,g2,g3⟩:=(aL.ok.mem ρ (an.refl _ _)).aj _ _ hr
 have h1:x.oneCell'=true:=g2 x (List.mem_of_getElem? hx)
 have hv:a.eval p=aB ρ h k:=aA hE hp
 have hc:w.cell? ⟨(ρ h).blk,(ρ h).base+k,none⟩=some x:=by
  rcases g3 with⟨_,_,e⟩|⟨_,g⟩
  ·rw[e]at hx;cases hx
  exact g k x hx
 have e:=Oper.semAt_eq (C.ro ρ) a.eval o (fun c hc=>by rw[ho]at hc;cases hc)
 refine⟨⟨od,fun _ h=>h.elim,?_⟩,?_⟩
 ·rw[e];simp only[execOp,ho];exact bL nC
 rw[eM (n:=.value x) (v':=w) (by
  rw[e]
  simp[execOp,ho,hv,aB,Instr.loadAt,Instr.sureAddr,loadVar,bX ht,hc])]
 refine⟨ρ,eL env o.dst (.t (.one (rW x))),⟨m.aj,m.nh,m.ds⟩,an.refl _ _,hle,⟨⟨fun ρ' aU=>?_,aL.ok.mem,by rw[gb];exact aL.ok.size⟩,fun ρ' aU=>by rw[put_defers];exact aL.ds ρ' aU⟩,hK⟩
 exact(aL.ok.env ρ' aU).put aL.ok.size (di hd) (p9 h1)
end Go.SE

namespace Go.SE
open Go Go.RowKit
variable [aG]
theorem BH(k:IntKind)(a b:Int):dx .mul k a b (k.wrap (a*b)):=rfl
theorem HK(k:IntKind)(a b:Int):dx .add k a b (k.wrap (a+b)):=rfl
theorem O1(k:IntKind)(a b:Int):dx .sub k a b (k.wrap (a-b)):=rfl
theorem Mc(k:IntKind)(a b:Int):dx .or k a b (k.wrap (BitVec.ofInt k.bits a|||BitVec.ofInt k.bits b).toNat):=rfl
theorem O3(k:IntKind)(a b:Int):dx .and k a b (k.wrap (BitVec.ofInt k.bits a&&&BitVec.ofInt k.bits b).toNat):=rfl
theorem HE(k:IntKind)(a b:Int):dx .xor k a b (k.wrap (BitVec.ofInt k.bits a^^^BitVec.ofInt k.bits b).toNat):=rfl
theorem HF(k:IntKind)(a:Int){b:Int}(h:0<=b):dx .shl k a b (k.wrap (a*2^min b.toNat k.bits)):=⟨h,rfl⟩
theorem BG(k:IntKind)(a:Int){b:Int}(h:0<=b):dx .shr k a b (a.fdiv (2^min b.toNat k.bits)):=⟨h,rfl⟩
theorem HJ(k:IntKind)(a:Int){b:Int}(h:b≠0):dx .quo k a b (k.wrap (a.tdiv b)):=⟨h,rfl⟩
theorem HI(k:IntKind)(a:Int){b:Int}(h:b≠0):dx .rem k a b (a.tmod b):=⟨h,rfl⟩
end Go.SE

namespace Go.Proofs.S08
open Go Go.SE
set_option maxRecDepth 100000
set_option linter.all false
set_option maxHeartbeats 4000000
attribute [local irreducible] dx
variable [aG]
theorem mixed:Try.prog.follows .mixedOrders=true:=by kernel_rfl
def byte(c:Int):Prop:=0<=c/\c<=255
def GZ(n:Nat):Nat:=(167*n+13)%256%16*16+(167*n+13)%256/16
def unN(n:Nat):Nat:=(n%16*16+n/16+243)*23%256
def ir(c:Int):Int:=(GZ c.toNat:Nat)
def SO(c:Int):Int:=(unN c.toNat:Nat)
theorem MG: ∀n,n<256->GZ n<256:=by decide+kernel
theorem gg{c:Int}(h:byte c): ∃n:Nat,c=n/\n<256:=by
 obtain⟨n,rfl⟩:=Int.eq_ofNat_of_zero_le h.1
 have:=h.2
 exact⟨n,rfl,by omega⟩
theorem Jd{c:Int}(h:byte c):byte (ir c):=by
 obtain⟨n,rfl,hn⟩:=gg h
 have:=MG n hn
 show 0<=((GZ n:Nat):Int)/\((GZ n:Nat):Int)<=255
 omega
def xr(a b:Int):Int:=((a.toNat^^^b.toNat:Nat):Int)
theorem sj{a b:Int}(ha:byte a)(hb:byte b):byte (xr a b):=by
 obtain⟨a,rfl,ha⟩:=gg ha
 obtain⟨b,rfl,hb⟩:=gg hb
 have h:a^^^b<2^8:=Nat.xor_lt_two_pow (by omega) (by omega)
 show 0<=((a^^^b:Nat):Int)/\((a^^^b:Nat):Int)<=255
 omega
def y7(s:Int):List Int->Int
 | []=>s
 |c::l=>y7 (ir (xr s c)) l
theorem mE{s:Int}(hs:byte s): ∀ {l:List Int},Bytes l->byte (y7 s l)
 | [],_=>hs
 |c::_,h=>mE (Jd (sj hs (h c (by simp)))) fun x hx=>h x (by simp[hx])
theorem yr(s:Int): ∀ (l r:List Int),y7 s (l++r)=y7 (y7 s l) r
 | [],_=>rfl
 |_::l,r=>yr _ l r
theorem oZ{c:Int}(hc:byte c):bo Try.prog 9 [.one (.v (.int .u8 c))] [] (.t (.one (.v (.int .u8 (ir c))))) []:=by
 obtain⟨n,rfl,hn⟩:=gg hc
 refine bg rfl ?_
 refine az Try.func9 rfl rfl ?_
 intro _
 repeat' (first|(refine dz ?_;(refine fK ?_;(first|(refine asked _ (BH _ _ _) ?_)|(refine asked _ (HK _ _ _) ?_)|(refine asked _ (Mc _ _ _) ?_)|(refine asked _ (HF _ _ (by decide)) ?_)|(refine asked _ (BG _ _ (by decide)) ?_)));intro u;clear u)|(refine cL ?_;refine az Try.func31 rfl rfl ?_;intro u;clear u))
 (refine dk ?_ rfl;intro u;clear u;refine⟨rfl,rfl,bO.mk ?_ ?_⟩<;>(repeat' (first|exact trivial|(with_reducible rfl)|apply And.intro|rfl)))
 clear hc;revert n;decide+kernel
theorem FV{c:Int}(hc:byte c):bo Try.prog 10 [.one (.v (.int .u8 c))] [] (.t (.one (.v (.int .u8 (SO c))))) []:=by
 obtain⟨n,rfl,hn⟩:=gg hc
 refine bg rfl ?_
 refine az Try.func10 rfl rfl ?_
 intro _
 repeat' (first|(refine dz ?_;(refine fK ?_;(first|(refine asked _ (BH _ _ _) ?_)|(refine asked _ (O1 _ _ _) ?_)|(refine asked _ (Mc _ _ _) ?_)|(refine asked _ (HF _ _ (by decide)) ?_)|(refine asked _ (BG _ _ (by decide)) ?_)));intro u;clear u)|(refine cL ?_;refine az Try.func31 rfl rfl ?_;intro u;clear u))
 (refine dk ?_ rfl;intro u;clear u;refine⟨rfl,rfl,bO.mk ?_ ?_⟩<;>(repeat' (first|exact trivial|(with_reducible rfl)|apply And.intro|rfl)))
 clear hc;revert n;decide+kernel
theorem Ei{c:Int}(hc:byte c):bo Try.prog 23 [.one (.v (.int .u8 c))] [] (.t (.one (.v (.int .u8 (ir c))))) []:=by
 obtain⟨n,rfl,hn⟩:=gg hc
 refine bg rfl ?_
 refine az Try.func23 rfl rfl ?_
 intro _
 repeat' (refine dz ?_;(first|(refine fK ?_;(first|(refine asked _ (BH _ _ _) ?_)|(refine asked _ (HK _ _ _) ?_)|(refine asked _ (HJ _ _ (by decide)) ?_)|(refine asked _ (HI _ _ (by decide)) ?_)))|(refine nq ?_;(first|refine asked _ (dM (by simp only[lo,hi];omega) (by simp only[lo,hi];omega)) ?_|refine asked _ (wrap_u8' _) ?_)));intro u;clear u)
 (refine dk ?_ rfl;intro u;clear u;refine⟨rfl,rfl,bO.mk ?_ ?_⟩<;>(repeat' (first|exact trivial|(with_reducible rfl)|apply And.intro|rfl)))
 clear hc;revert n;decide+kernel
def aW(s:Int):Int:=(((s.toNat^^^(s.toNat/16))%16:Nat):Int)
theorem rF{c:Int}(hc:byte c):bo Try.prog 35 [.one (.v (.int .u8 c))] [] (.t (.one (.v (.int .i64 (aW c))))) []:=by
 obtain⟨n,rfl,hn⟩:=gg hc
 refine bg rfl ?_
 refine az Try.func35 rfl rfl ?_
 intro _
 repeat' (refine dz ?_;(first|(refine fK ?_;(first|(refine asked _ (O3 _ _ _) ?_)|(refine asked _ (HE _ _ _) ?_)|(refine asked _ (BG _ _ (by decide)) ?_)))|(refine asked _ rfl ?_));intro u;clear u)
 (refine dk ?_ rfl;intro u;clear u;refine⟨rfl,rfl,bO.mk ?_ ?_⟩<;>(repeat' (first|exact trivial|(with_reducible rfl)|apply And.intro|rfl)))
 clear hc;revert n;decide+kernel
end Go.Proofs.S08

namespace Go.Proofs.S08
open Go Go.SE
set_option maxRecDepth 100000
set_option linter.all false
set_option maxHeartbeats 4000000
attribute [local irreducible] dx
variable [aG]
theorem sQ{s:Int}{l:List Int}{k:Nat}(h:k<l.length):y7 s (l.take (k+1))=ir (xr (y7 s (l.take k)) (l.getD k 0)):=by
 rw[List.take_succ_eq_append_getElem h,yr]
 rw[show l.getD k 0=l[k] by simp[List.getD_eq_getElem?_getD,List.getElem?_eq_getElem h]]
 rfl
theorem qe{l:List Int}(h:Bytes l)(k:Nat):byte (l.getD k 0):=by
 rw[List.getD_eq_getElem?_getD]
 cases e:l[k]? with
 |none=>exact⟨by simp,by simp⟩
 |some x=>exact h x (List.mem_of_getElem? e)
theorem nK{l:List Int}(h:Bytes l)(k:Nat):Bytes (l.take k):=fun x hx=>h x (List.mem_of_mem_take hx)
def sub(l:List Int)(off n:Nat):List Int:=(l.drop off).take n
theorem HA{l:List Int}{off n:Nat}(h:off+n<=l.length):(sub l off n).length=n:=by simp[sub];omega
theorem Af{l:List Int}(h:Bytes l)(off n:Nat):Bytes (sub l off n):=fun x hx=>h x (List.mem_of_mem_drop (List.mem_of_mem_take hx))
theorem OY(l:List Int):sub l 0 l.length=l:=by simp[sub]
theorem Mk{l:List Int}{off n k p:Nat}(h:off+n<=l.length)(hk:k<n)(hp:p=off+k):(ints .u8 l)[p]?=some (.int .u8 ((sub l off n).getD k 0)):=by
 subst hp
 rw[Qv (off+k) rfl (by omega)]
 congr 2
 simp only[sub,List.getD_eq_getElem?_getD]
 rw[List.getElem?_take,if_pos hk,List.getElem?_drop]
theorem Ni{s:Int}(hs:byte s){l:List Int}(hl:Bytes l){off n:Nat}(hn:off+n<=l.length)(hm:l.length<=1000000):bo Try.prog 32 [.one (.fn 9 []),.one (.v (.int .u8 s)),.one (.sl 0 off n)] [.row (ints .u8 l) 1 5 false] (.t (.one (.v (.int .u8 (y7 s (sub l off n)))))) []:=by
 have hr:=Af hl off n
 have rQ:=HA hn
 have Yo:=fun k p=>Mk (l:=l) (off:=off) (n:=n) (k:=k) (p:=p) hn
 generalize sub l off n=r at*
 refine bg rfl ?_
 refine az Try.func32 rfl rfl ?_
 intro _
 repeat' (first|(refine sO ?_;refine nD rfl rfl ?_;intro u;clear u)|(refine cL ?_;(first|refine az Try.func53 rfl rfl ?_|refine az Try.func70 rfl rfl ?_);intro u;clear u))
 refine mI (fun k:Nat=>n-k) (fun k=>k<=n) [0,2,3,7,8] (fun k=> [(9,.t (.one (.v (.int .i64 k))))]) (fun k=> [(1,.box [.v (.int .u8 (y7 s (r.take k)))] 1 5),(3,.box [.v (.int .u8 (y7 s (r.take k)))] 1 5)]) (fun _=> [(6,[],[4,10])]) [] 0 0 (Nat.zero_le _) ?_ ?_
 ·(intro u;clear u;refine⟨rfl,rfl,bO.mk ?_ ?_⟩<;>(repeat' (first|exact trivial|(with_reducible rfl)|apply And.intro|rfl)))
 intro k hk u
 clear u
 have ha:=mE hs (nK hr k)
 have hx:=qe hr k
 obtain⟨a1,a2⟩:=ha
 obtain⟨x1,x2⟩:=hx
 have hT:=oZ (sj ⟨a1,a2⟩ ⟨x1,x2⟩)
 repeat' (first|(refine kM ?_;refine Fo (fun g=>?_) (fun g=>?_)<;>(intro u;clear u))|(refine dz ?_;(first|(refine fK ?_;(first|(refine asked (xr _ _) (Bc rfl (by omega) (by simp only[hi];omega) (by omega) (by simp only[hi];omega)) ?_)|(with_reducible refine asked _ (xj (by simp only[lo,hi];omega) (by simp only[lo,hi];omega)) ?_)))|(refine asked _ (Yo k _ (by omega) (by show(off+Int.toNat (k:Int))*1=_;omega)) ?_)|refine asked () ⟨by omega,by omega⟩ ?_);intro u;clear u)|(refine sN ?_;refine nz rfl rfl rfl rfl ?_;intro u;clear u)|(refine cL ?_;refine e9 (hT) (cZ rfl) (by exact trivial) rfl ?_;intro u;clear u))
 ·refine again (k+1) (by omega) (by omega) ?_
  (intro u;clear u;refine⟨rfl,rfl,bO.mk ?_ ?_⟩<;>(repeat' (first|exact trivial|(with_reducible rfl)|apply And.intro|rfl)))
  all_goals exact(sQ (by omega)).symm
 (refine dk ?_ rfl;intro u;clear u;refine⟨rfl,rfl,bO.mk ?_ ?_⟩<;>(repeat' (first|exact trivial|(with_reducible rfl)|apply And.intro|rfl)))
 rw[List.take_of_length_le (by omega)]
end Go.Proofs.S08

namespace Go.Proofs.S08
open Go Go.SE
set_option maxRecDepth 100000
set_option linter.all false
set_option maxHeartbeats 4000000
attribute [local irreducible] dx
variable [aG]
structure Tu where
 a:Int
 b:Int
 c:Int
 d:Int
 deriving DecidableEq
structure Tu.Wf(t:Tu):Prop where
 a:0<=t.a/\t.a<=4294967295
 b:0<=t.b/\t.b<=4294967295
 c:0<=t.c/\t.c<=65535
 d:0<=t.d/\t.d<=65535
def tuS(t:Tu):List S:= [.v (.int .u32 t.a),.v (.int .u32 t.b),.v (.int .u16 t.c),.v (.int .u16 t.d)]
def N6(t:Tu):T:=.agg (tuS t)
def fS:Tu:=⟨0,0,0,0⟩
theorem j0:fS.Wf:=⟨by decide,by decide,by decide,by decide⟩
def Uc(n:Int):List Int:= [n/16777216%256,n/65536%256,n/256%256,n%256]
def Ud(n:Int):List Int:= [n/256%256,n%256]
def y9(t:Tu):List Int:=Uc t.a++(Uc t.b++(Ud t.c++Ud t.d))
theorem AO(n:Int):Bytes (Uc n):=by
 intro x hx
 simp only[Uc,List.mem_cons,List.not_mem_nil,or_false]at hx
 rcases hx with rfl|rfl|rfl|rfl<;>omega
theorem AP(n:Int):Bytes (Ud n):=by
 intro x hx
 simp only[Ud,List.mem_cons,List.not_mem_nil,or_false]at hx
 rcases hx with rfl|rfl<;>omega
theorem iC(t:Tu):Bytes (y9 t):=by
 intro x hx
 unfold y9 at hx
 rcases List.mem_append.1 hx with h|h
 ·exact AO _ x h
 rcases List.mem_append.1 h with h|h
 ·exact AO _ x h
 rcases List.mem_append.1 h with h|h
 ·exact AP _ x h
 exact AP _ x h
theorem pU(t:Tu):(y9 t).length=12:=rfl
theorem qO{n:Int}(h:0<=n/\n<=4294967295):bo Try.prog 33 [.one (.v (.int .i64 n)),.one (.n .i64 4)] [] (.t (.one (.sl 0 0 4))) [.row (ints .u8 (Uc n)) 1 5 true]:=by
 obtain⟨h1,h2⟩:=h
 refine bg rfl ?_
 refine az Try.func33 rfl rfl ?_
 intro _
 repeat' (first|(refine dz ?_;(first|(refine fK ?_;(first|(refine Lw (op:=.shr) ?_;(first|refine asked _ (iT 8 256 (by decide) (by rfl) (by decide)) ?_|refine asked _ (iT 16 65536 (by decide) (by rfl) (by decide)) ?_|refine asked _ (iT 24 16777216 (by decide) (by rfl) (by decide)) ?_|refine asked _ (iT 0 1 (by decide) (by rfl) (by decide)) ?_))|(with_reducible refine asked _ (Dn 8 256 (by decide) (by decide) (by decide) (by simp only[lo,hi];omega)) ?_)))|(refine nq ?_;refine asked _ (dM (by simp only[lo,hi];omega) (by simp only[lo,hi];omega)) ?_)|refine asked _ (nL rfl rfl (by decide) (by decide)) ?_);intro u;clear u)|(refine BP ?_;refine uC ?_;intro u;clear u))
 (refine dk ?_ rfl;intro u;clear u;refine⟨rfl,rfl,bO.mk ?_ ?_⟩<;>(repeat' (first|exact trivial|(with_reducible rfl)|apply And.intro|rfl)))
 rw[Int.ediv_one];rfl
theorem qP{n:Int}(h:0<=n/\n<=65535):bo Try.prog 33 [.one (.v (.int .i64 n)),.one (.n .i64 2)] [] (.t (.one (.sl 0 0 2))) [.row (ints .u8 (Ud n)) 1 5 true]:=by
 obtain⟨h1,h2⟩:=h
 refine bg rfl ?_
 refine az Try.func33 rfl rfl ?_
 intro _
 repeat' (first|(refine dz ?_;(first|(refine fK ?_;(first|(refine Lw (op:=.shr) ?_;(first|refine asked _ (iT 8 256 (by decide) (by rfl) (by decide)) ?_|refine asked _ (iT 0 1 (by decide) (by rfl) (by decide)) ?_))|(with_reducible refine asked _ (Dn 8 256 (by decide) (by decide) (by decide) (by simp only[lo,hi];omega)) ?_)))|(refine nq ?_;refine asked _ (dM (by simp only[lo,hi];omega) (by simp only[lo,hi];omega)) ?_)|refine asked _ (nL rfl rfl (by decide) (by decide)) ?_);intro u;clear u)|(refine BP ?_;refine uC ?_;intro u;clear u))
 (refine dk ?_ rfl;intro u;clear u;refine⟨rfl,rfl,bO.mk ?_ ?_⟩<;>(repeat' (first|exact trivial|(with_reducible rfl)|apply And.intro|rfl)))
 rw[Int.ediv_one];rfl
theorem Jr{t:Tu}(h:t.Wf):bo Try.prog 13 [N6 t] [] (.t (.one (.sl 0 0 12))) [.row (ints .u8 (y9 t)) 1 5 true]:=by
 obtain⟨⟨a1,a2⟩,⟨b1,b2⟩,⟨c1,c2⟩,⟨d1,d2⟩⟩:=h
 have ha:=qO ⟨a1,a2⟩
 have hb:=qO ⟨b1,b2⟩
 have hc:=qP ⟨c1,c2⟩
 have hd:=qP ⟨d1,d2⟩
 refine bg rfl ?_
 refine az Try.func13 rfl rfl ?_
 intro _
 repeat' (first|(refine dz ?_;(first|(refine nq ?_;refine asked _ (dM (by simp only[lo,hi];omega) (by simp only[lo,hi];omega)) ?_)|refine asked _ (nL rfl rfl (by decide) (by decide)) ?_);intro u;clear u)|(refine nu ?_;refine qg mixed (by kernel_rfl) ?_;intro u;clear u)|(refine pf ?_;(first|refine eO (ha) (cZ rfl) (by exact trivial) rfl ?_|refine eO (hb) (cZ rfl) (by exact trivial) rfl ?_|refine eO (hc) (cZ rfl) (by exact trivial) rfl ?_|refine eO (hd) (cZ rfl) (by exact trivial) rfl ?_);intro u;clear u))
 (refine dk ?_ rfl;intro u;clear u;refine⟨rfl,rfl,bO.mk ?_ ?_⟩<;>(repeat' (first|exact trivial|(with_reducible rfl)|apply And.intro|rfl)))
theorem py{t:Tu}(h:t.Wf):bo Try.prog 36 [N6 t] [] (.t (.one (.sl 0 0 12))) [.row (ints .u8 (y9 t)) 1 5 true]:=by
 obtain⟨⟨a1,a2⟩,⟨b1,b2⟩,⟨c1,c2⟩,⟨d1,d2⟩⟩:=h
 refine bg rfl ?_
 refine az Try.func36 rfl rfl ?_
 intro _
 repeat' (first|(refine dz ?_;(first|(refine fK ?_;(refine Lw (op:=.shr) ?_;(first|refine asked _ (iT 8 256 (by decide) (by rfl) (by decide)) ?_|refine asked _ (iT 16 65536 (by decide) (by rfl) (by decide)) ?_|refine asked _ (iT 24 16777216 (by decide) (by rfl) (by decide)) ?_|refine asked _ (iT 0 1 (by decide) (by rfl) (by decide)) ?_)))|(refine nq ?_;(first|refine asked _ (dM (by simp only[lo,hi];omega) (by simp only[lo,hi];omega)) ?_|refine asked _ (wrap_u8' _) ?_))|(refine asked ((0:Nat),(12:Nat),([]:List Value)) ⟨rfl,rfl,by decide,by decide,by decide,rfl⟩ ?_)|refine asked _ (nL rfl rfl (by decide) (by decide)) ?_);intro u;clear u)|(refine BP ?_;refine uC ?_;intro u;clear u)|(refine sN ?_;refine nz rfl rfl rfl rfl ?_;intro u;clear u)|(refine nu ?_;refine qg mixed (by kernel_rfl) ?_;intro u;clear u)|(refine sO ?_;refine nD rfl rfl ?_;intro u;clear u)|(refine cL ?_;(first|refine az Try.func54 rfl rfl ?_|refine az Try.func71 rfl rfl ?_);intro u;clear u))
 (refine dk ?_ rfl;intro u;clear u;refine⟨rfl,rfl,bO.mk ?_ ?_⟩<;>(repeat' (first|exact trivial|(with_reducible rfl)|apply And.intro|rfl)))
 show _=ints .u8 (y9 t)
 have e1:t.a/16777216%256=t.a/16777216:=by omega
 have e2:t.b/16777216%256=t.b/16777216:=by omega
 have e3:t.c/256%256=t.c/256:=by omega
 have e4:t.d/256%256=t.d/256:=by omega
 unfold y9 Uc Ud
 rw[e1,e2,e3,e4]
 simp only[Int.ediv_one];rfl
end Go.Proofs.S08

namespace Go.Proofs.S08
open Go Go.SE
set_option maxRecDepth 100000
set_option linter.all false
set_option maxHeartbeats 4000000
attribute [local irreducible] dx
variable [aG]
def LY(c:Array Value):Prop:=∀j:Nat,j<256->c[4+j]?=some (.int .u8 (ir j))
theorem SQ{c:Array Value}(hc:LY c){z:Int}(hz:byte z){k:Nat}(hk:4+z.toNat*1=k):c[k]?=some (.int .u8 (ir z)):=by
 subst hk
 obtain⟨n,rfl,hn⟩:=gg hz
 have:=hc n hn
 simpa using this
theorem JJ{s:Int}(hs:byte s){l:List Int}(hl:Bytes l){off n:Nat}(hn:off+n<=l.length)(hm:l.length<=1000000){c:Array Value}(hc:LY c){B:Nat}:
  bo Try.prog 32 [.one (.fn 59 [(0,0)]),.one (.v (.int .u8 s)),.one (.sl 1 off n)] [.row [.pointer (some ⟨B,0,none⟩)] 1 41 false,.row (ints .u8 l) 1 5 false,.obj (.pending c B)] (.t (.one (.v (.int .u8 (y7 s (sub l off n)))))) []:=by
 have hr:=Af hl off n
 have rQ:=HA hn
 have Yo:=fun k p=>Mk (l:=l) (off:=off) (n:=n) (k:=k) (p:=p) hn
 generalize sub l off n=r at*
 refine bg rfl ?_
 refine az Try.func32 rfl rfl ?_
 intro _
 repeat' (first|(refine sO ?_;refine nD rfl rfl ?_;intro u;clear u)|(refine cL ?_;(first|refine az Try.func53 rfl rfl ?_|refine az Try.func70 rfl rfl ?_);intro u;clear u))
 refine mI (fun k:Nat=>n-k) (fun k=>k<=n) [0,2,3,7,8] (fun k=> [(9,.t (.one (.v (.int .i64 k))))]) (fun k=> [(3,.box [.v (.int .u8 (y7 s (r.take k)))] 1 5),(5,.box [.v (.int .u8 (y7 s (r.take k)))] 1 5)]) (fun _=> [(8,[],[4,10])]) [] 0 0 (Nat.zero_le _) ?_ ?_
 ·(intro u;clear u;refine⟨rfl,rfl,bO.mk ?_ ?_⟩<;>(repeat' (first|exact trivial|(with_reducible rfl)|apply And.intro|rfl)))
 intro k hk u
 clear u
 have ha:=mE hs (nK hr k)
 have hx:=qe hr k
 obtain⟨a1,a2⟩:=ha
 obtain⟨x1,x2⟩:=hx
 have hT:=sj ⟨a1,a2⟩ ⟨x1,x2⟩
 repeat' (first|(refine MZ _ rfl rfl rfl rfl rfl rfl ?_;intro u;clear u)|(refine Pg 2 rfl rfl rfl rfl rfl ?_;intro u;clear u)|(refine JE _ rfl rfl rfl (.inr rfl) rfl (SQ hc hT (by rfl)) rfl ?_;intro u;clear u)|(refine kM ?_;refine Fo (fun g=>?_) (fun g=>?_)<;>(intro u;clear u))|(refine dz ?_;(first|(refine fK ?_;(first|(refine asked (xr _ _) (Bc rfl (by omega) (by simp only[hi];omega) (by omega) (by simp only[hi];omega)) ?_)|(with_reducible refine asked _ (xj (by simp only[lo,hi];omega) (by simp only[lo,hi];omega)) ?_)))|(refine asked () ⟨hT.1,Int.lt_add_one_of_le hT.2⟩ ?_)|(refine asked _ (Yo k _ (by omega) (by show(off+Int.toNat (k:Int))*1=_;omega)) ?_)|refine asked () ⟨by omega,by omega⟩ ?_);intro u;clear u)|(refine sN ?_;refine nz rfl rfl rfl rfl ?_;intro u;clear u)|(refine cL ?_;refine az Try.func59 rfl rfl ?_;intro u;clear u))
 ·refine again (k+1) (by omega) (by omega) ?_
  (intro u;clear u;refine⟨rfl,rfl,bO.mk ?_ ?_⟩<;>(repeat' (first|exact trivial|(with_reducible rfl)|apply And.intro|rfl)))
  all_goals exact(sQ (by omega)).symm
 (refine dk ?_ rfl;intro u;clear u;refine⟨rfl,rfl,bO.mk ?_ ?_⟩<;>(repeat' (first|exact trivial|(with_reducible rfl)|apply And.intro|rfl)))
 rw[List.take_of_length_le (by omega)]
end Go.Proofs.S08

namespace Go.Co.F1
open Go Go.Conc Go.Proofs
open Go.Co
open Go.ConcN (upd upd_ne upd_same)
variable{E:Geo}{N i:Nat}{l:Lo}{w:World}
set_option maxRecDepth 10000
abbrev br(b o:Nat):Addr:=⟨b,o,none⟩
abbrev ptr(b o:Nat):Value:=.pointer (some ⟨b,o,none⟩)
structure oR(E:Geo)(i k:Nat)(l l':Lo)(w w':World):Prop where
 lk:Lk E i k l' none
 deaf:l'.deaf=0
 aP:l'.aP k=true
 kept:Kept l l'
 ai: ∀b,l.ai b->l'.ai b
 size:w.heap.size<=w'.heap.size
 heap: ∀b,l.ai b->w'.heap[b]?=w.heap[b]?
 kn: ∀a v,E.qU a=none->l.kn a=some v->l'.kn a=some v
structure Rn(E:Geo)(i k:Nat)(l l2:Lo)(w w2:World):Prop where
 lk:Lk E i k {l2 with run:=none} (some .held)
 run:l2.run=some k
 deaf:l2.deaf=0
 kept:Kept l l2
 ai: ∀b,l.ai b->l2.ai b
 size:w.heap.size<=w2.heap.size
 heap: ∀b,l.ai b->w2.heap[b]?=w.heap[b]?
 kn: ∀a v,E.qU a=none->l.kn a=some v->l2.kn a=some v
structure QV(E:Geo)(i k:Nat)(l l2:Lo)(w w2:World):Prop where
 mo:Rn E i k l l2 w w2
 rO: ∀G ae t,GI E G ae t->(G.th i).af=true->G.th i=l2->View l2.ai w2 ae->∃PB app',z7 G ae i k PB app'/\E.App app' (upd G.dn k true) G.cv/\(∀b,PB b->¬l.ai b)/\∀a v,app' a≠some (v,.zc k)
structure pT(l l':Lo)(w w':World):Prop where
 eq:l'={l with ai:=l'.ai}
 ai: ∀b,l.ai b->l'.ai b
 size:w.heap.size<=w'.heap.size
 heap: ∀b,l.ai b->w'.heap[b]?=w.heap[b]?
theorem pT.view{w':World}(h:View l.ai w w'):pT l l w w':=⟨rfl,fun _ h=>h,h.1,h.2⟩
theorem pT.trans{l1 l2:Lo}{w1 w2:World}(h:pT l l1 w w1)(k:pT l1 l2 w1 w2):pT l l2 w w2:=by
 refine⟨?_,fun b hb=>k.ai b (h.ai b hb),Nat.le_trans h.size k.size,fun b hb=>(k.heap b (h.ai b hb)).trans (h.heap b hb)⟩
 have e1:=h.eq
 have e2:=k.eq
 rw[e2,e1]
theorem pT.get{l1:Lo}{w1:World}(h:pT l l1 w w1){b:Nat}{x:Obj}(ho:l.ai b)(hb:w.heap[b]?=some x):l1.ai b/\w1.heap[b]?=some x:=⟨h.ai b ho,by rw[h.heap b ho];exact hb⟩
theorem Rn.EM{k:Nat}{l2 l3:Lo}{w2 w3:World}(h:Rn E i k l l2 w w2)(hk:pT l2 l3 w2 w3):Rn E i k l l3 w w3:=by
 obtain⟨e,ho,hs,hh⟩:=hk
 rw[e]
 exact⟨⟨h.lk.i0,h.lk.kK,h.lk.af,h.lk.mr,h.lk.ch,h.lk.gr,h.lk.rel,rfl⟩,h.run,h.deaf,⟨h.kept.bZ,h.kept.wk,h.kept.me,h.kept.sc⟩,fun b hb=>ho b (h.ai b hb),Nat.le_trans h.size hs,fun b hb=>(hh b (h.ai b hb)).trans (h.heap b hb),h.kn⟩
theorem Gg{G:Gh}{t:Trace}{k:Nat}{PB:Nat->Prop}{app':Addr->Option (Value×Gd)}(hg:GI E G w t)(au:(G.th i).af=true)(p:z7 G w i k PB app')(hc: ∀a v,app' a≠some (v,.zc k)){a:Addr}{v:Value}(h:(G.th i).kn a=some v):C0 app' k (G.th i).kn a=some v:=by
 obtain⟨d,h1,h2⟩:=hg.k.kn i a v au h
 unfold C0
 rcases p.keep a v d h1 with⟨h3,h4⟩|⟨rfl,h4|h4⟩
 ·rw[h4]
  rcases h2 with rfl|⟨k',rfl,_⟩|⟨k',rfl,_⟩
  ·exact h
  ·show(if k'=k then some v else(G.th i).kn a)=_
   split
   ·rfl
   exact h
  exact h
 ·rw[h4];show(if k=k then some v else _)=_;rw[if_pos rfl]
 exact absurd h4 (hc a v)
theorem Nj{k:Nat}{kn:Addr->Option Value}{a:Addr}{v:Value}(hi:E.qU a=none)(h:kn a=some v):E.wa k kn a=some v:=by
 unfold Geo.wa;rw[hi];exact h
set_option maxHeartbeats 4000000 in
theorem WZ{k B o:Nat}(hf:E.da)(hP:E.P=Try.prog)(O:ni E k B o)(A:Lk E i k l none)(fD:l.deaf=0){F nt:Nat}{c:Code}(bF:ij Try.prog F nt c #[]){cap:Array Value}{fr:Frame}{cs:List Frame}
  (hold: ∀b,l.ai b->b<w.heap.size)
  (Qy: ∀l' w',oR E i k l l' w w'->Tr E N i l' (Conc.G (fr.finish (.tuple #[])) cs) w')
  (LJ: ∀w' (rM:Frame) wi,View l.ai w w'->(∀l2 w2,QV E i k l l2 w w2->Tr E N i l2 (Conc.G (rM.finish (.tuple #[])) wi) w2)->Tr E N i ((l.mu k (some .held) none).begin E k) (Conc.G (Frame.enter Try.prog F cap .normal) (rM::wi)) w'):
  Tr E N i l (Conc.G (Frame.enter Try.prog 56 #[.pointer (some ⟨B,o,none⟩),.func (.func F) #[] cap] .normal) (fr::cs)) w:=by
 have W:ay Try.prog E l (base 56):=⟨⟨hf,A.ch,by decide⟩,hP⟩
 refine Tr.ck hP XO (Nat.le_of_ble_eq_true rfl) ?_
 (repeat(first|refine ah.pS W (hp:=by first|exact aa (.inl rfl) rfl|exact ak rfl rfl|exact av rfl rfl (by rfl) rfl (by decide+kernel)) (h:=?_)|refine Tk.seq (ay.wk W) ?_|refine Tk.reg W ?_))
 refine ah.call W (by rfl) (by rfl) (by rfl) (by rfl) Qd rfl fun GW oC=>?_
 refine J9 ⟨⟨hf,A.ch,by decide⟩,hP⟩ A.kK O.d A.af A.rel fD (fun hp w1 ig=>?_) (fun w1 ig=>?_)
 ·refine oC _ _ _ (ah.bx ?_)
  (repeat(first|refine ah.dn W ?_|refine ah.pS W (hp:=by first|exact aa (.inl rfl) rfl|exact ft rfl rfl) (h:=?_)|refine Tk.reg W ?_|refine Tk.cp (ay.wk W) rfl ?_))
  refine ah.call W (by rfl) (by rfl) (by rfl) (by rfl) XN rfl fun XK oA=>?_
  have back: ∀l' w',oR E i k l l' w w'->Tr E N i l' (Conc.G (XK.finish (.tuple #[])) (fr::cs)) w':=fun l' w' T=>by
   refine oA _ _ _ (ah.bx ?_)
   have W2:ay Try.prog E l' (base 56):=fO W T.lk.ch
   (repeat(refine ah.dn W2 ?_))
   exact Tk.ji W2.wk (fE.leave0 W2.wk (hP▸XO) (Qy _ _ T))
  refine SW hf hP O A hp fD bF (fun o' w' dG=>?_) (fun w' rM wi dG hM=>?_)
  ·have T3:=ig.trans dG
   exact back _ _ ⟨⟨A.i0,A.kK,A.af,rfl,A.ch,A.gr,A.rel,A.run⟩,fD,upd_same ..,⟨rfl,rfl,rfl,rfl⟩,fun _ h=>h,T3.1,T3.2,fun _ _ _ h=>h⟩
  refine LJ w' rM wi (ig.trans dG) fun l2 w2 M=>hM l2 w2 ⟨M.mo.lk,M.mo.run,M.mo.deaf,fun G ae t hg au ax hv=>?_⟩
  obtain⟨PB,app',p1,p2,p3,p4⟩:=M.rO G ae t hg au ax hv
  refine⟨PB,app',p1,p2,fun o' w' P0=>back _ _ ⟨⟨A.i0,A.kK,M.mo.lk.af,rfl,M.mo.lk.ch,M.mo.lk.gr,M.mo.lk.rel,rfl⟩,M.mo.deaf,upd_same ..,⟨M.mo.kept.bZ,M.mo.kept.wk,M.mo.kept.me,M.mo.kept.sc⟩,fun b hb=>⟨M.mo.ai b hb,fun h=>p3 b h hb⟩,?_,fun b hb=>?_,fun a v hi hv=>?_⟩⟩
  ·refine Nat.le_trans M.mo.size (Nat.le_trans hv.1 (Nat.le_trans ?_ P0.1))
   rw[aD];exact Nat.le_refl _
  ·have ES:(l2.dq k PB app').ai b:=⟨M.mo.ai b hb,fun h=>p3 b h hb⟩
   rw[P0.2 b ES,cS ae (E.sc (.done k)) _ fun e=>(hg.s.qT i b au (by rw[ax];exact M.mo.ai b hb)).1 (.done k) A.kK e,hv.2 b (M.mo.ai b hb),M.mo.heap b hb]
  have oA:=M.mo.kn a v hi hv
  rw[<-ax]at oA
  have:=Gg hg au p1 p4 oA
  rw[ax]at this
  exact this
 refine oC _ _ _ (ah.bx ?_)
 have W2:ay Try.prog E {l with aP:=upd l.aP k true} (base 56):=fO W A.ch
 (repeat(first|refine ah.dn W2 ?_|refine ah.pS W2 (hp:=by exact ft rfl rfl) (h:=?_)|refine Tk.skip (ay.wk W2) ?_|refine Tk.bC (ay.wk W2) rfl ?_))
 exact Tk.ji W2.wk (fE.leave0 W2.wk (hP▸XO) (Qy _ _ ⟨⟨A.i0,A.kK,A.af,A.mr,A.ch,A.gr,A.rel,A.run⟩,fD,upd_same ..,⟨rfl,rfl,rfl,rfl⟩,fun _ h=>h,ig.1,ig.2,fun _ _ _ h=>h⟩))
def ot(H:Nat)(a:Addr):Option (Value×Nat):=if a=br H 3 then some (.int .i32 0,0)else if a.block=H/\4<=a.off/\a.off<260/\a.spot=none then some (.int .u8 0,0)else none
def tZ(H T nj:Nat)(ro:Addr->Option Value)(res:Nat->Int)(app:Addr->Option (Value×Gd))(dn:Nat->Bool)(cv:Nat->Nat):Prop:=
 (∀a v,ro a=some v->app a=some (v,.ro))/\
 (∀j,j<nj->app (br T j)=some (.int .i64 (if cv j=0 then 0 else res j),.out j))/\
 (
 (dn 0=false/\(∃v,app (br H 3)=some (.int .i32 v,.bM 0))/\(∀k:Nat,k<256->∃v,app (br H (4+k))=some (.int .u8 v,.bM 0))/\∀a v,app a≠some (v,.dq 0)/\app a≠some (v,.zc 0))\/
 (dn 0=true/\app (br H 3)=some (.int .i32 1,.dq 0)/\∀k:Nat,k<256->app (br H (4+k))=some (.int .u8 (S08.ir k),.dq 0)))/\
 ((∃j,cv j≠0)->dn 0=true)/\(dn 0=true->0<nj)
theorem tZ.grow{H T nj:Nat}{ro:Addr->Option Value}{res:Nat->Int}{app app':Addr->Option (Value×Gd)}{dn:Nat->Bool}{cv:Nat->Nat}(h:tZ H T nj ro res app dn cv)(k: ∀a x,app a=some x->app' a=some x)
  (kn: ∀a x,app' a=some x->app a=some x\/∃v k,x=(v,.dq k)/\1<=k):tZ H T nj ro res app' dn cv:=by
 obtain⟨h1,h2,h3,h4⟩:=h
 refine⟨fun a v ha=>k _ _ (h1 a v ha),fun j hj=>k _ _ (h2 j hj),h3.imp (fun⟨a,⟨v,b⟩,c,d⟩=>⟨a,⟨v,k _ _ b⟩,fun m hm=>?_,fun ad v=>⟨fun e=>?_,fun e=>?_⟩⟩) fun⟨a,b,c⟩=>⟨a,k _ _ b,fun m hm=>k _ _ (c m hm)⟩,h4⟩
 ·obtain⟨v,hv⟩:=c m hm
  exact⟨v,k _ _ hv⟩
 ·rcases kn _ _ e with e|⟨v',k',e,hk⟩
  ·exact(d ad v).1 e
  cases e;omega
 rcases kn _ _ e with e|⟨v',k',e,hk⟩
 ·exact(d ad v).2 e
 cases e
structure Rq(E:Geo)(H B T nj:Nat)(ro:Addr->Option Value)(res:Nat->Int):Prop where
 P:E.P=Try.prog
 fin:E.da
 K:E.K=1
 O:ni E 0 H 0
 wg:WgAt E B
 hC:E.eg=false
 njE:E.nj=nj
 rs: ∀j,E.rs j=some j
 qU: ∀a,E.qU a=ot H a
 app:E.App=tZ H T nj ro res
 roH: ∀a v,ro a=some v->a.block≠H/\a.block≠T
 HT:H≠T
structure HG(E:Geo)(H B T nj:Nat)(ro:Addr->Option Value)(res:Nat->Int):Prop extends Rq E H B T nj ro res where
 pos:0<nj
theorem HG.kK{H B T nj:Nat}{ro:Addr->Option Value}{res:Nat->Int}(c:HG E H B T nj ro res):0<E.K:=by rw[c.K];exact Nat.one_pos
theorem HG.Kx{H B T nj:Nat}{ro:Addr->Option Value}{res:Nat->Int}(c:HG E H B T nj ro res){G:Gh}{t:Trace}(hg:GI E G w t)(au:(G.th i).af=true)(dR:(G.th i).aP 0=true):
  G.dn 0=true/\G.app (br H 3)=some (.int .i32 1,.dq 0)/\∀k:Nat,k<256->G.app (br H (4+k))=some (.int .u8 (S08.ir k),.dq 0):=by
 have hd:=hg.k.Rx au dR c.kK
 have hm:=hg.more
 rw[c.app]at hm
 rcases hm.2.2.1 with⟨x,_⟩|x
 ·rw[hd]at x;cases x
 exact x
theorem Tk.uR{P:Program}{b:Frame}{n:Nat}{env:Nv}{ds:List Deferred}{k:List Item}{cs:List Frame}{ops:Array Oper}{j:Nat}{rest:List Nat}{o:Oper}(W:ay P E l b){t:TypeId}{x:Operand}{ad:Addr}{d:Nat}{v:Value}(hq:(P.funcs[b.fn]?).any (·.norace)=false)(cP:l.af=true)(aJ:l.rel=none)(ho:ops[j]?=some o)(hw:bj ops env o=some true)(eR:o.dst=some d)(hd:Nat.blt d n=true)(aF:o.op= .load t x)(ht:bW P t=some false)(hx:env.ev x=some (.pointer (some ad)))
  (ha: ∀G ae u,GI E G ae u->(G.th i).af=true->G.th i=l->∃dd,G.app ad=some (v,dd)/\(dd= .ro\/(∃k,dd= .dq k/\(G.th i).aP k=true)\/(∃k,dd= .bM k/\(G.th i).run=some k)))
  (h: ∀ae,View l.ai w ae->Tk E N i l ae b n ((d,v)::env) ds (.inRegion ops rest::k) cs):Tk E N i l w b n env ds (.inRegion ops (j::rest)::k) cs:=by
 refine Tk.Wg W.wk (by rw[W.hP];exact hq) ho hw (by rw[eR];exact hd) aF (by rw[W.hP];exact ht) hx fun G ae u hg au ax hv=>?_
 obtain⟨dd,h1,h2⟩:=ha G ae u hg au ax
 refine⟨v,l,false,(hg.m.app _ _ _ h1).1,fun fn pos=>⟨G,⟨⟨hg.a,hg.s,hg.m,hg.k,hg.g,hg.j,hg.more,hg.read fn pos au (by rw[ax];exact aJ) h1 (h2.imp id (.imp id .inl))⟩,ax,fun _ _=>rfl,rfl,fun _ _ _=>View.refl _ _,Nat.le_refl _⟩,⟨fun _ x=>x,rfl⟩,cP,fun e=>by cases e⟩,oE.same (by rw[eR];exact h ae hv)⟩
end Go.Co.F1

namespace Go.Co.F1
open Go Go.Conc Go.Proofs
open Go.Co
open Go.ConcN (upd upd_ne upd_same)
variable{E:Geo}{N i:Nat}{l:Lo}{w:World}
set_option maxRecDepth 10000
@[reducible] def CD:Go.SE.aG:=⟨fun _ _ _ _ _ _ _=>False⟩
theorem Ti: @Go.SE.ExtOk CD E N i l:=fun _ _ _ _ _ _ _ _ _ _ _ _ h=>h.elim
theorem Si{f:FuncId}{args:List Go.SE.T}{pre post:List Go.SE.bd}{res:Go.SE.X}(hP:E.P=Try.prog)(E8: @Go.SE.bo CD Try.prog f args pre res post)(hz: ∀r∈post,Go.SE.Rw r=true)(bP:l.ch= .no)(aJ:l.rel=none){fr:Frame}{cs:List Frame}{ys:List Value}
  (h: ∀G ae t,GI E G ae t->(G.th i).af=true->G.th i=l->View l.ai w ae->∃ (O:Nat->Prop) (sh:Nat->Option (Array Value×TypeId)) (ρ:Go.SE.aZ),
   (∀b,O b->l.ai b/\∃o,ae.heap[b]?=some o/\Go.SE.plainO o=true)/\(∀b c e,sh b=some (c,e)->∀off x,c[off]?=some x->x.oneCell'=true->l.kn ⟨b,off,none⟩=some x)/\
   (∀k r,pre[k]?=some r->Go.SE.bz ρ (Go.SE.lx O sh ae E.w0.tape) k r)/\Go.SE.cD ρ args ys)
  (k: ∀l' du x ρ',Go.SE.X.Rel ρ' res x->(∀k r,post[k]?=some r->Go.SE.bz ρ' du k r/\((ρ' k).nil=false->w.heap.size<=(ρ' k).blk/\l'.ai (ρ' k).blk))->pT l l' w du->Tr E N i l' (Conc.G (fr.finish x) cs) du):
  Tr E N i l (Conc.G (Frame.enter Try.prog f ys.toArray .normal) (fr::cs)) w:=by
 refine @Go.SE.Tr.con CD E N i l w Try.prog hP Ti f (fun _ _ _ h=>h) args pre res post E8 hz fr cs ys bP aJ fun G ae t hg au ax hv=>?_
 obtain⟨O,sh,ρ,h1,h2,h3,h4⟩:=h G ae t hg au ax hv
 refine⟨O,sh,ρ,h1,h2,h3,h4,fun l' du x ρ' hx hp hd he ho hn hs hh=>k l' du x ρ' hx (fun k r hr=>⟨(hp k r hr).1,fun hn=>⟨Nat.le_trans hv.1 ((hp k r hr).2 hn).1,((hp k r hr).2 hn).2⟩⟩) ⟨he,ho,Nat.le_trans hv.1 hs,fun b hb=>?_⟩⟩
 rw[hh b hb (hg.s.old i b au (by rw[ax];exact hb)),hv.2 b hb]
theorem Sj{f:FuncId}{args:List Go.SE.T}{v:Value}(hP:E.P=Try.prog)(E8: @Go.SE.bo CD Try.prog f args [] (.t (.one (.v v))) [])(bP:l.ch= .no)(aJ:l.rel=none){fr:Frame}{cs:List Frame}{ys:List Value}(lW: ∀ρ,Go.SE.cD ρ args ys)
  (k: ∀l' du,pT l l' w du->Tr E N i l' (Conc.G (fr.finish v) cs) du):Tr E N i l (Conc.G (Frame.enter Try.prog f ys.toArray .normal) (fr::cs)) w:=
 Si hP E8 (fun r hr=>by cases hr) bP aJ (fun G ae t hg au ax hv=>⟨fun _=>False,fun _=>none,fun _=>⟨0,0,0,0,false⟩,fun b hb=>hb.elim,fun b c e h=>(by cases h),fun k r h=>by simp at h,lW _⟩)
  fun l' du x ρ' hx _ hk=>by
   have:x=v:=hx.1
   subst this
   exact k l' du hk
noncomputable def VQ:Code:=(Try.f57.body).getD .skip
theorem Sm:ij Try.prog 57 18 VQ #[]:=⟨Try.f57,Try.func57,by decide+kernel,rfl,rfl,rfl⟩
theorem bt9: ∃nt c rs,ij Try.prog 9 nt c rs:=⟨_,_,_,⟨Try.f9,Try.func9,by decide+kernel,rfl,rfl,rfl⟩⟩
theorem Y6:(Try.prog.funcs[57]?).any (·.norace)=false:=by decide+kernel
def _root_.Go.Code.l6:Code->Nat->Option (Array Oper)
 |.region id ops _,m=>if Nat.beq id m then some ops else none
 |.seq a b,m=>(a.l6 m).orElse fun _=>b.l6 m
 |.cond _ a b,m=>(a.l6 m).orElse fun _=>b.l6 m
 |.block _ a,m|.loop a,m|.scope a,m=>a.l6 m
 |_,_=>none
theorem DN{H k:Nat}(hk:k<256):ot H (br H (4+k))=some (.int .u8 0,0):=by
 unfold ot
 rw[if_neg (by intro e;injection e with _ e;omega),if_pos ⟨rfl,by show 4<=4+k;omega,by show 4+k<260;omega,rfl⟩]
section
variable{H B T nj:Nat}{ro:Addr->Option Value}{res:Nat->Int}
theorem HG.bM(c:HG E H B T nj ro res){G:Gh}{t:Trace}(hg:GI E G w t)(au:(G.th i).af=true)(aS:(G.th i).run=some 0):
  G.dn 0=false/\(∃v,G.app (br H 3)=some (.int .i32 v,.bM 0))/\(∀k:Nat,k<256->∃v,G.app (br H (4+k))=some (.int .u8 v,.bM 0))/\∀a v,G.app a≠some (v,.dq 0)/\G.app a≠some (v,.zc 0):=by
 have hd:=(hg.k.run i 0 au aS).2
 have hm:=hg.more
 rw[c.app]at hm
 rcases hm.2.2.1 with x|⟨x,_⟩
 ·exact x
 rw[hd]at x;cases x
theorem tZ.put{app:Addr->Option (Value×Gd)}{dn:Nat->Bool}{cv:Nat->Nat}(h:tZ H T nj ro res app dn cv)(hd:dn 0=false){a:Addr}{v:Value}(v':Value)(ha:app a=some (v,.bM 0))
  (h3:a=br H 3->∃x,v'= .int .i32 x) (h4: ∀k:Nat,k<256->a=br H (4+k)->∃x,v'= .int .u8 x):tZ H T nj ro res (b7 app a (v',.bM 0)) dn cv:=by
 obtain⟨g1,g2,g3,g4⟩:=h
 have cb: ∀b x,app b=some x->x.2≠ .bM 0->b7 app a (v',.bM 0) b=some x:=fun b x hb hx=>by
  unfold b7
  rw[if_neg fun e=>?_]
  ·exact hb
  subst e;rw[ha]at hb;cases hb;exact hx rfl
 refine⟨fun b v hb=>cb _ _ (g1 b v hb) (fun e=>by cases e),fun j hj=>cb _ _ (g2 j hj) (fun e=>by cases e),.inl ?_,g4⟩
 rcases g3 with⟨_,⟨v3,q3⟩,q4,q5⟩|⟨x,_⟩
 ·refine⟨hd,?_,fun k hk=>?_,fun b v=>⟨fun e=>?_,fun e=>?_⟩⟩
  ·by_cases e:br H 3=a
   ·obtain⟨x,rfl⟩:=h3 e.symm
    exact⟨x,by unfold b7;rw[if_pos e]⟩
   exact⟨v3,by unfold b7;rw[if_neg e];exact q3⟩
  ·by_cases e:br H (4+k)=a
   ·obtain⟨x,rfl⟩:=h4 k hk e.symm
    exact⟨x,by unfold b7;rw[if_pos e]⟩
   obtain⟨x,hx⟩:=q4 k hk
   exact⟨x,by unfold b7;rw[if_neg e];exact hx⟩
  ·rcases gI e with⟨_,e⟩|⟨_,e⟩
   ·cases e
   exact(q5 b v).1 e
  rcases gI e with⟨_,e⟩|⟨_,e⟩
  ·cases e
  exact(q5 b v).2 e
 rw[hd]at x;cases x
def Lj(X H k x:Nat):Value:=match x with
 |0=>ptr X 0
 |1|2|4|6|7=>.int .i64 k
 |5|10=>ptr H 0
 |8=>.int .u8 k
 |9=>.int .u8 (S08.ir k)
 |11=>ptr H 4
 |12=>ptr H (4+k)
 |_=>.tuple #[]
structure uO(E:Geo)(i H X k:Nat)(l0 l:Lo)(w0 w:World):Prop where
 mo:Rn E i 0 l0 l w0 w
 box:l.ai X/\w.heap[X]?=some (.cells #[ptr H 0] 41 (0,0))
 Kx: ∀j:Nat,j<k->l.kn (br H (4+j))=some (.int .u8 (S08.ir j))
 made:l.kn (br H 3)=some (.int .i32 0)
theorem uO.EM{X k:Nat}{l0 l':Lo}{w0 w':World}(h:uO E i H X k l0 l w0 w)(hk:pT l l' w w'):uO E i H X k l0 l' w0 w':=
 ⟨h.mo.EM hk,hk.get h.box.1 h.box.2,fun j hj=>by rw[hk.eq];exact h.Kx j hj,by rw[hk.eq];exact h.made⟩
theorem uO.view{X k:Nat}{l0:Lo}{w0 w':World}(h:uO E i H X k l0 l w0 w)(hv:View l.ai w w'):uO E i H X k l0 l w0 w':=h.EM (pT.view hv)
theorem zr{P:Program}{env:Nv}{o:Oper}{t e:TypeId}{m:Nat}{x y:Operand}{b off:Nat}{k:IntKind}{j:Int}(ho:o.op= .indexAddr t x y)(hu:P.underlying t=some (.array m e))(hz:P.cellsOf e=1)(hx:env.ev x=some (.pointer (some ⟨b,off,none⟩)))(hy:env.ev y=some (.int k j))(hj:0<=j/\j<m):
  bR P env o (.pointer (some ⟨b,off+j.toNat,none⟩)):=Ej ho hu hz hx hy hj
theorem uO.go{X k:Nat}{l0 l2:Lo}{w0 w2:World}{L:Array Bool}{ops:Array Oper}{env':Nv}{m:Nat}(hm:8≠m)(h8: ¬Up L 8)(A:uO E i H X k l0 l w0 w)(EH:pT l l2 w w2)(F:eV ops (Lj X H k) [0,1,2] (L.setIfInBounds m true) env'):
  eV ops (Lj X H k) [0,1,2] (L.setIfInBounds m true) env'/\((¬Up (L.setIfInBounds m true) 8/\uO E i H X k l0 l2 w0 w2)\/(Up (L.setIfInBounds m true) 8/\uO E i H X (k+1) l0 l2 w0 w2)):=
 ⟨F,.inl ⟨fun x=>h8 ((oI hm).1 x),A.EM EH⟩⟩
theorem Xb{k:Nat}(h:k<256):S08.byte (k:Int):=⟨by omega,by omega⟩
set_option maxHeartbeats 8000000 in
theorem Wi(c:HG E H B T nj ro res){X k:Nat}{l0:Lo}{w0:World}(hk:k<256){kk:List Item}{cs:List Frame}(A:uO E i H X k l0 l w0 w)
  (h: ∀l' w',uO E i H X (k+1) l0 l' w0 w'->Tk E N i l' w' (base 57) 18 [(0,ptr X 0),(2,.int .i64 k)] [] kk cs) {ops:Array Oper} (A8:VQ.l6 3=some ops):
  Tk E N i l w (base 57) 18 [(1,.int .i64 k),(0,ptr X 0),(2,.int .i64 k)] [] (.code (.region 3 ops true)::kk) cs:=by
 have hP:=c.P
 have hf:=c.fin
 cases A8
 have Wf: ∀l':Lo,l'.ch= .no->ay Try.prog E l' (base 57):=fun l' h=>⟨⟨hf,h,by decide⟩,hP⟩
 refine Tk.free (Wf l A.mo.lk.ch) mixed (I:=fun ops L l' w' env=>eV ops (Lj X H k) [0,1,2] L env/\((¬Up L 8/\uO E i H X k l0 l' w0 w')\/(Up L 8/\uO E i H X (k+1) l0 l' w0 w'))) (by decide+kernel) ?_ ?_ ?_ ?_
 ·refine⟨⟨by simp,fun x hx=>?_,fun m o' d _ _ hu=>absurd hu (fJ _ _)⟩,.inl ⟨fJ _ _,A⟩⟩
  have:x=0\/x=1\/x=2:=by simpa using hx
  rcases this with rfl|rfl|rfl<;>rfl
 ·rintro L l' w' env ⟨F,hs⟩
  refine⟨F.size,Wf l' ?_⟩
  rcases hs with⟨_,hs⟩|⟨_,hs⟩<;>exact hs.mo.lk.ch
 ·rintro L l' w' env j ⟨F,hs⟩ hj dt hu hb rest cC
  have hj9:j<9:=hj
  have AS: ¬Up L 8/\uO E i H X k l0 l' w0 w':=by
   rcases hs with h|⟨h,_⟩
   ·exact h
   have fU:j=0\/j=1\/j=2\/j=3\/j=4\/j=5\/j=6\/j=7\/j=8:=by omega
   have u7:=dt.up h (by rfl) 7 (by rfl)
   have u6:=dt.up u7 (by rfl) 6 (by rfl)
   have u5:=dt.up u6 (by rfl) 5 (by rfl)
   have u4:=dt.up h (by rfl) 4 (by rfl)
   have u3:=dt.up h (by rfl) 3 (by rfl)
   have u2:=dt.up h (by rfl) 2 (by rfl)
   have u1:=dt.up h (by rfl) 1 (by rfl)
   have u0:=dt.up h (by rfl) 0 (by rfl)
   rcases fU with rfl|rfl|rfl|rfl|rfl|rfl|rfl|rfl|rfl<;>exact absurd ‹_› hu
  obtain⟨h8,A⟩:=AS
  have W:ay Try.prog E l' (base 57):=Wf l' A.mo.lk.ch
  have f0:=F.base 0 rfl
  have f1:=F.base 1 rfl
  have rf: ∀ (l:Lo) (w:World),pT l l w w:=fun l w=>pT.view (View.refl _ _)
  have fU:j=0\/j=1\/j=2\/j=3\/j=4\/j=5\/j=6\/j=7\/j=8:=by omega
  rcases fU with rfl|rfl|rfl|rfl|rfl|rfl|rfl|rfl|rfl
  ·refine Tk.gS W.wk (x:=.tmp 0) (ad:=br X 0) (v:=ptr H 0) A.mo.lk.rel (by rfl) (by rfl) (by rfl) (by rfl) (by rw[hP];rfl) f0 A.box.1 (by unfold World.cell?;rw[A.box.2];rfl) ?_
   exact cC _ _ _ (uO.go (m:=0) (by decide) h8 A (rf _ _) (F.step (j:=0) (d:=5) (by rfl) rfl rfl))
  ·refine Tk.pure W.wk (by rfl) (by rfl) (by rfl) (aa (x:=.tmp 1) (.inl rfl) f1) ?_
   exact cC _ _ _ (uO.go (m:=1) (by decide) h8 A (rf _ _) (F.step (j:=1) (d:=6) (by rfl) rfl rfl))
  ·refine Tk.pure W.wk (by rfl) (by rfl) (by rfl) (aa (x:=.tmp 1) (.inl rfl) f1) ?_
   exact cC _ _ _ (uO.go (m:=2) (by decide) h8 A (rf _ _) (F.step (j:=2) (d:=7) (by rfl) rfl rfl))
  ·have g:=F.get (j:=2) (d:=7) (by rfl) rfl (bN hb (by rfl) 2 (by rfl))
   refine Tk.pure W.wk (by rfl) (by rfl) (by rfl) (by rw[hP];exact fM (x:=.tmp 7) (k:=.u8) (k':=.i64) (p:=k) rfl g (by rfl) (by rfl)) ?_
   refine cC _ _ _ (uO.go (m:=3) (by decide) h8 A (rf _ _) (F.step (j:=3) (d:=8) (by rfl) rfl ?_))
   show Value.int .u8 (IntKind.u8.wrap (k:Int))= .int .u8 k
   congr 1
   rw[IntKind.wrap_u8];omega
  ·have g:=F.get (j:=3) (d:=8) (by rfl) rfl (bN hb (by rfl) 3 (by rfl))
   obtain⟨X5,c9,X0,b9⟩:=bt9
   refine Tk.call W.wk (vs:= [.int .u8 k]) (by rfl) (by rfl) (by rfl) (by rfl) (hP▸b9) (by show eD env [.tmp 8]=_;unfold eD;rw[show env.ev (.tmp 8)=_ from g];rfl) fun rM oA=>?_
   rw[hP]
   refine Sj (l:=l') hP (@S08.oZ CD _ (Xb hk)) A.mo.lk.ch A.mo.lk.rel (ys:= [.int .u8 k]) (fun ρ=>⟨⟨rfl,rfl⟩,trivial⟩) fun l2 w2 EH=>oA _ _ _ (cC _ _ _ (uO.go (m:=4) (by decide) h8 A EH (F.step (j:=4) (d:=9) (by rfl) rfl rfl)))
  ·have g:=F.get (j:=0) (d:=5) (by rfl) rfl (bN hb (by rfl) 0 (by rfl))
   refine Tk.pure W.wk (by rfl) (by rfl) (by rfl) (ak (x:=.tmp 5) rfl g) ?_
   exact cC _ _ _ (uO.go (m:=5) (by decide) h8 A (rf _ _) (F.step (j:=5) (d:=10) (by rfl) rfl rfl))
  ·have g:=F.get (j:=5) (d:=10) (by rfl) rfl (bN hb (by rfl) 5 (by rfl))
   refine Tk.pure W.wk (by rfl) (by rfl) (by rfl) (by rw[hP];exact av (x:=.tmp 10) rfl g (by rfl) rfl (by decide+kernel)) ?_
   exact cC _ _ _ (uO.go (m:=6) (by decide) h8 A (rf _ _) (F.step (j:=6) (d:=11) (by rfl) rfl rfl))
  ·have g:=F.get (j:=6) (d:=11) (by rfl) rfl (bN hb (by rfl) 6 (by rfl))
   have g1:=F.get (j:=1) (d:=6) (by rfl) rfl (bN hb (by rfl) 1 (by rfl))
   refine Tk.pure W.wk (by rfl) (by rfl) (by rfl) (by rw[hP];exact zr (x:=.tmp 11) (y:=.tmp 6) (b:=H) (off:=4) (k:=.i64) (j:=k) (m:=256) (e:=5) rfl (by rfl) (by decide+kernel) g g1 (by omega)) ?_
   refine cC _ _ _ (uO.go (m:=7) (by decide) h8 A (rf _ _) (F.step (j:=7) (d:=12) (by rfl) rfl ?_))
   rfl
  have g:=F.get (j:=7) (d:=12) (by rfl) rfl (bN hb (by rfl) 7 (by rfl))
  have g9:=F.get (j:=4) (d:=9) (by rfl) rfl (bN hb (by rfl) 4 (by rfl))
  refine Tk.Mb W.wk (x:=.tmp 12) (y:=.tmp 9) (ad:=br H (4+k)) (v:=.int .u8 (S08.ir k)) (by rw[hP];exact Y6) (by rfl) (by rfl) (by rfl) (by rfl) (by rw[hP];exact⟨_,by rfl,by rfl⟩) rfl rfl g g9 fun G ae u hg au ax hv=>?_
  obtain⟨hd,_,h4,_⟩:=c.bM hg au (by rw[ax];exact A.mo.run)
  obtain⟨v0,Xr⟩:=h4 k hk
  obtain⟨q1,q2,_⟩:=hg.m.app _ _ _ Xr
  refine⟨_,{l' with kn:=cX l'.kn (br H (4+k)) (.int .u8 (S08.ir k))},q1,q2,fun fn pos=>?_,?_⟩
  ·obtain⟨G',d,cc,_⟩:=hg.Ju (.int .u8 (S08.ir k)) fn pos au (by rw[ax];exact A.mo.lk.rel) (by rw[ax];exact A.mo.run) Xr (by
    have hm:=hg.more
    rw[c.app]at hm ⊢
    exact hm.put hd _ Xr (fun e=>by injection e with _ e;omega) fun _ _ _=>⟨_,rfl⟩)
   rw[ax]at d
   exact⟨G',d,cc,A.mo.lk.af⟩
  have T3:View l'.ai w' (ae.setCell (br H (4+k)) (.int .u8 (S08.ir k))):=hv.trans ⟨by rw[aD];exact Nat.le_refl _,fun b hb=>cS ae _ _ fun e=>hg.gY Xr i au (by rw[ax];rw[show(br H (4+k)).block=b from e];exact hb)⟩
  have A2:=A.view T3
  refine cC _ _ _ ⟨F.none (j:=8) (by rfl) rfl,.inr ⟨Ll (by rw[F.size];exact hj),⟨⟨⟨A2.mo.lk.i0,A2.mo.lk.kK,A2.mo.lk.af,A2.mo.lk.mr,A2.mo.lk.ch,A2.mo.lk.gr,A2.mo.lk.rel,rfl⟩,A2.mo.run,A2.mo.deaf,⟨A2.mo.kept.bZ,A2.mo.kept.wk,A2.mo.kept.me,A2.mo.kept.sc⟩,A2.mo.ai,A2.mo.size,A2.mo.heap,fun a v hi hv=>?_⟩,A2.box,fun j hj=>?_,?_⟩⟩⟩
  ·show cX l'.kn _ _ a=some v
   unfold cX
   rw[if_neg fun e=>?_]
   ·exact A2.mo.kn a v hi hv
   rw[e,c.qU,DN hk]at hi;cases hi
  ·show cX l'.kn _ _ _=_
   unfold cX
   by_cases e:j=k
   ·subst e;rw[if_pos rfl]
   rw[if_neg (by intro x;injection x with _ x;omega)]
   exact A2.Kx j (by omega)
  show cX l'.kn _ _ _=_
  unfold cX
  rw[if_neg (by intro x;injection x with _ x;omega)]
  exact A2.made
 rintro L l' w' env ⟨F,hs⟩ dK
 rcases hs with⟨x,_⟩|⟨_,A⟩
 ·exact absurd (dK 8 (by decide)) x
 exact Tk.sub (h l' w' A) (bp.sub ⟨F.base 0 rfl,F.base 2 rfl,trivial⟩)
end
end Go.Co.F1

namespace Go.Co.F1
open Go Go.Conc Go.Proofs
open Go.Co
open Go.ConcN (upd upd_ne upd_same)
variable{E:Geo}{N i:Nat}{l:Lo}{w:World}
set_option maxRecDepth 10000
noncomputable def Z6:Code:=(Try.f58.body).getD .skip
theorem Sl:ij Try.prog 58 10 Z6 #[.tmp 4]:=⟨Try.f58,Try.func58,by decide+kernel,rfl,rfl,rfl⟩
theorem Z3:je Try.prog 74 (Extern.Atomic.update (Op.intArith .add) .i32 true):=⟨Try.f74,Try.func74,by decide+kernel,rfl,by rfl,by rfl⟩
section
variable{H B T nj:Nat}{ro:Addr->Option Value}{res:Nat->Int}
theorem Xc(c:HG E H B T nj ro res){X:Nat}{l0:Lo}{w0:World}(A:uO E i H X 256 l0 l w0 w){fr:Frame}{cs:List Frame}
  (h: ∀l' w',Rn E i 0 l0 l' w0 w'->(∀j:Nat,j<256->l'.kn (br H (4+j))=some (.int .u8 (S08.ir j)))->l'.kn (br H 3)=some (.int .i32 1)->Tr E N i l' (Conc.G (fr.finish (.int .i32 1)) cs) w'):
  Tr E N i l (Conc.G (Frame.enter Try.prog 58 #[ptr H 3,.int .i32 1] .normal) (fr::cs)) w:=by
 have hP:=c.P
 have W:ay Try.prog E l (base 58):=⟨⟨c.fin,A.mo.lk.ch,by decide⟩,hP⟩
 refine Tr.ck hP Sl (Nat.le_of_ble_eq_true rfl) ?_
 (repeat(first|refine ah.dn W ?_|refine ah.pS W (hp:=by first|exact aa (.inl rfl) rfl|exact aa (.inr rfl) rfl|exact ak rfl rfl|exact av rfl rfl (by rfl) rfl (by decide+kernel)) (h:=?_)|refine Tk.seq (ay.wk W) ?_|refine Tk.reg W ?_))
 refine ah.CU W (kk:=.i32) (ad:=br H 3) (d:=1) (by rfl) (by rfl) (by rfl) (by rfl) Z3 (by rfl) rfl fun G ae t hg au ax hv=>?_
 obtain⟨hd,⟨v,gh⟩,_,_⟩:=c.bM hg au (by rw[ax];exact A.mo.run)
 obtain⟨q1,q2,_⟩:=hg.m.app _ _ _ gh
 obtain⟨d,k1,_⟩:=hg.k.kn i _ _ au (by rw[ax];exact A.made)
 rw[gh]at k1
 simp only[Option.some.injEq,Prod.mk.injEq,Value.int.injEq,true_and]at k1
 obtain⟨rfl,_⟩:=k1
 have T3:View l.ai w (ae.setCell (br H 3) (.int .i32 1)):=hv.trans ⟨by rw[aD];exact Nat.le_refl _,fun b hb=>cS ae _ _ fun e=>hg.gY gh i au (by rw[ax];rw[show(br H 3).block=b from e];exact hb)⟩
 have A2:=A.view T3
 have e1:IntKind.i32.wrap (0+1)=1:=by decide
 have W2:ay Try.prog E {l with kn:=cX l.kn (br H 3) (.int .i32 1)} (base 58):=⟨⟨c.fin,A.mo.lk.ch,by decide⟩,hP⟩
 refine⟨0,{l with kn:=cX l.kn (br H 3) (.int .i32 1)},false,q1,q2,fun fn pos=>?_,cd.same (ah.bx ?_)⟩
 ·obtain⟨G',d,cc,_⟩:=hg.Pj (.int .i32 1) fn pos au (by rw[ax];exact A.mo.lk.rel) (by rw[ax];exact A.mo.run) gh (by
   have hm:=hg.more
   rw[c.app]at hm ⊢
   exact hm.put hd _ gh (fun _=>⟨_,rfl⟩) fun k _ e=>by injection e with _ e;omega)
  rw[ax]at d
  rw[e1]
  exact⟨G',d,.inl rfl,A.mo.lk.af,fun e=>by cases e⟩
 rw[e1]
 (repeat(first|refine ah.dn W2 ?_|refine ah.pS W2 (hp:=by exact aa (.inr rfl) rfl) (h:=?_)))
 refine Tk.ret W2.wk (fE.leave1 W2.wk (hP▸Sl) rfl (h _ _ ⟨⟨A2.mo.lk.i0,A2.mo.lk.kK,A2.mo.lk.af,A2.mo.lk.mr,A2.mo.lk.ch,A2.mo.lk.gr,A2.mo.lk.rel,rfl⟩,A2.mo.run,A2.mo.deaf,⟨A2.mo.kept.bZ,A2.mo.kept.wk,A2.mo.kept.me,A2.mo.kept.sc⟩,A2.mo.ai,A2.mo.size,A2.mo.heap,fun a v hi hv=>?_⟩ (fun j hj=>?_) ?_))
 ·show cX l.kn _ _ a=some v
  unfold cX
  rw[if_neg fun e=>?_]
  ·exact A2.mo.kn a v hi hv
  rw[e,c.qU]at hi;unfold ot at hi;rw[if_pos rfl]at hi;cases hi
 ·show cX l.kn _ _ _=_
  unfold cX
  rw[if_neg (by intro x;injection x with _ x;omega)]
  exact A2.Kx j hj
 show cX l.kn _ _ _=_
 unfold cX
 rw[if_pos rfl]
def oW(app:Addr->Option (Value×Gd)):Addr->Option (Value×Gd):=fun a=>match app a with
 |some (v,.bM 0)=>some (v,.dq 0)
 |x=>x
theorem lK{app:Addr->Option (Value×Gd)}{a:Addr}{v:Value}(h:app a=some (v,.bM 0)):oW app a=some (v,.dq 0):=by unfold oW;rw[h];rfl
theorem lL{app:Addr->Option (Value×Gd)}{a:Addr}{v:Value}{d:Gd}(h:app a=some (v,d))(hd:d≠ .bM 0):oW app a=some (v,d):=by
 unfold oW
 rw[h]
 cases d with
 |bM k=>cases k with
  |zero=>exact absurd rfl hd
  |succ k=>rfl
 |_=>rfl
theorem Au{app:Addr->Option (Value×Gd)}{a:Addr}{v:Value}{d:Gd}(h:oW app a=some (v,d)):(app a=some (v,.bM 0)/\d= .dq 0)\/(app a=some (v,d)/\d≠ .bM 0):=by
 cases hx:app a with
 |none=>unfold oW at h;rw[hx]at h;cases h
 |some p=>
  obtain⟨v',d'⟩:=p
  by_cases e:d'= .bM 0
  ·subst e
   rw[lK hx]at h
   cases h
   exact .inl ⟨rfl,rfl⟩
  rw[lL hx e]at h
  cases h
  exact .inr ⟨rfl,e⟩
theorem Wh(c:HG E H B T nj ro res){G:Gh}{t:Trace}(hg:GI E G w t)(au:(G.th i).af=true)(aS:(G.th i).run=some 0)(Zu: ∀j:Nat,j<256->(G.th i).kn (br H (4+j))=some (.int .u8 (S08.ir j)))(WN:(G.th i).kn (br H 3)=some (.int .i32 1)):
  ∃PB app',z7 G w i 0 PB app'/\E.App app' (upd G.dn 0 true) G.cv/\(∀b,PB b->¬l.ai b)/\∀a v,app' a≠some (v,.zc 0):=by
 obtain⟨hd,⟨v3,gh⟩,h4,h5⟩:=c.bM hg au aS
 have wc: ∀a v,oW G.app a≠some (v,.zc 0):=fun a v e=>by
  rcases Au e with⟨_,e⟩|⟨e,_⟩
  ·cases e
  exact(h5 a v).2 e
 refine⟨fun _=>False,oW G.app,⟨fun b hb=>hb.elim,fun a v d ha=>?_,fun a v d ha=>?_⟩,?_,fun b hb=>hb.elim,wc⟩
 ·rcases Au ha with⟨h1,rfl⟩|⟨h1,h2⟩
  ·exact .inr ⟨.inl rfl,.inl h1⟩
  exact .inl ⟨⟨h2,fun e=>(h5 a v).1 (e▸h1),fun e=>(h5 a v).2 (e▸h1)⟩,h1⟩
 ·by_cases e:d= .bM 0
  ·subst e;exact .inr ⟨rfl,.inl (lK ha)⟩
  exact .inl ⟨e,lL ha e⟩
 have hm:=hg.more
 rw[c.app]at hm ⊢
 obtain⟨g1,g2,_,g4⟩:=hm
 refine⟨fun a v ha=>lL (g1 a v ha) (fun e=>by cases e),fun j hj=>lL (g2 j hj) (fun e=>by cases e),.inr ⟨upd_same _ _ _,?_,fun k hk=>?_⟩,⟨fun _=>upd_same _ _ _,fun _=>c.pos⟩⟩
 ·obtain⟨d,k1,_⟩:=hg.k.kn i _ _ au WN
  rw[gh]at k1
  simp only[Option.some.injEq,Prod.mk.injEq]at k1
  rw[lK gh,k1.1]
 obtain⟨v,hv⟩:=h4 k hk
 obtain⟨d,k1,_⟩:=hg.k.kn i _ _ au (Zu k hk)
 rw[hv]at k1
 simp only[Option.some.injEq,Prod.mk.injEq]at k1
 rw[lK hv,k1.1]
set_option maxHeartbeats 4000000 in
theorem Tj(c:HG E H B T nj ro res){X:Nat}(A:Lk E i 0 l none)(fD:l.deaf=0)(hX:l.ai X/\w.heap[X]?=some (.cells #[ptr H 0] 41 (0,0))){w':World}(hv:View l.ai w w'){fr:Frame}{cs:List Frame}
  (hM: ∀l2 w2,QV E i 0 l l2 w w2->Tr E N i l2 (Conc.G (fr.finish (.tuple #[])) cs) w2):
  Tr E N i ((l.mu 0 (some .held) none).begin E 0) (Conc.G (Frame.enter Try.prog 57 #[ptr X 0] .normal) (fr::cs)) w':=by
 have hP:=c.P
 have hf:=c.fin
 have Wf: ∀l':Lo,l'.ch= .no->ay Try.prog E l' (base 57):=fun l' h=>⟨⟨hf,h,by decide⟩,hP⟩
 have M0:Rn E i 0 l ((l.mu 0 (some .held) none).begin E 0) w w':=⟨⟨A.i0,A.kK,A.af,rfl,A.ch,A.gr,A.rel,rfl⟩,rfl,fD,⟨rfl,rfl,rfl,rfl⟩,fun _ h=>h,hv.1,hv.2,fun a v hi hk=>Nj hi hk⟩
 have I0:uO E i H X 0 l ((l.mu 0 (some .held) none).begin E 0) w w':=by
  refine⟨M0,⟨hX.1,by rw[hv.2 X hX.1];exact hX.2⟩,fun j hj=>absurd hj (Nat.not_lt_zero _),?_⟩
  show E.wa 0 l.kn (br H 3)=_
  unfold Geo.wa
  rw[c.qU]
  unfold ot
  rw[if_pos rfl]
  rfl
 generalize((l.mu 0 (some .held) none).begin E 0)=l1 at I0 M0
 have W:=Wf l1 M0.lk.ch
 refine Tr.ck hP Sm (Nat.le_of_ble_eq_true rfl) ?_
 (repeat(first|refine ah.dn W ?_|refine ah.pS W (hp:=by exact aa (.inl rfl) rfl) (h:=?_)|refine Tk.seq (ay.wk W) ?_|refine Tk.reg W ?_|refine Tk.block (ay.wk W) ?_))
 refine Tk.loop W.wk ?_
 refine Tk.cut fun K hK=>?_
 have HH: ∀d k l1 w1,d=256-k->k<=256->uO E i H X k l l1 w w1->Tk E N i l1 w1 (base 57) 18 [(0,ptr X 0),(2,.int .i64 (k:Int))] [] K (fr::cs):=by
  intro d
  induction d with
  |zero=>
   intro k l1 w1 hd hk I
   obtain rfl:k=256:=by omega
   have W:=Wf l1 I.mo.lk.ch
   rw[hK]
   (repeat(first|refine ah.dn W ?_|refine ah.pS W (hp:=by exact al rfl rfl rfl rfl) (h:=?_)|refine Tk.seq (ay.wk W) ?_|refine Tk.reg W ?_|refine Tk.bC (ay.wk W) rfl ?_|refine Tk.exit (ay.wk W) rfl ?_))
   refine ah.open (by rfl) (Tk.gS W.wk (x:=.tmp 0) (ad:=br X 0) (v:=ptr H 0) I.mo.lk.rel (by rfl) (by rfl) (by rfl) (by rfl) (by rw[hP];rfl) rfl I.box.1 (by unfold World.cell?;rw[I.box.2];rfl) ?_)
   refine Tk.lay (rfl:Nv.put _ _ _=(_,_)::_) ?_
   show ah _ _ _ _ _ _ _ _ _ _ 1 _ _
   (repeat(refine ah.pS W (hp:=by first|exact ak rfl rfl|exact av rfl rfl (by rfl) rfl (by decide+kernel)) (h:=?_)))
   refine ah.call W (by rfl) (by rfl) (by rfl) (by rfl) Sl rfl fun GW oC=>?_
   refine Xc c I fun l2 w2 M2 ht hm=>oC _ _ _ (ah.bx ?_)
   have W2:=Wf l2 M2.lk.ch
   (repeat(refine ah.dn W2 ?_))
   refine Tk.ji W2.wk (fE.leave0 W2.wk (hP▸Sm) (hM l2 w2 ⟨M2,fun G ae t hg au ax hv=>?_⟩))
   exact Wh c hg au (by rw[ax];exact M2.run) (by rw[ax];exact ht) (by rw[ax];exact hm)
  |succ d ih=>
   intro k l1 w1 hd hk I
   have bA:k<256:=by omega
   have W:=Wf l1 I.mo.lk.ch
   rw[hK]
   refine Tk.seq W.wk ?_
   refine Tk.reg W ?_
   refine ah.pS W (hp:=by(exact al rfl rfl rfl rfl)) (h:=?_)
   refine ah.dn W ?_
   refine Tk.seq W.wk ?_
   refine Tk.cp W.wk (congrArg (fun b=>some (Value.bool b)) (decide_eq_true (show(k:Int)<256 by omega))) ?_
   (repeat(first|refine ah.dn W ?_|refine ah.pS W (hp:=by first|exact aa (.inl rfl) rfl|exact aa (.inr rfl) rfl) (h:=?_)|refine Tk.seq (ay.wk W) ?_|refine Tk.reg W ?_|refine Tk.skip (ay.wk W) ?_|refine Tk.block (ay.wk W) ?_))
   refine Tk.sub (env':= [(1,.int .i64 (k:Int)),(0,ptr X 0),(2,.int .i64 (k:Int))]) ?_ (bp.sub ⟨rfl,rfl,rfl,trivial⟩)
   refine Wi c bA I (fun l2 w2 I2=>?_) (by rfl)
   have W2:=Wf l2 I2.mo.lk.ch
   refine Tk.inBlock W2.wk ?_
   refine Tk.reg W2 ?_
   refine ah.pS W2 (hp:=by(exact al rfl rfl rfl rfl)) (h:=?_)
   have e1:IntKind.i64.wrap ((k:Int)+1)=((k+1:Nat):Int):=by rw[IntKind.wrap_i64];omega
   rw[e1]
   (repeat(first|refine ah.dn W2 ?_|refine ah.pS W2 (hp:=by exact aa (.inl rfl) rfl) (h:=?_)))
   refine Tk.inLoop W2.wk ?_
   rw[<-hK]
   exact Tk.sub (ih (k+1) l2 w2 (by omega) (by omega) I2) (bp.sub ⟨rfl,rfl,trivial⟩)
 exact Tk.sub (HH 256 0 l1 w' rfl (by omega) I0) (bp.sub ⟨rfl,rfl,trivial⟩)
end
end Go.Co.F1

namespace Go.Proofs.S08
open Go Go.SE
set_option maxRecDepth 100000
set_option linter.all false
set_option maxHeartbeats 4000000
attribute [local irreducible] dx
variable [aG]
theorem JO{s:Int}(hs:byte s){l:List Int}(hl:Bytes l){off n:Nat}(hn:off+n<=l.length)(hm:l.length<=1000000):bo Try.prog 12 [.one (.v (.int .u8 s)),.one (.sl 0 off n)] [.row (ints .u8 l) 1 5 false] (.t (.one (.v (.int .u8 (y7 s (sub l off n)))))) []:=by
 have hL:=Ni hs hl hn hm
 refine bg rfl ?_
 refine az Try.func12 rfl rfl ?_
 intro _
 repeat' (refine cL ?_;refine e9 (hL) (cZ rfl) (by exact⟨⟨_,rfl,rfl,rfl⟩,trivial⟩) rfl ?_;intro u;clear u)
 (refine dk ?_ rfl;intro u;clear u;refine⟨rfl,rfl,bO.mk ?_ ?_⟩<;>(repeat' (first|exact trivial|(with_reducible rfl)|apply And.intro|rfl)))
theorem FJ{s:Int}(hs:byte s){l:List Int}(hl:Bytes l)(hn:l.length<=1000000)(off n:Nat)(ho:off=0)(Yl:n=l.length):bo Try.prog 12 [.one (.v (.int .u8 s)),.one (.sl 0 off n)] [.row (ints .u8 l) 1 5 false] (.t (.one (.v (.int .u8 (y7 s l))))) []:=by
 subst ho Yl
 have:=JO hs hl (off:=0) (n:=l.length) (by omega) hn
 rwa [OY]at this
theorem At{s:Int}(hs:byte s){l:List Int}(hl:Bytes l)(hn:l.length<=1000000)(n:Nat)(Yl:n=l.length):bo Try.prog 25 [.one (.v (.int .u8 s)),.one (.sl 0 0 n)] [.row (ints .u8 l) 1 5 false] (.t (.one (.v (.int .u8 (y7 s l))))) []:=by
 subst Yl
 refine bg rfl ?_
 refine az Try.func25 rfl rfl ?_
 intro _
 refine mI (fun k:Nat=>l.length-k) (fun k=>k<=l.length) [1] (fun k=> [(0,.t (.one (.v (.int .u8 (y7 s (l.take k)))))),(5,.t (.one (.v (.int .i64 k))))]) (fun k=> []) (fun _=> []) [] 0 0 (Nat.zero_le _) ?_ ?_
 ·(intro u;clear u;refine⟨rfl,rfl,bO.mk ?_ ?_⟩<;>(repeat' (first|exact trivial|(with_reducible rfl)|apply And.intro|rfl)))
 intro k hk u
 clear u
 have ha:=mE hs (nK hl k)
 have hx:=qe hl k
 obtain⟨a1,a2⟩:=ha
 obtain⟨x1,x2⟩:=hx
 have hT:=Ei (sj ⟨a1,a2⟩ ⟨x1,x2⟩)
 repeat' (first|(refine kM ?_;refine Fo (fun g=>?_) (fun g=>?_)<;>(intro u;clear u))|(refine dz ?_;(first|(refine fK ?_;(first|(refine asked (xr _ _) (Bc rfl (by omega) (by simp only[hi];omega) (by omega) (by simp only[hi];omega)) ?_)|(with_reducible refine asked _ (xj (by simp only[lo,hi];omega) (by simp only[lo,hi];omega)) ?_)))|refine asked () ⟨by omega,by omega⟩ ?_|refine asked _ (PC (by omega)) ?_);intro u;clear u)|(refine cL ?_;refine e9 (hT) (cZ rfl) (by exact trivial) rfl ?_;intro u;clear u))
 ·refine again (k+1) (by omega) (by omega) ?_
  (intro u;clear u;refine⟨rfl,rfl,bO.mk ?_ ?_⟩<;>(repeat' (first|exact trivial|(with_reducible rfl)|apply And.intro|rfl)))
  all_goals exact(sQ (by omega)).symm
 (refine dk ?_ rfl;intro u;clear u;refine⟨rfl,rfl,bO.mk ?_ ?_⟩<;>(repeat' (first|exact trivial|(with_reducible rfl)|apply And.intro|rfl)))
 rw[List.take_of_length_le (by omega)]
def jO(t:Tu):Int:=y7 0 (y9 t)
theorem p6(t:Tu):byte (jO t):=mE ⟨by decide,by decide⟩ (iC t)
theorem Hz{t:Tu}(h:t.Wf):bo Try.prog 16 [N6 t] [] (.t (.one (.v (.int .u8 (jO t))))) []:=by
 have h1:=py h
 have h2:=FJ (s:=0) ⟨by decide,by decide⟩ (iC t) (by rw[pU];decide) 0 12 rfl rfl
 refine bg rfl ?_
 refine az Try.func16 rfl rfl ?_
 intro _
 repeat' (refine cL ?_;(first|refine e9 (h1) (cZ rfl) (by exact trivial) rfl ?_|refine BY (by(repeat' (first|exact trivial|apply And.intro|exact rfl));(first|done|fail)) (h2) (by exact⟨⟨_,rfl,rfl,rfl⟩,trivial⟩) rfl ?_);intro u;clear u)
 (refine dk ?_ rfl;intro u;clear u;refine⟨rfl,rfl,bO.mk ?_ ?_⟩<;>(repeat' (first|exact trivial|(with_reducible rfl)|apply And.intro|rfl)))
theorem Bj{t:Tu}(h:t.Wf):bo Try.prog 15 [N6 t] [] (.t (.one (.v (.int .i64 (aW (jO t)))))) []:=by
 have h1:=Hz h
 have h2:=rF (p6 t)
 refine bg rfl ?_
 refine az Try.func15 rfl rfl ?_
 intro _
 repeat' (refine cL ?_;(first|refine e9 (h1) (cZ rfl) (by exact trivial) rfl ?_|refine e9 (h2) (cZ rfl) (by exact trivial) rfl ?_);intro u;clear u)
 (refine dk ?_ rfl;intro u;clear u;refine⟨rfl,rfl,bO.mk ?_ ?_⟩<;>(repeat' (first|exact trivial|(with_reducible rfl)|apply And.intro|rfl)))
theorem MW{t u:Tu}(h:t.Wf)(g:u.Wf):bo Try.prog 17 [N6 t,N6 u] [] (.t (.one (.b (aW (jO t)=aW (jO u))))) []:=by
 have h1:=Bj h
 have h2:=Bj g
 refine bg rfl ?_
 refine az Try.func17 rfl rfl ?_
 intro _
 repeat' (first|(refine nu ?_;refine qg mixed (by kernel_rfl) ?_;intro u;clear u)|(refine pf ?_;(first|refine eO (h1) (cZ rfl) (by exact trivial) rfl ?_|refine eO (h2) (cZ rfl) (by exact trivial) rfl ?_);intro u;clear u))
 (refine dk ?_ rfl;intro u;clear u;refine⟨rfl,rfl,bO.mk ?_ ?_⟩<;>(repeat' (first|exact trivial|(with_reducible rfl)|apply And.intro|rfl)))
theorem Gf{t:Tu}(h:t.Wf):bo Try.prog 26 [N6 t] [] (.t (.one (.v (.int .u8 (jO t))))) []:=by
 have h1:=Jr h
 have h2:=At (s:=0) ⟨by decide,by decide⟩ (iC t) (by rw[pU];decide) 12 rfl
 refine bg rfl ?_
 refine az Try.func26 rfl rfl ?_
 intro _
 repeat' (refine cL ?_;(first|refine e9 (h1) (cZ rfl) (by exact trivial) rfl ?_|refine BY (by(repeat' (first|exact trivial|apply And.intro|exact rfl));(first|done|fail)) (h2) (by exact⟨⟨_,rfl,rfl,rfl⟩,trivial⟩) rfl ?_);intro u;clear u)
 (refine dk ?_ rfl;intro u;clear u;refine⟨rfl,rfl,bO.mk ?_ ?_⟩<;>(repeat' (first|exact trivial|(with_reducible rfl)|apply And.intro|rfl)))
theorem Js{t:Tu}(h:t.Wf):bo Try.prog 22 [N6 t] [] (.t (.one (.v (.int .i64 (aW (jO t)))))) []:=by
 have h1:=Gf h
 obtain⟨n,hn,bA⟩:=gg (p6 t)
 rw[hn]at h1 ⊢
 refine bg rfl ?_
 refine az Try.func22 rfl rfl ?_
 intro _
 repeat' (first|(refine dz ?_;(first|(refine fK ?_;(first|(refine asked _ (HJ _ _ (by decide)) ?_)|(refine asked _ (HI _ _ (by decide)) ?_)|(refine asked _ (HE _ _ _) ?_)))|(refine nq ?_;refine asked _ (dM (by simp only[lo,hi];omega) (by simp only[lo,hi];omega)) ?_));intro u;clear u)|(refine cL ?_;refine e9 (h1) (cZ rfl) (by exact trivial) rfl ?_;intro u;clear u))
 (refine dk ?_ rfl;intro u;clear u;refine⟨rfl,rfl,bO.mk ?_ ?_⟩<;>(repeat' (first|exact trivial|(with_reducible rfl)|apply And.intro|rfl)))
 clear h1 hn h;revert n;decide+kernel
end Go.Proofs.S08

namespace Go.Co.F1
open Go Go.Conc Go.Proofs
open Go.Co
open Go.ConcN (upd upd_ne upd_same)
variable{E:Geo}{N i:Nat}{l:Lo}{w:World}
set_option maxRecDepth 10000
noncomputable def Z9:Code:=(Try.f38.body).getD .skip
theorem Sn:ij Try.prog 38 9 Z9 #[.tmp 2]:=⟨Try.f38,Try.func38,by decide+kernel,rfl,rfl,rfl⟩
noncomputable def VS:Code:=(Try.f21.body).getD .skip
theorem Sr:ij Try.prog 21 13 VS #[.tmp 4]:=⟨Try.f21,Try.func21,by decide+kernel,rfl,rfl,rfl⟩
theorem zag: ∃nt c rs,ij Try.prog 36 nt c rs:=⟨_,_,_,⟨Try.f36,Try.func36,by decide+kernel,rfl,rfl,rfl⟩⟩
theorem zai: ∃nt c rs,ij Try.prog 32 nt c rs:=⟨_,_,_,⟨Try.f32,Try.func32,by decide+kernel,rfl,rfl,rfl⟩⟩
theorem zah: ∃nt c rs,ij Try.prog 35 nt c rs:=⟨_,_,_,⟨Try.f35,Try.func35,by decide+kernel,rfl,rfl,rfl⟩⟩
theorem iD{ae:World}{ob:Obj}{r:Nat}(hr:r=ae.heap.size):({ae with heap:=ae.heap.push ob}:World).heap[r]?=some ob:=by subst hr;simp
theorem sM{ae:World}{ob:Obj}{r:Nat}(hv:View l.ai w ae)(hr:r=ae.heap.size)(hold: ∀b,l.ai b->b<w.heap.size):pT l (l.grow r (r+1)) w {ae with heap:=ae.heap.push ob}:=by
 refine⟨rfl,fun b hb=>.inl hb,?_,fun b hb=>?_⟩
 ·show w.heap.size<=(ae.heap.push ob).size
  rw[Array.size_push];exact Nat.le_succ_of_le hv.1
 have bA:b<ae.heap.size:=Nat.lt_of_lt_of_le (hold b hb) hv.1
 show(ae.heap.push ob)[b]?=_
 rw[Array.getElem?_push,if_neg (by omega),hv.2 b hb]
theorem oR.pre{k:Nat}{l1 l2:Lo}{w1 w2:World}(h:pT l l1 w w1)(t:oR E i k l1 l2 w1 w2):oR E i k l l2 w w2:=by
 have e:=h.eq
 refine⟨t.lk,t.deaf,t.aP,?_,fun b hb=>t.ai b (h.ai b hb),Nat.le_trans h.size t.size,fun b hb=>(t.heap b (h.ai b hb)).trans (h.heap b hb),fun a v hi hv=>t.kn a v hi (by rw[e];exact hv)⟩
 have k1:=t.kept
 rw[e]at k1
 exact⟨k1.bZ,k1.wk,k1.me,k1.sc⟩
theorem oR.post{k:Nat}{l1 l2:Lo}{w1 w2:World}(t:oR E i k l l1 w w1)(h:pT l1 l2 w1 w2):oR E i k l l2 w w2:=by
 have e:=h.eq
 refine⟨?_,by rw[e];exact t.deaf,by rw[e];exact t.aP,?_,fun b hb=>h.ai b (t.ai b hb),Nat.le_trans t.size h.size,fun b hb=>(h.heap b (t.ai b hb)).trans (t.heap b hb),fun a v hi hv=>by rw[e];exact t.kn a v hi hv⟩
 ·rw[e];exact⟨t.lk.i0,t.lk.kK,t.lk.af,t.lk.mr,t.lk.ch,t.lk.gr,t.lk.rel,t.lk.run⟩
 rw[e];exact⟨t.kept.bZ,t.kept.wk,t.kept.me,t.kept.sc⟩
def NO(app:Addr->Option (Value×Gd))(kn:Addr->Option Value):Addr->Option Value:=fun a=>match app a with
 |some (v,.dq 0)=>some v
 |_=>kn a
theorem BN{app:Addr->Option (Value×Gd)}{kn:Addr->Option Value}{a:Addr}{v:Value}(h:app a=some (v,.dq 0)):NO app kn a=some v:=by unfold NO;rw[h];rfl
theorem DD{app:Addr->Option (Value×Gd)}{kn:Addr->Option Value}{a:Addr}(h: ∀v,app a≠some (v,.dq 0)):NO app kn a=kn a:=by
 unfold NO
 cases hx:app a with
 |none=>rfl
 |some p=>
  obtain⟨v,d⟩:=p
  cases d with
  |dq k=>cases k with
   |zero=>exact absurd hx (h v)
   |succ k=>rfl
  |_=>rfl
theorem Pt{G:Gh}(hp:(G.th i).aP 0=true):Hr G i (NO G.app (G.th i).kn):=fun a v Kq=>by
 by_cases hx: ∃v',G.app a=some (v',.dq 0)
 ·obtain⟨v',hx⟩:=hx
  rw[BN hx]at Kq
  cases Kq
  exact .inr ⟨_,hx,.inr (.inl ⟨0,rfl,hp⟩)⟩
 rw[DD fun v' e=>hx ⟨v',e⟩]at Kq
 exact .inl Kq
theorem DC{G:Gh}{t:Trace}(hg:GI E G w t)(au:(G.th i).af=true){a:Addr}{v:Value}(h:(G.th i).kn a=some v):NO G.app (G.th i).kn a=some v:=by
 obtain⟨d,d1,_⟩:=hg.k.kn i a v au h
 by_cases hx: ∃v',G.app a=some (v',.dq 0)
 ·obtain⟨v',hx⟩:=hx
  rw[hx]at d1
  cases d1
  exact BN hx
 rw[DD fun v' e=>hx ⟨v',e⟩];exact h
section
variable{H B T nj:Nat}{ro:Addr->Option Value}{res:Nat->Int}
structure KI(E:Geo)(i H X:Nat)(l l':Lo)(w w':World):Prop where
 cK:oR E i 0 l l' w w'
 box:l'.ai X/\w'.heap[X]?=some (.cells #[ptr H 0] 41 (0,0))
 Kx: ∀j:Nat,j<256->l'.kn (br H (4+j))=some (.int .u8 (S08.ir j))
theorem KI.post{X:Nat}{l1 l2:Lo}{w1 w2:World}(t:KI E i H X l l1 w w1)(h:pT l1 l2 w1 w2):KI E i H X l l2 w w2:=
 ⟨t.cK.post h,h.get t.box.1 t.box.2,fun j hj=>by rw[h.eq];exact t.Kx j hj⟩
theorem KI.pre{X:Nat}{l1 l2:Lo}{w1 w2:World}(h:pT l l1 w w1)(t:KI E i H X l1 l2 w1 w2):KI E i H X l l2 w w2:=⟨t.cK.pre h,t.box,t.Kx⟩
set_option maxHeartbeats 4000000 in
theorem OS(c:HG E H B T nj ro res)(A:Lk E i 0 l none)(fD:l.deaf=0)(hold: ∀b,l.ai b->b<w.heap.size){fr:Frame}{cs:List Frame}
  (h: ∀X l' w',KI E i H X l l' w w'->Tr E N i l' (Conc.G (fr.finish (.func (.func 59) #[] #[ptr X 0])) cs) w'):
  Tr E N i l (Conc.G (Frame.enter Try.prog 38 #[ptr H 0] .normal) (fr::cs)) w:=by
 have hP:=c.P
 have hf:=c.fin
 have Wf: ∀l':Lo,l'.ch= .no->ay Try.prog E l' (base 38):=fun l' h=>⟨⟨hf,h,by decide⟩,hP⟩
 have W:=Wf l A.ch
 refine Tr.ck hP Sn (Nat.le_of_ble_eq_true rfl) ?_
 refine Tk.seq W.wk ?_
 refine Tk.reg W ?_
 refine ah.open (by rfl) (Tk.E4 W.wk A.rel (d:=1) (by rfl) (by rfl) (by rfl) (by rfl) (fun r=>ptr r 0) (.cells #[ptr H 0] 41 (0,0)) (fun a ha ae=>pt (t:=41) (x:=.tmp 0) (v:=ptr H 0) (by rfl) (ha.ev (x:=.tmp 0) rfl)) fun ae ig r hr=>?_)
 show ah _ _ _ _ _ _ _ _ _ _ 1 _ _
 have A1:Lk E i 0 (l.grow r (r+1)) none:=⟨A.i0,A.kK,A.af,A.mr,A.ch,A.gr,A.rel,A.run⟩
 have A9:(l.grow r (r+1)).ai r/\({ae with heap:=ae.heap.push (.cells #[ptr H 0] 41 (0,0))}:World).heap[r]?=some (.cells #[ptr H 0] 41 (0,0)):=⟨.inr ⟨Nat.le_refl _,Nat.lt_succ_self _⟩,iD hr⟩
 have oC:pT l (l.grow r (r+1)) w {ae with heap:=ae.heap.push (.cells #[ptr H 0] 41 (0,0))}:=sM ig hr hold
 have uW: ∀b,(l.grow r (r+1)).ai b->b<({ae with heap:=ae.heap.push (.cells #[ptr H 0] 41 (0,0))}:World).heap.size:=fun b hb=>by
  show b<(ae.heap.push _).size
  rw[Array.size_push]
  rcases hb with hb|hb
  ·have:=hold b hb;have:=ig.1;omega
  omega
 have IT:(l.grow r (r+1)).deaf=0:=fD
 generalize({ae with heap:=ae.heap.push (.cells #[ptr H 0] 41 (0,0))}:World)=w2 at*
 generalize l.grow r (r+1)=l1 at*
 have W1:=Wf l1 A1.ch
 (repeat(first|refine ah.dn W1 ?_|refine ah.pS W1 (hp:=by exact aa (.inr rfl) rfl) (h:=?_)|refine Tk.seq (ay.wk W1) ?_|refine Tk.reg W1 ?_))
 refine ah.open (by rfl) (Tk.gS W1.wk (x:=.tmp 1) (ad:=br r 0) (v:=ptr H 0) A1.rel (by rfl) (by rfl) (by rfl) (by rfl) (by rw[hP];rfl) rfl A9.1 (by unfold World.cell?;rw[A9.2];rfl) ?_)
 refine Tk.lay (rfl:Nv.put _ _ _=(_,_)::_) ?_
 show ah _ _ _ _ _ _ _ _ _ _ 1 _ _
 (repeat(refine ah.pS W1 (hp:=by first|exact ak rfl rfl|exact av rfl rfl (by rfl) rfl (by decide+kernel)) (h:=?_)))
 refine ah.pS W1 (hp:=jx (f:=57) (vs:= []) (us:= [ptr r 0]) (by rfl) (by rfl) (by rfl)) (h:=?_)
 refine ah.call W1 (by rfl) (by rfl) (by rfl) (by rfl) XO rfl fun GW NT=>?_
 refine WZ hf hP c.O A1 IT Sm uW (fun l3 w3 t3=>NT _ _ _ (ah.bx ?_)) (fun w3 rM wi gh hM=>?_)
 ·have W3:=Wf l3 t3.lk.ch
  refine ah.dn W3 ?_
  refine Tk.RF W3.wk t3.lk.af fun G w4 t hg au ax wK=>?_
  obtain⟨hd,h3,h4⟩:=c.Kx hg au (by rw[ax];exact t3.aP)
  refine⟨NO G.app l3.kn,by rw[<-ax];exact Pt (by rw[ax];exact t3.aP),fun a v Kq=>by rw[<-ax]at Kq ⊢;exact DC hg au Kq,?_⟩
  have t4:KI E i H r l {l3 with kn:=NO G.app l3.kn} w w4:=by
   refine⟨oR.pre oC ⟨⟨t3.lk.i0,t3.lk.kK,t3.lk.af,t3.lk.mr,t3.lk.ch,t3.lk.gr,t3.lk.rel,t3.lk.run⟩,t3.deaf,t3.aP,⟨t3.kept.bZ,t3.kept.wk,t3.kept.me,t3.kept.sc⟩,t3.ai,Nat.le_trans t3.size wK.1,fun b hb=>(wK.2 b (t3.ai b hb)).trans (t3.heap b hb),fun a v hi Kq=>?_⟩,
    ⟨t3.ai r A9.1,by rw[wK.2 r (t3.ai r A9.1),t3.heap r A9.1];exact A9.2⟩,fun j hj=>?_⟩
   ·have Kq:=t3.kn a v hi Kq
    show NO G.app l3.kn a=some v
    rw[<-ax]at Kq ⊢
    exact DC hg au Kq
   exact BN (h4 j hj)
  generalize({l3 with kn:=NO G.app l3.kn}:Lo)=l4 at*
  have W4:=Wf l4 t4.cK.lk.ch
  refine Tk.reg W4 ?_
  refine ah.pS W4 (hp:=jx (f:=59) (vs:= []) (us:= [ptr r 0]) (by rfl) (by rfl) (by rfl)) (h:=?_)
  (repeat(first|refine ah.dn W4 ?_|refine ah.pS W4 (hp:=by exact aa (.inr rfl) rfl) (h:=?_)))
  exact Tk.ret W4.wk (fE.leave1 W4.wk (hP▸Sn) rfl (h r _ _ t4))
 have e:(([ptr r 0]:List Value).toArray:Array Value)= #[ptr r 0]:=rfl
 rw[e]
 exact Tj c A1 IT A9 gh hM
end
end Go.Co.F1

namespace Go.Co.F1
open Go Go.Conc Go.Proofs
open Go.Co
open Go.ConcN (upd upd_ne upd_same)
variable{E:Geo}{N i:Nat}{l:Lo}{w:World}
set_option maxRecDepth 10000
theorem Tr.laid{g:Goroutine}(hg:Bb g)(bP:l.ch= .no)(h:(∀b,l.ai b->b<w.heap.size)->Tr E N i l g w):Tr E N i l g w:=by
 by_cases hb: ∀b,l.ai b->b<w.heap.size
 ·exact h hb
 refine jI.Lv.fold ⟨hg,.inr (.inr (.inl ⟨bP,fun G ae t fP au ax hv=>?_⟩))⟩
 exfalso
 refine hb fun b ho=>Classical.byContradiction fun bA=>?_
 have ax:G.th i=l:=ax
 have hv:View l.ai w ae:=hv
 have h1:b<ae.heap.size:=(show GI E G ae t from fP).s.old i b au (by rw[ax];exact ho)
 have h2:=hv.2 b ho
 have e1:w.heap[b]?=none:=Array.getElem?_eq_none (by omega)
 rw[e1,Array.getElem?_eq_getElem h1]at h2
 cases h2
def qu(t:S08.Tu):List Value:= [.int .u32 t.a,.int .u32 t.b,.int .u16 t.c,.int .u16 t.d]
theorem Hx(t:S08.Tu)(ρ:Go.SE.aZ):Go.SE.T.Rel ρ (S08.N6 t) (.agg (qu t).toArray):=⟨qu t,rfl,⟨⟨rfl,rfl⟩,⟨rfl,rfl⟩,⟨rfl,rfl⟩,⟨rfl,rfl⟩,trivial⟩⟩
theorem DK{k:IntKind}{x:Value}: ∀ {l:List Int},x∈Go.SE.ints k l->∃z,x= .int k z
 | [],h=>by cases h
 |y::l,h=>by
  rcases List.mem_cons.1 h with h|h
  ·exact⟨y,h⟩
  exact DK (l:=l) h
structure z6(t:S08.Tu)(b cap:Nat)(l:Lo)(w:World):Prop where
 ex: ∃ys:List Value,l.ai b/\w.heap[b]?=some (.cells ys.toArray 5 (0,0))/\ys.length=cap/\Go.SE.ints .u8 (S08.y9 t)<+:ys/\12<=cap
theorem z6.EM{t:S08.Tu}{b cap:Nat}{l':Lo}{w':World}(h:z6 t b cap l w)(k:pT l l' w w'):z6 t b cap l' w':=by
 obtain⟨ys,h1,h2,h3⟩:=h.ex
 exact⟨ys,(k.get h1 h2).1,(k.get h1 h2).2,h3⟩
theorem PQ(hP:E.P=Try.prog){t:S08.Tu}(ht:t.Wf)(bP:l.ch= .no)(aJ:l.rel=none){fr:Frame}{cs:List Frame}
  (k: ∀l' w' b cap,pT l l' w w'->z6 t b cap l' w'->Tr E N i l' (Conc.G (fr.finish (.slice (some ⟨b,0,none⟩) 12 cap)) cs) w'):
  Tr E N i l (Conc.G (Frame.enter Try.prog 36 #[.agg (qu t).toArray] .normal) (fr::cs)) w:=by
 letI:Go.SE.aG:=CD
 refine Si (ys:= [.agg (qu t).toArray]) hP (@S08.py CD t ht) (fun r hr=>by simp at hr;subst hr;rfl) bP aJ (fun G ae u hg au ax hv=>⟨fun _=>False,fun _=>none,fun _=>⟨0,0,0,0,false⟩,fun b hb=>hb.elim,fun b c e h=>(by cases h),fun k r h=>by simp at h,⟨Hx t _,trivial⟩⟩)
  fun l' du x ρ' hx hp hk=>?_
 obtain⟨q1,q2⟩:=hp 0 _ rfl
 obtain⟨r1,r2,r3⟩:=q1
 have cb:Go.SE.ints .u8 (S08.y9 t)≠ []:=by
  intro e
  have:=congrArg List.length e
  rw[@Go.SE.vw,@S08.pU CD]at this
  cases this
 rcases r3 with⟨_,_,e⟩|⟨r3,r4,ys,r5,⟨r6,r7⟩,r8⟩
 ·exact absurd e cb
 have hx:Go.SE.jL (ρ' 0) 0 12 x:=hx
 rcases hx with⟨e,_⟩|⟨_,s2,a,rfl,s4⟩
 ·rw[r3]at e;cases e
 have ha:=s4 (.inr rfl)
 rw[r4,r1]at ha
 subst ha
 refine k l' du (ρ' 0).blk ((ρ' 0).cap-0) hk ⟨ys,(q2 r3).2,r5,by rw[r6];omega,r8,by omega⟩
def AY:Array Value:=Array.ofFn (n:=260) fun j=>if j.val<4 then Value.agg #[]else Value.int .u8 (S08.ir ((j.val-4:Nat):Int))
theorem OW:S08.LY AY:=fun j hj=>by
 unfold AY
 rw[Array.getElem?_ofFn,dif_pos (by omega)]
 show some (if 4+j<4 then Value.agg #[]else Value.int .u8 (S08.ir ((4+j-4:Nat):Int)))=_
 rw[if_neg (by omega),show 4+j-4=j by omega]
theorem OV{off:Nat}{x:Value}(h:AY[off]?=some x)(hx:x.oneCell'=true): ∃j:Nat,j<256/\off=4+j/\x= .int .u8 (S08.ir j):=by
 unfold AY at h
 rw[Array.getElem?_ofFn]at h
 by_cases ho:off<260
 ·rw[dif_pos ho]at h
  have h:some (if off<4 then Value.agg #[]else Value.int .u8 (S08.ir ((off-4:Nat):Int)))=some x:=h
  by_cases h4:off<4
  ·rw[if_pos h4]at h
   cases h
   cases hx
  rw[if_neg h4]at h
  cases h
  exact⟨off-4,by omega,by omega,rfl⟩
 rw[dif_neg ho]at h;cases h
section
variable{H B T nj:Nat}{ro:Addr->Option Value}{res:Nat->Int}
theorem Tp(c:HG E H B T nj ro res){X b cap:Nat}{t:S08.Tu}{l0:Lo}{w0:World}(A:KI E i H X l0 l w0 w)(hr:z6 t b cap l w){fr:Frame}{cs:List Frame}
  (k: ∀l' w',pT l l' w w'->Tr E N i l' (Conc.G (fr.finish (.int .u8 (S08.jO t))) cs) w'):
  Tr E N i l (Conc.G (Frame.enter Try.prog 32 #[.func (.func 59) #[] #[ptr X 0],.int .u8 0,.slice (some ⟨b,0,none⟩) 12 cap] .normal) (fr::cs)) w:=by
 have hP:=c.P
 letI:Go.SE.aG:=CD
 have Q9:S08.byte (0:Int):=⟨by decide,by decide⟩
 refine Si (ys:= [.func (.func 59) #[] #[ptr X 0],.int .u8 0,.slice (some ⟨b,0,none⟩) 12 cap]) hP (@S08.JJ CD 0 Q9 (S08.y9 t) (@S08.iC CD t) 0 12 (by rw[@S08.pU CD];decide) (by rw[@S08.pU CD];decide) AY OW H) (fun r hr=>by cases hr) A.cK.lk.ch A.cK.lk.rel (fun G ae u hg au ax hv=>?_)
  fun l' du x ρ' hx _ hk=>?_
 ·obtain⟨ys,y1,y2,y3,y4,y5⟩:=hr.ex
  obtain⟨hd,h3,h4⟩:=c.Kx hg au (by rw[ax];exact A.cK.aP)
  have hHn: ∀bb,l.ai bb->bb≠H:=fun bb NW e=>hg.gY h3 i au (by rw[ax];rw[show(br H 3).block=H from rfl,<-e];exact NW)
  have ZW:H<ae.heap.size:=bT (hg.m.app _ _ _ h3).1
  have hX1:ae.heap[X]?=some (.cells #[ptr H 0] 41 (0,0)):=by rw[hv.2 X A.box.1];exact A.box.2
  have IC:ae.heap[b]?=some (.cells ys.toArray 5 (0,0)):=by rw[hv.2 b y1];exact y2
  refine⟨fun y=>y=X\/y=b,fun y=>if y=H then some (AY,H)else none,fun k=>if k=0 then⟨X,0,1,1,false⟩else if k=1 then⟨b,0,cap,1,false⟩else⟨H,0,1,1,false⟩,?_,?_,?_,?_⟩
  ·rintro y (rfl|rfl)
   ·exact⟨A.box.1,_,hX1,rfl⟩
   exact⟨y1,_,IC,rfl⟩
  ·intro y cc e hy off x hx Kc
   by_cases ey:y=H
   ·subst ey
    have hy:(if y=y then some (AY,y)else none)=some (cc,e):=hy
    rw[if_pos rfl]at hy
    cases hy
    obtain⟨j,hj,rfl,rfl⟩:=OV hx Kc
    exact A.Kx j hj
   have hy:(if y=H then some (AY,H)else none)=some (cc,e):=hy
   rw[if_neg ey]at hy;cases hy
  ·intro k r hk
   match k,hk with
   |0,hk=>
    cases hk
    refine⟨rfl,fun x hx=>by simp at hx;subst hx;rfl,.inr ⟨rfl,fun ii x hx=>?_⟩⟩
    have:ii=0/\x=ptr H 0:=by
     cases ii with
     |zero=>simp at hx;exact⟨rfl,hx.symm⟩
     |succ ii=>simp at hx
    obtain⟨rfl,rfl⟩:=this
    show World.cell? _ ⟨X,0+0,none⟩=_
    unfold World.cell?
    rw[Go.SE.mG (.inl rfl),hX1]
    rfl
   |1,hk=>
    cases hk
    refine⟨rfl,fun x hx=>?_,.inr ⟨rfl,fun ii x hx=>?_⟩⟩
    ·obtain⟨z,rfl⟩:=DK hx
     rfl
    show World.cell? _ ⟨b,0+ii,none⟩=_
    unfold World.cell?
    rw[Go.SE.mG (.inr rfl),IC]
    have bA:=(List.getElem?_eq_some_iff.1 hx).1
    have e1:ys[ii]?=some x:=by
     obtain⟨zs,rfl⟩:=y4
     rw[List.getElem?_append_left bA];exact hx
    simpa using e1
   |2,hk=>
    cases hk
    refine⟨rfl,?_,fun cc e he=>?_⟩
    ·exact Go.SE.MM (O:=fun y=>y=X\/y=b) (c:=AY) (e:=H) (by rintro(e|e);exact hHn X A.box.1 e.symm;exact hHn b y1 e.symm) (if_pos rfl) ZW
    injection he with _ h2
    exact⟨rfl,h2⟩
   |k+3,hk=>simp at hk
  refine⟨?_,⟨rfl,rfl⟩,?_,trivial⟩
  ·show _=Value.func (.func 59) #[] _
   rfl
  show Go.SE.jL ⟨b,0,cap,1,false⟩ 0 12 _
  exact .inr ⟨rfl,by show 0+12<=cap;omega,⟨b,0,none⟩,rfl,fun _=>rfl⟩
 have e:x= .int .u8 (S08.y7 0 (S08.sub (S08.y9 t) 0 12)):=hx.1
 subst e
 exact k l' du hk
end
end Go.Co.F1

namespace Go.Co.F1
open Go Go.Conc Go.Proofs
open Go.Co
open Go.ConcN (upd upd_ne upd_same)
variable{E:Geo}{N i:Nat}{l:Lo}{w:World}
set_option maxRecDepth 10000
section
variable{H B T nj:Nat}{ro:Addr->Option Value}{res:Nat->Int}
def CW(H X b cap:Nat)(t:S08.Tu)(Y x:Nat):Value:=match x with
 |0|7=>ptr H 0
 |3=>ptr Y 0
 |8=>.func (.func 59) #[] #[ptr X 0]
 |9=>.agg (qu t).toArray
 |10=>.slice (some ⟨b,0,none⟩) 12 cap
 |11=>.int .u8 (S08.jO t)
 |12|4=>.int .i64 (S08.aW (S08.jO t))
 |_=>.tuple #[]
abbrev Sy(t:S08.Tu)(Y:Nat)(l:Lo)(w:World):Prop:=l.ai Y/\w.heap[Y]?=some (.cells (qu t).toArray 31 (0,0))
structure IY(E:Geo)(i H:Nat)(t:S08.Tu)(Y:Nat)(l0:Lo)(w0:World)(L:Array Bool)(X b cap:Nat)(l:Lo)(w:World):Prop where
 y:Sy t Y l w
 a: ¬Up L 1->pT l0 l w0 w
 tu:Up L 1->KI E i H X l0 l w0 w
 r:Up L 3->z6 t b cap l w
theorem IY.EM{t:S08.Tu}{Y X b cap j:Nat}{l0 l':Lo}{w0 w':World}{L:Array Bool}(h1:1≠j)(h3:3≠j)(s:IY E i H t Y l0 w0 L X b cap l w)(k:pT l l' w w'):IY E i H t Y l0 w0 (L.setIfInBounds j true) X b cap l' w':=
 ⟨k.get s.y.1 s.y.2,fun x=>(s.a fun y=>x ((oI h1).2 y)).trans k,fun x=>(s.tu ((oI h1).1 x)).post k,fun x=>(s.r ((oI h3).1 x)).EM k⟩
theorem IY.ch{t:S08.Tu}{Y X b cap:Nat}{l0:Lo}{w0:World}{L:Array Bool}(A:Lk E i 0 l0 none)(s:IY E i H t Y l0 w0 L X b cap l w):l.ch= .no/\l.rel=none:=by
 by_cases u:Up L 1
 ·exact⟨(s.tu u).cK.lk.ch,(s.tu u).cK.lk.rel⟩
 have:=(s.a u).eq
 exact⟨by rw[this];exact A.ch,by rw[this];exact A.rel⟩
set_option maxHeartbeats 8000000 in
theorem Wm(c:HG E H B T nj ro res){t:S08.Tu}(ht:t.Wf){Y:Nat}(A:Lk E i 0 l none)(fD:l.deaf=0)(hold: ∀b,l.ai b->b<w.heap.size)(hY:Sy t Y l w){kk:List Item}{cs:List Frame}{tX:Nv}(he:tX.get 0=some (ptr H 0)/\tX.get 3=some (ptr Y 0))
  (h: ∀X l' w',KI E i H X l l' w w'->Tk E N i l' w' (base 21) 13 [(4,.int .i64 (S08.aW (S08.jO t)))] [] kk cs) {ops:Array Oper} (A8:VS.l6 3=some ops):
  Tk E N i l w (base 21) 13 tX [] (.code (.region 3 ops true)::kk) cs:=by
 have hP:=c.P
 have hf:=c.fin
 cases A8
 have Wf: ∀l':Lo,l'.ch= .no->ay Try.prog E l' (base 21):=fun l' h=>⟨⟨hf,h,by decide⟩,hP⟩
 refine Tk.free (Wf l A.ch) mixed (I:=fun ops L l' w' env=>∃X b cap,eV ops (CW H X b cap t Y) [0,3] L env/\IY E i H t Y l w L X b cap l' w') (by decide+kernel) ?_ ?_ ?_ ?_
 ·refine⟨0,0,0,⟨by simp,fun x hx=>?_,fun m o' d _ _ hu=>absurd hu (fJ _ _)⟩,hY,fun _=>pT.view (View.refl _ _),fun x=>absurd x (fJ _ _),fun x=>absurd x (fJ _ _)⟩
  have:x=0\/x=3:=by simpa using hx
  rcases this with rfl|rfl
  ·exact he.1
  exact he.2
 ·rintro L l' w' env ⟨X,b,cap,F,s⟩
  exact⟨F.size,Wf l' (s.ch A).1⟩
 ·rintro L l' w' env j ⟨X,b,cap,F,s⟩ hj dt hu hb rest cC
  have hj7:j<7:=hj
  obtain⟨bP,aJ⟩:=s.ch A
  have W:ay Try.prog E l' (base 21):=Wf l' bP
  have f0:=F.base 0 rfl
  have f3:=F.base 3 rfl
  have rf: ∀ (l:Lo) (w:World),pT l l w w:=fun l w=>pT.view (View.refl _ _)
  have fU:j=0\/j=1\/j=2\/j=3\/j=4\/j=5\/j=6:=by omega
  rcases fU with rfl|rfl|rfl|rfl|rfl|rfl|rfl
  ·refine Tk.pure W.wk (by rfl) (by rfl) (by rfl) (aa (x:=.tmp 0) (.inl rfl) f0) ?_
   exact cC _ _ _ ⟨X,b,cap,F.step (j:=0) (d:=7) (by rfl) rfl rfl,s.EM (by decide) (by decide) (rf _ _)⟩
  ·have g:=F.get (j:=0) (d:=7) (by rfl) rfl (bN hb (by rfl) 0 (by rfl))
   have ks:=s.a hu
   refine Tk.call W.wk (vs:= [ptr H 0]) (by rfl) (by rfl) (by rfl) (by rfl) (hP▸Sn) (by show eD env [.tmp 7]=_;unfold eD;rw[show env.ev (.tmp 7)=_ from g];rfl) fun rM oA=>?_
   rw[hP]
   have ke:=ks.eq
   have A1:Lk E i 0 l' none:=by rw[ke];exact⟨A.i0,A.kK,A.af,A.mr,A.ch,A.gr,A.rel,A.run⟩
   refine Tr.laid (aX _ _) bP fun uW=>?_
   refine OS c A1 (by rw[ke];exact fD) uW fun X2 l2 w2 t3=>oA _ _ _ (cC _ _ _ ?_)
   have kq:l'.ai Y->l2.ai Y/\w2.heap[Y]?=w'.heap[Y]?:=fun ho=>⟨t3.cK.ai Y ho,t3.cK.heap Y ho⟩
   refine⟨X2,b,cap,?_,⟨⟨(kq s.y.1).1,by rw[(kq s.y.1).2];exact s.y.2⟩,fun x=>absurd (Ll (by rw[F.size];exact hj)) x,fun _=>t3.pre ks,fun x=>?_⟩⟩
   ·exact(F.VT (val':=CW H X2 b cap t Y) (j:=1) (d:=8) (fun x hx=>by unfold CW;split<;>first|rfl|exact absurd rfl hx) (by rfl) (by decide+kernel) hu).put (j:=1) (d:=8) (by rfl) rfl
   exact absurd (dt.up ((oI (by decide)).1 x) (by rfl) 1 (by rfl)) hu
  ·refine Tk.Mh W.wk aJ (t:=31) (x:=.tmp 3) (bk:=Y) (off:=0) (dd:=9) (vs:=qu t) (by rfl) (by rfl) (by rfl) (by rfl) (by rfl) f3 (by rw[hP];rfl) rfl (by rw[hP];rfl) s.y.1 (fun jj v hv=>by
    unfold World.cell?;rw[s.y.2];simpa using hv) ?_
   exact cC _ _ _ ⟨X,b,cap,F.put (j:=2) (d:=9) (by rfl) rfl,s.EM (by decide) (by decide) (rf _ _)⟩
  ·have g:=F.get (j:=2) (d:=9) (by rfl) rfl (bN hb (by rfl) 2 (by rfl))
   obtain⟨X5,c9,X0,b9⟩:=zag
   refine Tk.call W.wk (vs:= [.agg (qu t).toArray]) (by rfl) (by rfl) (by rfl) (by rfl) (hP▸b9) (by show eD env [.tmp 9]=_;unfold eD;rw[show env.ev (.tmp 9)=_ from g];rfl) fun rM oA=>?_
   rw[hP]
   refine PQ hP ht bP aJ fun l2 w2 b2 VU kp hr=>oA _ _ _ (cC _ _ _ ?_)
   have u1:=bN hb (by rfl) 1 (by rfl)
   refine⟨X,b2,VU,?_,⟨kp.get s.y.1 s.y.2,fun x=>absurd ((oI (by decide)).2 u1) x,fun _=>(s.tu u1).post kp,fun _=>hr⟩⟩
   exact(F.VT (val':=CW H X b2 VU t Y) (j:=3) (d:=10) (fun x hx=>by unfold CW;split<;>first|rfl|exact absurd rfl hx) (by rfl) (by decide+kernel) hu).put (j:=3) (d:=10) (by rfl) rfl
  ·have g8:=F.get (j:=1) (d:=8) (by rfl) rfl (bN hb (by rfl) 1 (by rfl))
   have IG:=F.get (j:=3) (d:=10) (by rfl) rfl (bN hb (by rfl) 3 (by rfl))
   obtain⟨X5,c9,X0,b9⟩:=zai
   refine Tk.call W.wk (vs:= [.func (.func 59) #[] #[ptr X 0],.int .u8 0,.slice (some ⟨b,0,none⟩) 12 cap]) (by rfl) (by rfl) (by rfl) (by rfl) (hP▸b9) (by show eD env [.tmp 8,.const (.int .u8 0),.tmp 10]=_;simp only[eD,show env.ev (.tmp 8)=_ from g8,show env.ev (.tmp 10)=_ from IG];rfl) fun rM oA=>?_
   rw[hP]
   have u1:=bN hb (by rfl) 1 (by rfl)
   have u3:=bN hb (by rfl) 3 (by rfl)
   refine Tp c (s.tu u1) (s.r u3) fun l2 w2 kp=>oA _ _ _ (cC _ _ _ ?_)
   exact⟨X,b,cap,F.step (j:=4) (d:=11) (by rfl) rfl rfl,s.EM (by decide) (by decide) kp⟩
  ·have g:=F.get (j:=4) (d:=11) (by rfl) rfl (bN hb (by rfl) 4 (by rfl))
   obtain⟨X5,c9,X0,b9⟩:=zah
   refine Tk.call W.wk (vs:= [.int .u8 (S08.jO t)]) (by rfl) (by rfl) (by rfl) (by rfl) (hP▸b9) (by show eD env [.tmp 11]=_;unfold eD;rw[show env.ev (.tmp 11)=_ from g];rfl) fun rM oA=>?_
   rw[hP]
   refine Sj (l:=l') hP (@S08.rF CD _ (@S08.p6 CD t)) bP aJ (ys:= [.int .u8 (S08.jO t)]) (fun ρ=>⟨⟨rfl,rfl⟩,trivial⟩) fun l2 w2 EH=>oA _ _ _ (cC _ _ _ ?_)
   exact⟨X,b,cap,F.step (j:=5) (d:=12) (by rfl) rfl rfl,s.EM (by decide) (by decide) EH⟩
  have g:=F.get (j:=5) (d:=12) (by rfl) rfl (bN hb (by rfl) 5 (by rfl))
  refine Tk.pure W.wk (by rfl) (by rfl) (by rfl) (aa (x:=.tmp 12) (.inr rfl) g) ?_
  exact cC _ _ _ ⟨X,b,cap,F.step (j:=6) (d:=4) (by rfl) rfl rfl,s.EM (by decide) (by decide) (rf _ _)⟩
 rintro L l' w' env ⟨X,b,cap,F,s⟩ dK
 exact Tk.sub (h X l' w' (s.tu (dK 1 (by decide)))) (bp.sub ⟨F.get (j:=6) (d:=4) (by rfl) rfl (dK 6 (by decide)),trivial⟩)
end
end Go.Co.F1

namespace Go.Co.F1
open Go Go.Conc Go.Proofs
open Go.Co
open Go.ConcN (upd upd_ne upd_same)
variable{E:Geo}{N i:Nat}{l:Lo}{w:World}
set_option maxRecDepth 10000
theorem Pl{P:Program}{t:TypeId}{ms:Array (String×TypeId)}(hu:P.underlying t=some (.interface ms))(w:World):(Op.equal t .nilIface .nilIface).run P w= .ok true w/\(Op.equal t .nilIface .nilIface).events P w #[]= #[]:=by
 have h1:=run_underlying hu w
 have e:Op.maxDepth=9999+1:=rfl
 unfold Op.equal
 rw[e]
 generalize 9999=D
 constructor
 ·simp[Op.equalIn,h1]
 simp[Op.equalIn,h1,events_underlying]
theorem Cb{P:Program}{env:Nv}{o:Oper}{t yt:TypeId}{x:Operand}{ms:Array (String×TypeId)}(ho:o.op= .binOp .neq t x (.const .nilIface) yt)(hx:env.ev x=some .nilIface)(hu:P.underlying t=some (.interface ms)):bR P env o (.bool false):=fun n a ha w=>by
 obtain⟨h1,h2⟩:=Pl hu w
 have hc:a.eval (.const .nilIface)= .nilIface:=ha.ev (x:=.const .nilIface) (v:=.nilIface) rfl
 have e2:eqGuard .neq t x (.const .nilIface) .nilIface .nilIface=pure ():=by
  unfold eqGuard
  cases x<;>rfl
 have e3:binOp .neq t .nilIface .nilIface=(do pure (.bool (!(<-Op.equal t .nilIface .nilIface)))):=rfl
 constructor
 ·unfold execOp;rw[ho];simp only[ha.ev hx,hc,e2,e3,Sem.run_bind,Sem.run_pure,Result.andThen_ok,h1];rfl
 unfold execOp;rw[ho];simp only[ha.ev hx,hc,e2,e3,Sem.events_bind,Sem.run_bind,Sem.run_pure,Sem.events_pure,Result.andThen_ok,Result.evThen_ok,h1,h2]
noncomputable def VR:Code:=(Try.f29.body).getD .skip
theorem Sp:ij Try.prog 29 13 VR #[]:=⟨Try.f29,Try.func29,by decide+kernel,rfl,rfl,rfl⟩
theorem IL:(Try.prog.funcs[29]?).any (·.norace)=false:=by decide+kernel
noncomputable def Z8:Code:=(Try.f40.body).getD .skip
theorem VW:ij Try.prog 40 5 Z8 #[]:=⟨Try.f40,Try.func40,by decide+kernel,rfl,rfl,rfl⟩
noncomputable def Z7:Code:=(Try.f41.body).getD .skip
theorem VV:ij Try.prog 41 8 Z7 #[]:=⟨Try.f41,Try.func41,by decide+kernel,rfl,rfl,rfl⟩
section
variable{H B T nj:Nat}{ro:Addr->Option Value}{res:Nat->Int}
set_option maxHeartbeats 4000000 in
theorem Zh(c:HG E H B T nj ro res){t:S08.Tu}(ht:t.Wf)(A:Lk E i 0 l none)(fD:l.deaf=0){fr:Frame}{cs:List Frame}
  (h: ∀l' w',oR E i 0 l l' w w'->Tr E N i l' (Conc.G (fr.finish (.int .i64 (S08.aW (S08.jO t)))) cs) w'):
  Tr E N i l (Conc.G (Frame.enter Try.prog 21 #[ptr H 0,.agg (qu t).toArray] .normal) (fr::cs)) w:=by
 have hP:=c.P
 have hf:=c.fin
 have Wf: ∀l':Lo,l'.ch= .no->ay Try.prog E l' (base 21):=fun l' h=>⟨⟨hf,h,by decide⟩,hP⟩
 have W:=Wf l A.ch
 refine Tr.laid (aX _ _) A.ch fun hold=>?_
 refine Tr.ck hP Sr (Nat.le_of_ble_eq_true rfl) ?_
 refine Tk.seq W.wk ?_
 refine Tk.reg W ?_
 refine ah.open (by rfl) (Tk.E4 W.wk A.rel (d:=3) (by rfl) (by rfl) (by rfl) (by rfl) (fun r=>ptr r 0) (.cells (qu t).toArray 31 (0,0)) (fun a ha ae=>pt (t:=31) (x:=.tmp 1) (v:=.agg (qu t).toArray) (by rfl) (ha.ev (x:=.tmp 1) rfl)) fun ae ig r hr=>?_)
 show ah _ _ _ _ _ _ _ _ _ _ 1 _ _
 have A1:Lk E i 0 (l.grow r (r+1)) none:=⟨A.i0,A.kK,A.af,A.mr,A.ch,A.gr,A.rel,A.run⟩
 have A9:Sy t r (l.grow r (r+1)) {ae with heap:=ae.heap.push (.cells (qu t).toArray 31 (0,0))}:=⟨.inr ⟨Nat.le_refl _,Nat.lt_succ_self _⟩,iD hr⟩
 have oC:pT l (l.grow r (r+1)) w {ae with heap:=ae.heap.push (.cells (qu t).toArray 31 (0,0))}:=sM ig hr hold
 have uW: ∀b,(l.grow r (r+1)).ai b->b<({ae with heap:=ae.heap.push (.cells (qu t).toArray 31 (0,0))}:World).heap.size:=fun b hb=>by
  show b<(ae.heap.push _).size
  rw[Array.size_push]
  rcases hb with hb|hb
  ·have:=hold b hb;have:=ig.1;omega
  omega
 have IT:(l.grow r (r+1)).deaf=0:=fD
 generalize({ae with heap:=ae.heap.push (.cells (qu t).toArray 31 (0,0))}:World)=w2 at*
 generalize l.grow r (r+1)=l1 at*
 have W1:=Wf l1 A1.ch
 repeat(first|refine ah.dn W1 ?_|refine ah.pS W1 (hp:=by first|exact aa (.inl rfl) rfl|exact aa (.inr rfl) rfl|exact vr rfl rfl rfl (by rfl)) (h:=?_)|refine Tk.seq W1.wk ?_|refine Tk.reg W1 ?_|refine Tk.skip W1.wk ?_|refine Tk.bC W1.wk rfl ?_)
 refine Wm c ht A1 IT uW A9 ⟨rfl,rfl⟩ (fun X l3 w3 t3=>?_) (by rfl)
 have W3:=Wf l3 t3.cK.lk.ch
 exact Tk.ret W3.wk (fE.leave1 W3.wk (hP▸Sr) rfl (h _ _ (t3.cK.pre oC)))
structure HR(ro:Addr->Option Value)(res:Nat->Int)(H T nj hB lB tB lb lo b6 eI:Nat)(tu:Nat->S08.Tu):Prop where
 h:ro (br hB 0)=some (ptr H 0)
 l: ∃bs,ro (br lB 0)=some (.slice bs nj b6)/\(0<nj->bs=some ⟨lb,lo,none⟩)
 t:ro (br tB 0)=some (.slice (some ⟨T,0,none⟩) nj eI)
 row: ∀j k v,j<nj->(qu (tu j))[k]?=some v->ro (br lb (lo+j*4+k))=some v
 wf: ∀j,j<nj->(tu j).Wf
 res: ∀j,j<nj->res j=S08.aW (S08.jO (tu j))
theorem Rq.TW(c:Rq E H B T nj ro res){G:Gh}{t:Trace}(hg:GI E G w t){a:Addr}{v:Value}(h:ro a=some v):G.app a=some (v,.ro):=by
 have hm:=hg.more
 rw[c.app]at hm
 exact hm.1 a v h
structure YT(E:Geo)(i j ib:Nat)(l:Lo):Prop where
 lk:Lk E i 0 l none
 deaf:l.deaf=0
 bZ:l.bZ=some j
 kn:l.kn (br ib 0)=some (.int .i64 j)
structure V4(E:Geo)(i:Nat)(l:Lo):Prop where
 lk:Lk E i 0 l none
 deaf:l.deaf=0
 bZ:l.bZ=none
def V9(H T nj lb lo b6 eI hB lB tB ib j:Nat)(t:S08.Tu)(x:Nat):Value:=match x with
 |0=>ptr hB 0
 |1=>ptr lB 0
 |2=>ptr ib 0
 |3=>ptr tB 0
 |4=>.slice (some ⟨T,0,none⟩) nj eI
 |5|8=>.int .i64 j
 |6=>ptr H 0
 |7=>.slice (some ⟨lb,lo,none⟩) nj b6
 |9=>ptr lb (lo+j*4)
 |10=>.agg (qu t).toArray
 |11=>.int .i64 (S08.aW (S08.jO t))
 |12=>ptr T j
 |_=>.tuple #[]
theorem tZ.told{app:Addr->Option (Value×Gd)}{dn:Nat->Bool}{cv:Nat->Nat}(h:tZ H T nj ro res app dn cv)(hd:dn 0=true){j:Nat}(hj:j<nj)(UP:cv j=0):tZ H T nj ro res (b7 app (br T j) (.int .i64 (res j),.out j)) dn (upd cv j (cv j+1)):=by
 obtain⟨g1,g2,g3,g4⟩:=h
 have cb: ∀b x,app b=some x->x.2≠ .out j->b7 app (br T j) (.int .i64 (res j),.out j) b=some x:=fun b x hb hx=>by
  unfold b7
  rw[if_neg fun e=>?_]
  ·exact hb
  subst e;rw[g2 j hj]at hb;cases hb;exact hx rfl
 refine⟨fun b v hb=>cb _ _ (g1 b v hb) (fun e=>by cases e),fun m hm=>?_,.inr ?_,⟨fun _=>hd,g4.2⟩⟩
 ·by_cases e:m=j
  ·subst e
   rw[upd_same]
   unfold b7
   rw[if_pos rfl,if_neg (by omega)]
  rw[upd_ne _ _ e]
  exact cb _ _ (g2 m hm) fun x=>by injection x with x;exact e x
 rcases g3 with⟨x,_⟩|⟨_,q3,q4⟩
 ·rw[hd]at x;cases x
 exact⟨hd,cb _ _ q3 (fun e=>by cases e),fun k hk=>cb _ _ (q4 k hk) fun e=>by cases e⟩
structure vR(l l':Lo)(w w':World):Prop where
 ai: ∀b,l.ai b->l'.ai b
 size:w.heap.size<=w'.heap.size
 heap: ∀b,l.ai b->w'.heap[b]?=w.heap[b]?
theorem vR.refl:vR l l w w:=⟨fun _ h=>h,Nat.le_refl _,fun _ _=>rfl⟩
theorem vR.trans{l1 l2:Lo}{w1 w2:World}(h:vR l l1 w w1)(k:vR l1 l2 w1 w2):vR l l2 w w2:=
 ⟨fun b hb=>k.ai b (h.ai b hb),Nat.le_trans h.size k.size,fun b hb=>(k.heap b (h.ai b hb)).trans (h.heap b hb)⟩
theorem vR.view{l1:Lo}{w1 w2:World}(h:vR l l1 w w1)(hv:View l1.ai w1 w2):vR l l1 w w2:=
 ⟨h.ai,Nat.le_trans h.size hv.1,fun b hb=>(hv.2 b (h.ai b hb)).trans (h.heap b hb)⟩
structure IX(E:Geo)(i j ib:Nat)(l0:Lo)(w0:World)(L:Array Bool)(l:Lo)(w:World):Prop where
 a: ¬Up L 9->YT E i j ib l/\(Up L 7->l.aP 0=true)
 d:Up L 9->V4 E i l
 st:vR l0 l w0 w
theorem IX.view{j ib m:Nat}{l0:Lo}{w0 w':World}{L:Array Bool}(h9:9≠m)(h7:7≠m)(s:IX E i j ib l0 w0 L l w)(hv:View l.ai w w'):IX E i j ib l0 w0 (L.setIfInBounds m true) l w':=
 ⟨fun x=>⟨(s.a fun y=>x ((oI h9).2 y)).1,fun y=>(s.a fun y=>x ((oI h9).2 y)).2 ((oI h7).1 y)⟩,fun x=>s.d ((oI h9).1 x),s.st.view hv⟩
theorem IX.ch{j ib:Nat}{l0:Lo}{w0:World}{L:Array Bool}(s:IX E i j ib l0 w0 L l w):l.ch= .no:=by
 by_cases u:Up L 9
 ·exact(s.d u).lk.ch
 exact(s.a u).1.lk.ch
set_option maxHeartbeats 8000000 in
theorem Wj(c:HG E H B T nj ro res){hB lB tB lb lo b6 eI ib j:Nat}{tu:Nat->S08.Tu}(R:HR ro res H T nj hB lB tB lb lo b6 eI tu)(hj:j<nj)(P7:ib≠H)(A:YT E i j ib l){kk:List Item}{cs:List Frame}
  (h: ∀l' w',V4 E i l'->vR l l' w w'->Tk E N i l' w' (base 29) 13 [] [] kk cs) {ops:Array Oper} (A8:VR.l6 0=some ops):
  Tk E N i l w (base 29) 13 [(0,ptr hB 0),(1,ptr lB 0),(2,ptr ib 0),(3,ptr tB 0)] [] (.code (.region 0 ops true)::kk) cs:=by
 have hP:=c.P
 have hf:=c.fin
 cases A8
 have hRl:ro (br lB 0)=some (.slice (some ⟨lb,lo,none⟩) nj b6):=by
  obtain⟨bs,h1,h2⟩:=R.l
  rw[h1,h2 (by omega)]
 have Wf: ∀l':Lo,l'.ch= .no->ay Try.prog E l' (base 29):=fun l' h=>⟨⟨hf,h,by decide⟩,hP⟩
 refine Tk.free (Wf l A.lk.ch) mixed (I:=fun ops L l' w' env=>eV ops (V9 H T nj lb lo b6 eI hB lB tB ib j (tu j)) [0,1,2,3] L env/\IX E i j ib l w L l' w') (by decide+kernel) ?_ ?_ ?_ ?_
 ·refine⟨⟨by simp,fun x hx=>?_,fun m o' d _ _ hu=>absurd hu (fJ _ _)⟩,fun _=>⟨A,fun x=>absurd x (fJ _ _)⟩,fun x=>absurd x (fJ _ _),.refl⟩
  have:x=0\/x=1\/x=2\/x=3:=by simpa using hx
  rcases this with rfl|rfl|rfl|rfl<;>rfl
 ·rintro L l' w' env ⟨F,s⟩
  exact⟨F.size,Wf l' s.ch⟩
 ·rintro L l' w' env jj ⟨F,s⟩ ov dt hu hb rest cC
  have Vz:jj<10:=ov
  have fU:jj=0\/jj=1\/jj=2\/jj=3\/jj=4\/jj=5\/jj=6\/jj=7\/jj=8\/jj=9:=by omega
  have h9: ¬Up L 9:=fun h=>by
   have u8:=dt.up h (by rfl) 8 (by rfl)
   have u7:=dt.up h (by rfl) 7 (by rfl)
   have u6:=dt.up h (by rfl) 6 (by rfl)
   have u5:=dt.up h (by rfl) 5 (by rfl)
   have u4:=dt.up h (by rfl) 4 (by rfl)
   have u3:=dt.up h (by rfl) 3 (by rfl)
   have u2:=dt.up h (by rfl) 2 (by rfl)
   have u1:=dt.up h (by rfl) 1 (by rfl)
   have u0:=dt.up h (by rfl) 0 (by rfl)
   rcases fU with rfl|rfl|rfl|rfl|rfl|rfl|rfl|rfl|rfl|rfl<;>exact absurd ‹_› hu
  obtain⟨A,hp⟩:=s.a h9
  have W:ay Try.prog E l' (base 29):=Wf l' A.lk.ch
  have f0:=F.base 0 rfl
  have f1:=F.base 1 rfl
  have f2:=F.base 2 rfl
  have f3:=F.base 3 rfl
  have mT: ∀G ae u,GI E G ae u->(G.th i).af=true->G.th i=l'->∃dd,G.app (br ib 0)=some (.int .i64 j,dd)/\(dd= .ro\/(∃k,dd= .dq k/\(G.th i).aP k=true)\/(∃k,dd= .bM k/\(G.th i).run=some k)):=fun G ae u hg au ax=>hg.k.kn i _ _ au (by rw[ax];exact A.kn)
  rcases fU with rfl|rfl|rfl|rfl|rfl|rfl|rfl|rfl|rfl|rfl
  ·refine Tk.uR W (x:=.tmp 3) (ad:=br tB 0) (d:=4) (v:=.slice (some ⟨T,0,none⟩) nj eI) IL A.lk.af A.lk.rel (by rfl) (by rfl) (by rfl) (by rfl) (by rfl) (by rfl) f3 (fun G ae u hg au ax=>⟨_,c.TW hg R.t,.inl rfl⟩) fun ae hv=>?_
   exact cC _ _ _ ⟨F.put (j:=0) (d:=4) (by rfl) rfl,s.view (by decide) (by decide) hv⟩
  ·refine Tk.uR W (x:=.tmp 2) (ad:=br ib 0) (d:=5) (v:=.int .i64 j) IL A.lk.af A.lk.rel (by rfl) (by rfl) (by rfl) (by rfl) (by rfl) (by rfl) f2 mT fun ae hv=>?_
   exact cC _ _ _ ⟨F.put (j:=1) (d:=5) (by rfl) rfl,s.view (by decide) (by decide) hv⟩
  ·refine Tk.uR W (x:=.tmp 0) (ad:=br hB 0) (d:=6) (v:=ptr H 0) IL A.lk.af A.lk.rel (by rfl) (by rfl) (by rfl) (by rfl) (by rfl) (by rfl) f0 (fun G ae u hg au ax=>⟨_,c.TW hg R.h,.inl rfl⟩) fun ae hv=>?_
   exact cC _ _ _ ⟨F.put (j:=2) (d:=6) (by rfl) rfl,s.view (by decide) (by decide) hv⟩
  ·refine Tk.uR W (x:=.tmp 1) (ad:=br lB 0) (d:=7) (v:=.slice (some ⟨lb,lo,none⟩) nj b6) IL A.lk.af A.lk.rel (by rfl) (by rfl) (by rfl) (by rfl) (by rfl) (by rfl) f1 (fun G ae u hg au ax=>⟨_,c.TW hg hRl,.inl rfl⟩) fun ae hv=>?_
   exact cC _ _ _ ⟨F.put (j:=3) (d:=7) (by rfl) rfl,s.view (by decide) (by decide) hv⟩
  ·refine Tk.uR W (x:=.tmp 2) (ad:=br ib 0) (d:=8) (v:=.int .i64 j) IL A.lk.af A.lk.rel (by rfl) (by rfl) (by rfl) (by rfl) (by rfl) (by rfl) f2 mT fun ae hv=>?_
   exact cC _ _ _ ⟨F.put (j:=4) (d:=8) (by rfl) rfl,s.view (by decide) (by decide) hv⟩
  ·have g7:=F.get (j:=3) (d:=7) (by rfl) rfl (bN hb (by rfl) 3 (by rfl))
   have g8:=F.get (j:=4) (d:=8) (by rfl) rfl (bN hb (by rfl) 4 (by rfl))
   refine Tk.pure W.wk (by rfl) (by rfl) (by rfl) (by rw[hP];exact jT (x:=.tmp 7) (y:=.tmp 8) (sz:=4) (m:=j) (kk:=.i64) rfl (by rfl) (by decide+kernel) (by decide) g7 g8 (by omega)) ?_
   exact cC _ _ _ ⟨F.step (j:=5) (d:=9) (by rfl) rfl (by rw[show((j:Nat):Int).toNat=j by omega];rfl),s.view (by decide) (by decide) (View.refl _ _)⟩
  ·have g9:=F.get (j:=5) (d:=9) (by rfl) rfl (bN hb (by rfl) 5 (by rfl))
   refine Tk.SX W.wk A.lk.af A.lk.rel (t:=31) (x:=.tmp 9) (bk:=lb) (off:=lo+j*4) (dd:=10) (by rfl) (by rfl) (by rfl) (by rfl) (by rfl) g9 (by rw[hP];rfl) rfl fun G ae u hg au ax hv=>?_
   refine⟨qu (tu j),by rw[hP];rfl,fun k v hk=>⟨_,c.TW hg (R.row j k v hj hk),.inl rfl⟩,?_⟩
   exact cC _ _ _ ⟨F.put (j:=6) (d:=10) (by rfl) rfl,s.view (by decide) (by decide) hv⟩
  ·have g6:=F.get (j:=2) (d:=6) (by rfl) rfl (bN hb (by rfl) 2 (by rfl))
   have IG:=F.get (j:=6) (d:=10) (by rfl) rfl (bN hb (by rfl) 6 (by rfl))
   refine Tk.call W.wk (vs:= [ptr H 0,.agg (qu (tu j)).toArray]) (by rfl) (by rfl) (by rfl) (by rfl) (hP▸Sr) (by show eD env [.tmp 6,.tmp 10]=_;simp only[eD,show env.ev (.tmp 6)=_ from g6,show env.ev (.tmp 10)=_ from IG];rfl) fun rM oA=>?_
   rw[hP]
   refine Zh c (R.wf j hj) A.lk A.deaf fun l2 w2 t2=>oA _ _ _ (cC _ _ _ ⟨F.step (j:=7) (d:=11) (by rfl) rfl rfl,?_⟩)
   refine⟨fun _=>⟨⟨t2.lk,t2.deaf,by rw[t2.kept.bZ];exact A.bZ,t2.kn _ _ (by rw[c.qU];unfold ot;rw[if_neg (by intro x;injection x with x;exact P7 x),if_neg (by rintro⟨x,_⟩;exact P7 x)]) A.kn⟩,fun _=>t2.aP⟩,fun x=>absurd ((oI (by decide)).1 x) h9,s.st.trans ⟨t2.ai,t2.size,t2.heap⟩⟩
  ·have g4:=F.get (j:=0) (d:=4) (by rfl) rfl (bN hb (by rfl) 0 (by rfl))
   have g5:=F.get (j:=1) (d:=5) (by rfl) rfl (bN hb (by rfl) 1 (by rfl))
   refine Tk.pure W.wk (by rfl) (by rfl) (by rfl) (by rw[hP];exact jT (x:=.tmp 4) (y:=.tmp 5) (sz:=1) (m:=j) (kk:=.i64) rfl (by rfl) (by decide+kernel) (by decide) g4 g5 (by omega)) ?_
   exact cC _ _ _ ⟨F.step (j:=8) (d:=12) (by rfl) rfl (by rw[show((j:Nat):Int).toNat*1=j by omega,Nat.zero_add];rfl),s.view (by decide) (by decide) (View.refl _ _)⟩
  have g12:=F.get (j:=8) (d:=12) (by rfl) rfl (bN hb (by rfl) 8 (by rfl))
  have g11:=F.get (j:=7) (d:=11) (by rfl) rfl (bN hb (by rfl) 7 (by rfl))
  have dR:=hp (bN hb (by rfl) 7 (by rfl))
  refine Tk.Mb W.wk (x:=.tmp 12) (y:=.tmp 11) (ad:=br T j) (v:=.int .i64 (S08.aW (S08.jO (tu j)))) (by rw[hP];exact IL) (by rfl) (by rfl) (by rfl) (by rfl) (by rw[hP];exact⟨_,by rfl,by rfl⟩) rfl rfl g12 g11 fun G ae u hg au ax hv=>?_
  have hm:=hg.more
  rw[c.app]at hm
  have ho:=hm.2.1 j hj
  obtain⟨q1,q2,_⟩:=hg.m.app _ _ _ ho
  have UP:G.cv j=0:=by
   have h1:=hg.j.cnt j
   have vL:=(hg.j.rT i j au (by rw[ax];exact A.bZ)).1
   have ll:=(hg.a.db i au).1
   have h2:=Go.ConcN.le_sumTo (f:=fun a=>(G.th a).holds E.rs j) ll
   have h3:(G.th i).holds E.rs j=1:=by
    unfold Lo.holds
    rw[show(G.th i).bZ=some j by rw[ax];exact A.bZ]
    simp only
    rw[if_pos ⟨au,c.rs j⟩]
   have h4: ∀m,dL E.rs j m<=1:=fun m=>by
    have key: ∀m,(m<=j->dL E.rs j m=0)/\dL E.rs j m<=1:=fun m=>by
     induction m with
     |zero=>exact⟨fun _=>rfl,Nat.zero_le _⟩
     |succ m ih=>
      have e:dL E.rs j (m+1)=dL E.rs j m+if E.rs m=some j then 1 else 0:=rfl
      rw[e,c.rs m]
      constructor
      ·intro hle
       rw[ih.1 (by omega),if_neg (by intro x;injection x with x;omega)]
      by_cases em:m=j
      ·subst em
       rw[ih.1 (Nat.le_refl _),if_pos rfl];omega
      rw[if_neg (by intro x;injection x with x;exact em x)];exact ih.2
    exact(key m).2
   have h5:=h4 G.pos
   rw[h3]at h2
   omega
  refine⟨_,{l' with bZ:=none},q1,q2,fun fn pos=>?_,?_⟩
  ·obtain⟨G',d,cc,_⟩:=hg.M5 (.int .i64 (S08.aW (S08.jO (tu j)))) fn pos au (by rw[ax];exact A.lk.rel) (by rw[ax];exact A.bZ) (c.rs j) ho (by
    rw[c.app,<-R.res j hj]
    exact hm.told (c.Kx hg au (by rw[ax];exact dR)).1 hj UP)
   rw[ax]at d
   exact⟨G',d,cc,A.lk.af⟩
  refine cC _ _ _ ⟨F.none (j:=9) (by rfl) rfl,fun x=>absurd (Ll (by rw[F.size];exact ov)) x,fun _=>⟨⟨A.lk.i0,A.lk.kK,A.lk.af,A.lk.mr,A.lk.ch,A.lk.gr,A.lk.rel,A.lk.run⟩,A.deaf,rfl⟩,s.st.trans ⟨fun _ hb=>hb,by rw[aD];exact hv.1,fun b hb=>?_⟩⟩
  rw[cS ae (br T j) _ fun e=>?_]
  ·exact hv.2 b hb
  exact(hg.s.qT i b au (by rw[ax];exact hb)).2.1 _ _ ho e
 rintro L l' w' env ⟨F,s⟩ dK
 exact Tk.sub (h l' w' (s.d (dK 9 (by decide))) s.st) fun k v hk=>by cases hk
end
end Go.Co.F1

namespace Go.Co.F1
open Go Go.Conc Go.Proofs
open Go.Co
open Go.ConcN (upd upd_ne upd_same)
variable{E:Geo}{N i:Nat}{l:Lo}{w:World}
set_option maxRecDepth 10000
section
variable{H B T nj:Nat}{ro:Addr->Option Value}{res:Nat->Int}
theorem TD{B:Nat}(hf:E.da)(hP:E.P=Try.prog)(O:WgAt E B)(dQ:i≠0)(A:Sx E l)(cx:l.gr= .out)(ee:l.mr=none)(aJ:l.rel=none)(fD:l.deaf=0){fr:Frame}{cs:List Frame}
  (hq:Qt Try.prog 0 (Conc.G (fr.finish (.tuple #[])) cs)):Tr E N i l (Conc.G (Frame.enter Try.prog 42 #[.pointer (some ⟨B,0,none⟩)] .normal) (fr::cs)) w:=by
 have W:ay Try.prog E l (base 42):=⟨⟨hf,A.ch,by decide⟩,hP⟩
 refine Tr.ck hP YR (Nat.le_of_ble_eq_true rfl) ?_
 (repeat(first|refine ah.pS W (hp:=by exact aa (.inl rfl) rfl) (h:=?_)|refine Tk.reg W ?_))
 refine ah.LU W (by rfl) (by rfl) (by rfl) (by rfl) (by rfl) N0 rfl fun GW _ T6=>?_
 refine TO hf hP O dQ A cx ee aJ fD (T6 0 _ ?_)
 (repeat(refine QO.done (by rfl) ?_))
 exact Qk.ji (QR.leave0 YR hq)
structure Bx(B wB fB ib hB lB tB:Nat)(l:Lo)(w:World):Prop where
 ow:l.ai wB
 of:l.ai fB
 cw:w.heap[wB]?=some (.cells #[ptr B 0] 79 (0,0))
 cf:w.heap[fB]?=some (.cells #[.func (.func 29) #[] #[ptr hB 0,ptr lB 0,ptr ib 0,ptr tB 0]] 1 (0,0))
theorem Bx.stay{B wB fB ib hB lB tB:Nat}{l l':Lo}{w w':World}(h:Bx B wB fB ib hB lB tB l w)(s:vR l l' w w'):Bx B wB fB ib hB lB tB l' w':=
 ⟨s.ai _ h.ow,s.ai _ h.of,(s.heap _ h.ow).trans h.cw,(s.heap _ h.of).trans h.cf⟩
set_option maxHeartbeats 4000000 in
theorem MC(c:HG E H B T nj ro res){hB lB tB lb lo b6 eI ib wB fB j:Nat}{tu:Nat->S08.Tu}(R:HR ro res H T nj hB lB tB lb lo b6 eI tu)(hj:j<nj)(P7:ib≠H)(A:YT E i j ib l)(D:Bx B wB fB ib hB lB tB l w):
  Tr E N i l (Conc.born Try.prog {target:=.fn (.func 40) #[ptr wB 0,ptr fB 0],args:= #[]}) w:=by
 have hP:=c.P
 have hf:=c.fin
 refine Tr.born hP hf A.lk.ch A.lk.i0 VW (Nat.le_of_ble_eq_true rfl) ?_
 have W:ay Try.prog E l (baseD 40):=⟨⟨hf,A.lk.ch,by decide⟩,hP⟩
 refine Tk.seq W.wk ?_
 refine Tk.reg W ?_
 refine ah.pS W (hp:=jx (o:=_) rfl rfl rfl) (h:=?_)
 refine ah.TE W (by rfl) (by rfl) (by rfl) (by rfl) rfl ?_
 (repeat(first|refine ah.dn W ?_|refine Tk.reg W ?_))
 refine ah.open (by rfl) (Tk.gS W.wk (ad:=br fB 0) (v:=.func (.func 29) #[] #[ptr hB 0,ptr lB 0,ptr ib 0,ptr tB 0]) A.lk.rel (by rfl) (by rfl) (by rfl) (by rfl) (by rw[hP];rfl) rfl D.of (by simp[World.cell?,D.cf]) ?_)
 refine ah.QS W (by rfl) (by rfl) (by rfl) (by rfl) Sp rfl rfl fun GW oC=>?_
 refine Tr.ck hP Sp (Nat.le_of_ble_eq_true rfl) ?_
 have W1:ay Try.prog E l (base 29):=⟨⟨hf,A.lk.ch,by decide⟩,hP⟩
 refine Wj c R hj P7 A (fun l2 w2 A2 s2=>?_) (by rfl)
 have W2:ay Try.prog E l2 (base 29):=⟨⟨hf,A2.lk.ch,by decide⟩,hP⟩
 refine Tk.ji W2.wk (fE.leave0 W2.wk (hP▸Sp) (oC _ _ _ (ah.lay (rfl:Nv.put _ _ _=_) ?_)))
 have D2:=D.stay s2
 have W3:ay Try.prog E l2 (baseD 40):=⟨⟨hf,A2.lk.ch,by decide⟩,hP⟩
 (repeat(refine ah.dn W3 ?_))
 refine Tk.ji W3.wk (fE.Xa W3.wk (hP▸VV) (Nat.le_of_ble_eq_true rfl) fun fr hm hk hq _=>?_)
 have W4:ay Try.prog E l2 (baseD 41):=⟨⟨hf,A2.lk.ch,by decide⟩,hP⟩
 refine Tk.seq W4.wk ?_
 refine Tk.seq W4.wk ?_
 refine Tk.reg W4 ?_
 refine ah.Wq W4 (by rfl) (by rfl) (by rfl) (by rfl) (by rfl) (fun a todo=>?_) ?_
 ·rw[tryRecover.eq_1 _ _ _ rfl,hm]
 (repeat(first|refine ah.dn W4 ?_|refine ah.pS W4 (hp:=by first|exact aa (.inl rfl) rfl|exact aa (.inr rfl) rfl) (h:=?_)|refine Tk.seq (ay.wk W4) ?_|refine Tk.reg W4 ?_))
 refine ah.pS W4 (hp:=Cb rfl rfl (by rfl)) (h:=?_)
 (repeat(first|refine ah.dn W4 ?_|refine Tk.reg W4 ?_|refine Tk.skip (ay.wk W4) ?_|refine Tk.bC (ay.wk W4) rfl ?_))
 refine ah.open (by rfl) (Tk.gS W4.wk (ad:=br wB 0) (v:=ptr B 0) A2.lk.rel (by rfl) (by rfl) (by rfl) (by rfl) (by rw[hP];rfl) rfl D2.ow (by simp[World.cell?,D2.cw]) ?_)
 refine ah.LU W4 (by rfl) (by rfl) (by rfl) (by rfl) (by rfl) YR rfl fun GW _ T6=>?_
 refine TD hf hP c.wg A2.lk.i0 ⟨A2.lk.af,A2.lk.ch,fun hh=>?_,fun j hj=>?_⟩ A2.lk.gr A2.lk.mr A2.lk.rel A2.deaf (T6 0 _ ?_)
 ·rw[c.hC]at hh;cases hh
 ·rw[A2.bZ]at hj;cases hj
 (repeat(refine QO.done (by rfl) ?_))
 exact Qk.ji (QR.leaveD VV hm (hP▸hq 0 (hP.symm▸QR.born VW)))
end
end Go.Co.F1

namespace Go.Co.F1
open Go Go.Conc Go.Proofs
open Go.Co
open Go.ConcN (upd upd_ne upd_same)
variable{E:Geo}{N i:Nat}{l:Lo}{w:World}
set_option maxRecDepth 10000
noncomputable def zab:Code:=(Try.f28.body).getD .skip
theorem Sq:ij Try.prog 28 7 zab #[]:=⟨Try.f28,Try.func28,by decide+kernel,rfl,rfl,rfl⟩
theorem Gm{w:World}{b:Nat}{x:Obj}(h:w.heap[b]?=some x):b<w.heap.size:=(Array.getElem?_eq_some_iff.1 h).1
structure gH(jg:Nat->Prop)(w0:World)(l:Lo)(w:World):Prop where
 size:w0.heap.size<=w.heap.size
 heap: ∀b,jg b->l.ai b/\w.heap[b]?=w0.heap[b]?
theorem gH.view{jg:Nat->Prop}{w0 w':World}(h:gH jg w0 l w)(hv:View l.ai w w'):gH jg w0 l w':=⟨Nat.le_trans h.size hv.1,fun b hb=>⟨(h.heap b hb).1,(hv.2 b (h.heap b hb).1).trans (h.heap b hb).2⟩⟩
section
variable{H B T nj:Nat}{ro:Addr->Option Value}{res:Nat->Int}
theorem Rq.Sd(c:Rq E H B T nj ro res): ∀app app' dn cv,E.App app dn cv->(∀a x,app a=some x->app' a=some x)->(∀a x,app' a=some x->app a=some x\/∃v k,x=(v,.dq k)/\E.K<=k)->E.App app' dn cv:=by
 intro app app' dn cv h k kn
 rw[c.app]at h ⊢
 rw[c.K]at kn
 exact h.grow k kn
set_option maxHeartbeats 4000000 in
theorem ZX(c:HG E H B T nj ro res){hB lB tB lb lo b6 eI ib m lf:Nat}{tu:Nat->S08.Tu}(R:HR ro res H T nj hB lB tB lb lo b6 eI tu)(hm:m<nj)(P7:ib≠H)(A:Mn l 0 ⟨lf+1,0,m,false⟩)
  (aN:l.ai ib) (mA:w.heap[ib]?=some (.cells #[.int .i64 m] 3 (0,0))) {fr:Frame} {cs:List Frame}
  (h: ∀N l' w',Mn l' 0 ⟨lf,0,m+1,false⟩->l'.kn (br ib 0)=some (.int .i64 m)->w.heap.size<=w'.heap.size->(∀b,l.ai b->b≠ib->l'.ai b/\w'.heap[b]?=w.heap[b]?)->Tr E N 0 l' (Conc.G (fr.finish (.tuple #[])) cs) w'):
  Tr E N 0 l (Conc.G (Frame.enter Try.prog 28 #[ptr B 0,.func (.func 29) #[] #[ptr hB 0,ptr lB 0,ptr ib 0,ptr tB 0]] .normal) (fr::cs)) w:=by
 have hP:=c.P
 have hf:=c.fin
 have Wf: ∀l':Lo,l'.ch= .no->ay Try.prog E l' (base 28):=fun l' h=>⟨⟨hf,h,by decide⟩,hP⟩
 have W:=Wf l A.ch
 refine Tr.laid (aX _ _) A.ch fun hold=>?_
 refine Tr.ck hP Sq (Nat.le_of_ble_eq_true rfl) ?_
 refine Tk.seq W.wk ?_
 refine Tk.reg W ?_
 refine ah.open (by rfl) (Tk.E4 W.wk A.rel (d:=2) (by rfl) (by rfl) (by rfl) (by rfl) (fun r=>ptr r 0) (.cells #[ptr B 0] 79 (0,0)) (fun a ha ae=>pt (t:=79) (x:=.tmp 0) (v:=ptr B 0) (by rfl) (ha.ev (x:=.tmp 0) rfl)) fun ae ig wB Ya=>?_)
 have A1:Mn (l.grow wB (wB+1)) 0 ⟨lf+1,0,m,false⟩:=⟨A.af,A.ch,A.rel,A.mr,A.bZ,A.deaf,A.gr,A.me⟩
 have k1:pT l (l.grow wB (wB+1)) w {ae with heap:=ae.heap.push (.cells #[ptr B 0] 79 (0,0))}:=sM ig Ya hold
 have o1:(l.grow wB (wB+1)).ai wB:=.inr ⟨Nat.le_refl _,Nat.lt_succ_self _⟩
 have c1:({ae with heap:=ae.heap.push (.cells #[ptr B 0] 79 (0,0))}:World).heap[wB]?=some (.cells #[ptr B 0] 79 (0,0)):=iD Ya
 have n1:w.heap.size<=wB:=by rw[Ya];exact ig.1
 have uW: ∀b,(l.grow wB (wB+1)).ai b->b<({ae with heap:=ae.heap.push (.cells #[ptr B 0] 79 (0,0))}:World).heap.size:=fun b hb=>by
  show b<(ae.heap.push _).size
  rw[Array.size_push]
  rcases hb with hb|hb
  ·have:=hold b hb;have:=ig.1;omega
  omega
 generalize({ae with heap:=ae.heap.push (.cells #[ptr B 0] 79 (0,0))}:World)=w2 at*
 generalize l.grow wB (wB+1)=l1 at*
 have W1:=Wf l1 A1.ch
 show ah _ _ _ _ _ _ _ _ _ _ 1 _ _
 refine ah.open (by rfl) (Tk.E4 W1.wk A1.rel (d:=3) (by rfl) (by rfl) (by rfl) (by rfl) (fun r=>ptr r 0) (.cells #[.func (.func 29) #[] #[ptr hB 0,ptr lB 0,ptr ib 0,ptr tB 0]] 1 (0,0)) (fun a ha ae=>pt (t:=1) (x:=.tmp 1) (v:=.func (.func 29) #[] #[ptr hB 0,ptr lB 0,ptr ib 0,ptr tB 0]) (by rfl) (ha.ev (x:=.tmp 1) rfl)) fun eA dF fB hfB=>?_)
 have A2:Mn (l1.grow fB (fB+1)) 0 ⟨lf+1,0,m,false⟩:=⟨A1.af,A1.ch,A1.rel,A1.mr,A1.bZ,A1.deaf,A1.gr,A1.me⟩
 have k2:=k1.trans (sM (ob:=.cells #[.func (.func 29) #[] #[ptr hB 0,ptr lB 0,ptr ib 0,ptr tB 0]] 1 (0,0)) dF hfB uW)
 have o2:(l1.grow fB (fB+1)).ai fB:=.inr ⟨Nat.le_refl _,Nat.lt_succ_self _⟩
 have Xl:(l1.grow fB (fB+1)).ai wB:=.inl o1
 have c2:({eA with heap:=eA.heap.push (.cells #[.func (.func 29) #[] #[ptr hB 0,ptr lB 0,ptr ib 0,ptr tB 0]] 1 (0,0))}:World).heap[fB]?=some (.cells #[.func (.func 29) #[] #[ptr hB 0,ptr lB 0,ptr ib 0,ptr tB 0]] 1 (0,0)):=iD hfB
 have c1':({eA with heap:=eA.heap.push (.cells #[.func (.func 29) #[] #[ptr hB 0,ptr lB 0,ptr ib 0,ptr tB 0]] 1 (0,0))}:World).heap[wB]?=some (.cells #[ptr B 0] 79 (0,0)):=by
  have:=uW wB o1
  show(eA.heap.push _)[wB]?=_
  rw[Array.getElem?_push,if_neg (by have:=dF.1;omega),dF.2 wB o1];exact c1
 have n2:w.heap.size<=fB:=by have:=dF.1;have:=k1.size;omega
 generalize({eA with heap:=eA.heap.push (.cells #[.func (.func 29) #[] #[ptr hB 0,ptr lB 0,ptr ib 0,ptr tB 0]] 1 (0,0))}:World)=w4 at*
 generalize l1.grow fB (fB+1)=l2 at*
 have W2:=Wf l2 A2.ch
 show ah _ _ _ _ _ _ _ _ _ _ 2 _ _
 (repeat(first|refine ah.dn W2 ?_|refine Tk.seq (ay.wk W2) ?_|refine Tk.reg W2 ?_))
 refine ah.open (by rfl) (Tk.gS W2.wk (x:=.tmp 2) (ad:=br wB 0) (v:=ptr B 0) A2.rel (by rfl) (by rfl) (by rfl) (by rfl) (by rw[hP];rfl) rfl Xl (by simp[World.cell?,c1']) ?_)
 refine ah.uZ W2 (by rfl) (by rfl) (by rfl) (by rfl) (by rfl) N0 rfl fun GW oC=>?_
 refine TN hf hP c.wg A2 fun w5 yV=>oC _ _ _ _ ?_
 have A3:Mn {l2 with me:=⟨lf+1,1,m,false⟩} 0 ⟨lf+1,1,m,false⟩:=A2.to
 have W3:=Wf _ A3.ch
 (repeat(first|refine ah.dn W3 ?_|refine Tk.reg W3 ?_))
 refine ah.pS W3 (hp:=jx (o:=_) rfl rfl rfl) (h:=?_)
 have hk: ∀b,l.ai b->l2.ai b/\w5.heap[b]?=w.heap[b]?:=fun b hb=>⟨k2.ai b hb,(yV.2 b (k2.ai b hb)).trans (k2.heap b hb)⟩
 have E7:ib<w.heap.size:=Gm mA
 have hi5:w5.heap[ib]?=some (.cells #[.int .i64 m] 3 (0,0)):=(hk ib aN).2.trans mA
 refine ah.goL W3 A3.af (x:=.tmp 6) (f:=40) (cap:= #[ptr wB 0,ptr fB 0]) (lf:=lf) (ps:=m) (c:=false) A3.me A3.gr A3.deaf (by rw[c.K];decide) (by rw[c.njE];exact hm) c.Sd (PB:=fun b=>b=wB\/b=fB) (QB:=fun b=>b=ib) (LB:=fun a=>if a=br ib 0 then some (.int .i64 m)else none)
  (fun b hb=>?_) (fun b hb=>hb▸(hk ib aN).1) (fun a v hv=>?_) (by rfl) (by rfl) (by rfl) (by rfl) rfl (fun N' hN w' nn dG=>?_) (fun N' hN w' i' yY dG=>?_)
 ·rcases hb with rfl|rfl
  ·exact⟨Xl,fun e=>by subst e;omega⟩
  exact⟨o2,fun e=>by subst e;omega⟩
 ·split at hv
  ·rename_i e;cases hv;subst e
   exact⟨rfl,by simp[World.cell?,hi5],by unfold World.frozen?;simp[hi5]⟩
  cases hv
 ·have W4:=Wf {l2 with ai:=fun b=>(l2.ai b/\¬b=ib)/\¬(b=wB\/b=fB),aP:=upd l2.aP (E.K+nn) true,kn:=oX l2.kn (fun a=>if a=br ib 0 then some (.int .i64 m)else none),me:=⟨lf,0,m+1,false⟩} A3.ch
  refine ah.dn W4 ?_
  refine Tk.ji W4.wk (fE.leave0 W4.wk (hP▸Sq) (h N' _ w' ⟨A3.af,A3.ch,A3.rel,A3.mr,A3.bZ,A3.deaf,A3.gr,rfl⟩ ?_ ?_ fun b hb cb=>?_))
  ·show oX l2.kn (fun a=>if a=br ib 0 then some (.int .i64 m)else none) (br ib 0)=_
   unfold oX
   simp
  ·exact Nat.le_trans k2.size (Nat.le_trans yV.1 dG.1)
  have bA:=hold b hb
  refine⟨⟨⟨(hk b hb).1,cb⟩,?_⟩,(dG.2 b (hk b hb).1).trans (hk b hb).2⟩
  rintro(rfl|rfl)<;>omega
 refine MC (l:=Lo.mq _ _ _ _) c R hm P7 ⟨⟨yY,c.kK,rfl,rfl,rfl,rfl,rfl,rfl⟩,rfl,rfl,?_⟩ ⟨.inl rfl,.inr rfl,?_,?_⟩
 ·show(if br ib 0=br ib 0 then _ else _)=_
  rw[if_pos rfl]
 ·exact(dG.2 wB Xl).trans ((yV.2 wB Xl).trans c1')
 exact(dG.2 fB o2).trans ((yV.2 fB o2).trans c2)
end
end Go.Co.F1

namespace Go.Co
open Go Go.Conc
theorem kJ{P:Program}{env:Nv}{o:Oper}{x:Operand}{t e:TypeId}{bs:Option Addr}{n c:Nat}(ho:o.op= .call {callee:=.builtin .len,args:= #[x],argTypes:= #[t]})(hx:env.ev x=some (.slice bs n c))(hu:P.underlying t=some (.slice e)):bR P env o (.int .i64 (n:Int)):=fun m a ha w=>by
 constructor<;>simp[execOp,ho,resolve,invoke,builtin,Builtin.len_,ha.ev hx,run_underlying hu,events_underlying,goInt]
theorem gO{P:Program}{a:Act}{o:Oper}{t:TypeId}{c:Array Value}(ho:o.op= .alloc t)(hz:((P.info? t).bind fun i=>i.zero.map (·.cells))=some c)(w:World):
  (execOp a.eval o).run P w= .ok (.value (.pointer (some ⟨w.heap.size,0,none⟩))) {w with heap:=w.heap.push (.cells c t (0,0))}/\(execOp a.eval o).events P w #[]= #[]:=by
 cases hi:P.info? t with
 |none=>rw[hi]at hz;cases hz
 |some i=>
  rw[hi]at hz
  simp only[Option.bind_some]at hz
  cases Q1:i.zero with
  |none=>rw[Q1]at hz;cases hz
  |some z=>
   rw[Q1]at hz
   simp only[Option.map_some,Option.some.injEq]at hz
   rw[<-hz]
   exact GB ho hi Q1
end Go.Co
namespace Go.Co.F1
open Go Go.Conc Go.Proofs
open Go.Co
open Go.ConcN (upd upd_ne upd_same)
variable{E:Geo}{N i:Nat}{l:Lo}{w:World}
set_option maxRecDepth 10000
noncomputable def U7:Code:=(Try.f8.body).getD .skip
theorem bm8:ij Try.prog 8 51 U7 #[.tmp 2]:=⟨Try.f8,Try.func8,by decide+kernel,rfl,rfl,rfl⟩
theorem X3:(Try.prog.funcs[8]?).any (·.norace)=false:=by decide+kernel
def BJ:Nat->Code->Code
 |0,c=>c
 |n+1,.seq _ c=>BJ n c
 |_,c=>c
noncomputable def r8:Code:=BJ 5 U7
noncomputable def s8:Code:=BJ 7 U7
theorem qd{w:World}{b:Nat}{u v:Value}{t:TypeId}{fr:Nat×Nat}(h:w.heap[b]?=some (.cells #[u] t fr)):(w.setCell (br b 0) v).heap[b]?=some (.cells #[v] t fr):=by
 unfold World.setCell
 simp only[Array.getElem?_modify,if_true,h]
 rfl
theorem wrap64{n:Nat}(h:n<4611686018427387904):IntKind.i64.wrap ((n:Int)+1)=((n+1:Nat):Int):=by
 rw[IntKind.wrap_i64];omega
theorem gH.grow{jg:Nat->Prop}{w0 ae:World}{ob:Obj}{r:Nat}(h:gH jg w0 l w)(bA: ∀b,jg b->b<w0.heap.size)(hv:View l.ai w ae)(_hr:r=ae.heap.size):gH jg w0 (l.grow r (r+1)) {ae with heap:=ae.heap.push ob}:=by
 refine⟨?_,fun b hb=>⟨.inl (h.heap b hb).1,?_⟩⟩
 ·show _<=(ae.heap.push ob).size
  rw[Array.size_push];have:=h.size;have:=hv.1;omega
 show(ae.heap.push ob)[b]?=_
 have:=bA b hb;have:=h.size;have:=hv.1
 rw[Array.getElem?_push,if_neg (by omega),hv.2 b (h.heap b hb).1];exact(h.heap b hb).2
theorem gH.set{jg:Nat->Prop}{w0:World}{b:Nat}{v:Value}(h:gH jg w0 l w)(bA: ∀b,jg b->b<w0.heap.size)(hb:w0.heap.size<=b):gH jg w0 l (w.setCell (br b 0) v):=
 ⟨by rw[aD];exact h.size,fun c hc=>⟨(h.heap c hc).1,by rw[cS w (br b 0) v (fun e=>by have:=bA c hc;have e:b=c:=e;omega)];exact(h.heap c hc).2⟩⟩
structure Ib(w0:World)(ib m:Nat)(l:Lo)(w:World):Prop where
 ai:l.ai ib
 c:w.heap[ib]?=some (.cells #[.int .i64 m] 3 (0,0))
 n:w0.heap.size<=ib
theorem Ib.view{w0:World}{ib m:Nat}{w':World}(h:Ib w0 ib m l w)(hv:View l.ai w w'):Ib w0 ib m l w':=⟨h.ai,(hv.2 ib h.ai).trans h.c,h.n⟩
section
variable{H B T nj:Nat}{ro:Addr->Option Value}{res:Nat->Int}
set_option maxHeartbeats 8000000 in
theorem WB(c:Rq E H B T nj ro res){hB lB tB lb lo b6 eI:Nat}{tu:Nat->S08.Tu}(R:HR ro res H T nj hB lB tB lb lo b6 eI tu)(T7:nj<4611686018427387904)(A0:Mn l 0 ⟨nj,0,0,false⟩){jg:Nat->Prop}{w0:World}(bA: ∀b,jg b->b<w0.heap.size)(hH:H<w0.heap.size)(S0:gH jg w0 l w)
  {kk:List Item} {cs:List Frame}
  (h: ∀N l' w',Wt E l' .aT 0 false nj->gH jg w0 l' w'->Tk E N 0 l' w' (base 8) 51 [(1,ptr lB 0),(3,ptr hB 0),(4,ptr tB 0)] [] (.code s8::kk) cs):
  Tk E N 0 l w (base 8) 51 [(1,ptr lB 0),(3,ptr hB 0),(4,ptr tB 0),(5,ptr B 0)] [] (.code r8::kk) cs:=by
 have hP:=c.P
 have hf:=c.fin
 have Wl: ∀l':Lo,l'.ch= .no->ay Try.prog E l' (base 8):=fun l' h=>⟨⟨hf,h,by decide⟩,hP⟩
 obtain⟨bs,hl,_⟩:=R.l
 have W:=Wl l A0.ch
 refine Tk.seq W.wk ?_
 refine Tk.seq W.wk ?_
 refine Tk.reg W ?_
 refine ah.open (by rfl) (Tk.E4 W.wk A0.rel (d:=6) (by rfl) (by rfl) (by rfl) (by rfl) (fun r=>ptr r 0) (.cells #[.int .i64 0] 3 (0,0)) (fun a ha ae=>by rw[hP];exact gO (t:=3) (by rfl) (by rfl) ae) fun ae ig EN VB=>?_)
 have A1:Mn (l.grow EN (EN+1)) 0 ⟨nj,0,0,false⟩:=⟨A0.af,A0.ch,A0.rel,A0.mr,A0.bZ,A0.deaf,A0.gr,A0.me⟩
 have S1:gH jg w0 (l.grow EN (EN+1)) {ae with heap:=ae.heap.push (.cells #[.int .i64 0] 3 (0,0))}:=S0.grow bA ig VB
 have I1:Ib w0 EN 0 (l.grow EN (EN+1)) {ae with heap:=ae.heap.push (.cells #[.int .i64 0] 3 (0,0))}:=⟨.inr ⟨Nat.le_refl _,Nat.lt_succ_self _⟩,iD VB,by have:=S0.size;have:=ig.1;omega⟩
 generalize({ae with heap:=ae.heap.push (.cells #[.int .i64 0] 3 (0,0))}:World)=w2 at*
 generalize l.grow EN (EN+1)=l1 at*
 have W1:=Wl l1 A1.ch
 show ah _ _ _ _ _ _ _ _ _ _ 1 _ _
 refine ah.open (by rfl) (Tk.Bh W1.wk (x:=.tmp 6) (y:=.const (.int .i64 0)) (ad:=br EN 0) (v:=.int .i64 0) (u0:=.int .i64 0) A1.rel (by rfl) (by rfl) (by rfl) (by rfl) (by rw[hP];exact⟨_,by rfl,by rfl⟩) rfl rfl rfl rfl I1.ai (by simp[World.cell?,I1.c]) (by simp[World.frozen?,I1.c]) fun w3 gh=>?_)
 have S2:gH jg w0 l1 (w3.setCell (br EN 0) (.int .i64 0)):=(S1.view gh).set bA I1.n
 have I2:Ib w0 EN 0 l1 (w3.setCell (br EN 0) (.int .i64 0)):=⟨I1.ai,qd (I1.view gh).c,I1.n⟩
 generalize w3.setCell (br EN 0) (.int .i64 0)=w4 at*
 show ah _ _ _ _ _ _ _ _ _ _ 2 _ _
 (repeat(first|refine ah.dn W1 ?_|refine Tk.block (ay.wk W1) ?_))
 refine Tk.loop W1.wk ?_
 refine Tk.cut fun K hK=>?_
 have HH: ∀d N m (l':Lo) (w':World) (ib:Nat),d=nj-m->m<=nj->Mn l' 0 ⟨nj-m,0,m,false⟩->gH jg w0 l' w'->Ib w0 ib m l' w'->
   Tk E N 0 l' w' (base 8) 51 [(1,ptr lB 0),(3,ptr hB 0),(4,ptr tB 0),(5,ptr B 0),(6,ptr ib 0)] [] K cs:=by
  intro d
  induction d with
  |zero=>
   intro N m l' w' ib hd hm A S I
   have W1:=Wl l' A.ch
   rw[hK]
   refine Tk.seq W1.wk ?_
   refine Tk.seq W1.wk ?_
   refine Tk.reg W1 ?_
   refine ah.open (by rfl) (Tk.gS W1.wk (x:=.tmp 6) (ad:=br ib 0) (v:=.int .i64 m) A.rel (by rfl) (by rfl) (by rfl) (by rfl) (by rw[hP];rfl) rfl I.ai (by simp[World.cell?,I.c]) ?_)
   show ah _ _ _ _ _ _ _ _ _ _ 1 _ _
   refine ah.open (by rfl) (Tk.uR W1 (x:=.tmp 1) (ad:=br lB 0) (d:=17) (v:=.slice bs nj b6) X3 A.af A.rel (by rfl) (by rfl) (by rfl) (by rfl) (by rfl) (by rfl) rfl (fun G ae u hg au ax=>⟨_,c.TW hg hl,.inl rfl⟩) fun ae hv=>?_)
   have S:=S.view hv
   have I:=I.view hv
   show ah _ _ _ _ _ _ _ _ _ _ 2 _ _
   refine ah.pS W1 (hp:=kJ rfl rfl (by rfl)) (h:=?_)
   refine ah.pS W1 (hp:=by(exact al rfl rfl rfl rfl)) (h:=?_)
   refine ah.dn W1 ?_
   have hmm:m=nj:=by omega
   refine Tk.bC W1.wk (congrArg (fun b=>some (Value.bool b)) (decide_eq_false (show ¬(m:Int)<(nj:Int) by omega))) ?_
   rw[hmm,Nat.sub_self]at A
   (repeat(first|refine Tk.seq (ay.wk W1) ?_|refine Tk.reg W1 ?_|refine Tk.exit (ay.wk W1) rfl ?_))
   refine ah.uZ W1 (by rfl) (by rfl) (by rfl) (by rfl) (by rfl) XQ rfl fun GW oC=>?_
   refine SN hf hP c.wg ⟨A.af,A.ch,A.rel,A.mr,A.bZ,A.deaf,A.gr,A.me⟩ (fun e=>by rw[c.hC]at e;cases e) fun l3 w3 Wt3 UG gh=>oC _ _ _ _ ?_
   have W3:=Wl l3 Wt3.ch
   have S3:gH jg w0 l3 w3:=⟨(S.view gh).size,fun b hb=>by rw[UG];exact(S.view gh).heap b hb⟩
   refine ah.dn W3 ?_
   exact Tk.sub (h N l3 w3 Wt3 S3) (bp.sub ⟨rfl,rfl,rfl,trivial⟩)
  |succ d ih=>
   intro N m l' w' ib hd hm A S I
   have W1:=Wl l' A.ch
   rw[hK]
   refine Tk.seq W1.wk ?_
   refine Tk.seq W1.wk ?_
   refine Tk.reg W1 ?_
   refine ah.open (by rfl) (Tk.gS W1.wk (x:=.tmp 6) (ad:=br ib 0) (v:=.int .i64 m) A.rel (by rfl) (by rfl) (by rfl) (by rfl) (by rw[hP];rfl) rfl I.ai (by simp[World.cell?,I.c]) ?_)
   show ah _ _ _ _ _ _ _ _ _ _ 1 _ _
   refine ah.open (by rfl) (Tk.uR W1 (x:=.tmp 1) (ad:=br lB 0) (d:=17) (v:=.slice bs nj b6) X3 A.af A.rel (by rfl) (by rfl) (by rfl) (by rfl) (by rfl) (by rfl) rfl (fun G ae u hg au ax=>⟨_,c.TW hg hl,.inl rfl⟩) fun ae hv=>?_)
   have S:=S.view hv
   have I:=I.view hv
   show ah _ _ _ _ _ _ _ _ _ _ 2 _ _
   refine ah.pS W1 (hp:=kJ rfl rfl (by rfl)) (h:=?_)
   refine ah.pS W1 (hp:=by(exact al rfl rfl rfl rfl)) (h:=?_)
   refine ah.dn W1 ?_
   have Yj:m<nj:=by omega
   refine Tk.cp W1.wk (congrArg (fun b=>some (Value.bool b)) (decide_eq_true (show(m:Int)<(nj:Int) by omega))) ?_
   obtain⟨lf,T8⟩: ∃lf,nj-m=lf+1:=⟨nj-m-1,by omega⟩
   rw[T8]at A
   have ZN:ib≠H:=fun e=>by have:=I.n;omega
   (repeat(first|refine Tk.seq (ay.wk W1) ?_|refine Tk.reg W1 ?_|refine Tk.skip (ay.wk W1) ?_|refine Tk.block (ay.wk W1) ?_))
   refine ah.pS W1 (hp:=jx (o:=_) rfl rfl rfl) (h:=?_)
   refine ah.uZ W1 (by rfl) (by rfl) (by rfl) (by rfl) (by rfl) Sq rfl fun GW oC=>?_
   refine ZX ⟨c,by omega⟩ R Yj ZN A I.ai I.c fun N3 l3 w3 A3 yX e8 EH=>oC _ _ _ _ ?_
   have W3:=Wl l3 A3.ch
   have S3:gH jg w0 l3 w3:=⟨Nat.le_trans S.size e8,fun b hb=>by
    obtain⟨h1,h2⟩:=S.heap b hb
    obtain⟨h3,h4⟩:=EH b h1 (fun e=>by have:=I.n;have:=bA b hb;omega)
    exact⟨h3,h4.trans h2⟩⟩
   (repeat(refine ah.dn W3 ?_))
   refine Tk.inBlock W3.wk ?_
   (repeat(first|refine Tk.seq (ay.wk W3) ?_|refine Tk.reg W3 ?_))
   refine ah.open (by rfl) (Tk.uR W3 (x:=.tmp 6) (ad:=br ib 0) (d:=24) (v:=.int .i64 m) X3 A3.af A3.rel (by rfl) (by rfl) (by rfl) (by rfl) (by rfl) (by rfl) rfl (fun G ae u hg au ax=>hg.k.kn 0 _ _ au (by rw[ax];exact yX)) fun w4 wK=>?_)
   have S4:=S3.view wK
   show ah _ _ _ _ _ _ _ _ _ _ 1 _ _
   (repeat(first|refine ah.dn W3 ?_|refine Tk.reg W3 ?_))
   refine ah.open (by rfl) (Tk.E4 W3.wk A3.rel (d:=6) (by rfl) (by rfl) (by rfl) (by rfl) (fun r=>ptr r 0) (.cells #[.int .i64 0] 3 (0,0)) (fun a ha ae=>by rw[hP];exact gO (t:=3) (by rfl) (by rfl) ae) fun w5 yV wb VC=>?_)
   have A5:Mn (l3.grow wb (wb+1)) 0 ⟨lf,0,m+1,false⟩:=⟨A3.af,A3.ch,A3.rel,A3.mr,A3.bZ,A3.deaf,A3.gr,A3.me⟩
   have S5:gH jg w0 (l3.grow wb (wb+1)) {w5 with heap:=w5.heap.push (.cells #[.int .i64 0] 3 (0,0))}:=S4.grow bA yV VC
   have o5:(l3.grow wb (wb+1)).ai wb:=.inr ⟨Nat.le_refl _,Nat.lt_succ_self _⟩
   have c5:({w5 with heap:=w5.heap.push (.cells #[.int .i64 0] 3 (0,0))}:World).heap[wb]?=some (.cells #[.int .i64 0] 3 (0,0)):=iD VC
   have n5:w0.heap.size<=wb:=by have:=S4.size;have:=yV.1;omega
   generalize({w5 with heap:=w5.heap.push (.cells #[.int .i64 0] 3 (0,0))}:World)=w6 at*
   generalize l3.grow wb (wb+1)=l5 at*
   have W5:=Wl l5 A5.ch
   show ah _ _ _ _ _ _ _ _ _ _ 1 _ _
   refine ah.open (by rfl) (Tk.Bh W5.wk (x:=.tmp 6) (y:=.tmp 24) (ad:=br wb 0) (v:=.int .i64 m) (u0:=.int .i64 0) A5.rel (by rfl) (by rfl) (by rfl) (by rfl) (by rw[hP];exact⟨_,by rfl,by rfl⟩) rfl rfl rfl rfl o5 (by simp[World.cell?,c5]) (by simp[World.frozen?,c5]) fun w7 hv7=>?_)
   have S7:gH jg w0 l5 (w7.setCell (br wb 0) (.int .i64 m)):=(S5.view hv7).set bA n5
   have I7:Ib w0 wb m l5 (w7.setCell (br wb 0) (.int .i64 m)):=⟨o5,qd ((hv7.2 wb o5).trans c5),n5⟩
   generalize w7.setCell (br wb 0) (.int .i64 m)=w8 at*
   show ah _ _ _ _ _ _ _ _ _ _ 2 _ _
   (repeat(first|refine ah.dn W5 ?_|refine Tk.reg W5 ?_))
   refine ah.open (by rfl) (Tk.gS W5.wk (x:=.tmp 6) (ad:=br wb 0) (v:=.int .i64 m) A5.rel (by rfl) (by rfl) (by rfl) (by rfl) (by rw[hP];rfl) rfl I7.ai (by simp[World.cell?,I7.c]) ?_)
   show ah _ _ _ _ _ _ _ _ _ _ 1 _ _
   refine ah.pS W5 (hp:=by(exact al rfl rfl rfl rfl)) (h:=?_)
   rw[wrap64 (by omega)]
   refine ah.open (by rfl) (Tk.Bh W5.wk (x:=.tmp 6) (y:=.tmp 21) (ad:=br wb 0) (v:=.int .i64 ((m+1:Nat):Int)) (u0:=.int .i64 m) A5.rel (by rfl) (by rfl) (by rfl) (by rfl) (by rw[hP];exact⟨_,by rfl,by rfl⟩) rfl rfl rfl rfl I7.ai (by simp[World.cell?,I7.c]) (by simp[World.frozen?,I7.c]) fun w9 Uz=>?_)
   have S9:gH jg w0 l5 (w9.setCell (br wb 0) (.int .i64 ((m+1:Nat):Int))):=(S7.view Uz).set bA n5
   have I9:Ib w0 wb (m+1) l5 (w9.setCell (br wb 0) (.int .i64 ((m+1:Nat):Int))):=⟨o5,qd (I7.view Uz).c,n5⟩
   generalize w9.setCell (br wb 0) (.int .i64 ((m+1:Nat):Int))=w10 at*
   show ah _ _ _ _ _ _ _ _ _ _ 3 _ _
   (repeat(refine ah.dn W5 ?_))
   refine Tk.inLoop W5.wk ?_
   rw[<-hK]
   have e4:lf=nj- (m+1):=by omega
   rw[e4]at A5
   exact Tk.sub (ih N3 (m+1) l5 w10 wb (by omega) (by omega) A5 S9 I9) (bp.sub ⟨rfl,rfl,rfl,rfl,rfl,trivial⟩)
 exact Tk.sub (HH nj N 0 l1 w4 EN rfl (Nat.zero_le _) A1 S2 I2) (bp.sub ⟨rfl,rfl,rfl,rfl,rfl,trivial⟩)
end
end Go.Co.F1

namespace Go.Co
open Go Go.Conc
open Go.ConcM (OsLater)
open Go.ConcN (sumTo upd sumTo_upd upd_ne upd_same sumTo_congr le_sumTo sumTo_le)
structure Past(Sh:Nat->Prop)(n R B:Nat)(t:Trace):Prop where
 clean: ∀said,¬Race said t
 seen: ∀op∈t,op.act.low B
 known: ∀i op a,t[i]?=some op->op.act.touch?=some a->a.loc.isMemory=true->Knows t 0 i\/(∃b,a.loc= .cell b/\Sh b.block/\a.kind= .atomic)
 over: ∀i op,t[i]?=some op->op.g≠0->t.counts i->Knows t 0 i
 norel: ∀i a,t.act? i=some (.mark (.release a))->a.block<R
 old:R<=B
 deaf:Deaf t 0=0
 quiet: ∀j,n<=j->Deaf t j=0
 jz: ∀b,Sh b->b<B
 pos:0<n
theorem nA{n:Nat}{f:Nat->Nat}(h: ∀i,i<n->f i=0):sumTo n f=0:=by
 induction n with
 |zero=>rfl
 |succ n ih=>simp only[sumTo];rw[ih fun i hi=>h i (by omega),h n (by omega)]
theorem vf{n:Nat}{f:Nat->Nat}(hn:0<n)(h: ∀i,i≠0->f i=0):sumTo n f=f 0:=by
 induction n with
 |zero=>omega
 |succ n ih=>
  simp only[sumTo]
  by_cases e:n=0
  ·subst e;simp[sumTo]
  rw[ih (by omega),h n e];rfl
theorem JD{op:MemOp}{B:Nat}{a:Touch}(hs:op.act.low B)(tL:op.act.touch?=some a):a.loc.low B:=by
 obtain⟨g,fn,pos,act⟩:=op
 cases act with
 |access e=>simp only[MemAct.touch?,Option.some.injEq]at tL;subst tL;exact hs
 |mark m=>cases m<;>simp[MemAct.touch?]at tL<;>(subst tL;exact hs)
 |_=>simp[MemAct.touch?]at tL
def bD(ai:Nat->Prop):Lo:={af:=true,wk:=false,ai,deaf:=0,mr:=none,old:=none,aP:=fun _=>false,run:=none,ch:=.no,rel:=none,gr:=.aT,bZ:=none,kn:=fun _=>none,me:=⟨0,0,0,false⟩,sc:=false}
def kE:Lo:={af:=false,wk:=false,ai:=fun _=>False,deaf:=0,mr:=none,old:=none,aP:=fun _=>false,run:=none,ch:=.no,rel:=none,gr:=.out,bZ:=none,kn:=fun _=>none,me:=⟨0,0,0,false⟩,sc:=false}
def jB(n:Nat)(ai:Nat->Prop):Gh:={n,th:=fun i=>if i=0 then bD ai else kE,left:=0,wd:=fun _=>⟨false,false,false,0⟩,sm:=fun _=>0,dn:=fun _=>false,app:=fun _=>none,wn:=0,ww:=0,ws:=0,pend:=0,cl:=false,pos:=0,cv:=fun _=>0,tk:=fun _=>none}
def solo(P:Program)(Sh:Nat->Prop)(n:Nat)(w:World)(fin:Lo->Goroutine->World->Prop)(lY: ∀l g w,fin l g w->l.gr= .aT):Geo where
 P:=P
 K:=0
 sc:=fun _=>⟨w.heap.size,0,none⟩
 c:=0
 eg:=false
 n0:=n
 jz:=Sh
 nj:=0
 jv:=fun _=>undef
 rs:=fun _=>none
 w0:=w
 qU:=fun _=>none
 keep:=fun _=>False
 App:=fun _ _ _=>True
 fin:=fin
 lY:=lY
theorem G8{x:SC}: ¬x.ok 0:=by cases x<;>simp[SC.ok]
theorem HL{P:Program}{Sh:Nat->Prop}{n:Nat}{w:World}{t:Trace}{fin:Lo->Goroutine->World->Prop}{lY: ∀l g w,fin l g w->l.gr= .aT}{ai:Nat->Prop}{R:Nat}(h:Past Sh n R w.heap.size t)(ho: ∀b,ai b->b<w.heap.size/\¬Sh b):
  GI (solo P Sh n w fin lY) (jB n ai) w t:=by
 have hl: ∀i,((jB n ai).th i).af=true->i=0:=fun i hi=>by
  by_cases e:i=0
  ·exact e
  simp[jB,e,kE]at hi
 have h0:(jB n ai).th 0=bD ai:=rfl
 have hd: ∀i,i≠0->(jB n ai).th i=kE:=fun i e=>if_neg e
 have wc: ∀g,¬(solo P Sh n w fin lY).ours (jB n ai) g:=fun g ⟨a,b⟩=>Nat.lt_irrefl g (Nat.lt_of_lt_of_le b a)
 have hs: ∀ (f:Lo->Nat),f kE=0->f (bD ai)=0->sumTo (jB n ai).n (fun i=>f ((jB n ai).th i))=0:=fun f f1 f2=>nA fun i _=>by
  by_cases e:i=0
  ·subst e;exact f2
  rw[hd i e];exact f1
 refine⟨⟨⟨h.pos,Nat.le_refl _⟩,rfl,fun i hi=>⟨by rw[hl i hi];exact h.pos,.inl (hl i hi)⟩,?_,?_⟩,⟨fun i j b hi hj tP=>absurd ((hl i hi).trans (hl j hj).symm) tP,fun i b hi hb=>?_,fun i b hi hb=>?_,h.jz,Nat.le_refl _,fun a v e=>(by cases e)⟩,
  ⟨fun x hx=>absurd hx G8,fun a v d e=>(by cases e),fun x y hx=>absurd hx G8,fun e=>(by cases e),rfl,rfl,OsLater.refl _,fun b hb=>hb.elim⟩,?_,?_,?_,trivial,?_⟩
 ·show sumTo n _+0<=48
  rw[vf h.pos fun i e=>by rw[hd i e];rfl]
  rw[h0];exact Nat.le_of_ble_eq_true rfl
 ·exact fun _=>⟨rfl,rfl⟩
 ·rw[hl i hi]at hb;exact(ho b hb).1
 ·rw[hl i hi]at hb
  exact⟨fun x hx=>absurd hx G8,fun a v e=>(by cases e),fun e=>(by cases e),(ho b hb).2⟩
 ·refine⟨fun k hk=>absurd hk (Nat.not_lt_zero _),fun i k r hi e=>?_,fun i k hi e=>?_,fun i k hi e=>?_,fun a v k e=>(by cases e),fun a v k e=>(by cases e),fun i a v hi e=>?_,fun a v k e=>(by rcases e with e|e<;>cases e)⟩<;>
   (rw[hl i hi]at e;cases e)
 ·refine⟨?_,?_,?_,fun e=>?_,fun e=>?_,fun e=>(by cases e),fun _=>⟨rfl,rfl,rfl⟩,Nat.zero_le _,fun i hi=>⟨fun e=>?_,fun e=>absurd (hl i hi) e⟩,fun e=>?_⟩
  ·rw[hs Lo.busy rfl rfl];rfl
  ·rw[hs Lo.bf rfl rfl];rfl
  ·rw[hs Lo.ba rfl rfl];exact Nat.le_refl _
  ·rfl
  ·rfl
  ·subst e;exact⟨rfl,.inr (.inr (.inr (.inr rfl)))⟩
  rcases e with⟨m,e⟩|e<;>cases e
 ·refine⟨fun _ i hi=>by rw[hl i hi];rfl,fun i v hi e=>?_,fun i hi e=>?_,fun e=>(by cases e),Nat.le_refl _,fun r=>?_,fun i j hi e=>?_,⟨fun _ _=>rfl,fun j i e=>(by cases e)⟩,fun e=>(by cases e),fun e=>(by cases e),fun e=>(by cases e),fun i hi e=>?_,rfl,fun i hi e=>?_⟩
  ·rw[hl i hi]at e;cases e
  ·rw[hl i hi]at e;cases e
  ·rw[hs (Lo.holds (solo P Sh n w fin lY).rs r) rfl rfl];rfl
  ·rw[hl i hi]at e;cases e
  ·rw[hl i hi]at e;exact absurd rfl e
  rw[hl i hi]at e;cases e
 refine⟨⟨h.clean,fun g l i a hw ha oy=>?_,fun g l i a hw=>?_,fun g l i a hw=>?_,fun g l i a hw=>?_,h.seen⟩,fun i hi=>by rw[hl i hi];exact h.deaf,fun j hj=>h.quiet j hj,⟨fun i op a h1 h2 h3=>.inr (h.known i op a h1 h2 h3),fun i op h1 h2 h3=>.inr (h.over i op h1 h2 h3),fun i a e=>?_,fun g hg=>absurd hg (wc g),fun k hk=>absurd hk (Nat.not_lt_zero _),fun _ g r hg=>absurd hg (wc g)⟩⟩
 ·obtain⟨bq,hw⟩:=hw
  have:=hl g bq
  subst this
  obtain⟨op,h1,h2⟩:=touch_of ha
  have hm:a.loc.isMemory=true/\(∀b,a.loc= .cell b->ai b.block):=by
   rw[oy]
   cases l with
   |cell b=>
    refine⟨rfl,fun b' e=>?_⟩
    cases e
    rcases hw with hw|⟨v,k,e,_⟩|⟨v,k,e,_⟩
    ·exact hw
    ·cases e
    cases e
   |obj r=>exact⟨rfl,fun b' e=>by cases e⟩
   |_=>exact hw.elim
  rcases h.known i op a h1 h2 hm.1 with k|⟨b,k1,k2,_⟩
  ·exact k
  exact absurd k2 (ho _ (hm.2 b k1)).2
 ·obtain⟨_,hw⟩:=hw
  cases l with
  |cell b=>obtain⟨v,e|⟨k,e,_⟩⟩:=hw<;>cases e
  |_=>exact hw.elim
 ·obtain⟨_,hw⟩:=hw
  cases l with
  |cell b=>
   rcases hw with⟨x,hx,_⟩|⟨v,k,e,_⟩
   ·exact absurd hx G8
   cases e
  |obj r=>obtain⟨e,_⟩:=hw;cases e
  |_=>exact hw.elim
 ·obtain⟨e0,hw⟩:=hw
  intro ha oy _
  exfalso
  obtain⟨op,h1,h2⟩:=touch_of ha
  have vN:=JD (h.seen op (Array.mem_of_getElem? h1)) h2
  rw[oy]at vN
  cases l with
  |cell b=>
   have hw:b=⟨w.heap.size,0,none⟩:=hw
   subst hw
   exact Nat.lt_irrefl _ vN
  |_=>exact hw.elim
 have:=Nat.lt_of_lt_of_le (h.norel i a e) h.old
 exact⟨this,fun e=>by rw[e]at this;exact Nat.lt_irrefl _ this⟩
end Go.Co

namespace Go.Co
open Go Go.Conc
open Go.ConcM (OsLater)
open Go.ConcN (sumTo upd sumTo_upd upd_ne upd_same sumTo_congr le_sumTo sumTo_le)
variable{E:Geo}{G:Gh}{w:World}{t:Trace}
theorem GI.Qu(h:GI E G w t)(hj:(G.th 0).gr= .aT)(h0: ∀i,(G.th i).af=true->i=0){i:Nat}{op:MemOp}{a:Touch}(hi:t[i]?=some op)(ha:op.act.touch?=some a)(ho:E.ours G op.g):
  Knows t 0 i\/(a.kind= .atomic/\(a.loc= .cell (E.sc .bG)\/a.loc= .cell (E.sc .fX))/\¬t.heard i):=by
 rcases h.t.tell.rel op.g ho with⟨_,hl,_⟩|⟨r,h1,h2,h3,h4,h5⟩
 ·have:=h0 _ hl
  have h6:=h.a.qn.1
  have h7:=ho.1
  omega
 have hk:=h.t.tell.join hj op.g r ho h1
 by_cases hir:r<i
 ·exact .inr (h5 i op a hir hi rfl ha)
 left
 by_cases e:i=r
 ·subst e;exact hk
 unfold Trace.g? at h3
 obtain⟨y,hy,hyg⟩:=Option.map_eq_some_iff.1 h3
 exact Knows.of_before (.inr (hb_po (by omega) hi hy hyg.symm)) hk
theorem GI.past(h:GI E G w t)(hK:0<E.K)(hj:(G.th 0).gr= .aT)(hd:(G.th 0).deaf=0)(h0: ∀i,(G.th i).af=true->i=0)(hb:(E.sc .fX).block=(E.sc .bG).block):
  Past (fun b=>E.jz b\/b=(E.sc .bG).block) G.n E.w0.heap.size w.heap.size t:=by
 refine⟨h.t.ti.clean,h.t.ti.seen,fun i op a h1 h2 h3=>?_,fun i op h1 h2 h3=>?_,fun i a e=>(h.t.tell.norel i a e).1,h.s.size,by rw[h.t.deaf 0 h.a.bl];exact hd,h.t.quiet,fun b hb=>?_,by have:=h.a.qn;omega⟩
 ·rcases h.t.tell.known i op a h1 h2 h3 with k|k|⟨b,k1,k2,k3⟩
  ·rcases h.Qu hj h0 h1 h2 k with m|⟨m1,m2|m2,_⟩
   ·exact .inl m
   ·exact .inr ⟨_,m2,.inr rfl,m1⟩
   exact .inr ⟨_,m2,.inr hb,m1⟩
  ·exact .inl k
  exact .inr ⟨b,k1,.inl k2,k3⟩
 ·rcases h.t.tell.over i op h1 h2 h3 with k|k
  ·obtain⟨x,hx,_,Uu⟩:=h3
   obtain⟨op',e1,e2⟩:=touch_of hx
   rw[h1]at e1;cases e1
   rcases h.Qu hj h0 h1 e2 k with m|⟨m1,_,m3⟩
   ·exact m
   rcases Uu with y|y
   ·exact absurd m1 y
   exact absurd y m3
  exact k
 rcases hb with hb|hb
 ·exact Nat.lt_of_lt_of_le (h.s.jz b hb) h.s.size
 rw[hb];exact bT (h.m.sync .bG hK).1
theorem Ai{P:Program}{Sh:Nat->Prop}{n:Nat}{w0:World}{fin:Lo->Goroutine->World->Prop}{lY: ∀l g w,fin l g w->l.gr= .aT}(h:GI (solo P Sh n w0 fin lY) G w t)(hd:(G.th 0).deaf=0):Past Sh G.n w0.heap.size w.heap.size t:=by
 have wc: ∀g,¬(solo P Sh n w0 fin lY).ours G g:=fun g ⟨a,b⟩=>by
  have:=(h.a.alone rfl).2
  omega
 refine⟨h.t.ti.clean,h.t.ti.seen,fun i op a h1 h2 h3=>(h.t.tell.known i op a h1 h2 h3).resolve_left (wc _),fun i op h1 h2 h3=>(h.t.tell.over i op h1 h2 h3).resolve_left (wc _),fun i a e=>(h.t.tell.norel i a e).1,h.s.size,by rw[h.t.deaf 0 h.a.bl];exact hd,h.t.quiet,fun b hb=>Nat.lt_of_lt_of_le (h.s.jz b hb) h.s.size,by have:=h.a.qn;omega⟩
structure Rest(P:Program)(gs:Array Goroutine)(t:Trace):Prop where
 quit: ∀i y,0<i->gs[i]?=some y->∃q,QuitsD P q (Deaf t i) y
theorem phase{gs:Array Goroutine}{sl:Option (Nat×Nat)}(h:GI E G w t)(hn:G.n=gs.size)(h0: ∀i,(G.th i).af=true->i=0)(R:Rest E.P gs t){x g:Goroutine}(hx:gs[0]?=some x)(Kc:x.status= .running)(Uu:x.frame=g.frame)(hx3:x.callers=g.callers)(hx4:x.dying=g.dying)
  (hT: ∀N,Tr E N 0 (G.th 0) g w):Arrives E.Cv gs w sl t:=by
 obtain⟨q,hq⟩: ∃q:Nat->Nat,∀i y,0<i->gs[i]?=some y->QuitsD E.P (q i) (Deaf t i) y:=by
  refine(Classical.skolem (p:=fun i k=>∀y,0<i->gs[i]?=some y->QuitsD E.P k (Deaf t i) y)).1 fun i=>?_
  cases e:gs[i]? with
  |none=>exact⟨0,fun y _ hy=>by cases hy⟩
  |some z=>
   rcases Nat.eq_zero_or_pos i with e0|e0
   ·exact⟨0,fun y hi _=>by omega⟩
   obtain⟨k,hk⟩:=R.quit i z e0 e
   exact⟨k,fun y _ hy=>by cases hy;exact hk⟩
 have bA:0<gs.size:=(Array.getElem?_eq_some_iff.1 hx).1
 refine Il E.RE (G.Φ E.K E.nj) (fun i=>i=0) 1 (fun _=>(G.th 0,g,w)) (fun i e=>by subst e;exact hT _) _ G w t gs sl q ⟨h,hn,h.a.bl,fun i hi=>?_,fun i y hi hy=>?_,fun j hj=>h.t.quiet j (by rw[hn];exact hj),fun k x0 xk hk GQ=>absurd (h0 k hk) GQ,fun k xk hk GQ=>absurd (h0 k hk) GQ⟩ (Nat.le_refl _) (fun i hi=>by have:=h0 i hi;subst this;exact⟨rfl,by decide⟩) (Nat.le_refl _)
 ·have:=h0 i hi
  subst this
  exact⟨rfl,View.refl _ _,x,hx,Uu,hx3,hx4,.inl Kc⟩
 refine hq i y ?_ hy
 rcases Nat.eq_zero_or_pos i with e|e
 ·subst e;exact absurd h.a.bl hi
 exact e
end Go.Co

namespace Go.Co
open Go Go.Conc
open Go.ConcM (OsLater)
open Go.ConcN (sumTo upd upd_ne upd_same)
set_option maxRecDepth 10000
structure Old(W:World)(ai:Nat->Prop)(w:World):Prop where
 size:W.heap.size<=w.heap.size
 heap: ∀b,b<W.heap.size->ai b/\w.heap[b]?=W.heap[b]?
theorem Old.view{W:World}{ai:Nat->Prop}{w w':World}(h:Old W ai w)(v:View ai w w'):Old W ai w':=
 ⟨Nat.le_trans h.size v.1,fun b hb=>⟨(h.heap b hb).1,(v.2 b (h.heap b hb).1).trans (h.heap b hb).2⟩⟩
structure jM(P:Program)(W:World)(l:Lo)(g:Goroutine)(w:World):Prop where
 lo: ∃ai,l=bD ai/\Old W ai w
 ends: ∀w,stepG P true g w= .ended (.done (.bool true)) w #[]
theorem jM.view{P:Program}{W:World}{l:Lo}{g:Goroutine}{w w':World}(h:jM P W l g w)(hv:View l.ai w w'):jM P W l g w':=by
 obtain⟨⟨ai,rfl,ho⟩,he⟩:=h
 exact⟨⟨ai,rfl,ho.view hv⟩,he⟩
structure zay(P:Program)(S0:Nat)(F:Nat->Lo->Goroutine->World->Prop)(ai:Nat->Prop)(g:Goroutine)(w:World)(Sh:Nat->Prop)(n:Nat)(t:Trace)(E0:Geo)(G0:Gh):Prop where
 hP:E0.P=P
 hw:E0.w0=w
 hK:0<E0.K
 za:E0.jz=Sh
 gi:GI E0 G0 w t
 hn:G0.n=n
 one: ∀i,(G0.th i).af=true->i=0
 tr: ∀N,Tr E0 N 0 (G0.th 0) g w
 VM:E0.da
 fX:(E0.sc .fX).block=(E0.sc .bG).block
 on: ∀G w2 t2 g2,GI E0 G w2 t2->(∀i,(G.th i).af=true->i=0)->E0.fin (G.th 0) g2 w2->(G.th 0).deaf=0/\
  ∀E N,E.da->E.P=P->E.fin=F w2.heap.size->Tr E N 0 (bD fun b=>b<w2.heap.size/\¬(Sh b\/b=(E0.sc .bG).block)) g2 w2
structure Fh(P:Program)(S0:Nat)(F:Nat->Lo->Goroutine->World->Prop)(l:Lo)(g:Goroutine)(w:World):Prop where
 ex: ∃ai,l=bD ai/\∀w',View ai w w'->∀Sh n t,Past Sh n S0 w'.heap.size t->(∀b,ai b->b<w'.heap.size/\¬Sh b)->∃E0 G0,zay P S0 F ai g w' Sh n t E0 G0
theorem Fh.view{P:Program}{S0:Nat}{F:Nat->Lo->Goroutine->World->Prop}{l:Lo}{g:Goroutine}{w w':World}(h:Fh P S0 F l g w)(hv:View l.ai w w'):Fh P S0 F l g w':=by
 obtain⟨ai,rfl,h⟩:=h
 exact⟨ai,rfl,fun w2 v2=>h w2 (hv.trans v2)⟩
theorem uA{E:Geo}(hf:E.da){gs:Array Goroutine}{w:World}{sl:Option (Nat×Nat)}{t:Trace}(h:Arrives E.Cv gs w sl t):
  ∃n GV w' rK t' G x g,runNT E.P n (crowd gs w sl) t=(.next (crowd GV w' rK),t')/\GI E G w' t'/\G.n=GV.size/\GV[0]?=some x/\x.status= .running/\x.frame=g.frame/\x.callers=g.callers/\x.dying=g.dying/\
   E.fin (G.th 0) g w'/\(∀i,(G.th i).af=true->i=0)/\Rest E.P GV t':=by
 obtain⟨n,GV,w',rK,t',G,q,x,g,w0,h1,h2,h3,h4,h5,h6,h7,h8,h9,EU,h11,h12,_⟩:=h
 exact⟨n,GV,w',rK,t',G,x,g,h1,h2,h3,h4,h5,h6,h7,h8,hf _ _ _ _ EU h11,E.RE.finish h2 h9 EU,⟨fun i y hi hy=>⟨q i,h12 i y hi hy⟩⟩⟩
theorem MY{P:Program}{m m' m'':Machine}{t t' t'':Trace}{a b:Nat}(h:runNT P a m t=(.next m',t'))(k:runNT P b m' t'=(.next m'',t'')):runNT P (a+b) m t=(.next m'',t''):=by
 rw[runNT_add,h];exact k
theorem Past.nil{B:Nat}:Past (fun _=>False) 1 0 B #[]:=
 ⟨fun said=>by rintro⟨i,j,_,⟨a,b,ha,_⟩,_⟩;simp[Trace.act?]at ha,fun op aF=>by simp at aF,fun i op a h=>by simp at h,fun i op h=>by simp at h,fun i a h=>by simp[Trace.act?]at h,Nat.zero_le _,rfl,fun j _=>rfl,fun b hb=>hb.elim,Nat.one_pos⟩
def mW(P:Program)(W:World):Nat->Nat->Lo->Goroutine->World->Prop
 |0,_=>jM P W
 |k+1,S0=>fun l g w=>jM P W l g w\/Fh P S0 (mW P W k) l g w
theorem mW.main{P:Program}{W:World}: ∀ {k S0:Nat} {l:Lo} {g:Goroutine} {w:World},mW P W k S0 l g w->∃ai,l=bD ai
 |0,_,_,_,_,h=>by obtain⟨⟨ai,rfl,_⟩,_⟩:=(h:jM P W _ _ _);exact⟨ai,rfl⟩
 |_+1,_,_,_,_,.inl h=>by obtain⟨⟨ai,rfl,_⟩,_⟩:=(h:jM P W _ _ _);exact⟨ai,rfl⟩
 |_+1,_,_,_,_,.inr h=>by obtain⟨ai,rfl,_⟩:=h;exact⟨ai,rfl⟩
theorem mW.aT{P:Program}{W:World}{k S0:Nat}{l:Lo}{g:Goroutine}{w:World}(h:mW P W k S0 l g w):l.gr= .aT:=by
 obtain⟨ai,rfl⟩:=h.main;rfl
theorem mW.view{P:Program}{W:World}{w w':World}: ∀ {k S0:Nat} {l:Lo} {g:Goroutine},mW P W k S0 l g w->View l.ai w w'->mW P W k S0 l g w'
 |0,_,_,_,h,hv=>jM.view h hv
 |_+1,_,_,_,.inl h,hv=>.inl (jM.view h hv)
 |_+1,_,_,_,.inr h,hv=>.inr (Fh.view h hv)
abbrev Hs(W:World)(v:Value)(w':World):Prop:=v= .bool true/\w'.tape=W.tape/\w'.output=W.output/\OsLater W.os w'.os/\W.heap.size<=w'.heap.size/\∀b,b<W.heap.size->w'.heap[b]?=W.heap[b]?
set_option maxHeartbeats 4000000 in
theorem H4{P:Program}{W:World}{Sh:Nat->Prop}{n R:Nat}{gs:Array Goroutine}{w:World}{sl:Option (Nat×Nat)}{t:Trace}{x g:Goroutine}{l:Lo}(p3:Past Sh n R w.heap.size t)(z3:n=gs.size)(R3:Rest P gs t)(q3:gs[0]?=some x)(s3:x.status= .running)(u1:x.frame=g.frame)(u2:x.callers=g.callers)(u3:x.dying=g.dying)
  (LM:w.tape=W.tape/\w.output=W.output/\OsLater W.os w.os) (Fc:jM P W l g w):
  ∃M last o w' t',runNT P (M+1) (crowd gs w sl) t=(.ended o w',t')/\runN P M (crowd gs w sl)= .next last/\step P last= .ended o w'/\Conc.Good P (Hs W) last o w' t':=by
 obtain⟨Ry,Q6,UG⟩:=Fc.lo
 have hq: ∃q:Nat->Nat,∀i y,0<i->gs[i]?=some y->QuitsD P (q i) (Deaf t i) y:=by
  refine(Classical.skolem (p:=fun i k=>∀y,0<i->gs[i]?=some y->QuitsD P k (Deaf t i) y)).1 fun i=>?_
  cases e:gs[i]? with
  |none=>exact⟨0,fun y _ hy=>by cases hy⟩
  |some z=>
   rcases Nat.eq_zero_or_pos i with e0|e0
   ·exact⟨0,fun y hi _=>by omega⟩
   obtain⟨k,hk⟩:=R3.quit i z e0 e
   exact⟨k,fun y _ hy=>by cases hy;exact hk⟩
 obtain⟨q,hq⟩:=hq
 obtain⟨N,last,o,w',t',b1,b2,b3,b4⟩:=beside_ends (P:=P) (Shun:=fun l=>∃b,l= .cell b/\Sh b.block) (B:=w.heap.size) (D:=fun _ _ _=>False) (n:=0) (sl:=sl) (a:=x) (w:=w) (gs:=gs) (t:=t) (q:=q)
  (Post:=Hs W)
  (fun _ _ _ h=>h.elim) q3 ⟨hq,fun j hj=>p3.quiet j (by rw[z3];exact hj)⟩
  ⟨p3.clean,fun i a ha hm=>by
   obtain⟨op,h1,h2⟩:=touch_of ha
   rcases p3.known i op a h1 h2 hm with k|⟨b,k1,k2,k3⟩
   ·exact .inl k
   ·exact .inr ⟨⟨b,k1,k2⟩,k3⟩,fun i g hg Kl hc=>by
   obtain⟨op,h1,h2⟩:=Option.map_eq_some_iff.1 hg
   obtain⟨qq,z,k1,k2,k3⟩:=p3.over i op h1 (by rw[h2];exact Kl) hc
   refine⟨qq,by unfold Trace.g?;rw[k1];exact congrArg some k2,k3.resolve_left fun e=>?_⟩
   subst e
   rw[h1]at k1;cases k1
   exact Kl (h2.symm.trans k2),p3.deaf,p3.seen⟩
  (fun ae ⟨d,hd⟩=>⟨s3,.bool true,#[],by
   have dI:=Fc.ends ae
   rw[<-dI]
   exact stepG_same u1 u2 u3 ae,fun e he=>by simp at he,rfl,by rw[hd];exact LM.1,by rw[hd];exact LM.2.1,by rw[hd];exact LM.2.2,by rw[hd];exact UG.size,fun b hb=>by rw[hd];exact(UG.heap b hb).2⟩)
 exact⟨N,last,o,w',t',b1,b2,b3,b4⟩
set_option maxHeartbeats 4000000 in
theorem Nh{P:Program}{W:World}: ∀ (k:Nat) (Sh:Nat->Prop) (n R:Nat) (gs:Array Goroutine) (w:World) (sl:Option (Nat×Nat)) (t:Trace) (x g:Goroutine) (ai:Nat->Prop),
  Past Sh n R w.heap.size t->(∀b,ai b->b<w.heap.size/\¬Sh b)->n=gs.size->Rest P gs t->gs[0]?=some x->x.status= .running->x.frame=g.frame->x.callers=g.callers->x.dying=g.dying->
  w.tape=W.tape->w.output=W.output->OsLater W.os w.os->(∀E N,E.da->E.P=P->E.fin=mW P W k w.heap.size->Tr E N 0 (bD ai) g w)->
  ∃M last o w' t',runNT P (M+1) (crowd gs w sl) t=(.ended o w',t')/\runN P M (crowd gs w sl)= .next last/\step P last= .ended o w'/\Conc.Good P (Hs W) last o w' t':=by
 intro k
 induction k with
 |zero=>
  intro Sh n R gs w sl t x g ai p0 aN hn R0 hx ED u1 u2 u3 kt ko ks hT
  have j2: ∀l g w,jM P W l g w->l.gr= .aT:=fun l g w h=>by obtain⟨⟨_,rfl,_⟩,_⟩:=h;rfl
  let E2:=Co.solo P Sh n w (jM P W) j2
  have f2:E2.da:=fun l g w w' h hv=>jM.view h hv
  have YC:GI E2 (jB n ai) w t:=HL p0 aN
  have a2:=phase (gs:=gs) (sl:=sl) (x:=x) (g:=g) YC hn (fun i hi=>by
   by_cases e:i=0
   ·exact e
   simp[jB,e,kE]at hi) R0 hx ED u1 u2 u3 fun N=>hT E2 N f2 rfl rfl
  obtain⟨n3,gs3,w3,sl3,t3,G3,x3,g3,r3,i3,z3,q3,s3,u1,u2,u3,Fc,o3,R3⟩:=uA f2 a2
  have Fc:jM P W (G3.th 0) g3 w3:=Fc
  obtain⟨Ry,Q6,UG⟩:=Fc.lo
  have p3:Past Sh G3.n w.heap.size w3.heap.size t3:=Ai i3 (by rw[Q6];rfl)
  obtain⟨N,last,o,w',t',b1,b2,b3,b4⟩:=H4 (sl:=sl3) p3 z3 R3 q3 s3 u1 u2 u3 ⟨i3.m.tape.trans kt,i3.m.output.trans ko,ks.trans i3.m.os⟩ Fc
  have rN:runN P n3 (crowd gs w sl)= .next (crowd gs3 w3 sl3):=by
   have:=runNT_fst P n3 (crowd gs w sl) t
   rw[<-this,show runNT P n3 (crowd gs w sl) t=_ from r3]
  refine⟨n3+N,last,o,w',t',?_,?_,b3,b4⟩
  ·rw[show n3+N+1=n3+(N+1) by omega,runNT_add,show runNT P n3 (crowd gs w sl) t=_ from r3]
   exact b1
  rw[runN_add,rN]
  exact b2
 |succ k ih=>
  intro Sh n R gs w sl t x g ai p0 aN hn R0 hx ED v1 v2 v3 kt ko ks hT
  let E1:=Co.solo P Sh n w (mW P W (k+1) w.heap.size) fun l g w h=>mW.aT h
  have f1:E1.da:=fun l g w w' h hv=>mW.view h hv
  have YD:GI E1 (jB n ai) w t:=HL p0 aN
  have a1:=phase (gs:=gs) (sl:=sl) (x:=x) (g:=g) YD hn (fun i hi=>by
   by_cases e:i=0
   ·exact e
   simp[jB,e,kE]at hi) R0 hx ED v1 v2 v3 fun N=>hT E1 N f1 rfl rfl
  obtain⟨n1,U1,w1,TU,t1,G1,x1,g1,r1,i1,z1,q1,s1,e1,e2,e3,CS,o1,R1⟩:=uA f1 a1
  have rN1:runN P n1 (crowd gs w sl)= .next (crowd U1 w1 TU):=by
   have:=runNT_fst P n1 (crowd gs w sl) t
   rw[<-this,show runNT P n1 (crowd gs w sl) t=_ from r1]
  have CS:jM P W (G1.th 0) g1 w1\/Fh P w.heap.size (mW P W k) (G1.th 0) g1 w1:=CS
  have NS: ∃ai,G1.th 0=bD ai:=mW.main (k:=k+1) (S0:=w.heap.size) (P:=P) (W:=W) (g:=g1) (w:=w1) CS
  have IT:(G1.th 0).deaf=0:=by obtain⟨o,e⟩:=NS;rw[e];rfl
  have p1:Past Sh G1.n w.heap.size w1.heap.size t1:=Ai i1 IT
  rcases CS with CS|CS
  ·obtain⟨N,last,o,w',t',b1,b2,b3,b4⟩:=H4 (sl:=TU) p1 z1 R1 q1 s1 e1 e2 e3 ⟨i1.m.tape.trans kt,i1.m.output.trans ko,ks.trans i1.m.os⟩ CS
   refine⟨n1+N,last,o,w',t',?_,?_,b3,b4⟩
   ·rw[show n1+N+1=n1+(N+1) by omega,runNT_add,show runNT P n1 (crowd gs w sl) t=_ from r1]
    exact b1
   rw[runN_add,rN1]
   exact b2
  obtain⟨KU,hl,hco⟩:=CS.ex
  have Wx: ∀b,KU b->b<w1.heap.size/\¬Sh b:=fun b hb=>⟨i1.s.old 0 b i1.a.bl (by rw[hl];exact hb),(i1.s.qT 0 b i1.a.bl (by rw[hl];exact hb)).2.2.2⟩
  obtain⟨E0,G0,C⟩:=hco w1 (View.refl _ _) Sh G1.n t1 p1 Wx
  have eP:=C.hP
  have eS:=C.za
  have eW:=C.hw
  have hGn:=C.hn
  have a0:=phase (gs:=U1) (sl:=TU) (x:=x1) (g:=g1) C.gi (hGn.trans z1) C.one (by rw[eP];exact R1) q1 s1 e1 e2 e3 C.tr
  obtain⟨n2,YG,w2,XZ,t2,G2,x2,g2,r2,i2,z2,q2,s2,y1,y2,y3,VN,o2,R2⟩:=uA C.VM a0
  rw[eP]at r2 R2
  have hj2:=E0.lY _ _ _ VN
  obtain⟨Q7,hon⟩:=C.on G2 w2 t2 g2 i2 o2 VN
  have p2:Past (fun b=>Sh b\/b=(E0.sc .bG).block) G2.n w1.heap.size w2.heap.size t2:=by
   have:=GI.past i2 C.hK hj2 Q7 o2 C.fX
   rw[eS,eW]at this;exact this
  have m1:=i2.m.tape;have m2:=i2.m.output;have m3:=i2.m.os
  rw[eW]at m1 m2 m3
  obtain⟨M,last,o,w',t',b1,b2,b3,b4⟩:=ih (fun b=>Sh b\/b=(E0.sc .bG).block) G2.n w1.heap.size YG w2 XZ t2 x2 g2 (fun b=>b<w2.heap.size/\¬(Sh b\/b=(E0.sc .bG).block)) p2 (fun b hb=>hb) z2 R2 q2 s2 y1 y2 y3
   (m1.trans (i1.m.tape.trans kt)) (m2.trans (i1.m.output.trans ko)) ((ks.trans i1.m.os).trans m3) hon
  have r12:runNT P (n1+n2) (crowd gs w sl) t=(.next (crowd YG w2 XZ),t2):=MY r1 r2
  have rN:runN P (n1+n2) (crowd gs w sl)= .next (crowd YG w2 XZ):=by
   have:=runNT_fst P (n1+n2) (crowd gs w sl) t
   rw[<-this,r12]
  refine⟨n1+n2+M,last,o,w',t',?_,?_,b3,b4⟩
  ·rw[show n1+n2+M+1=(n1+n2)+(M+1) by omega,runNT_add,r12]
   exact b1
  rw[runN_add,rN]
  exact b2
theorem Ng{P:Program}{W:World}{g0:Goroutine}(k:Nat)(Kl:g0.status= .running)
  (hT: ∀E N,E.da->E.P=P->E.fin=mW P W k W.heap.size->Tr E N 0 (bD fun b=>b<W.heap.size) g0 W):
  ∃M last o w' t',runNT P (M+1) (Conc.solo g0 W) #[]=(.ended o w',t')/\runN P M (Conc.solo g0 W)= .next last/\step P last= .ended o w'/\Conc.Good P (Hs W) last o w' t':=by
 rw[solo_eq_crowd]
 exact Nh k (fun _=>False) 1 0 #[g0] W none #[] g0 g0 (fun b=>b<W.heap.size) Past.nil (fun b hb=>⟨hb,fun e=>e⟩) rfl ⟨fun i y hi hy=>by cases i with|zero=>omega|succ i=>simp at hy⟩ rfl Kl rfl rfl rfl rfl rfl (OsLater.refl _) hT
end Go.Co

namespace Go.Co
open Go Go.Conc
open Go.ConcM (OsLater)
open Go.ConcN (sumTo upd sumTo_upd upd_ne upd_same sumTo_congr le_sumTo sumTo_le)
set_option maxRecDepth 10000
def Xi(ai:Nat->Prop)(lf:Nat):Lo:={af:=true,wk:=false,ai,deaf:=0,mr:=none,old:=none,aP:=fun _=>false,run:=none,ch:=.no,rel:=none,gr:=.out,bZ:=none,kn:=fun _=>none,me:=⟨lf,0,0,false⟩,sc:=false}
def NZ(n:Nat)(ai:Nat->Prop)(app:Addr->Option (Value×Gd))(lf:Nat):Gh:={n,th:=fun i=>if i=0 then Xi ai lf else kE,left:=lf,wd:=fun _=>⟨false,false,false,0⟩,sm:=fun _=>0,dn:=fun _=>false,app,wn:=0,ww:=0,ws:=0,pend:=0,cl:=false,pos:=0,cv:=fun _=>0,tk:=fun _=>none}
def Ru:SC->Value
 |.done _=>.int .u32 0
 |.word _=>.int .i32 0
 |.sema _=>.int .u32 0
 |.bG=>.int .u64 0
 |.fX=>.int .u32 0
theorem Pm{c:Ro->Nat}(h: ∀r,c r=0):gl ⟨false,false,false,0⟩ 0 c:=by
 refine⟨by rw[h];rfl,fun _=>by simp[h],fun e=>by cases e⟩
structure QW(E:Geo)(ai:Nat->Prop)(app:Addr->Option (Value×Gd))(lf R:Nat)(w:World):Prop where
 Qc:E.w0=w
 OH: ∀b,ai b->b<w.heap.size/\¬E.jz b/\(∀x,x.ok E.K->(E.sc x).block≠b)/\(∀a v,app a=some v->a.block≠b)/\(E.eg=true->b≠E.c)
 YN:0<E.K
 XM: ∀x,x.ok E.K->w.cell? (E.sc x)=some (Ru x)/\w.frozen? (E.sc x)=false/\¬E.jz (E.sc x).block
 VZ: ∀x y,x.ok E.K->y.ok E.K->E.sc x=E.sc y->x=y
 vQ: ∀a v d,app a=some (v,d)->w.cell? a=some v/\w.frozen? a=false/\(∀x,x.ok E.K->a≠E.sc x)/\¬E.jz a.block/\(d= .ro\/(∃k,k<E.K/\d= .bM k/\E.qU a=some (v,k))\/∃j,d= .out j)
 V0: ∀a v k,E.qU a=some (v,k)->∃v',app a=some (v',.bM k)
 bch:E.eg=true->(∃s r,w.heap[E.c]?=some (.chan 0 #[] false s r false))/\(∀x,x.ok E.K->(E.sc x).block≠E.c)/\∀a v,app a=some v->a.block≠E.c
 bold:R<=(E.sc .bG).block
 QU: ∀b,E.keep b->(∀x,x.ok E.K->(E.sc x).block≠b)/\(E.eg=true->b≠E.c)/\(∃a v,app a=some (v,.ro)/\a.block=b)/\∀a v d,app a=some (v,d)->a.block=b->d= .ro
 blf:lf<=47
 VY:E.eg=true->1<=lf
 QT:E.App app (fun _=>false) fun _=>0
theorem ND{E:Geo}{ai:Nat->Prop}{app:Addr->Option (Value×Gd)}{lf R:Nat}{w:World}{t:Trace}(h:Past E.jz E.n0 R w.heap.size t)(b:QW E ai app lf R w):GI E (NZ E.n0 ai app lf) w t:=by
 have hl: ∀i,((NZ E.n0 ai app lf).th i).af=true->i=0:=fun i hi=>by
  by_cases e:i=0
  ·exact e
  simp[NZ,e,kE]at hi
 have h0:(NZ E.n0 ai app lf).th 0=Xi ai lf:=rfl
 have hd: ∀i,i≠0->(NZ E.n0 ai app lf).th i=kE:=fun i e=>if_neg e
 have wc: ∀g,¬E.ours (NZ E.n0 ai app lf) g:=fun g ⟨a,b⟩=>Nat.lt_irrefl g (Nat.lt_of_lt_of_le b a)
 have hs: ∀ (f:Lo->Nat),f kE=0->f (Xi ai lf)=0->sumTo (NZ E.n0 ai app lf).n (fun i=>f ((NZ E.n0 ai app lf).th i))=0:=fun f f1 f2=>nA fun i _=>by
  by_cases e:i=0
  ·subst e;exact f2
  rw[hd i e];exact f1
 have key: ∀l i a,touchAt t i=some a->a.loc=l->l.isMemory=true->(∀b,l= .cell b->¬E.jz b.block)->Knows t 0 i:=fun l i a ha oy hm hb=>by
  obtain⟨op,h1,h2⟩:=touch_of ha
  rcases h.known i op a h1 h2 (by rw[oy];exact hm)with k|⟨b,k1,k2,_⟩
  ·exact k
  exact absurd k2 (hb b (by rw[<-oy];exact k1))
 refine⟨⟨⟨h.pos,Nat.le_refl _⟩,rfl,fun i hi=>⟨by rw[hl i hi];exact h.pos,.inl (hl i hi)⟩,?_,fun e=>absurd b.YN (by omega)⟩,⟨fun i j b hi hj tP=>absurd ((hl i hi).trans (hl j hj).symm) tP,fun i b' hi hb=>?_,fun i b' hi hb=>?_,fun b' hb=>by rw[b.Qc];exact h.jz b' hb,Nat.le_of_eq (by rw[b.Qc]),fun a v e=>(b.vQ a v.1 v.2 e).2.2.2.1⟩,
  ⟨fun x hx=>?_,fun a v d e=>⟨(b.vQ a v d e).1,(b.vQ a v d e).2.1,(b.vQ a v d e).2.2.1⟩,b.VZ,fun hC=>b.bch hC,by rw[b.Qc],by rw[b.Qc],by rw[b.Qc];exact OsLater.refl _,fun b' hb=>?_⟩,?_,?_,?_,b.QT,?_⟩
 ·show sumTo E.n0 _+lf<=48
  rw[vf h.pos fun i e=>by rw[hd i e];rfl]
  rw[h0]
  show 1+lf<=48
  have:=b.blf;omega
 ·rw[hl i hi]at hb;exact(b.OH b' hb).1
 ·rw[hl i hi]at hb
  obtain⟨_,b2,b3,b4,b5⟩:=b.OH b' hb
  exact⟨b3,fun a v e=>b4 a v e,b5,b2⟩
 ·obtain⟨s1,s2,_⟩:=b.XM x hx
  refine⟨?_,s2⟩
  rw[s1]
  cases x<;>simp[Ru,Gh.val,NZ,Wd.enc]
 ·obtain⟨k1,k2,k3,k4⟩:=b.QU b' hb
  exact⟨by rw[b.Qc],k1,k2,k3,k4⟩
 ·-- onces
  refine⟨fun k hk=>?_,fun i k r hi e=>?_,fun i k hi e=>?_,fun i k hi e=>?_,fun a v k e=>?_,fun a v k e _=>?_,fun i a v hi e=>?_,fun a v k e=>?_⟩
  ·exact Pm fun r=>hs (fun l=>l.at k r) rfl (by simp[Lo.at,Xi])
  ·rw[hl i hi]at e;cases e
  ·rw[hl i hi]at e;cases e
  ·rw[hl i hi]at e;cases e
  ·rcases(b.vQ a v _ e).2.2.2.2 with x|⟨k',x1,x2,x3⟩|⟨j,x⟩
   ·cases x
   ·cases x2
    refine⟨x1,rfl,.inr ⟨fun i hi e=>?_,x3⟩⟩
    rw[hl i hi]at e;cases e
   cases x
  ·exact b.V0 a v k e
  ·rw[hl i hi]at e;cases e
  rcases e with e|e<;>(rcases(b.vQ a v _ e).2.2.2.2 with x|⟨k',x1,x2,x3⟩|⟨j,x⟩<;>first|(cases x;done)|cases x2)
 ·refine⟨?_,?_,?_,fun e=>?_,fun e=>?_,fun e=>?_,fun e=>?_,Nat.zero_le _,fun i hi=>⟨fun e=>?_,fun e=>absurd (hl i hi) e⟩,fun e=>?_⟩
  ·rw[hs Lo.busy rfl rfl];rfl
  ·rw[hs Lo.bf rfl rfl];rfl
  ·rw[hs Lo.ba rfl rfl];exact Nat.le_refl _
  ·rfl
  ·rfl
  ·cases e
  ·rcases e with e|e<;>cases e
  ·subst e;exact⟨rfl,.inl rfl⟩
  rcases e with⟨m,e⟩|e<;>cases e
 ·refine⟨fun _ i hi=>by rw[hl i hi];rfl,fun i v hi e=>?_,fun i hi e=>?_,fun e=>(by cases e),Nat.zero_le _,fun r=>?_,fun i j hi e=>?_,⟨fun _ _=>rfl,fun j i e=>(by cases e)⟩,fun _ _ g hg=>absurd hg (wc g),fun hC e=>?_,fun _ e=>absurd rfl e,fun i hi e=>?_,rfl,fun i hi e=>?_⟩
  ·rw[hl i hi]at e;cases e
  ·rw[hl i hi]at e;cases e
  ·rw[hs (Lo.holds E.rs r) rfl rfl];rfl
  ·rw[hl i hi]at e;cases e
  ·have:lf=0:=e
   have:=b.VY hC
   omega
  ·rw[hl i hi]at e;exact absurd rfl e
  rw[hl i hi]at e;cases e
 refine⟨⟨h.clean,fun g l i a hw ha oy=>?_,fun g l i a hw ha oy _=>?_,fun g l i a hw ha oy _=>?_,fun g l i a hw ha oy _=>?_,h.seen⟩,fun i hi=>by rw[hl i hi];exact h.deaf,fun j hj=>h.quiet j hj,⟨fun i op a h1 h2 h3=>.inr (h.known i op a h1 h2 h3),fun i op h1 h2 h3=>.inr (h.over i op h1 h2 h3),fun i a e=>?_,fun g hg=>absurd hg (wc g),fun k hk e=>(by cases e),fun _ g r hg=>absurd hg (wc g)⟩⟩
 ·obtain⟨bq,hw⟩:=hw
  have:=hl g bq
  subst this
  cases l with
  |cell c=>
   refine key _ i a ha oy rfl fun b' e=>?_
   cases e
   rcases hw with hw|⟨v,k,e,_⟩|⟨v,k,e,_⟩
   ·exact(b.OH _ hw).2.1
   ·exact(b.vQ _ _ _ e).2.2.2.1
   exact(b.vQ _ _ _ e).2.2.2.1
  |obj r=>exact key _ i a ha oy rfl fun b' e=>by cases e
  |_=>exact hw.elim
 ·obtain⟨bq,hw⟩:=hw
  have:=hl g bq
  subst this
  cases l with
  |cell c=>
   refine key _ i a ha oy rfl fun b' e=>?_
   cases e
   obtain⟨v,e|⟨k,e,_⟩⟩:=hw
   ·exact(b.vQ _ _ _ e).2.2.2.1
   exact(b.vQ _ _ _ e).2.2.2.1
  |_=>exact hw.elim
 ·obtain⟨bq,hw⟩:=hw
  have:=hl g bq
  subst this
  cases l with
  |cell c=>
   refine key _ i a ha oy rfl fun b' e=>?_
   cases e
   rcases hw with⟨x,hx,e⟩|⟨v,k,e,_⟩
   ·rw[e];exact(b.XM x hx).2.2
   exact(b.vQ _ _ _ e).2.2.2.1
  |obj r=>exact key _ i a ha oy rfl fun b' e=>by cases e
  |_=>exact hw.elim
 ·obtain⟨e0,hw⟩:=hw
  subst e0
  cases l with
  |cell c=>
   refine key _ i a ha oy rfl fun b' e=>?_
   cases e
   have e:c=E.sc .fX:=hw
   rw[e];exact(b.XM .fX b.YN).2.2
  |_=>exact hw.elim
 have:=h.norel i a e
 exact⟨by rw[b.Qc];exact Nat.lt_of_lt_of_le this h.old,fun e=>by rw[e]at this;exact Nat.lt_irrefl _ (Nat.lt_of_lt_of_le this b.bold)⟩
theorem Pn{x:Wd}{s:Nat}{c:Ro->Nat}(h:gl x s c)(hc: ∀r,c r=0):x=⟨false,false,false,0⟩/\s=0:=by
 obtain⟨l,w,s',q⟩:=x
 obtain⟨h1,h2,h3⟩:=h
 simp only[hc]at h1 h2 h3
 cases s' with
 |true=>
  have:=h3 rfl
  omega
 |false=>
  have:=h2 rfl
  obtain⟨_,_,_,a,b,_⟩:=this
  have hs:s=0:=by omega
  have hq:q=0:=by omega
  have hw:w.toNat=0:=by omega
  subst hs;subst hq
  have hl:l=false:=by cases l with|false=>rfl|true=>exact absurd h1 (by decide)
  have hw:w=false:=by cases w with|false=>rfl|true=>exact absurd hw (by decide)
  subst hl;subst hw;exact⟨rfl,rfl⟩
structure Xg(E:Geo)(G:Gh)(w:World):Prop where
 zaF: ∀k,k<E.K->w.cell? (E.sc (.done k))=some (.int .u32 (G.dn k).toNat)/\w.cell? (E.sc (.word k))=some (.int .i32 0)/\w.cell? (E.sc (.sema k))=some (.int .u32 0)/\w.frozen? (E.sc (.done k))=false/\w.frozen? (E.sc (.word k))=false/\w.frozen? (E.sc (.sema k))=false
 ecv: ∀r,G.cv r=dL E.rs r G.pos
 zaE: ∀a v k,G.app a=some (v,.bM k)->G.dn k=false/\E.qU a=some (v,k)
 zaT:E.App G.app G.dn G.cv
theorem GI.ended{E:Geo}{G:Gh}{w:World}{t:Trace}(h:GI E G w t)(h0: ∀i,(G.th i).af=true->i=0)(ee:(G.th 0).mr=none)(mV:(G.th 0).bZ=none):Xg E G w:=by
 have E9: ∀k r,G.cnt k r=0:=fun k r=>nA fun i _=>by
  unfold Lo.at
  rw[if_neg]
  rintro⟨a,b⟩
  have:=h0 i a
  subst this
  rw[ee]at b;cases b
 refine⟨fun k hk=>?_,fun r=>?_,fun a v k e=>?_,h.more⟩
 ·obtain⟨hw,hs⟩:=Pn (h.k.mu k hk) (E9 k)
  have c0:=h.m.sync (.done k) hk
  have c1:=h.m.sync (.word k) hk
  have c2:=h.m.sync (.sema k) hk
  rw[show G.val (.word k)= .int .i32 (G.wd k).enc from rfl,hw]at c1
  rw[show G.val (.sema k)= .int .u32 (G.sm k:Nat)from rfl,hs]at c2
  exact⟨c0.1,c1.1,c2.1,c0.2,c1.2,c2.2⟩
 ·have:=h.j.cnt r
  have e:sumTo G.n (fun i=>(G.th i).holds E.rs r)=0:=nA fun i _=>by
   unfold Lo.holds
   cases e:(G.th i).bZ with
   |none=>rfl
   |some j=>
    simp only
    rw[if_neg]
    rintro⟨a,_⟩
    have:=h0 i a
    subst this
    rw[mV]at e;cases e
  rw[e]at this
  exact this
 obtain⟨p1,p2,p3⟩:=h.k.bM a v k e
 refine⟨p2,p3.elim (fun⟨i,q1,q2,_⟩=>?_) And.right⟩
 have:=h0 i q1
 subst this
 have:=(h.k.run 0 k q1 q2).1
 rw[ee]at this;cases this
end Go.Co
