/- HashMany returns true for every slice of tuples, in whatever order its goroutines run, and its argument reads as before. No condition. -/
import Derived.Test.YtahoihfbjlgpgaaCoB
import Derived.Conc.CompanyDraw
import Derived.Conc.Listed
import Derived.Laws.Tables
import Derived.Maps.AppendAt
import Derived.Conc.AppendEvents3
import Derived.Conc.AppendWalk
import Derived.Conc.QuitsD
import Derived.Conc.SmallLaws
import Derived.Conc.Own2
import Derived.Conc.TokenWalk
import Derived.Laws.Rows
import Derived.Deep.MidRow
import Derived.RangeFuncLeaves
import Derived.RangeFuncRecord
import Derived.RangeFuncNested
import Derived.WalkKit
import Derived.Conc.DeferLaws
import Derived.Conc.EventLaws2
set_option linter.all false
namespace Go.Co.F1
open Go Go.Conc Go.Proofs
open Go.Co
variable{E:Geo}{N i:Nat}{l:Lo}{w:World}
set_option maxRecDepth 10000
noncomputable def c57:Code:=(Try.f83.body).getD .skip
theorem Ri:ij Try.prog 83 21 c57 #[]:=⟨Try.f83,Try.func83,by decide+kernel,rfl,rfl,rfl⟩
theorem q57:(Try.prog.funcs[83]?).any (·.norace)=true:=by decide+kernel
set_option maxHeartbeats 4000000 in
theorem MF{k B o:Nat}(hf:E.da)(hP:E.P=Try.prog)(O:ni E k B o)(A:Lk E i k l (some .held))(hp:l.aP k=true)(fD:l.deaf=0){fr:Frame}{cs:List Frame}
  (h: ∀o' w',View l.ai w w'->Tr E N i (l.mu k none o') (Conc.G (fr.finish (.tuple #[])) cs) w'):
  Tr E N i l (Conc.G (Frame.enter Try.prog 83 #[.pointer (some ⟨B,o+1,none⟩)] .normal) (fr::cs)) w:=by
 have W:ay Try.prog E l (base 83):=⟨⟨hf,A.ch,by decide⟩,hP⟩
 refine Tr.ck hP Ri (Nat.le_of_ble_eq_true rfl) ?_
 (repeat(first|refine ah.pS W (hp:=by first|exact aa (.inl rfl) rfl|exact ak rfl rfl|exact av rfl rfl (by rfl) rfl (by decide+kernel)) (h:=?_)|refine Tk.seq (ay.wk W) ?_|refine Tk.reg W ?_|refine Tk.cp (ay.wk W) rfl ?_))
 refine ah.nX W (ad:=E.sc (.word k)) q57 (by rfl) (by rfl) (by rfl) (by rfl) (by rfl) (by rw[O.m];rfl) fun G ae u hg au ax hv=>?_
 obtain⟨c1,c2,c3⟩:=hg.word A.kK
 have d1:=oe.id (i:=i) hg
 rw[ax]at d1
 refine⟨_,l,false,c1,⟨G,d1,Calm.id G,A.af,fun e=>by cases e⟩,cd.same (ah.bx ?_)⟩
 (repeat(first|refine ah.dn W ?_|refine ah.pS W (hp:=by exact aa (.inl rfl) rfl) (h:=?_)|refine Tk.seq (ay.wk W) ?_|refine Tk.reg W ?_))
 refine ah.conv W (y:=.word k) A.kK A.af (by rfl) (by rfl) (by rfl) (by rfl) (by rfl) (by rfl) (by rfl) (by decide+kernel) (by rw[O.m];rfl) ?_
 refine ah.l7 W (mk:=.releaseMerge) (ad:=E.sc (.word k)) (fun ad g e=>by cases e) (by rfl) (by rfl) (by rfl) (by rfl) YK rfl fun G du t hg au ax dF=>?_
 refine⟨_,false,xQ (x:=.word k) A.kK (.inr rfl) hg au ax,cd.same (ah.bx ?_)⟩
 (repeat(first|refine ah.dn W ?_|refine Tk.reg W ?_))
 refine ah.jk W (m:=.disable) (fun g e=>by cases e) (by rfl) (by rfl) (by rfl) (by rfl) Rg fun G eA t hg au ax gh=>?_
 refine⟨_,false,kN hg au ax,cd.same (ah.bx ?_)⟩
 rw[fD]
 have W1:ay Try.prog E (l.hear 1) (base 83):=fO W A.ch
 (repeat(first|refine ah.dn W1 ?_|refine ah.pS W1 (hp:=by first|exact aa (.inl rfl) rfl|exact ak rfl rfl|exact av rfl rfl (by rfl) rfl (by decide+kernel)) (h:=?_)|refine Tk.seq (ay.wk W1) ?_|refine Tk.reg W1 ?_))
 refine ah.CU W1 (kk:=.i32) (ad:=E.sc (.word k)) (d:= -1) (by rfl) (by rfl) (by rfl) (by rfl) U4 (by rw[O.m];rfl) rfl fun G AX t hg au ax wK=>?_
 obtain⟨c1,c2,c3⟩:=hg.word A.kK
 have AT:=(A.hear (d:=1)).at ax (.inr ⟨_,rfl⟩)
 have aS:(G.th i).run=none:=by rw[ax];exact A.run
 have yW:(G.th i).aP k=true:=by rw[ax];exact hp
 obtain⟨NS,_⟩:=hg.unlock AT aS yW 0 ""
 have e:IntKind.i32.wrap ((G.wd k).enc+ -1)=Wd.enc {G.wd k with l:=false}:=YZ (by omega) NS
 have Vs: ∀v,View l.ai AX (AX.setCell (E.sc (.word k)) v):=fun v=>by
  have:=hg.bU (x:=.word k) A.kK v i au
  rw[ax]at this;exact this
 have P1: ∀fn pos,∃G',qZ E i G AX (AX.setCell (E.sc (.word k)) (.int .i32 (Wd.enc {G.wd k with l:=false}))) (t++MemOp.ofEvents i fn pos (nT (E.sc (.word k)))) ((G.th i).mu k (Wd.next {G.wd k with l:=false}) (some {G.wd k with l:=false})) G':=fun fn pos=>(hg.unlock AT aS yW fn pos).2
 have hX: ∃X:Wd,X={G.wd k with l:=false}/\X.l=false/\X.q<=48:=⟨_,rfl,rfl,c3⟩
 obtain⟨X,eX,UX,UW⟩:=hX
 rw[<-eX]at e P1
 refine⟨(G.wd k).enc,(l.hear 1).mu k X.next (some X),false,c1,c2,fun fn pos=>?_,cd.same (ah.bx ?_)⟩
 ·obtain⟨G',d,c⟩:=P1 fn pos
  rw[ax]at d
  rw[e]
  exact⟨G',d,.inl rfl,A.af,fun e=>by cases e⟩
 rw[e]
 have W2:ay Try.prog E ((l.hear 1).mu k X.next (some X)) (base 83):=fO W A.ch
 (repeat(first|refine ah.dn W2 ?_|refine ah.pS W2 (hp:=by first|exact aa (.inl rfl) rfl|exact aa (.inr rfl) rfl|exact al rfl rfl rfl rfl) (h:=?_)|refine Tk.seq (ay.wk W2) ?_|refine Tk.reg W2 ?_))
 by_cases hx:X.enc=0
 ·have eX0:=Wd.DV hx
  have en:X.next=none:=by rw[eX0];rfl
  refine Tk.bC W2.wk (congrArg (fun b=>some (Value.bool b)) (show(X.enc !=0)=false by rw[hx];rfl)) ?_
  refine Tk.skip W2.wk ?_
  have W5:=W2
  (repeat(refine Tk.reg W5 ?_))
  refine ah.jk W5 (m:=.enable) (fun g e=>by cases e) (by rfl) (by rfl) (by rfl) (by rfl) GX fun G zd t hg au ax yV=>?_
  refine⟨_,false,iZ (d:=0) hg au ax rfl,cd.same (ah.bx ?_)⟩
  have W6:ay Try.prog E (((l.hear 1).mu k X.next (some X)).hear 0) (base 83):=fO W A.ch
  (repeat(refine ah.dn W6 ?_))
  have el:((l.hear 1).mu k X.next (some X)).hear 0=l.mu k none (some X):=by unfold Lo.hear Lo.mu;simp[<-fD,en]
  rw[el]at W6 ⊢
  exact Tk.ji W6.wk (fE.leave0 W6.wk (hP▸Ri) (h _ _ (hv.trans (dF.trans (gh.trans (wK.trans ((Vs _).trans yV)))))))
 refine Tk.cp W2.wk (congrArg (fun b=>some (Value.bool b)) (show(X.enc !=0)=true by simpa using hx)) ?_
 (repeat(first|refine ah.pS W2 (hp:=by exact aa (.inl rfl) rfl) (h:=?_)|refine Tk.reg W2 ?_))
 refine ah.call W2 (by rfl) (by rfl) (by rfl) (by rfl) Ue rfl fun rM hk=>?_
 refine OQ hP O N (l.hear 1) X _ rM (fr::cs) hf A.hear.mu hp UX UW fun o' w' dG=>hk _ _ _ (ah.bx ?_)
 have W5:ay Try.prog E ((l.hear 1).mu k none o') (base 83):=fO W A.ch
 (repeat(first|refine ah.dn W5 ?_|refine Tk.reg W5 ?_))
 refine ah.jk W5 (m:=.enable) (fun g e=>by cases e) (by rfl) (by rfl) (by rfl) (by rfl) GX fun G zd t hg au ax yV=>?_
 refine⟨_,false,iZ (d:=0) hg au ax rfl,cd.same (ah.bx ?_)⟩
 have W6:ay Try.prog E (((l.hear 1).mu k none o').hear 0) (base 83):=fO W A.ch
 (repeat(refine ah.dn W6 ?_))
 have el:((l.hear 1).mu k none o').hear 0=l.mu k none (o'):=by unfold Lo.hear Lo.mu;simp[<-fD]
 rw[el]at W6 ⊢
 exact Tk.ji W6.wk (fE.leave0 W6.wk (hP▸Ri) (h _ _ (hv.trans (dF.trans (gh.trans (wK.trans ((Vs _).trans (dG.trans yV))))))))
end Go.Co.F1

namespace Go.Co.F1
open Go Go.Conc Go.Proofs
open Go.Co
variable{E:Geo}{N i:Nat}{l:Lo}{w:World}
set_option maxRecDepth 10000
noncomputable def c53:Code:=(Try.f79.body).getD .skip
theorem Ug:ij Try.prog 79 6 c53 #[]:=⟨Try.f79,Try.func79,by decide+kernel,rfl,rfl,rfl⟩
noncomputable def YM:Code:=(Try.f80.body).getD .skip
theorem Uf:ij Try.prog 80 6 YM #[]:=⟨Try.f80,Try.func80,by decide+kernel,rfl,rfl,rfl⟩
theorem Tm{k B o:Nat}(hf:E.da)(hP:E.P=Try.prog)(O:ni E k B o)(A:Lk E i k l none)(hp:l.aP k=false)(fD:l.deaf=0){fr:Frame}{cs:List Frame}
  (h: ∀w',View l.ai w w'->Tr E N i (l.mu k (some .held) none) (Conc.G (fr.finish (.tuple #[])) cs) w'):
  Tr E N i l (Conc.G (Frame.enter Try.prog 79 #[.pointer (some ⟨B,o+1,none⟩)] .normal) (fr::cs)) w:=by
 have W:ay Try.prog E l (base 79):=⟨⟨hf,A.ch,by decide⟩,hP⟩
 refine Tr.ck hP Ug (Nat.le_of_ble_eq_true rfl) ?_
 (repeat(first|refine ah.pS W (hp:=by first|exact aa (.inl rfl) rfl|exact ak rfl rfl|exact av rfl rfl (by rfl) rfl (by decide+kernel)) (h:=?_)|refine Tk.reg W ?_))
 refine ah.call W (by rfl) (by rfl) (by rfl) (by rfl) Rj rfl fun rM hk=>?_
 refine Tl hf hP O (SV hP O) A hp fD fun w' hv=>hk _ _ _ (ah.bx ?_)
 have W2:ay Try.prog E (l.mu k (some .held) none) (base 79):=fO W A.ch
 (repeat(refine ah.dn W2 ?_))
 exact Tk.ji W2.wk (fE.leave0 W2.wk (hP▸Ug) (h _ hv))
theorem Dl{k B o:Nat}(hf:E.da)(hP:E.P=Try.prog)(O:ni E k B o)(A:Lk E i k l (some .held))(hp:l.aP k=true)(fD:l.deaf=0){fr:Frame}{cs:List Frame}
  (hm:fr.mode= .returning) (h: ∀o' w',View l.ai w w'->Tr E N i (l.mu k none o') (Conc.G fr cs) w'):
  Tk E N i l w (baseD 80) 6 (gq [.pointer (some ⟨B,o+1,none⟩)] 0) [] [.code YM] (fr::cs):=by
 have W:ay Try.prog E l (baseD 80):=⟨⟨hf,A.ch,by decide⟩,hP⟩
 (repeat(first|refine ah.pS W (hp:=by first|exact aa (.inl rfl) rfl|exact ak rfl rfl|exact av rfl rfl (by rfl) rfl (by decide+kernel)) (h:=?_)|refine Tk.reg W ?_))
 refine ah.call W (by rfl) (by rfl) (by rfl) (by rfl) Ri rfl fun rM hk=>?_
 refine MF hf hP O A hp fD fun o' w' hv=>hk _ _ _ (ah.bx ?_)
 have W2:ay Try.prog E (l.mu k none o') (baseD 80):=fO W A.ch
 (repeat(refine ah.dn W2 ?_))
 exact Tk.ji W2.wk (fE.leaveD W2.wk (hP▸Uf) hm (h _ _ hv))
end Go.Co.F1

namespace Go.Co.F1
open Go Go.Conc Go.Proofs
open Go.Co
def ml(n m:Nat):Int:=((n*4294967296+m:Nat):Int)
def TY(k:IntKind)(r:Option Value)(n:Int):Bool:=match r with
 |some (.int k' m)=>decide (k'=k)&&(m==n)
 |_=>false
theorem ui{k:IntKind}{r:Option Value}{n:Int}(h:TY k r n=true):r=some (.int k n):=by
 unfold TY at h
 split at h
 ·rename_i k' m;simp at h;rw[h.1,h.2]
 cases h
theorem lC{p:Nat->Nat->Prop}(h: ∀ (n:Fin 64) (m:Fin 2),p n.val m.val){n m:Nat}(hn:n<64)(hm:m<=1):p n m:=h ⟨n,hn⟩ ⟨m,by omega⟩
theorem wm{n m:Nat}(hn:n<64)(hm:m<=1):cV .and .u64 (ml n m) 2147483648=some (.int .u64 0):=
 ui (lC (p:=fun n m=>TY .u64 (cV .and .u64 (ml n m) 2147483648) 0=true) (by decide+kernel) hn hm)
theorem G5{n m:Nat}(hn:n<64)(hm:m<=1):oV .shr .u64 (ml n m) 32=some (.int .u64 (n:Int)):=
 ui (lC (p:=fun n m=>TY .u64 (oV .shr .u64 (ml n m) 32) (n:Int)=true) (by decide+kernel) hn hm)
theorem G4{n m:Nat}(hn:n<64)(hm:m<=1):cV .and .u64 (ml n m) 2147483647=some (.int .u64 (m:Int)):=
 ui (lC (p:=fun n m=>TY .u64 (cV .and .u64 (ml n m) 2147483647) (m:Int)=true) (by decide+kernel) hn hm)
theorem Fj{n:Nat}(hn:n<64):IntKind.i32.wrap (n:Int)=(n:Int):=
 lC (p:=fun n _=>IntKind.i32.wrap (n:Int)=(n:Int)) (by decide+kernel) hn (Nat.zero_le 1)
theorem Fi{m:Nat}(hm:m<=1):IntKind.u32.wrap (m:Int)=(m:Int):=
 lC (p:=fun _ m=>IntKind.u32.wrap (m:Int)=(m:Int)) (by decide+kernel) (show 0<64 by omega) hm
theorem SR{n m:Nat}(hn:n<64)(hm:m<=1):IntKind.u64.wrap (ml n m+4294967296)=ml (n+1) m:=
 lC (p:=fun n m=>IntKind.u64.wrap (ml n m+4294967296)=ml (n+1) m) (by decide+kernel) hn hm
theorem SS{n m:Nat}(hn:n<64)(hm:m<=1)(h1:1<=n):IntKind.u64.wrap (ml n m+18446744069414584320)=ml (n-1) m:=
 lC (p:=fun n m=>1<=n->IntKind.u64.wrap (ml n m+18446744069414584320)=ml (n-1) m) (by decide+kernel) hn hm h1
theorem O0{n:Nat}(hn:n<64):cV .add .u64 (ml n 0) 1=some (.int .u64 (ml n 1)):=
 ui (lC (p:=fun n _=>TY .u64 (cV .add .u64 (ml n 0) 1) (ml n 1)=true) (by decide+kernel) hn (Nat.zero_le 1))
theorem Jg:oV .shl .u64 (IntKind.u64.wrap 1) 32=some (.int .u64 4294967296):=ui (by decide+kernel)
theorem Jf:oV .shl .u64 (IntKind.u64.wrap (-1)) 32=some (.int .u64 18446744069414584320):=ui (by decide+kernel)
variable{E:Geo}{N i:Nat}{l:Lo}{w:World}
set_option maxRecDepth 10000
end Go.Co.F1

namespace Go.Co
open Go Go.Conc
variable{E:Geo}{N i:Nat}{l:Lo}{w:World}
def Kw(E:Geo)(N i:Nat)(fuel:Nat)(listed:Array Bool)(l:Lo)(w:World)(b:Frame)(n:Nat)(env:Nv)(ds:List Deferred)(ops:Array Oper)(k:List Item)(cs:List Frame):Prop:=
 ∀t,Tk E N i l w b n env ds (.inRegion ops (Region.linearise.go .any ops fuel t listed [])::k) cs
section
variable{P:Program}{b:Frame}{n:Nat}{env:Nv}{ds:List Deferred}{k:List Item}{cs:List Frame}{ops:Array Oper}{fuel:Nat}{listed:Array Bool}
theorem Tk.draw(W:ay P E l b){x:Nat}(hm:P.follows .mixedOrders=true)(h:Kw E N i ops.size (Array.replicate ops.size false) l w b n env ds ops k cs):Tk E N i l w b n env ds (.code (.region x ops true)::k) cs:=by
 intro a ha dm
 refine Tr.tS (aX _ _) W.wk.ch fun ae hv=>?_
 refine⟨_,{ae with drawn:=ae.drawn+1},#[],stepG_region_draw,rfl,⟨Nat.le_refl _,fun _ _ _=>rfl,rfl,rfl,rfl,fun e he=>by simp at he⟩,fun _ e he=>by simp at he,?_⟩
 show Tr E N i (l.grow ae.heap.size ae.heap.size) _ _
 rw[Lo.gJ]
 have hs: ∀t,Region.schedule (E.P.follows .mixedOrders) ops t=Region.linearise.go .any ops ops.size t (Array.replicate ops.size false) []:=fun t=>by
  rw[W.hP];simp only[Region.schedule,hm,Bool.true_or,if_true];rfl
 rw[hs]
 exact Tr.view W.wk.fin (h _ a ha dm) (hv.trans ⟨Nat.le_refl _,fun _ _=>rfl⟩)
theorem Kw.done(W:ay P E l b)(hr:Region.ready .any ops listed= [])(h:Tk E N i l w b n env ds k cs):Kw E N i fuel listed l w b n env ds ops k cs:=by
 intro t
 have:Region.linearise.go .any ops fuel t listed []= []:=by
  cases fuel with
  |zero=>simp[Region.linearise.go]
  |succ f=>
   simp only[Region.linearise.go]
   change (match(Region.ready .any ops listed)[t%(Region.ready .any ops listed).length]? with
    |some i=>Region.linearise.go .any ops f (t/(Region.ready .any ops listed).length) (listed.setIfInBounds i true) [i]
    |none=> [].reverse)= []
   rw[hr]
   rfl
 rw[this]
 exact Tk.p8 W.wk h
theorem Kw.step{rs:List Nat}(hr:Region.ready .any ops listed=rs)(cb:rs≠ [])
  (h: ∀j∈rs,∀L:List Nat,(∀l' w' env' On,Kw E N i fuel (listed.setIfInBounds j true) l' w' b n env' On ops k cs->Tk E N i l' w' b n env' On (.inRegion ops L::k) cs)->Tk E N i l w b n env ds (.inRegion ops (j::L)::k) cs):
  Kw E N i (fuel+1) listed l w b n env ds ops k cs:=by
 intro t
 simp only[Region.linearise.go]
 change Tk E N i l w b n env ds (.inRegion ops (match(Region.ready .any ops listed)[t%(Region.ready .any ops listed).length]? with
   |some i=>Region.linearise.go .any ops fuel (t/(Region.ready .any ops listed).length) (listed.setIfInBounds i true) [i]
   |none=> [].reverse)::k) cs
 rw[hr]
 have bA:t%rs.length<rs.length:=Nat.mod_lt _ (List.length_pos_iff.2 cb)
 have vP:rs[t%rs.length]?=some rs[t%rs.length]:=List.getElem?_eq_getElem bA
 rw[vP]
 simp only
 rw[linearise_go_acc,List.reverse_singleton,List.singleton_append]
 exact h _ (List.getElem_mem bA) _ fun l' w' env' On hs=>hs _
end
end Go.Co

namespace Go.Co.F1
open Go Go.Conc Go.Proofs
open Go.Co
variable{E:Geo}{N i:Nat}{l:Lo}{w:World}
set_option maxRecDepth 10000
noncomputable def c59:Code:=(Try.f85.body).getD .skip
theorem YP:ij Try.prog 85 4 c59 #[.tmp 2]:=⟨Try.f85,Try.func85,by decide+kernel,rfl,rfl,rfl⟩
theorem mixed:Try.prog.follows .mixedOrders=true:=by decide+kernel
theorem zaq(hf:E.da)(hP:E.P=Try.prog)(bP:l.ch= .no){fr:Frame}{cs:List Frame}(h:Tr E N i l (Conc.G (fr.finish (.int .u32 1)) cs) w):
  Tr E N i l (Conc.G (Frame.enter Try.prog 85 #[.bool true] .normal) (fr::cs)) w:=by
 have W:ay Try.prog E l (base 85):=⟨⟨hf,bP,by decide⟩,hP⟩
 refine Tr.ck hP YP (Nat.le_of_ble_eq_true rfl) ?_
 (repeat(first|refine ah.dn W ?_|refine ah.pS W (hp:=by first|exact aa (.inl rfl) rfl|exact aa (.inr rfl) rfl) (h:=?_)|refine Tk.seq (ay.wk W) ?_|refine Tk.reg W ?_|refine Tk.cp (ay.wk W) rfl ?_))
 exact Tk.ret W.wk (fE.leave1 W.wk (hP▸YP) rfl h)
end Go.Co.F1

namespace Go.Co
open Go Go.Conc
open Go.ConcN (upd upd_ne upd_same)
variable{E:Geo}{N i:Nat}{l:Lo}{w:World}
def Up(L:Array Bool)(j:Nat):Prop:=L[j]?=some true
theorem iy{L:Array Bool}{j m:Nat}:Up (L.setIfInBounds j true) m↔(m=j/\j<L.size)\/Up L m:=by
 unfold Up
 rw[Array.getElem?_setIfInBounds]
 split
 ·rename_i e;subst e
  split
  ·rename_i h;simp[h]
  rename_i h
  simp[h]
 rename_i e
 exact⟨.inr,fun h=>h.resolve_left fun x=>e x.1.symm⟩
theorem mem_ready{ops:Array Oper}{L:Array Bool}{j:Nat}:j∈Region.ready .any ops L↔j<ops.size/\L.getD j true=false/\((ops[j]?).map (·.after.all fun e=>!Region.binds .any e||L.getD e.on false)).getD false=true:=by
 unfold Region.ready
 simp[List.mem_filter,List.mem_range]
def L4(ops:Array Oper):Bool:=(List.range ops.size).all fun j=>((ops[j]?).map (·.after.all fun e=>Nat.blt e.on j)).getD true
theorem Ms{ops:Array Oper}{L:Array Bool}(ha:L4 ops=true)(hs:L.size=ops.size)(hr:Region.ready .any ops L= []): ∀j,j<ops.size->Up L j:=by
 intro j
 induction j using Nat.strongRecOn with
 |_ j ih=>
  intro hj
  unfold Up
  have bA:j<L.size:=by omega
  rw[Array.getElem?_eq_getElem bA]
  cases hv:L[j]with
  |true=>rfl
  |false=>
   exfalso
   have:j∈Region.ready .any ops L:=by
    rw[mem_ready]
    refine⟨hj,by simp[Array.getD,bA,hv],?_⟩
    have h1:=List.all_eq_true.1 ha j (List.mem_range.2 hj)
    have ho:ops[j]?=some ops[j]:=Array.getElem?_eq_getElem hj
    rw[ho]at h1 ⊢
    simp only[Option.map_some,Option.getD_some]at h1 ⊢
    rw[Array.all_eq_true_iff_forall_mem]at h1 ⊢
    intro e he
    have h2:e.on<j:=by have:=h1 e he;simpa using this
    have h3:=ih e.on h2 (by omega)
    unfold Up at h3
    simp[Array.getD_eq_getD_getElem?,h3]
   rw[hr]at this;cases this
def down(L:Array Bool):Nat:=L.toList.count false
theorem DX{L:Array Bool}{j:Nat}(h:L.getD j true=false):down (L.setIfInBounds j true)+1=down L:=by
 obtain⟨l⟩:=L
 unfold down
 have bA:j<l.length:=by
  by_cases x:j<l.length
  ·exact x
  simp[Array.getD_eq_getD_getElem?,Array.getElem?_eq_none (show(List.toArray l).size<=j by simpa using x)]at h
 have hv:l[j]=false:=by simpa [Array.getD_eq_getD_getElem?,bA]using h
 simp only[List.setIfInBounds_toArray]
 induction l generalizing j with
 |nil=>simp at bA
 |cons x l ih=>
  cases j with
  |zero=>simp at hv;subst hv;simp
  |succ j=>
   simp only[List.getElem_cons_succ]at hv
   have:=ih (j:=j) (by simpa using h) (by simpa using bA) hv
   simp only[List.set_cons_succ,List.count_cons]
   omega
def Closed(ops:Array Oper)(L:Array Bool):Prop:=∀j o,Up L j->ops[j]?=some o->∀e∈o.after,Region.binds .any e=true->Up L e.on
theorem Closed.up{ops:Array Oper}{L:Array Bool}{j:Nat}{o:Oper}(h:Closed ops L)(hu:Up L j)(ho:ops[j]?=some o)(m:Nat)(hm:(o.after.toList.any fun e=>Nat.beq e.on m&&Region.binds .any e)=true):Up L m:=by
 rw[List.any_eq_true]at hm
 obtain⟨x,hx,he⟩:=hm
 rw[Bool.and_eq_true]at he
 have:=h j o hu ho _ (Array.mem_toList_iff.1 hx) he.2
 rwa [Nat.eq_of_beq_eq_true he.1]at this
theorem Closed.set{ops:Array Oper}{L:Array Bool}{j:Nat}(h:Closed ops L)(hb: ∀o,ops[j]?=some o->∀e∈o.after,Region.binds .any e=true->Up L e.on):Closed ops (L.setIfInBounds j true):=fun m o hu ho e he KD=>by
 rcases iy.1 hu with⟨rfl,_⟩|hu
 ·exact iy.2 (.inr (hb o ho e he KD))
 exact iy.2 (.inr (h m o hu ho e he KD))
theorem fJ(n m:Nat): ¬Up (Array.replicate n false) m:=fun h=>by unfold Up at h;simp[Array.getElem?_replicate]at h
section
variable{P:Program}{b:Frame}{n:Nat}{ds:List Deferred}{k:List Item}{cs:List Frame}{ops:Array Oper}
theorem Kw.free{I:Array Bool->Lo->World->Nv->Prop}(ha:L4 ops=true)(hw: ∀L l w env,I L l w env->L.size=ops.size/\ay P E l b)
  (wZ: ∀L l w env j,I L l w env->j<ops.size->Closed ops L->¬Up L j->(∀o,ops[j]?=some o->∀e∈o.after,Region.binds .any e=true->Up L e.on)->∀rest,(∀l' w' env',I (L.setIfInBounds j true) l' w' env'->Tk E N i l' w' b n env' ds (.inRegion ops rest::k) cs)->Tk E N i l w b n env ds (.inRegion ops (j::rest)::k) cs)
  (oF: ∀L l w env,I L l w env->(∀j,j<ops.size->Up L j)->Tk E N i l w b n env ds k cs):
  ∀fuel L l w env,I L l w env->Closed ops L->down L<=fuel->Kw E N i fuel L l w b n env ds ops k cs:=by
 intro fuel
 induction fuel with
 |zero=>
  intro L l w env hI dt hd
  obtain⟨hs,W⟩:=hw _ _ _ _ hI
  have hr:Region.ready .any ops L= []:=by
   rw[List.eq_nil_iff_forall_not_mem]
   intro j hj
   have:=DX (mem_ready.1 hj).2.1
   omega
  exact Kw.done W hr (oF _ _ _ _ hI (Ms ha hs hr))
 |succ fuel ih=>
  intro L l w env hI dt hd
  obtain⟨hs,W⟩:=hw _ _ _ _ hI
  by_cases hr:Region.ready .any ops L= []
  ·exact Kw.done W hr (oF _ _ _ _ hI (Ms ha hs hr))
  refine Kw.step (rs:=Region.ready .any ops L) rfl hr fun j hj rest hk=>?_
  obtain⟨h1,h2,h3⟩:=mem_ready.1 hj
  have dm:=DX h2
  have hb: ∀o,ops[j]?=some o->∀e∈o.after,Region.binds .any e=true->Up L e.on:=fun o ho e he hb=>by
   rw[ho]at h3
   simp only[Option.map_some,Option.getD_some]at h3
   rw[Array.all_eq_true_iff_forall_mem]at h3
   have:=h3 e he
   rw[hb]at this
   simp only[Bool.not_true,Bool.false_or]at this
   unfold Up
   rw[Array.getD_eq_getD_getElem?]at this
   cases hx:L[e.on]? with
   |none=>rw[hx]at this;cases this
   |some x=>rw[hx]at this;simp at this;rw[this]
  refine wZ L l w env j hI h1 dt (fun hu=>?_) hb rest fun l' w' env' hI'=>hk _ _ _ _ (ih _ _ _ _ hI' (dt.set hb) (by omega))
  unfold Up at hu
  simp[Array.getD_eq_getD_getElem?,hu]at h2
theorem Tk.free(W:ay P E l b){x:Nat}(hm:P.follows .mixedOrders=true){env:Nv}{I:Array Oper->Array Bool->Lo->World->Nv->Prop}(ha:L4 ops=true)(h0:I ops (Array.replicate ops.size false) l w env)
  (hw: ∀L l w env,I ops L l w env->L.size=ops.size/\ay P E l b)
  (wZ: ∀L l w env j,I ops L l w env->j<ops.size->Closed ops L->¬Up L j->(∀o,ops[j]?=some o->∀e∈o.after,Region.binds .any e=true->Up L e.on)->∀rest,(∀l' w' env',I ops (L.setIfInBounds j true) l' w' env'->Tk E N i l' w' b n env' ds (.inRegion ops rest::k) cs)->Tk E N i l w b n env ds (.inRegion ops (j::rest)::k) cs)
  (oF: ∀L l w env,I ops L l w env->(∀j,j<ops.size->Up L j)->Tk E N i l w b n env ds k cs):Tk E N i l w b n env ds (.code (.region x ops true)::k) cs:=
 Tk.draw W hm (Kw.free (I:=I ops) ha hw wZ oF _ _ _ _ _ h0 (fun j o hu=>absurd hu (fJ _ _)) (by unfold down;simp))
variable{env:Nv}{j:Nat}{rest:List Nat}{o:Oper}
theorem Tk.Qi(W:Wk E l b)(aJ:l.rel=none)(ho:ops[j]?=some o)(hw:bj ops env o=some true)(hd:cY n o.dst=true)
  (h: ∀ae,View l.ai w ae->∃v w',(∀a,Has n env a->(execOp a.eval o).run E.P ae= .ok (.value v) w'/\∀e∈(execOp a.eval o).events E.P ae #[],KJ (fun b=>l.ai b\/(ae.heap.size<=b/\b<w'.heap.size)) e)/\
   ae.heap.size<=w'.heap.size/\(∀b,¬l.ai b->b<ae.heap.size->w'.heap[b]?=ae.heap[b]?)/\w'.tape=ae.tape/\w'.os=ae.os/\w'.output=ae.output/\
   Tk E N i (l.grow ae.heap.size w'.heap.size) w' b n (env.put o.dst v) ds (.inRegion ops rest::k) cs):Tk E N i l w b n env ds (.inRegion ops (j::rest)::k) cs:=by
 intro a ha dm
 refine Tr.tS (aX _ _) W.ch fun ae hv=>?_
 obtain⟨v,w',h1,h2,h3,h4,h5,h6,h7⟩:=h ae hv
 obtain⟨r1,r2⟩:=h1 a ha
 exact⟨Conc.G (b.at (a.put o.dst v) (.inRegion ops rest::k)) cs,w',_,stepG_value ho (ha.want hw) W.kind r1,rfl,⟨h2,h3,h4,h5,h6,fun e he=>r2 e (mem_listed he)⟩,fun hr=>absurd aJ hr,h7 _ (ha.put hd v) (by cases o.dst<;>exact dm)⟩
theorem Tk.E4(W:Wk E l b)(aJ:l.rel=none){d:Nat}(ho:ops[j]?=some o)(hw:bj ops env o=some true)(eR:o.dst=some d)(hd:Nat.blt d n=true)(v:Nat->Value)(x:Obj)
  (hx: ∀a,Has n env a->∀ae:World,(execOp a.eval o).run E.P ae= .ok (.value (v ae.heap.size)) {ae with heap:=ae.heap.push x}/\(execOp a.eval o).events E.P ae #[]= #[])
  (h: ∀ae,View l.ai w ae->∀r,r=ae.heap.size->Tk E N i (l.grow r (r+1)) {ae with heap:=ae.heap.push x} b n ((d,v r)::env) ds (.inRegion ops rest::k) cs):
  Tk E N i l w b n env ds (.inRegion ops (j::rest)::k) cs:=by
 refine Tk.Qi W aJ ho hw (by rw[eR];exact hd) fun ae hv=>⟨v ae.heap.size,{ae with heap:=ae.heap.push x},fun a ha=>?_,by simp,fun b hb bA=>?_,rfl,rfl,rfl,?_⟩
 ·obtain⟨h1,h2⟩:=hx a ha ae
  exact⟨h1,fun e he=>by rw[h2]at he;simp at he⟩
 ·simp[Array.getElem?_push,Nat.ne_of_lt bA]
 rw[eR]
 have:=h ae hv _ rfl
 simpa [Nv.put]using this
end
structure eV(ops:Array Oper)(val:Nat->Value)(keep:List Nat)(L:Array Bool)(env:Nv):Prop where
 size:L.size=ops.size
 base: ∀x,keep.contains x=true->env.get x=some (val x)
 op: ∀m o d,ops[m]?=some o->o.dst=some d->Up L m->env.get d=some (val d)
section
variable{ops:Array Oper}{val val':Nat->Value}{keep:List Nat}{L:Array Bool}{env:Nv}{j d:Nat}{o:Oper}
theorem eV.put(h:eV ops val keep L env)(ho:ops[j]?=some o)(hd:o.dst=some d):eV ops val keep (L.setIfInBounds j true) ((d,val d)::env):=by
 refine⟨by simp[h.size],fun x hx=>?_,fun m o' d' wL ln hu=>?_⟩
 ·rw[Nv.get_put]
  split
  ·rename_i e;subst e;rfl
  exact h.base x hx
 rw[Nv.get_put]
 split
 ·rename_i e;subst e;rfl
 rename_i e
 rcases iy.1 hu with⟨rfl,_⟩|hu
 ·rw[ho]at wL;cases wL;rw[hd]at ln;cases ln;exact absurd rfl e
 exact h.op m o' d' wL ln hu
theorem eV.step{v:Value}(h:eV ops val keep L env)(ho:ops[j]?=some o)(hd:o.dst=some d)(hv:v=val d):eV ops val keep (L.setIfInBounds j true) (env.put o.dst v):=by
 rw[hd,hv];exact h.put ho hd
theorem eV.none(h:eV ops val keep L env)(ho:ops[j]?=some o)(hd:o.dst=none):eV ops val keep (L.setIfInBounds j true) env:=by
 refine⟨by simp[h.size],h.base,fun m o' d' wL ln hu=>?_⟩
 rcases iy.1 hu with⟨rfl,_⟩|hu
 ·rw[ho]at wL;cases wL;rw[hd]at ln;cases ln
 exact h.op m o' d' wL ln hu
theorem eV.U8(h:eV ops val keep L env)(hk: ∀x,keep.contains x=true->val' x=val x)(ho: ∀m o d,ops[m]?=some o->o.dst=some d->Up L m->val' d=val d):eV ops val' keep L env:=
 ⟨h.size,fun x hx=>by rw[hk x hx];exact h.base x hx,fun m o d h1 h2 h3=>by rw[ho m o d h1 h2 h3];exact h.op m o d h1 h2 h3⟩
theorem eV.get(h:eV ops val keep L env)(ho:ops[j]?=some o)(hd:o.dst=some d)(hu:Up L j):env.get d=some (val d):=h.op j o d ho hd hu
theorem bN(h: ∀o,ops[j]?=some o->∀e∈o.after,Region.binds .any e=true->Up L e.on)(ho:ops[j]?=some o)(m:Nat)(hm:(o.after.toList.any fun e=>Nat.beq e.on m&&Region.binds .any e)=true):Up L m:=by
 rw[List.any_eq_true]at hm
 obtain⟨x,hx,he⟩:=hm
 rw[Bool.and_eq_true]at he
 have:=h o ho _ (Array.mem_toList_iff.1 hx) he.2
 rwa [Nat.eq_of_beq_eq_true he.1]at this
end
end Go.Co

namespace Go.Co.F1
open Go Go.Conc Go.Proofs
open Go.Co
open Go.ConcN (upd upd_ne upd_same)
variable{E:Geo}{N i:Nat}{l:Lo}{w:World}
set_option maxRecDepth 10000
noncomputable def c55:Code:=(Try.f81.body).getD .skip
theorem b55:ij Try.prog 81 10 c55 #[]:=⟨Try.f81,Try.func81,by decide+kernel,rfl,rfl,rfl⟩
theorem e58:je Try.prog 84 Extern.Atomic.storeT:=⟨Try.f84,Try.func84,by decide+kernel,rfl,by rfl,by rfl⟩
def V8(B o:Nat)(x:Nat):Value:=match x with
 |0|4|5=>.pointer (some ⟨B,o,none⟩)
 |6=>.pointer (some ⟨B,o,none⟩)
 |1|7=>.bool true
 |8=>.int .u32 1
 |_=>.tuple #[]
theorem OZ{k B o:Nat}(hf:E.da)(hP:E.P=Try.prog)(hk:k<E.K)(hO:E.sc (.done k)=⟨B,o,none⟩)(bP:l.ch= .no)(cP:l.af=true)(fD:l.deaf=0)(aJ:l.rel=none)(aS:l.run=some k){fr:Frame}{cs:List Frame}(hm:fr.mode= .returning)
  (ZB: ∀G ae t,GI E G ae t->(G.th i).af=true->G.th i=l->View l.ai w ae->∃PB app',z7 G ae i k PB app'/\E.App app' (upd G.dn k true) G.cv/\Tr E N i (l.dq k PB app') (Conc.G fr cs) (ae.setCell (E.sc (.done k)) (.int .u32 1))):
  Tk E N i l w (baseD 81) 10 (gq [.pointer (some ⟨B,o,none⟩),.bool true] 0) [] [.code c55] (fr::cs):=by
 have W:ay Try.prog E l (baseD 81):=⟨⟨hf,bP,by decide⟩,hP⟩
 have W': ∀l':Lo,l'.ch= .no->ay Try.prog E l' (baseD 81):=fun l' h=>⟨⟨hf,h,by decide⟩,hP⟩
 refine Tk.free W mixed (I:=fun ops L l' w' env=>l'.ch= .no/\eV ops (V8 B o) [0,1] L env/\((¬Up L 5/\l'=l/\View l.ai w w')\/(Up L 5/\Tr E N i l' (Conc.G fr cs) w'))) (by decide+kernel) ?_ ?_ ?_ ?_
 ·refine⟨bP,⟨by simp,fun x hx=>?_,fun m o' d _ _ hu=>?_⟩,.inl ⟨fun hu=>?_,rfl,View.refl _ _⟩⟩
  ·have:x=0\/x=1:=by simpa using hx
   rcases this with rfl|rfl<;>rfl
  ·exact absurd hu (fJ _ _)
  exact absurd hu (fJ _ _)
 ·exact fun L l' w' env h=>⟨h.2.1.size,W' l' h.1⟩
 ·intro L l' w' env j ⟨hc,F,hs⟩ hj dt hu hb rest cC
  have hj6:j<6:=hj
  have AS: ¬Up L 5/\l'=l/\View l.ai w w':=by
   rcases hs with h|⟨h,_⟩
   ·exact h
   have u2:=dt.up h (by rfl) 2 (by rfl)
   have u4:=dt.up h (by rfl) 4 (by rfl)
   have u1:=dt.up u2 (by rfl) 1 (by rfl)
   have u0:=dt.up u1 (by rfl) 0 (by rfl)
   have u3:=dt.up u4 (by rfl) 3 (by rfl)
   have fU:j=0\/j=1\/j=2\/j=3\/j=4\/j=5:=by omega
   rcases fU with rfl|rfl|rfl|rfl|rfl|rfl<;>exact absurd ‹_› hu
  obtain⟨h5,rfl,hv⟩:=AS
  have f0:=F.base 0 rfl
  have f1:=F.base 1 rfl
  have fU:j=0\/j=1\/j=2\/j=3\/j=4\/j=5:=by omega
  rcases fU with rfl|rfl|rfl|rfl|rfl|rfl
  ·refine Tk.pure W.wk (by rfl) (by rfl) (by rfl) (aa (x:=.tmp 0) (.inl rfl) f0) ?_
   exact cC _ _ _ ⟨hc,F.step (j:=0) (d:=4) (by rfl) rfl rfl,.inl ⟨fun h=>h5 ((iy.1 h).resolve_left fun x=>by simp at x),rfl,hv⟩⟩
  ·have g:=F.get (j:=0) (d:=4) (by rfl) rfl (bN hb (by rfl) 0 (by rfl))
   refine Tk.pure W.wk (by rfl) (by rfl) (by rfl) (ak (x:=.tmp 4) rfl g) ?_
   exact cC _ _ _ ⟨hc,F.step (j:=1) (d:=5) (by rfl) rfl rfl,.inl ⟨fun h=>h5 ((iy.1 h).resolve_left fun x=>by simp at x),rfl,hv⟩⟩
  ·have g:=F.get (j:=1) (d:=5) (by rfl) rfl (bN hb (by rfl) 1 (by rfl))
   refine Tk.pure W.wk (by rfl) (by rfl) (by rfl) (by rw[hP];exact av (x:=.tmp 5) rfl g (by rfl) rfl (by decide+kernel)) ?_
   exact cC _ _ _ ⟨hc,F.step (j:=2) (d:=6) (by rfl) rfl rfl,.inl ⟨fun h=>h5 ((iy.1 h).resolve_left fun x=>by simp at x),rfl,hv⟩⟩
  ·refine Tk.pure W.wk (by rfl) (by rfl) (by rfl) (aa (x:=.tmp 1) (.inl rfl) f1) ?_
   exact cC _ _ _ ⟨hc,F.step (j:=3) (d:=7) (by rfl) rfl rfl,.inl ⟨fun h=>h5 ((iy.1 h).resolve_left fun x=>by simp at x),rfl,hv⟩⟩
  ·have g:=F.get (j:=3) (d:=7) (by rfl) rfl (bN hb (by rfl) 3 (by rfl))
   refine Tk.call W.wk (vs:= [.bool true]) (by rfl) (by rfl) (by rfl) (by rfl) (hP▸YP) (by show eD env [.tmp 7]=_;unfold eD;rw[show env.ev (.tmp 7)=_ from g];rfl) fun rM oA=>?_
   rw[hP]
   refine zaq hf hP hc (oA _ _ _ (cC _ _ _ ⟨hc,F.step (j:=4) (d:=8) (by rfl) rfl rfl,.inl ⟨fun h=>h5 ((iy.1 h).resolve_left fun x=>by simp at x),rfl,hv⟩⟩))
  have g6:=F.get (j:=2) (d:=6) (by rfl) rfl (bN hb (by rfl) 2 (by rfl))
  have g8:=F.get (j:=4) (d:=8) (by rfl) rfl (bN hb (by rfl) 4 (by rfl))
  refine Tk.BB W.wk (x:=.tmp 6) (y:=.tmp 8) (kk:=.u32) (v:=1) (ad:=E.sc (.done k)) (by rfl) (by rfl) (by rfl) (by rfl) (hP▸e58) (by rw[hO];exact g6) g8 fun G ae t hg au ax ig=>?_
  obtain⟨PB,app',hp,hA,hT⟩:=ZB G ae t hg au ax (hv.trans ig)
  obtain⟨c1,c2⟩:=hg.m.sync (.done k) hk
  refine⟨_,l'.dq k PB app',false,c1,c2,fun fn pos=>?_,oE.same (cC _ _ _ ⟨bP,F.step (j:=5) (d:=9) (by rfl) rfl rfl,.inr ⟨iy.2 (.inl ⟨rfl,by rw[F.size];exact hj⟩),hT⟩⟩)⟩
  obtain⟨G',dd,c,_,_⟩:=hg.Ph fn pos au (by rw[ax];exact fD) (by rw[ax];exact aJ) (by rw[ax];exact aS) hp hA
  rw[ax]at dd
  exact⟨G',dd,.inl rfl,cP,fun e=>by cases e⟩
 intro L l' w' env ⟨hc,F,hs⟩ dK
 have W2:=W' l' hc
 refine Tk.ji W2.wk (fE.leaveD W2.wk (hP▸b55) hm ?_)
 rcases hs with⟨h,_⟩|⟨_,h⟩
 ·exact absurd (dK 5 (by decide)) h
 exact h
end Go.Co.F1

namespace Go.Co
open Go Go.Conc
variable{E:Geo}{N i:Nat}{l:Lo}{w:World}
def Lo.begin(E:Geo)(l:Lo)(k:Nat):Lo:={l with run:=some k,kn:=E.wa k l.kn}
theorem Eg{P:Program}{a:Act}{w:World}{o:Oper}{x:Operand}{f:FuncId}{fn:Func}{args:Array Operand}{iQ:Array TypeId}{cap:Array Value}(aF:o.op= .call {callee:=.value x,args,argTypes:=iQ})(hx:a.eval x= .func (.func f) #[] cap)
  (hf:P.funcs[f]?=some fn) (Dc:(fn.name== "runtime.NumGoroutine")=false) (hb:fn.body.isNone=false):(execOp a.eval o).run P w= .ok (.enter f (args.map a.eval++cap)) w/\(execOp a.eval o).events P w #[]= #[]:=by
 have h1: ¬fn.name= "runtime.NumGoroutine" :=by simpa using Dc
 have h2: ¬fn.body=none:=by cases hx:fn.body<;>simp_all
 unfold execOp
 simp[aF,resolve,Deferred.ofValue,invoke,callFunc,hf,h1,h2,hx]
section
variable{P:Program}{b:Frame}{n:Nat}{env:Nv}{ds:List Deferred}{k:List Item}{cs:List Frame}
variable{ops:Array Oper}{j:Nat}{rest:List Nat}{o:Oper}{f:FuncId}{iQ:Array TypeId}
theorem ah.QS(W:ay P E l b){x:Operand}{xs:Array Operand}{vs:List Value}{nt:Nat}{c:Code}{rs:Array ResultVar}{cap:Array Value}(ho:ops[j]?=some o)(hw:bj ops env o=some true)(hd:cY n o.dst=true)(aF:o.op= .call {callee:=.value x,args:=xs,argTypes:=iQ})(hb:ij P f nt c rs)
  (hv:env.ev x=some (.func (.func f) #[] cap)) (hx:eD env xs.toList=some vs) (h: ∀fr:Frame,(∀l' w' v,ah E N i l' w' b n (env.put o.dst v) ds ops (j+1) k cs->Tr E N i l' (Conc.G (fr.finish v) cs) w')->Tr E N i l (Conc.G (Frame.enter P f (vs.toArray++cap) .normal) (fr::cs)) w):
  ah E N i l w b n env ds ops j k cs:=by
 refine ah.open ho ?_
 intro a ha dm
 obtain⟨fn,f1,f2,f3,_⟩:=hb.out
 have hm:xs.map a.eval=vs.toArray:=by
  apply Array.toList_inj.1
  simp only[Array.toList_map]
  exact ha.eD hx
 have hr:=fun ae=>Eg (a:=a) (P:=P) (w:=ae) aF (ha.ev hv) f1 f2 (by rw[f3];rfl)
 refine Tr.still W.wk.fin (aX _ _) (g':=Conc.G (Frame.enter P f (vs.toArray++cap) .normal) (b.at a (.inRegion ops (j::List.range' (j+1) (ops.size- (j+1)))::k)::cs)) rfl W.wk.ch (fun ae _=>?_) (h _ fun l' w' v hk=>?_)
 ·rw[W.hP,stepG_enter ho (ha.want hw) W.wk.kind (hr ae).1,hm]
  unfold listed
  rw[(hr ae).2,seen_none]
 rw[show(b.at a (.inRegion ops (j::List.range' (j+1) (ops.size- (j+1)))::k)).finish v=b.at (a.put o.dst v) (.inRegion ops (List.range' (j+1) (ops.size- (j+1)))::k) by rw[Frame.finish_at,ho];rfl]
 exact hk _ (ha.put hd v) (by cases o.dst<;>exact dm)
end
end Go.Co
namespace Go.Co.F1
open Go Go.Conc Go.Proofs
open Go.Co
open Go.ConcN (upd upd_ne upd_same)
variable{E:Geo}{N i:Nat}{l:Lo}{w:World}
set_option maxRecDepth 10000
theorem Ka{k B o:Nat}(W:ay Try.prog E l (base 72))(hk:k<E.K)(hO:E.sc (.done k)=⟨B,o,none⟩)(cP:l.af=true)(aJ:l.rel=none)(fD:l.deaf=0)(ee:l.mr=some (k,.held))(aS:l.run=none){fr:Frame}{cs:List Frame}
  (h0: ∀w',View l.ai w w'->Tr E N i (l.begin E k) (G (fr.finish (.bool false)) cs) w') (h1: ∀w',View l.ai w w'->Tr E N i {l with aP:=upd l.aP k true} (G (fr.finish (.bool true)) cs) w'):
  Tr E N i l (G (Frame.enter Try.prog 72 #[.pointer (some ⟨B,o,none⟩)] .normal) (fr::cs)) w:=by
 refine Tr.ck W.hP Qd (Nat.le_of_ble_eq_true rfl) ?_
 (repeat(first|refine ah.dn W ?_|refine ah.pS W (hp:=by first|exact aa (.inl rfl) rfl|exact aa (.inr rfl) rfl|exact ak rfl rfl|exact av rfl rfl (by rfl) rfl (by decide+kernel)) (h:=?_)|refine Tk.seq (ay.wk W) ?_|refine Tk.reg W ?_))
 refine ah.zY W (kk:=.u32) (ad:=E.sc (.done k)) (by rfl) (by rfl) (by rfl) (by rfl) e52 (by rw[hO];rfl) fun G ae t hg au ax hv=>?_
 have mA:=(hg.m.sync (.done k) hk).1
 cases hd:G.dn k with
 |false=>
  refine⟨0,l.begin E k,false,?_,fun fn pos=>?_,cd.same (ah.bx ?_)⟩
  ·rw[mA];show some (Value.int .u32 (G.dn k).toNat)=_;rw[hd];rfl
  ·obtain⟨s1,s2⟩:=hg.SY au (by rw[ax];exact ee) hd (by rw[ax];exact aS)
   rw[ax]at s1 s2
   have WX:(upd G.th i {l with run:=some k,kn:=E.wa k l.kn} i).af=true:=by rw[upd_same];exact cP
   refine⟨{G with th:=upd G.th i {l with run:=some k,kn:=E.wa k l.kn}},?_,.inl rfl,cP,fun e=>by cases e⟩
   exact⟨s1.Dt fn pos WX hk (by show(upd G.th i _ i).rel=none;rw[upd_same];exact aJ),upd_same ..,fun j hj=>upd_ne _ _ hj,rfl,fun _ _ _=>View.refl _ _,s2⟩
  have W':ay Try.prog E (l.begin E k) (base 72):=⟨⟨W.wk.fin,W.wk.ch,W.wk.kind⟩,W.hP⟩
  (repeat(first|refine ah.dn W' ?_|refine ah.pS W' (hp:=by first|exact aa (.inr rfl) rfl|exact al rfl rfl rfl rfl) (h:=?_)))
  refine Tk.ret W'.wk (fE.leave1 W'.wk (W.hP▸Qd) rfl (h0 _ hv))
 |true=>
  refine⟨1,{l with aP:=upd l.aP k true},false,?_,fun fn pos=>?_,cd.same (ah.bx ?_)⟩
  ·rw[mA];show some (Value.int .u32 (G.dn k).toNat)=_;rw[hd];rfl
  ·obtain⟨G',d,c⟩:=hg.Du fn pos au hk (by rw[ax];exact fD) (by rw[ax];exact aJ) hd
   rw[ax]at d
   exact⟨G',d,.inl rfl,cP,fun e=>by cases e⟩
  have W':ay Try.prog E {l with aP:=upd l.aP k true} (base 72):=⟨⟨W.wk.fin,W.wk.ch,W.wk.kind⟩,W.hP⟩
  (repeat(first|refine ah.dn W' ?_|refine ah.pS W' (hp:=by first|exact aa (.inr rfl) rfl|exact al rfl rfl rfl rfl) (h:=?_)))
  exact Tk.ret W'.wk (fE.leave1 W'.wk (W.hP▸Qd) rfl (h1 _ hv))
noncomputable def c51:Code:=(Try.f73.body).getD .skip
theorem XN:ij Try.prog 73 21 c51 #[]:=⟨Try.f73,Try.func73,by decide+kernel,rfl,rfl,rfl⟩
noncomputable def c43:Code:=(Try.f56.body).getD .skip
theorem XO:ij Try.prog 56 12 c43 #[]:=⟨Try.f56,Try.func56,by decide+kernel,rfl,rfl,rfl⟩
structure TR(E:Geo)(N i k:Nat)(l2:Lo)(w2:World)(fr:Frame)(cs:List Frame):Prop where
 lk:Lk E i k {l2 with run:=none} (some .held)
 run:l2.run=some k
 deaf:l2.deaf=0
 rO: ∀G ae t,GI E G ae t->(G.th i).af=true->G.th i=l2->View l2.ai w2 ae->∃PB app',z7 G ae i k PB app'/\E.App app' (upd G.dn k true) G.cv/\
  ∀o' w',View (l2.dq k PB app').ai (ae.setCell (E.sc (.done k)) (.int .u32 1)) w'->Tr E N i ((l2.dq k PB app').mu k none o') (Conc.G (fr.finish (.tuple #[])) cs) w'
set_option maxHeartbeats 4000000 in
theorem SW{k B o:Nat}(hf:E.da)(hP:E.P=Try.prog)(O:ni E k B o)(A:Lk E i k l none)(hp:l.aP k=false)(fD:l.deaf=0){F nt:Nat}{c:Code}(bF:ij Try.prog F nt c #[]){cap:Array Value}{fr:Frame}{cs:List Frame}
  (WR: ∀o' w',View l.ai w w'->Tr E N i {l.mu k none o' with aP:=upd l.aP k true} (Conc.G (fr.finish (.tuple #[])) cs) w')
  (LJ: ∀w' (rM:Frame) wi,View l.ai w w'->(∀l2 w2,TR E N i k l2 w2 fr cs->Tr E N i l2 (Conc.G (rM.finish (.tuple #[])) wi) w2)->Tr E N i ((l.mu k (some .held) none).begin E k) (Conc.G (Frame.enter Try.prog F cap .normal) (rM::wi)) w'):
  Tr E N i l (Conc.G (Frame.enter Try.prog 73 #[.pointer (some ⟨B,o,none⟩),.func (.func F) #[] cap] .normal) (fr::cs)) w:=by
 have W:ay Try.prog E l (base 73):=⟨⟨hf,A.ch,by decide⟩,hP⟩
 refine Tr.ck hP XN (Nat.le_of_ble_eq_true rfl) ?_
 (repeat(first|refine ah.pS W (hp:=by first|exact aa (.inl rfl) rfl|exact ak rfl rfl|exact av rfl rfl (by rfl) rfl (by decide+kernel)) (h:=?_)|refine Tk.seq (ay.wk W) ?_|refine Tk.reg W ?_))
 refine ah.call W (by rfl) (by rfl) (by rfl) (by rfl) Ug rfl fun GW oC=>?_
 refine Tm hf hP O A hp fD fun w1 ig=>oC _ _ _ (ah.bx ?_)
 have W1:ay Try.prog E (l.mu k (some .held) none) (base 73):=fO W A.ch
 (repeat(first|refine ah.dn W1 ?_|refine ah.pS W1 (hp:=by first|exact aa (.inl rfl) rfl|exact ak rfl rfl|exact av rfl rfl (by rfl) rfl (by decide+kernel)) (h:=?_)|refine Tk.seq (ay.wk W1) ?_|refine Tk.reg W1 ?_))
 refine ah.defer W1 (by rfl) (by rfl) (by rfl) (by rfl) rfl ?_
 refine ah.lay (rfl:Nv.put _ _ _=_) ?_
 (repeat(first|refine ah.dn W1 ?_|refine ah.pS W1 (hp:=by first|exact aa (.inl rfl) rfl|exact ak rfl rfl|exact av rfl rfl (by rfl) rfl (by decide+kernel)) (h:=?_)|refine Tk.seq (ay.wk W1) ?_|refine Tk.reg W1 ?_))
 refine ah.call W1 (by rfl) (by rfl) (by rfl) (by rfl) Qd rfl fun XK oA=>?_
 refine Ka (l:=l.mu k (some .held) none) ⟨⟨hf,A.ch,by decide⟩,hP⟩ A.kK O.d A.af A.rel fD rfl A.run (fun w2 dF=>?_) (fun w2 dF=>?_)
 ·refine oA _ _ _ (ah.bx ?_)
  have W2:ay Try.prog E ((l.mu k (some .held) none).begin E k) (base 73):=fO W A.ch
  (repeat(first|refine ah.dn W2 ?_|refine ah.pS W2 (hp:=by first|exact aa (.inl rfl) rfl|exact ak rfl rfl|exact av rfl rfl (by rfl) rfl (by decide+kernel)|exact ft rfl rfl) (h:=?_)|refine Tk.seq (ay.wk W2) ?_|refine Tk.reg W2 ?_|refine Tk.cp (ay.wk W2) rfl ?_))
  refine ah.defer W2 (by rfl) (by rfl) (by rfl) (by rfl) rfl ?_
  refine ah.lay (rfl:Nv.put _ _ _=_) ?_
  (repeat(first|refine ah.dn W2 ?_|refine ah.pS W2 (hp:=by exact aa (.inl rfl) rfl) (h:=?_)|refine Tk.reg W2 ?_))
  refine ah.QS W2 (by rfl) (by rfl) (by rfl) (by rfl) bF rfl rfl fun YJ UL=>?_
  have e:([]:List Value).toArray++cap=cap:=by simp
  rw[e]
  refine LJ w2 YJ (fr::cs) (ig.trans dF) fun l2 w3 M=>UL _ _ _ (ah.bx ?_)
  have W3:ay Try.prog E l2 (base 73):=fO W M.lk.ch
  (repeat(refine ah.dn W3 ?_))
  refine Tk.ji W3.wk (fE.call W3.wk (hP▸b55) (Nat.le_of_ble_eq_true rfl) fun fr4 hm4 Yn=>?_)
  refine OZ (l:=l2) hf hP A.kK O.d M.lk.ch M.lk.af M.deaf M.lk.rel M.run hm4 fun G ae t hg au ax hv=>?_
  obtain⟨PB,app',p1,p2,p3⟩:=M.rO G ae t hg au ax hv
  refine⟨PB,app',p1,p2,Yn _ _ ?_⟩
  have W4:ay Try.prog E (l2.dq k PB app') (base 73):=fO W M.lk.ch
  refine fE.call W4.wk (hP▸Uf) (Nat.le_of_ble_eq_true rfl) fun fr5 Yk UK=>?_
  refine Dl (l:=l2.dq k PB app') hf hP O (⟨M.lk.i0,M.lk.kK,M.lk.af,M.lk.mr,M.lk.ch,M.lk.gr,M.lk.rel,rfl⟩) (upd_same ..) M.deaf Yk fun o' w' dG=>UK _ _ ?_
  have W5:ay Try.prog E ((l2.dq k PB app').mu k none o') (base 73):=fO W M.lk.ch
  exact fE.leave0 W5.wk (hP▸XN) (p3 _ _ dG)
 refine oA _ _ _ (ah.bx ?_)
 have W2:ay Try.prog E {l.mu k (some .held) none with aP:=upd l.aP k true} (base 73):=fO W A.ch
 (repeat(first|refine ah.dn W2 ?_|refine ah.pS W2 (hp:=by exact ft rfl rfl) (h:=?_)|refine Tk.skip (ay.wk W2) ?_|refine Tk.bC (ay.wk W2) rfl ?_))
 refine Tk.ji W2.wk (fE.call W2.wk (hP▸Uf) (Nat.le_of_ble_eq_true rfl) fun fr5 Yk UK=>?_)
 refine Dl (l:={l.mu k (some .held) none with aP:=upd l.aP k true}) hf hP O (⟨A.i0,A.kK,A.af,rfl,A.ch,A.gr,A.rel,A.run⟩) (upd_same ..) fD Yk fun o' w' dG=>UK _ _ ?_
 have W5:ay Try.prog E (({l.mu k (some .held) none with aP:=upd l.aP k true}:Lo).mu k none o') (base 73):=fO W A.ch
 exact fE.leave0 W5.wk (hP▸XN) (WR o' w' (ig.trans (dF.trans dG)))
end Go.Co.F1

namespace Go.Co.F1
open Go Go.Conc Go.Proofs
open Go.Co
open Go.ConcN (upd upd_ne upd_same)
variable{E:Geo}{N i:Nat}{l:Lo}{w:World}
set_option maxRecDepth 10000
theorem J9{k B o:Nat}(W:ay Try.prog E l (base 72))(hk:k<E.K)(hO:E.sc (.done k)=⟨B,o,none⟩)(cP:l.af=true)(aJ:l.rel=none)(fD:l.deaf=0){fr:Frame}{cs:List Frame}
  (h0:l.aP k=false->∀w',View l.ai w w'->Tr E N i l (G (fr.finish (.bool false)) cs) w') (h1: ∀w',View l.ai w w'->Tr E N i {l with aP:=upd l.aP k true} (G (fr.finish (.bool true)) cs) w'):
  Tr E N i l (G (Frame.enter Try.prog 72 #[.pointer (some ⟨B,o,none⟩)] .normal) (fr::cs)) w:=by
 refine Tr.ck W.hP Qd (Nat.le_of_ble_eq_true rfl) ?_
 (repeat(first|refine ah.dn W ?_|refine ah.pS W (hp:=by first|exact aa (.inl rfl) rfl|exact aa (.inr rfl) rfl|exact ak rfl rfl|exact av rfl rfl (by rfl) rfl (by decide+kernel)) (h:=?_)|refine Tk.seq (ay.wk W) ?_|refine Tk.reg W ?_))
 refine ah.zY W (kk:=.u32) (ad:=E.sc (.done k)) (by rfl) (by rfl) (by rfl) (by rfl) e52 (by rw[hO];rfl) fun G ae t hg au ax hv=>?_
 have mA:=(hg.m.sync (.done k) hk).1
 cases hd:G.dn k with
 |false=>
  have hpf:l.aP k=false:=by
   cases hp:l.aP k with
   |false=>rfl
   |true=>
    have:=hg.k.Rx au (by rw[ax];exact hp) hk
    rw[hd]at this;cases this
  refine⟨0,l,false,?_,fun fn pos=>?_,cd.same (ah.bx ?_)⟩
  ·rw[mA];show some (Value.int .u32 (G.dn k).toNat)=_;rw[hd];rfl
  ·exact⟨G,ax▸(oe.id (hg.Dt fn pos au hk (by rw[ax];exact aJ))),.inl rfl,cP,fun e=>by cases e⟩
  (repeat(first|refine ah.dn W ?_|refine ah.pS W (hp:=by first|exact aa (.inr rfl) rfl|exact al rfl rfl rfl rfl) (h:=?_)))
  refine Tk.ret W.wk (fE.leave1 W.wk (W.hP▸Qd) rfl (h0 hpf _ hv))
 |true=>
  refine⟨1,{l with aP:=upd l.aP k true},false,?_,fun fn pos=>?_,cd.same (ah.bx ?_)⟩
  ·rw[mA];show some (Value.int .u32 (G.dn k).toNat)=_;rw[hd];rfl
  ·obtain⟨G',d,c⟩:=hg.Du fn pos au hk (by rw[ax];exact fD) (by rw[ax];exact aJ) hd
   rw[ax]at d
   exact⟨G',d,.inl rfl,cP,fun e=>by cases e⟩
  have W':ay Try.prog E {l with aP:=upd l.aP k true} (base 72):=⟨⟨W.wk.fin,W.wk.ch,W.wk.kind⟩,W.hP⟩
  (repeat(first|refine ah.dn W' ?_|refine ah.pS W' (hp:=by first|exact aa (.inr rfl) rfl|exact al rfl rfl rfl rfl) (h:=?_)))
  exact Tk.ret W'.wk (fE.leave1 W'.wk (W.hP▸Qd) rfl (h1 _ hv))
structure Kept(l l':Lo):Prop where
 bZ:l'.bZ=l.bZ
 wk:l'.wk=l.wk
 me:l'.me=l.me
 sc:l'.sc=l.sc
end Go.Co.F1

namespace Go.Co
open Go Go.Conc
open Go.ConcN (upd upd_ne upd_same)
variable{E:Geo}{N i:Nat}{l:Lo}{w:World}
section
variable{P:Program}{a:Act}{o:Oper}{t:TypeId}{x:Operand}{v:Value}{w:World}
theorem pt(ho:o.op= .box t x)(hx:a.eval x=v):(execOp a.eval o).run P w= .ok (.value (.pointer (some ⟨w.heap.size,0,none⟩))) {w with heap:=w.heap.push (.cells v.cells t (0,0))}/\(execOp a.eval o).events P w #[]= #[]:=by
 simp[execOp,ho,Instr.box,newVar,newRow,hx]
theorem MX{i:TypeInfo}{z:Value}(hi:P.info? t=some i)(hz:i.zero=some z):(zeroValue t).run P w= .ok z w:=by
 simp[zeroValue,typeInfo,hi,hz]
theorem GB{i:TypeInfo}{z:Value}(ho:o.op= .alloc t)(hi:P.info? t=some i)(hz:i.zero=some z):(execOp a.eval o).run P w= .ok (.value (.pointer (some ⟨w.heap.size,0,none⟩))) {w with heap:=w.heap.push (.cells z.cells t (0,0))}/\(execOp a.eval o).events P w #[]= #[]:=by
 have h1:=MX (w:=w) hi hz
 simp[execOp,ho,Instr.alloc,newVar,newRow,h1]
end
section
variable{b:Frame}{n:Nat}{env:Nv}{ds:List Deferred}{k:List Item}{cs:List Frame}{ops:Array Oper}{j:Nat}{rest:List Nat}{o:Oper}
theorem yy{P:Program}{a:Act}{o:Oper}{t:TypeId}{x y:Operand}{ad:Addr}{u v:Value}{w:World}(ho:o.op= .store t x y)(hx:a.eval x= .pointer (some ad))(hy:a.eval y=v)(hi: ∃i,P.info? t=some i/\i.size=1)(ig:v.cells= #[v])(h1:v.oneCell'=true)(hc:w.cell? ad=some u)(hz:w.frozen? ad=false):
  (execOp a.eval o).run P w= .ok .skip (w.setCell ad v)/\(execOp a.eval o).events P w #[]= #[⟨.cell ad,true,false⟩]:=by
 obtain⟨inf,hi,hs⟩:=hi
 have h3:(sizeOf t).run P w= .ok 1 w:=by
  have:=iK hi w
  simpa [Program.cellsOf,hi,hs]using this
 have r1:=run_store P w (ad.add 0) v .plain h1
 have r2:=events_store (P:=P) (w:=w) (es:= #[]) (ad.add 0) v .plain h1
 have e0:ad.add 0=ad:=rfl
 rw[e0]at r1 r2
 simp only[hc,hz]at r1 r2
 constructor
 ·simp[execOp,ho,hx,hy,Instr.storeAt,Instr.sureAddr,storeVar,ig,h3,storeCells,e0,r1]
 simp[execOp,ho,hx,hy,Instr.storeAt,Instr.sureAddr,storeVar,ig,h3,storeCells,e0,r2,events_sizeOf]
end
end Go.Co
namespace Go.Co
open Go Go.Conc
theorem oI{L:Array Bool}{j m:Nat}(h:m≠j):Up (L.setIfInBounds j true) m↔Up L m:=by
 rw[iy];exact⟨fun x=>x.resolve_left fun y=>h y.1,.inr⟩
theorem Ll{L:Array Bool}{j:Nat}(h:j<L.size):Up (L.setIfInBounds j true) j:=iy.2 (.inl ⟨rfl,h⟩)
def Pk(ops:Array Oper)(j d:Nat):Bool:=(List.range ops.size).all fun m=>match(ops[m]?).bind (·.dst)with
 |some x=>!(Nat.beq x d)||Nat.beq m j
 |none=>true
theorem eV.VT{ops:Array Oper}{val val':Nat->Value}{keep:List Nat}{L:Array Bool}{env:Nv}{j d:Nat}(h:eV ops val keep L env)(cb: ∀x,x≠d->val' x=val x)(hk:keep.contains d=false)(ho:Pk ops j d=true)(hn: ¬Up L j):eV ops val' keep L env:=by
 refine h.U8 (fun x hx=>cb x fun e=>?_) fun m o x hm hd hu=>cb x fun e=>?_
 ·rw[e,hk]at hx;cases hx
 subst e
 have bA:=(Array.getElem?_eq_some_iff.1 hm).1
 have:=List.all_eq_true.1 ho m (List.mem_range.2 bA)
 rw[hm]at this
 simp only[Option.bind_some,hd]at this
 have e2:m=j:=by simpa using this
 exact hn (e2▸hu)
end Go.Co
namespace Go.Co
open Go Go.Conc
variable{P:Program}
end Go.Co
namespace Go.Co
open Go Go.Conc
end Go.Co
namespace Go.Co
open Go Go.Conc
variable{E:Geo}{N i:Nat}{l:Lo}{w:World}
theorem Tk.Mb{b:Frame}{n:Nat}{env:Nv}{ds:List Deferred}{k:List Item}{cs:List Frame}{ops:Array Oper}{j:Nat}{rest:List Nat}{o:Oper}(W:Wk E l b){t:TypeId}{x y:Operand}{ad:Addr}{v:Value}(hq:(E.P.funcs[b.fn]?).any (·.norace)=false)(ho:ops[j]?=some o)(hw:bj ops env o=some true)(hd:o.dst=none)(aF:o.op= .store t x y)
  (hi: ∃i,E.P.info? t=some i/\i.size=1) (ig:v.cells= #[v]) (h1:v.oneCell'=true) (hx:env.ev x=some (.pointer (some ad))) (hy:env.ev y=some v)
  (h: ∀G ae u,GI E G ae u->(G.th i).af=true->G.th i=l->View l.ai w ae->∃u0 l',ae.cell? ad=some u0/\ae.frozen? ad=false/\(∀fn pos,∃G',oe E i G G' ae (ae.setCell ad v) (u++MemOp.ofEvents i fn pos #[⟨.cell ad,true,false⟩]) l'/\Calm E G G'/\l'.af=true)/\
   Tk E N i l' (ae.setCell ad v) b n env ds (.inRegion ops rest::k) cs):Tk E N i l w b n env ds (.inRegion ops (j::rest)::k) cs:=by
 refine Tk.stop W ho (by rw[hd];rfl) fun G ae u hg au ax hv=>?_
 obtain⟨u0,l',c1,c2,h2,h3⟩:=h G ae u hg au ax hv
 refine⟨undef,_,#[⟨.cell ad,true,false⟩],l',false,fun a ha _=>⟨?_,fun fn pos=>?_⟩,oE.same (by rw[hd];exact h3)⟩
 ·obtain⟨s1,s2⟩:=yy (P:=E.P) (a:=a) aF (ha.ev hx) (ha.ev hy) hi ig h1 c1 c2
  rw[stepG_none ho (ha.want hw) W.kind s1]
  unfold listed
  rw[s2,rz hq]
 obtain⟨G',d,c,e⟩:=h2 fn pos
 exact⟨G',d,.inr c,e,fun e=>by cases e⟩
theorem Tk.Bh{b:Frame}{n:Nat}{env:Nv}{ds:List Deferred}{k:List Item}{cs:List Frame}{ops:Array Oper}{j:Nat}{rest:List Nat}{o:Oper}(W:Wk E l b){t:TypeId}{x y:Operand}{ad:Addr}{v u0:Value}(aJ:l.rel=none)(ho:ops[j]?=some o)(hw:bj ops env o=some true)(hd:o.dst=none)(aF:o.op= .store t x y)
  (hi: ∃i,E.P.info? t=some i/\i.size=1) (ig:v.cells= #[v]) (h1:v.oneCell'=true) (hx:env.ev x=some (.pointer (some ad))) (hy:env.ev y=some v) (aN:l.ai ad.block) (hc:w.cell? ad=some u0) (hz:w.frozen? ad=false)
  (h: ∀ae,View l.ai w ae->Tk E N i l (ae.setCell ad v) b n env ds (.inRegion ops rest::k) cs):Tk E N i l w b n env ds (.inRegion ops (j::rest)::k) cs:=by
 intro a ha dm
 refine Tr.tS (aX _ _) W.ch fun ae hv=>?_
 have hb:=hv.2 _ aN
 obtain⟨e1,e2⟩:=cE hb
 obtain⟨s1,s2⟩:=yy (P:=E.P) (a:=a) aF (ha.ev hx) (ha.ev hy) hi ig h1 (by rw[e1];exact hc) (by rw[e2];exact hz)
 have jA:a.put o.dst undef=a:=by rw[hd];rfl
 refine⟨Conc.G (b.at (a.put o.dst undef) (.inRegion ops rest::k)) cs,ae.setCell ad v,_,stepG_none ho (ha.want hw) W.kind s1,rfl,⟨by rw[aD];exact Nat.le_refl _,fun c hc bA=>cS ae _ _ fun e=>hc (e▸aN),rfl,rfl,rfl,fun e he=>?_⟩,fun hr=>absurd aJ hr,?_⟩
 ·have:=mem_listed he
  rw[s2]at this
  simp at this;subst this
  exact .inl ⟨ad,true,false,rfl,.inl aN⟩
 rw[aD,Lo.gJ,jA]
 exact h ae hv a ha dm
end Go.Co

namespace Go.Co
open Go Go.Conc
def Qt(P:Program)(d:Nat)(g:Goroutine):Prop:=∃n,QuitsD P n d g
section
variable{P:Program}{d:Nat}
theorem Qt.ctl{g g':Goroutine}(hs:g.status= .running)(h: ∀w,stepG P false g w= .go g' w #[])(hq:Qt P d g'):Qt P d g:=let⟨n,hn⟩:=hq;⟨n+1,hn.ctl hs h⟩
theorem Qt.done{g:Goroutine}(h:g.status= .finished):Qt P 0 g:=⟨0,h,rfl⟩
end
def Qk(P:Program)(d:Nat)(b:Frame)(n:Nat)(env:Nv)(ds:List Deferred)(k:List Item)(cs:List Frame):Prop:=∀a,Has n env a->a.defers=ds->Qt P d (G (b.at a k) cs)
def QO(P:Program)(d:Nat)(b:Frame)(n:Nat)(env:Nv)(ds:List Deferred)(ops:Array Oper)(j:Nat)(k:List Item)(cs:List Frame):Prop:=Qk P d b n env ds (.inRegion ops (List.range' j (ops.size-j))::k) cs
def QR(P:Program)(d:Nat)(b:Frame)(n:Nat)(env:Nv)(ds:List Deferred)(cs:List Frame):Prop:=∀a todo,Has n env a->a.defers=ds->Qt P d (G {b.at a todo with mode:=.returning} cs)
section
variable{P:Program}{d:Nat}{b:Frame}{n:Nat}{env:Nv}{ds:List Deferred}{k:List Item}{cs:List Frame}{ops:Array Oper}{j:Nat}{o:Oper}
theorem Qk.skip(h:Qk P d b n env ds k cs):Qk P d b n env ds (.code .skip::k) cs:=fun a ha hd=>(h a ha hd).ctl rfl fun _=>stepG_skip
theorem Qk.inBlock{x:Nat}(h:Qk P d b n env ds k cs):Qk P d b n env ds (.inBlock x::k) cs:=fun a ha hd=>(h a ha hd).ctl rfl fun _=>stepG_inBlock
theorem Qk.seq{x y:Code}(h:Qk P d b n env ds (.code x:: .code y::k) cs):Qk P d b n env ds (.code (.seq x y)::k) cs:=fun a ha hd=>(h a ha hd).ctl rfl fun _=>stepG_seq
theorem Qk.inLoop{c:Code}(h:Qk P d b n env ds (.code c:: .inLoop c::k) cs):Qk P d b n env ds (.inLoop c::k) cs:=fun a ha hd=>(h a ha hd).ctl rfl fun _=>stepG_inLoop
theorem Qk.exit{x:Nat}{k':List Item}(hx:exitTo x k=some k')(h:Qk P d b n env ds k' cs):Qk P d b n env ds (.code (.exit x)::k) cs:=fun a ha hd=>(h a ha hd).ctl rfl fun _=>stepG_exit hx
theorem Qk.cp{c:Operand}{x y:Code}(hc:env.ev c=some (.bool true))(h:Qk P d b n env ds (.code x::k) cs):Qk P d b n env ds (.code (.cond c x y)::k) cs:=fun a ha hd=>(h a ha hd).ctl rfl fun _=>stepG_cond (ha.ev hc)
theorem Qk.bC{c:Operand}{x y:Code}(hc:env.ev c=some (.bool false))(h:Qk P d b n env ds (.code y::k) cs):Qk P d b n env ds (.code (.cond c x y)::k) cs:=fun a ha hd=>(h a ha hd).ctl rfl fun _=>stepG_cond (ha.ev hc)
theorem Qk.reg{x:Nat}(h:QO P d b n env ds ops 0 k cs):Qk P d b n env ds (.code (.region x ops false)::k) cs:=fun a ha hd=>by
 have e:List.range ops.size=List.range' 0 (ops.size-0):=by rw[List.range_eq_range'];rfl
 refine(h a ha hd).ctl rfl fun _=>?_
 rw[stepG_region,e]
theorem QO.done(ho:ops[j]?=none)(h:Qk P d b n env ds k cs):QO P d b n env ds ops j k cs:=by
 have Yq:=Array.getElem?_eq_none_iff.1 ho
 unfold QO
 rw[show ops.size-j=0 by omega]
 exact fun a ha hd=>(h a ha hd).ctl rfl fun _=>stepG_region_end
theorem QO.open(ho:ops[j]?=some o)(h:Qk P d b n env ds (.inRegion ops (j::List.range' (j+1) (ops.size- (j+1)))::k) cs):QO P d b n env ds ops j k cs:=by
 have bA:=(Array.getElem?_eq_some_iff.1 ho).1
 unfold QO
 rw[show ops.size-j=(ops.size- (j+1))+1 by omega,List.range'_succ]
 exact h
theorem QO.qx(hk:b.kind≠ .early){v:Value}{x:Nat}(ho:ops[j]?=some o)(hw:bj ops env o=some true)(eR:o.dst=some x)(hd:Nat.blt x n=true)(hp:bR P env o v)(h:QO P d b n ((x,v)::env) ds ops (j+1) k cs):QO P d b n env ds ops j k cs:=by
 refine QO.open ho fun a ha dm=>?_
 have h2:=ha.put (d:=o.dst) (by rw[eR];exact hd) v
 refine(h (a.put o.dst v) (by rw[eR]at h2 ⊢;exact h2) (by cases o.dst<;>exact dm)).ctl rfl fun w=>?_
 obtain⟨h1,h2⟩:=hp n a ha w
 rw[stepG_value ho (ha.want hw) hk h1]
 unfold listed
 rw[h2,seen_none]
theorem QO.cj{x:Nat}(ho:ops[j]?=some o)(hw:bj ops env o=some false)(eR:o.dst=some x)(hd:Nat.blt x n=true)(h:QO P d b n ((x,undef)::env) ds ops (j+1) k cs):QO P d b n env ds ops j k cs:=by
 refine QO.open ho fun a ha dm=>?_
 have h2:=ha.put (d:=o.dst) (by rw[eR];exact hd) undef
 exact(h (a.put o.dst undef) (by rw[eR]at h2 ⊢;exact h2) (by cases o.dst<;>exact dm)).ctl rfl fun w=>stepG_unwanted ho (ha.want hw)
theorem Qk.ret(h:QR P d b n env ds cs):Qk P d b n env ds (.code .ret::k) cs:=fun a ha hd=>(h a _ ha hd).ctl rfl fun _=>stepG_ret'
theorem Qk.ji(h:QR P d b n env ds cs):Qk P d b n env ds [] cs:=fun a ha hd=>(h a _ ha hd).ctl rfl fun _=>stepG_end
theorem QR.enable{f:FuncId}(he:je P f (fun _=>do Go.mark .enable;Pure.pure Extern.Race.none_))(h:QR P d b n env ds cs):QR P (d+1) b n env (dcall f #[]::ds) cs:=fun a todo ha dm=>by
 obtain⟨fn,f1,f2,f3,f4,f5⟩:=he.out
 obtain⟨m,hm⟩:=h ⟨a.tmps,ds⟩ todo ha rfl
 exact⟨m+1,QuitsD.unwind_mark .enable rfl (fun g e=>by cases e) dm f1 f2 f3 f4 f5 hm⟩
theorem QR.leave0{f:FuncId}{nt:Nat}{c:Code}{fr:Frame}(hb:ij P f nt c #[])(h:Qt P d (G (fr.finish (.tuple #[])) cs)):QR P d (base f) n env [] (fr::cs):=fun a todo ha dm=>by
 obtain⟨fn,f1,_,_,_,f5⟩:=hb.out
 exact h.ctl rfl fun w=>stepG_leave (b:=base f) rfl dm f1 (results_none f5 _ _ _) (events_results_none f5 _ _)
theorem QR.leaveD{f:FuncId}{nt:Nat}{c:Code}{fr:Frame}(hb:ij P f nt c #[])(hm:fr.mode= .returning)(h:Qt P d (G fr cs)):QR P d (baseD f) n env [] (fr::cs):=fun a todo ha dm=>by
 obtain⟨fn,f1,_,_,_,f5⟩:=hb.out
 exact h.ctl rfl fun w=>stepG_leave_deferred (b:=baseD f) rfl dm f1 (results_none f5 _ _ _) (events_results_none f5 _ _) hm
end
def oQ(P:Program):Frame:={(default:Frame)with fn:=P.funcs.size,defers:= [],mode:=.panicking [goexitEntry]}
section
variable{P:Program}{d:Nat}{n:Nat}{env:Nv}{w:World}
theorem FZ{f:FuncId}{fn:Func}{c:Code}{args cap:Array Value}(hf:P.funcs[f]?=some fn)(Dc:(fn.name== "runtime.NumGoroutine")=false)(hb:fn.body=some c):
  stepG P false (born P {target:=.fn (.func f) cap,args:=args}) w= .go (G ((baseD f).at {tmps:=args++cap++Array.replicate (fn.ntmps- (args++cap).size) undef,defers:= []} [.code c]) [oQ P]) w #[]:=by
 have h1: ¬fn.name= "runtime.NumGoroutine" :=by simpa using Dc
 rw[<-enter_atD (args++cap) hf hb]
 simp[G,born,oQ,stepG,unwind,callDeferred,invoke,callFunc,hf,h1,hb,GStep.after,seen_none,goexitEntry]
theorem vV{b:Frame}{a:Act}{fn:Func}{todo:List Item}{v:Value}(hn:b.kind= .deferred)(hd:a.defers= [])(hf:P.funcs[b.fn]?=some fn)(hr:(results fn a.tmps).run P w= .ok v w)(he:(results fn a.tmps).events P w #[]= #[]):
  stepG P false (G {b.at a todo with mode:=.returning} [oQ P]) w= .go (G (oQ P) []) w #[]:=by
 simp[G,oQ,stepG,unwind,doReturn,Frame.at,hn,hd,hf,hr,he,seen,GStep.after,goexitEntry]
theorem zl:stepG P false (G (oQ P) []) w= .go {frame:=oQ P,callers:= [],status:=.finished,dying:=none} w #[]:=by
 have ht:(default:Frame).todo= []:=rfl
 simp[G,oQ,stepG,unwind,Frame.catches,goexitEntry]
 rw[ht]
end
end Go.Co
namespace Go.Co
open Go Go.Conc
variable{E:Geo}{N i:Nat}{l:Lo}{w:World}
section
variable{P:Program}{b:Frame}{n:Nat}{env:Nv}{ds:List Deferred}{k:List Item}{cs:List Frame}{ops:Array Oper}{j:Nat}{o:Oper}{f:FuncId}{iQ:Array TypeId}
theorem ah.LU(W:ay P E l b){xs:Array Operand}{vs:List Value}{nt:Nat}{c:Code}{rs:Array ResultVar}{dd:Nat}(ho:ops[j]?=some o)(hw:bj ops env o=some true)(eR:o.dst=some dd)(hd:Nat.blt dd n=true)(aF:o.op= .call {callee:=.value (.func f),args:=xs,argTypes:=iQ})(hb:ij P f nt c rs)
  (hx:eD env xs.toList=some vs) (h: ∀fr:Frame,(∀l' w' v,ah E N i l' w' b n ((dd,v)::env) ds ops (j+1) k cs->Tr E N i l' (Conc.G (fr.finish v) cs) w')->(∀d v,QO P d b n ((dd,v)::env) ds ops (j+1) k cs->Qt P d (Conc.G (fr.finish v) cs))->Tr E N i l (Conc.G (Frame.enter P f vs.toArray .normal) (fr::cs)) w):
  ah E N i l w b n env ds ops j k cs:=by
 refine ah.open ho ?_
 intro a ha dm
 obtain⟨fn,f1,f2,f3,_⟩:=hb.out
 have hm:xs.map a.eval=vs.toArray:=by
  apply Array.toList_inj.1
  simp only[Array.toList_map]
  exact ha.eD hx
 have dw: ∀v,(b.at a (.inRegion ops (j::List.range' (j+1) (ops.size- (j+1)))::k)).finish v=b.at (a.put o.dst v) (.inRegion ops (List.range' (j+1) (ops.size- (j+1)))::k):=fun v=>by rw[Frame.finish_at,ho];rfl
 have jA: ∀v,Has n ((dd,v)::env) (a.put o.dst v)/\(a.put o.dst v).defers=ds:=fun v=>by
  have:=ha.put (d:=o.dst) (by rw[eR];exact hd) v
  rw[eR]at this ⊢
  exact⟨this,dm⟩
 refine Tr.still W.wk.fin (aX _ _) (g':=Conc.G (Frame.enter P f vs.toArray .normal) (b.at a (.inRegion ops (j::List.range' (j+1) (ops.size- (j+1)))::k)::cs)) rfl W.wk.ch (fun ae _=>?_) (h _ (fun l' w' v hk=>?_) fun d v hk=>?_)
 ·have hr:=run_call_body (a:=a) (P:=P) (w:=ae) aF f1 f2 (by rw[f3];rfl)
  rw[W.hP,stepG_enter ho (ha.want hw) W.wk.kind hr,hm]
  unfold listed
  rw[events_call_body aF f1 f2 (by rw[f3];rfl),seen_none]
 ·rw[dw];exact hk _ (jA v).1 (jA v).2
 rw[dw];exact hk _ (jA v).1 (jA v).2
def Gone(E:Geo)(i:Nat)(G:Gh)(w w':World)(t:Trace)(es:Array Event):Prop:=∃l',∀fn pos,∃G',oe E i G G' w w' (t++MemOp.ofEvents i fn pos es) l'/\l'.af=false/\G'.Φ E.K E.nj<G.Φ E.K E.nj
theorem ah.Vo(W:ay P E l b)(dQ:i≠0){e:Array Value->Sem Value}{xs:Array Operand}{dd:Nat}(ho:ops[j]?=some o)(eR:o.dst=some dd)(hd:Nat.blt dd n=true)(aF:o.op= .call {callee:=.value (.func f),args:=xs,argTypes:=iQ})(he:je P f e)
  (h: ∀G ae t,GI E G ae t->(G.th i).af=true->G.th i=l->View l.ai w ae->∃v w' es,
   (∀a,Has n env a->a.defers=ds->stepG P (i==0) (Conc.G (b.at a (.inRegion ops (j::List.range' (j+1) (ops.size- (j+1)))::k)) cs) ae= .go (Conc.G (b.at (a.put o.dst v) (.inRegion ops (List.range' (j+1) (ops.size- (j+1)))::k)) cs) w' es)/\
   ((∃l',cQ E i G ae w' t es l' true false/\ah E N i l' w' b n ((dd,v)::env) ds ops (j+1) k cs)\/(Gone E i G ae w' t es/\QO P (deafBehind l.deaf es) b n ((dd,v)::env) ds ops (j+1) k cs))):
  ah E N i l w b n env ds ops j k cs:=by
 refine ah.open ho fun a ha dm=>?_
 have jA: ∀v,Has n ((dd,v)::env) (a.put o.dst v)/\(a.put o.dst v).defers=ds:=fun v=>by
  have:=ha.put (d:=o.dst) (by rw[eR];exact hd) v
  rw[eR]at this ⊢
  exact⟨this,dm⟩
 refine Tr.leave (aX _ _) W.wk.ch dQ fun G ae t hg au ax hv=>?_
 obtain⟨v,w',es,h1,h2⟩:=h G ae t hg au ax hv
 have Xw:=pE (b:=b) (a:=a) (rest:=List.range' (j+1) (ops.size- (j+1))) (k:=k) (cs:=cs) ho aF he
 refine⟨_,w',es,by rw[W.hP];exact h1 a ha dm,rfl,?_⟩
 rcases h2 with⟨l',h3,h4⟩|⟨⟨l',h3⟩,h4⟩
 ·exact .inl ⟨l',by rw[W.hP,Xw];exact h3,h4 _ (jA v).1 (jA v).2⟩
 refine .inr ⟨l',fun fn pos=>?_,by rw[W.hP];exact h4 _ (jA v).1 (jA v).2⟩
 obtain⟨G',d,c,f⟩:=h3 fn pos
 exact⟨G',d,.inl (by rw[W.hP];exact Xw),c,f⟩
end
end Go.Co
namespace Go.Co
open Go Go.Conc
variable{E:Geo}{N i:Nat}{l:Lo}{w:World}
section
variable{P:Program}{b:Frame}{n:Nat}{env:Nv}{ds:List Deferred}{k:List Item}{cs:List Frame}{ops:Array Oper}{j:Nat}{o:Oper}{f:FuncId}{iQ:Array TypeId}
theorem ah.Xd(W:ay P E l b)(dQ:i≠0){x y:Operand}{kk:IntKind}{ad:Addr}{dl:Int}{dd:Nat}(ho:ops[j]?=some o)(hw:bj ops env o=some true)(eR:o.dst=some dd)(hd:Nat.blt dd n=true)(aF:o.op= .call {callee:=.value (.func f),args:= #[x,y],argTypes:=iQ})(he:je P f (Extern.Atomic.update (Op.intArith .add) kk true))(hx:env.ev x=some (.pointer (some ad)))(hy:env.ev y=some (.int kk dl))
  (h: ∀G ae t,GI E G ae t->(G.th i).af=true->G.th i=l->View l.ai w ae->∃v:Int,ae.cell? ad=some (.int kk v)/\ae.frozen? ad=false/\
   (
   (∃l',cQ E i G ae (ae.setCell ad (.int kk (kk.wrap (v+dl)))) t (nT ad) l' true false/\ah E N i l' (ae.setCell ad (.int kk (kk.wrap (v+dl)))) b n ((dd,.int kk (kk.wrap (v+dl)))::env) ds ops (j+1) k cs)\/
   (Gone E i G ae (ae.setCell ad (.int kk (kk.wrap (v+dl)))) t (nT ad)/\QO P l.deaf b n ((dd,.int kk (kk.wrap (v+dl)))::env) ds ops (j+1) k cs))):
  ah E N i l w b n env ds ops j k cs:=by
 refine ah.Vo W dQ ho eR hd aF he fun G ae t hg au ax hv=>?_
 obtain⟨v,h1,oD,h2⟩:=h G ae t hg au ax hv
 obtain⟨fn,f1,f2,f3,f4,f5⟩:=he.out
 exact⟨_,_,_,fun a ha _=>stepG_add_atomic ho (ha.want hw) W.wk.kind aF f1 f2 f3 f4 kk f5 (ha.ev hx) (ha.ev hy) h1 oD,h2⟩
theorem ah.O8(W:ay P E l b)(dQ:i≠0){x y z:Operand}{ad:Addr}{dd:Nat}(ho:ops[j]?=some o)(hw:bj ops env o=some true)(eR:o.dst=some dd)(hd:Nat.blt dd n=true)(aF:o.op= .call {callee:=.value (.func f),args:= #[x,y,z],argTypes:=iQ})(he:je P f Extern.Sync.semrelease)(hx:env.ev x=some (.pointer (some ad)))
  (h: ∀G ae t,GI E G ae t->(G.th i).af=true->G.th i=l->View l.ai w ae->∃v:Int,ae.cell? ad=some (.int .u32 v)/\ae.frozen? ad=false/\Gone E i G ae (ae.setCell ad (.int .u32 (IntKind.u32.wrap (v+1)))) t (semEvents ad))
  (hq:QO P l.deaf b n ((dd,.tuple #[])::env) ds ops (j+1) k cs):
  ah E N i l w b n env ds ops j k cs:=by
 refine ah.Vo W dQ ho eR hd aF he fun G ae t hg au ax hv=>?_
 obtain⟨v,h1,oD,h2⟩:=h G ae t hg au ax hv
 obtain⟨fn,f1,f2,f3,f4,f5⟩:=he.out
 exact⟨_,_,_,fun a ha _=>stepG_semrelease ho (ha.want hw) W.wk.kind aF f1 f2 f3 f4 f5 (by simp[ha.ev hx]) h1 oD,.inr ⟨h2,hq⟩⟩
end
end Go.Co

namespace Go.Co.F1
open Go Go.Conc Go.Proofs
open Go.Co
open Go.ConcN (upd upd_ne upd_same)
variable{E:Geo}{N i:Nat}{l:Lo}{w:World}
set_option maxRecDepth 10000
noncomputable def c18:Code:=(Try.f39.body).getD .skip
theorem N0:ij Try.prog 39 117 c18 #[]:=⟨Try.f39,Try.func39,by decide+kernel,rfl,rfl,rfl⟩
noncomputable def c20:Code:=(Try.f42.body).getD .skip
theorem YR:ij Try.prog 42 4 c20 #[]:=⟨Try.f42,Try.func42,by decide+kernel,rfl,rfl,rfl⟩
noncomputable def c32:Code:=(Try.f64.body).getD .skip
theorem Rl:ij Try.prog 64 10 c32 #[.tmp 4]:=⟨Try.f64,Try.func64,by decide+kernel,rfl,rfl,rfl⟩
noncomputable def c34:Code:=(Try.f44.body).getD .skip
theorem Rk:ij Try.prog 44 7 c34 #[.tmp 2]:=⟨Try.f44,Try.func44,by decide+kernel,rfl,rfl,rfl⟩
noncomputable def c35:Code:=(Try.f66.body).getD .skip
theorem YQ:ij Try.prog 66 9 c35 #[]:=⟨Try.f66,Try.func66,by decide+kernel,rfl,rfl,rfl⟩
theorem e46:je Try.prog 76 (Extern.Atomic.update (Op.intArith .add) .u64 true):=⟨Try.f76,Try.func76,by decide+kernel,rfl,by rfl,by rfl⟩
theorem e47:je Try.prog 68 (Extern.Atomic.loadT (.int .u64)):=⟨Try.f68,Try.func68,by decide+kernel,rfl,by rfl,by rfl⟩
theorem e48:je Try.prog 77 Extern.Atomic.storeT:=⟨Try.f77,Try.func77,by decide+kernel,rfl,by rfl,by rfl⟩
theorem e37:je Try.prog 67 Extern.Sync.semrelease:=⟨Try.f67,Try.func67,by decide+kernel,rfl,by rfl,by rfl⟩
theorem e28:je Try.prog 51 (fun _=>Pure.pure (.bool false)):=⟨Try.f51,Try.func51,by decide+kernel,rfl,by rfl,by rfl⟩
theorem df{P:Program}{env:Nv}{o:Oper}{s d:TypeId}{x:Operand}{k k':IntKind}{p q:Int}{sd:TypeDesc}(ho:o.op= .convert s d x)(hx:env.ev x=some (.int k' p))(hs:P.underlying s=some sd)(hd:P.underlying d=some (.int k))(e:k.wrap p=q):bR P env o (.int k q):=e▸fM ho hx hs hd
structure WgAt(E:Geo)(B:Nat):Prop where
 k:0<E.K
 t:E.sc .bG=⟨B,0,none⟩
 m:E.sc .fX=⟨B,1,none⟩
theorem QR.leave1{P:Program}{d n:Nat}{env:Nv}{cs:List Frame}{f:FuncId}{nt:Nat}{c:Code}{r:Tmp}{v:Value}{fr:Frame}(hb:ij P f nt c #[.tmp r])(hv:env.get r=some v)(h:Qt P d (Conc.G (fr.finish v) cs)):QR P d (base f) n env [] (fr::cs):=fun a todo ha dm=>by
 obtain⟨fn,f1,_,_,_,f5⟩:=hb.out
 have e:a.tmps.getD r undef=v:=by rw[Array.getD_eq_getD_getElem?,ha.2 r v hv];rfl
 exact h.ctl rfl fun w=>stepG_leave (b:=base f) rfl dm f1 (by rw[results_tmp f5,e]) (events_results_tmp f5 _ _)
theorem SP{B:Nat}(hf:E.da)(hP:E.P=Try.prog)(O:WgAt E B)(dQ:i≠0)(cP:l.af=true)(cx:l.gr= .said)(bP:l.ch= .no)(aJ:l.rel≠none)(fD:l.deaf=1)(gQ:E.eg=true->l.sc=true)(mV: ∀j,l.bZ=some j->E.rs j=none){fr:Frame}{cs:List Frame}
  (hq: ∀n m,n<=47->m<=1->¬(n=0/\m=1)->Qt Try.prog 1 (Conc.G (fr.finish (.int .u64 (ml n m))) cs)) (hl: ∀w',View l.ai w w'->Tr E N i (l.dJ .last) (Conc.G (fr.finish (.int .u64 (ml 0 1))) cs) w'):
  Tr E N i l (Conc.G (Frame.enter Try.prog 64 #[.pointer (some ⟨B,0,none⟩),.int .u64 18446744069414584320] .normal) (fr::cs)) w:=by
 have W:ay Try.prog E l (base 64):=⟨⟨hf,bP,by decide⟩,hP⟩
 refine Tr.ck hP Rl (Nat.le_of_ble_eq_true rfl) ?_
 (repeat(first|refine ah.dn W ?_|refine ah.pS W (hp:=by first|exact aa (.inl rfl) rfl|exact aa (.inr rfl) rfl|exact ak rfl rfl|exact av rfl rfl (by rfl) rfl (by decide+kernel)) (h:=?_)|refine Tk.seq (ay.wk W) ?_|refine Tk.reg W ?_))
 refine ah.Xd W dQ (kk:=.u64) (ad:=E.sc .bG) (dl:=18446744069414584320) (dd:=9) (by rfl) (by rfl) (by rfl) (by rfl) (by rfl) e46 (by rw[O.t];rfl) rfl fun G ae t hg au ax hv=>?_
 have H:=fun fn pos=>hg.SL O.k fn pos au dQ (by rw[ax];exact cx) (by rw[ax];exact bP) (by rw[ax];exact aJ) (by rw[ax,fD];exact Nat.one_pos) (by rw[ax];exact gQ) (by rw[ax];exact mV)
 obtain⟨⟨c1,c2,c3,c4,c5⟩,_,_⟩:=H 0 ""
 have e:IntKind.u64.wrap ((((G.wn*4294967296+G.ww:Nat):Int))+18446744069414584320)=ml (G.wn-1) G.ww:=SS (n:=G.wn) (m:=G.ww) (by omega) c5 c3
 refine⟨_,c1,c2,?_⟩
 rw[e]
 by_cases fb:G.wn=1/\G.ww=1
 ·refine .inl ⟨l.dJ .last,fun fn pos=>?_,?_⟩
  ·obtain⟨_,_,h3⟩:=H fn pos
   obtain⟨G',d,c⟩:=h3 fb
   rw[ax]at d
   exact⟨G',d,.inl rfl,cP,fun e=>by cases e⟩
  have W2:ay Try.prog E (l.dJ .last) (base 64):=fO W bP
  (repeat(first|refine ah.dn W2 ?_|refine ah.pS W2 (hp:=by exact aa (.inr rfl) rfl) (h:=?_)))
  rw[fb.1,fb.2]
  refine Tk.ret W2.wk (fE.leave1 W2.wk (hP▸Rl) rfl (hl _ (hv.trans ?_)))
  have:=hg.bU (x:=.bG) O.k (.int .u64 (ml (1-1) 1)) i au
  rw[ax]at this;exact this
 refine .inr ⟨⟨l.CJ,fun fn pos=>?_⟩,?_⟩
 ·obtain⟨_,h2,_⟩:=H fn pos
  obtain⟨G',d,c,hp⟩:=h2 fb
  rw[ax]at d
  exact⟨G',d,rfl,hp⟩
 rw[fD]
 (repeat(first|refine QO.done (by rfl) ?_|refine QO.qx (by decide) (by rfl) (by rfl) (by rfl) (by rfl) (by exact aa (.inr rfl) rfl) ?_))
 exact Qk.ret (QR.leave1 Rl rfl (hq _ _ (by omega) c5 (by omega)))
structure Sx(E:Geo)(l:Lo):Prop where
 af:l.af=true
 ch:l.ch= .no
 sc:E.eg=true->l.sc=true
 bZ: ∀j,l.bZ=some j->E.rs j=none
theorem Px{B:Nat}(hf:E.da)(hP:E.P=Try.prog)(O:WgAt E B)(dQ:i≠0)(cP:l.af=true)(cx:l.gr= .last)(bP:l.ch= .no)(fD:l.deaf=1){fr:Frame}{cs:List Frame}
  (h: ∀w',View l.ai w w'->Tr E N i l (Conc.G (fr.finish (.int .u64 1)) cs) w'):
  Tr E N i l (Conc.G (Frame.enter Try.prog 44 #[.pointer (some ⟨B,0,none⟩)] .normal) (fr::cs)) w:=by
 have W:ay Try.prog E l (base 44):=⟨⟨hf,bP,by decide⟩,hP⟩
 refine Tr.ck hP Rk (Nat.le_of_ble_eq_true rfl) ?_
 (repeat(first|refine ah.dn W ?_|refine ah.pS W (hp:=by first|exact aa (.inl rfl) rfl|exact aa (.inr rfl) rfl|exact ak rfl rfl|exact av rfl rfl (by rfl) rfl (by decide+kernel)) (h:=?_)|refine Tk.seq (ay.wk W) ?_|refine Tk.reg W ?_))
 refine ah.zY W (kk:=.u64) (ad:=E.sc .bG) (by rfl) (by rfl) (by rfl) (by rfl) e47 (by rw[O.t];rfl) fun G ae t hg au ax hv=>?_
 obtain⟨_,_,c1,c2⟩:=hg.xC O.k au dQ (by rw[ax];exact cx)
 refine⟨1,l,false,c1,fun fn pos=>?_,cd.same (ah.bx ?_)⟩
 ·obtain⟨G',d,c⟩:=hg.E3 (w':=ae) (es:= #[⟨.cell (E.sc .bG),false,true⟩]) fn pos au (by intro e he;simp at he;subst he;exact .inl ⟨.bG,false,O.k,rfl,fun x=>by cases x⟩) rfl rfl rfl (Go.ConcM.OsLater.refl _) (.inr fun j e hj=>by
   have:=Array.mem_of_getElem? hj
   simp at this;subst this
   refine .inr ⟨.inl rfl,?_⟩
   have vI:j=0:=by
    have:=(Array.getElem?_eq_some_iff.1 hj).1
    simp at this;exact this
   subst vI
   rw[ax,fD];exact Nat.one_pos)
  rw[ax]at d
  have e:({l with deaf:=deafBehind l.deaf #[⟨.cell (E.sc .bG),false,true⟩]}:Lo)=l:=rfl
  rw[e]at d
  exact⟨G',d,.inl rfl,cP,fun e=>by cases e⟩
 (repeat(first|refine ah.dn W ?_|refine ah.pS W (hp:=by exact aa (.inr rfl) rfl) (h:=?_)))
 exact Tk.ret W.wk (fE.leave1 W.wk (hP▸Rk) rfl (h _ hv))
theorem MJ{B:Nat}(hf:E.da)(hP:E.P=Try.prog)(O:WgAt E B)(dQ:i≠0)(A:Sx E l)(cx:l.gr= .last)(aJ:l.rel≠none)(fD:l.deaf=1){fr:Frame}{cs:List Frame}
  (h: ∀w',View l.ai w w'->Tr E N i (l.dJ .gT) (Conc.G (fr.finish (.tuple #[])) cs) w'):
  Tr E N i l (Conc.G (Frame.enter Try.prog 66 #[.pointer (some ⟨B,0,none⟩),.int .u64 0] .normal) (fr::cs)) w:=by
 have W:ay Try.prog E l (base 66):=⟨⟨hf,A.ch,by decide⟩,hP⟩
 refine Tr.ck hP YQ (Nat.le_of_ble_eq_true rfl) ?_
 (repeat(first|refine ah.pS W (hp:=by first|exact aa (.inl rfl) rfl|exact ak rfl rfl|exact av rfl rfl (by rfl) rfl (by decide+kernel)) (h:=?_)|refine Tk.reg W ?_))
 refine ah.BB W (kk:=.u64) (ad:=E.sc .bG) (v:=0) (by rfl) (by rfl) (by rfl) (by rfl) e48 (by rw[O.t];rfl) rfl fun G ae t hg au ax hv=>?_
 obtain⟨_,_,c1,c2⟩:=hg.xC O.k au dQ (by rw[ax];exact cx)
 refine⟨_,l.dJ .gT,false,c1,c2,fun fn pos=>?_,cd.same (ah.bx ?_)⟩
 ·obtain⟨G',d,c⟩:=hg.SD O.k fn pos au dQ (by rw[ax];exact cx) (by rw[ax];exact A.ch) (by rw[ax];exact aJ) (by rw[ax,fD];exact Nat.one_pos) (by rw[ax];exact A.sc)
  rw[ax]at d
  exact⟨G',d,.inl rfl,A.af,fun e=>by cases e⟩
 have W2:ay Try.prog E (l.dJ .gT) (base 66):=fO W A.ch
 (repeat(refine ah.dn W2 ?_))
 refine Tk.ji W2.wk (fE.leave0 W2.wk (hP▸YQ) (h _ (hv.trans ?_)))
 have:=hg.bU (x:=.bG) O.k (.int .u64 0) i au
 rw[ax]at this;exact this
set_option maxHeartbeats 8000000 in
theorem TO{B:Nat}(hf:E.da)(hP:E.P=Try.prog)(O:WgAt E B)(dQ:i≠0)(A:Sx E l)(cx:l.gr= .out)(ee:l.mr=none)(aJ:l.rel=none)(fD:l.deaf=0){fr:Frame}{cs:List Frame}
  (hq:Qt Try.prog 0 (Conc.G (fr.finish (.tuple #[])) cs)):
  Tr E N i l (Conc.G (Frame.enter Try.prog 39 #[.pointer (some ⟨B,0,none⟩),.int .i64 (-1)] .normal) (fr::cs)) w:=by
 have W:ay Try.prog E l (base 39):=⟨⟨hf,A.ch,by decide⟩,hP⟩
 refine Tr.ck hP N0 (Nat.le_of_ble_eq_true rfl) ?_
 (repeat(first|refine ah.dn W ?_|refine ah.pS W (hp:=by first|exact aa (.inl rfl) rfl|exact al rfl rfl rfl rfl) (h:=?_)|refine Tk.seq (ay.wk W) ?_|refine Tk.reg W ?_|refine Tk.cp (ay.wk W) rfl ?_))
 refine ah.conv W (y:=.bG) O.k A.af (by rfl) (by rfl) (by rfl) (by rfl) (by rfl) (by rfl) (by rfl) (by decide+kernel) (by rw[O.t];rfl) ?_
 refine ah.l7 W (mk:=.releaseMerge) (ad:=E.sc .bG) (fun ad g e=>by cases e) (by rfl) (by rfl) (by rfl) (by rfl) YK rfl fun G ae t hg au ax hv=>?_
 refine⟨l.rO t.size,false,fun fn pos=>?_,cd.same (ah.bx ?_)⟩
 ·obtain⟨G',d,c⟩:=hg.V5 O.k fn pos au dQ (by rw[ax];exact cx) (by rw[ax];exact ee) (by rw[ax];exact A.ch) (by rw[ax];exact aJ) (by rw[ax];exact fD) (by rw[ax];exact A.sc)
  rw[ax]at d
  exact⟨G',d,.inl rfl,A.af,fun e=>by cases e⟩
 generalize t.size=r
 have W1:ay Try.prog E (l.rO r) (base 39):=fO W A.ch
 (repeat(first|refine ah.dn W1 ?_|refine Tk.seq (ay.wk W1) ?_|refine Tk.reg W1 ?_))
 refine ah.jk W1 (m:=.disable) (fun g e=>by cases e) (by rfl) (by rfl) (by rfl) (by rfl) Rg fun G eA t hg au ax gh=>?_
 refine⟨_,false,kN hg au ax,cd.same (ah.bx ?_)⟩
 rw[show(l.rO r).deaf+1=1 by show l.deaf+1=1;rw[fD]]
 have W2:ay Try.prog E ((l.rO r).hear 1) (base 39):=fO W A.ch
 (repeat(first|refine ah.dn W2 ?_|refine Tk.reg W2 ?_))
 refine ah.defer W2 (by rfl) (by rfl) (by rfl) (by rfl) rfl ?_
 refine ah.lay (rfl:Nv.put _ _ _=_) ?_
 (repeat(first|refine ah.dn W2 ?_|refine ah.pS W2 (hp:=by exact aa (.inr rfl) rfl) (h:=?_)|refine Tk.seq (ay.wk W2) ?_|refine Tk.reg W2 ?_))
 refine ah.Ff W2 A.af (.inr trivial) (by rfl) (by rfl) (by rfl) (by rfl) e28 (fun _=>rfl) ?_
 refine ah.bx ?_
 repeat(first|refine ah.pS W2 (hp:=dB rfl rfl rfl Jf) (h:=?_)|refine ah.dn W2 ?_|refine ah.pS W2 (hp:=by first|exact aa (.inl rfl) rfl|exact ak rfl rfl|exact av rfl rfl (by rfl) rfl (by decide+kernel)|exact fM rfl rfl (by rfl) (by rfl)) (h:=?_)|refine Tk.seq (ay.wk W2) ?_|refine Tk.reg W2 ?_|refine Tk.skip (ay.wk W2) ?_|refine Tk.bC (ay.wk W2) rfl ?_)
 refine ah.LU W2 (by rfl) (by rfl) (by rfl) (by rfl) (by rfl) Rl rfl fun GW oC T6=>?_
 have oF:Qt Try.prog 0 (Conc.G (fr.finish (.tuple #[])) cs):=hq
 refine SP (l:=(l.rO r).hear 1) hf hP O dQ A.af rfl A.ch (by show some r≠none;simp) rfl A.sc A.bZ (fun n m hn hm hnm=>T6 _ _ ?_) (fun w' dG=>oC _ _ _ ?_)
 ·have h1:=wm (n:=n) (m:=m) (by omega) hm
  have h2:=G5 (n:=n) (m:=m) (by omega) hm
  have h3:=G4 (n:=n) (m:=m) (by omega) hm
  have h4:=Fj (n:=n) (by omega)
  have h5:=Fi hm
  have h6:cV .lss .i32 (n:Int) 0=some (.bool false):=by simp only[cV,Option.some.injEq,Value.bool.injEq];simp
  have tM:m=0\/m=1:=by omega
  by_cases we:0<n
  ·have h7:cV .gtr .i32 (n:Int) 0=some (.bool true):=by simp only[cV,Option.some.injEq,Value.bool.injEq];simp;omega
   rcases tM with rfl|rfl
   ·repeat(first|refine QO.qx (by decide) (by rfl) (by rfl) (by rfl) (by rfl) (by first|exact al rfl rfl rfl h1|exact dB rfl rfl rfl h2|exact al rfl rfl rfl h3|exact df rfl rfl (by rfl) (by rfl) h4|exact df rfl rfl (by rfl) (by rfl) h5|exact al rfl rfl rfl h6|exact al rfl rfl rfl h7) ?_|refine QO.done (by rfl) ?_|refine QO.cj (by rfl) (by rfl) (by rfl) (by rfl) ?_|refine QO.qx (by decide) (by rfl) (by rfl) (by rfl) (by rfl) (by first|exact aa (.inl rfl) rfl|exact aa (.inr rfl) rfl|exact bu rfl rfl rfl|exact bw rfl rfl rfl) ?_|refine Qk.seq ?_|refine Qk.reg ?_|refine Qk.skip ?_|refine Qk.cp rfl ?_|refine Qk.bC rfl ?_)
    exact Qk.ret (QR.enable GX (QR.leave0 N0 hq))
   repeat(first|refine QO.qx (by decide) (by rfl) (by rfl) (by rfl) (by rfl) (by first|exact al rfl rfl rfl h1|exact dB rfl rfl rfl h2|exact al rfl rfl rfl h3|exact df rfl rfl (by rfl) (by rfl) h4|exact df rfl rfl (by rfl) (by rfl) h5|exact al rfl rfl rfl h6|exact al rfl rfl rfl h7) ?_|refine QO.done (by rfl) ?_|refine QO.cj (by rfl) (by rfl) (by rfl) (by rfl) ?_|refine QO.qx (by decide) (by rfl) (by rfl) (by rfl) (by rfl) (by first|exact aa (.inl rfl) rfl|exact aa (.inr rfl) rfl|exact al rfl rfl rfl rfl|exact bu rfl rfl rfl|exact bw rfl rfl rfl) ?_|refine Qk.seq ?_|refine Qk.reg ?_|refine Qk.skip ?_|refine Qk.cp rfl ?_|refine Qk.bC rfl ?_)
   exact Qk.ret (QR.enable GX (QR.leave0 N0 hq))
  have h7:cV .gtr .i32 (n:Int) 0=some (.bool false):=by simp only[cV,Option.some.injEq,Value.bool.injEq];simp;omega
  have P6:m=0:=by omega
  subst P6
  repeat(first|refine QO.qx (by decide) (by rfl) (by rfl) (by rfl) (by rfl) (by first|exact al rfl rfl rfl h1|exact dB rfl rfl rfl h2|exact al rfl rfl rfl h3|exact df rfl rfl (by rfl) (by rfl) h4|exact df rfl rfl (by rfl) (by rfl) h5|exact al rfl rfl rfl h6|exact al rfl rfl rfl h7) ?_|refine QO.done (by rfl) ?_|refine QO.cj (by rfl) (by rfl) (by rfl) (by rfl) ?_|refine QO.qx (by decide) (by rfl) (by rfl) (by rfl) (by rfl) (by first|exact aa (.inl rfl) rfl|exact aa (.inr rfl) rfl|exact al rfl rfl rfl rfl|exact bu rfl rfl rfl|exact bw rfl rfl rfl) ?_|refine Qk.seq ?_|refine Qk.reg ?_|refine Qk.skip ?_|refine Qk.cp rfl ?_|refine Qk.bC rfl ?_)
  exact Qk.ret (QR.enable GX (QR.leave0 N0 hq))
 have W3:ay Try.prog E (((l.rO r).hear 1).dJ .last) (base 39):=fO W A.ch
 have h1:=wm (n:=0) (m:=1) (by omega) (by omega)
 have h2:=G5 (n:=0) (m:=1) (by omega) (by omega)
 have h3:=G4 (n:=0) (m:=1) (by omega) (by omega)
 repeat(first|refine ah.pS W3 (hp:=by first|exact al rfl rfl rfl h1|exact dB rfl rfl rfl h2|exact al rfl rfl rfl h3) (h:=?_)|refine ah.dn W3 ?_|refine ah.cj W3 (by rfl) (by rfl) (by rfl) (by rfl) ?_|refine ah.pS W3 (hp:=by first|exact aa (.inl rfl) rfl|exact aa (.inr rfl) rfl|exact ak rfl rfl|exact av rfl rfl (by rfl) rfl (by decide+kernel)|exact al rfl rfl rfl rfl|exact bu rfl rfl rfl|exact bw rfl rfl rfl|exact fM rfl rfl (by rfl) (by rfl)) (h:=?_)|refine Tk.seq (ay.wk W3) ?_|refine Tk.reg W3 ?_|refine Tk.skip (ay.wk W3) ?_|refine Tk.bC (ay.wk W3) rfl ?_)
 refine ah.call W3 (by rfl) (by rfl) (by rfl) (by rfl) Rk rfl fun XK oA=>?_
 refine Px (l:=((l.rO r).hear 1).dJ .last) hf hP O dQ A.af rfl A.ch rfl fun w2 dF=>oA _ _ _ (ah.bx ?_)
 (repeat(first|refine ah.dn W3 ?_|refine ah.pS W3 (hp:=by first|exact aa (.inl rfl) rfl|exact ak rfl rfl|exact av rfl rfl (by rfl) rfl (by decide+kernel)|exact al rfl rfl rfl rfl) (h:=?_)|refine Tk.seq (ay.wk W3) ?_|refine Tk.reg W3 ?_|refine Tk.skip (ay.wk W3) ?_|refine Tk.bC (ay.wk W3) rfl ?_))
 refine ah.call W3 (by rfl) (by rfl) (by rfl) (by rfl) YQ rfl fun YJ UL=>?_
 refine MJ (l:=((l.rO r).hear 1).dJ .last) hf hP O dQ ⟨A.af,A.ch,A.sc,A.bZ⟩ rfl (by show some r≠none;simp) rfl fun w3 gh=>UL _ _ _ (ah.bx ?_)
 have W4:ay Try.prog E (((l.rO r).hear 1).dJ .gT) (base 39):=fO W A.ch
 repeat(first|refine ah.dn W4 ?_|refine ah.pS W4 (hp:=by first|exact aa (.inl rfl) rfl|exact ak rfl rfl|exact av rfl rfl (by rfl) rfl (by decide+kernel)|exact al rfl rfl rfl rfl) (h:=?_)|refine Tk.seq (ay.wk W4) ?_|refine Tk.reg W4 ?_|refine Tk.skip (ay.wk W4) ?_|refine Tk.block (ay.wk W4) ?_|refine Tk.cp (ay.wk W4) rfl ?_|refine Tk.bC (ay.wk W4) rfl ?_|refine Tk.loop W4.wk ?_)
 refine ah.O8 W4 dQ (ad:=E.sc .fX) (by rfl) (by rfl) (by rfl) (by rfl) (by rfl) e37 (by rw[O.m];rfl) (fun G ae t hg au ax hv=>?_) ?_
 ·have H:=fun fn pos=>hg.SK O.k fn pos au dQ (by rw[ax];rfl) (by rw[ax];exact A.ch) (by rw[ax];show some r≠none;simp) (by rw[ax];exact Nat.one_pos) (by rw[ax];exact A.sc) (by rw[ax];exact A.bZ)
  obtain⟨⟨c1,c2⟩,_⟩:=H 0 ""
  refine⟨0,c1,c2,(((l.rO r).hear 1).dJ .gT).CJ,fun fn pos=>?_⟩
  obtain⟨_,G',d,hp⟩:=H fn pos
  rw[ax]at d
  exact⟨G',d,rfl,hp⟩
 (repeat(first|refine QO.done (by rfl) ?_|refine QO.qx (by decide) (by rfl) (by rfl) (by rfl) (by rfl) (by first|exact aa (.inl rfl) rfl|exact aa (.inr rfl) rfl|exact al rfl rfl rfl rfl) ?_|refine Qk.seq ?_|refine Qk.reg ?_|refine Qk.inBlock ?_|refine Qk.inLoop ?_|refine Qk.bC rfl ?_|refine Qk.exit rfl ?_))
 exact Qk.ji (QR.enable GX (QR.leave0 N0 hq))
end Go.Co.F1

namespace Go.Co
open Go Go.Conc
open Go.ConcN (upd upd_ne upd_same)
variable{E:Geo}{N i:Nat}{l:Lo}{w:World}
section
variable{P:Program}{b:Frame}{n:Nat}{env:Nv}{ds:List Deferred}{k:List Item}{cs:List Frame}{ops:Array Oper}{j:Nat}{o:Oper}
end
end Go.Co

namespace Go.Co
open Go Go.Conc
theorem QR.born{P:Program}{n:Nat}{env:Nv}{f:FuncId}{nt:Nat}{c:Code}(hb:ij P f nt c #[]):QR P 0 (baseD f) n env [] [oQ P]:=fun a todo ha dm=>by
 obtain⟨fn,f1,_,_,_,f5⟩:=hb.out
 refine Qt.ctl rfl (fun w=>vV (b:=baseD f) rfl dm f1 (results_none f5 _ _ _) (events_results_none f5 _ _)) ?_
 exact Qt.ctl rfl (fun w=>zl) (Qt.done rfl)
theorem Tr.born{E:Geo}{P:Program}{N i:Nat}{l:Lo}{w:World}(hP:E.P=P)(hf:E.da)(bP:l.ch= .no)(dQ:i≠0){f:FuncId}{nt:Nat}{c:Code}{cap:Array Value}(hb:ij P f nt c #[])(ha:cap.size<=nt)
  (h:Tk E N i l w (baseD f) nt (gq cap.toList 0) [] [.code c] [oQ P]):Tr E N i l (Conc.born P {target:=.fn (.func f) cap,args:= #[]}) w:=by
 obtain⟨fn,f1,f2,f3,f4,_⟩:=hb.out
 refine Tr.still hf ⟨rfl,rfl,rfl⟩ (g':=Conc.G ((baseD f).at {tmps:= #[]++cap++Array.replicate (fn.ntmps- (#[]++cap).size) undef,defers:= []} [.code c]) [oQ P]) rfl bP (fun ae _=>?_) ?_
 ·have:(i==0)=false:=by simpa using dQ
  rw[this,hP]
  exact FZ f1 f2 f3
 have e:(#[]++cap:Array Value)=cap:=by simp
 rw[e,f4]
 exact h _ (pg ha) rfl
end Go.Co
namespace Go.Co.F1
open Go Go.Conc Go.Proofs
open Go.Co
open Go.ConcN (upd upd_ne upd_same)
variable{E:Geo}{N i:Nat}{l:Lo}{w:World}
set_option maxRecDepth 10000
end Go.Co.F1

namespace Go.Co
open Go Go.Conc
open Go.ConcN (upd upd_ne upd_same)
variable{E:Geo}{N i:Nat}{l:Lo}{w:World}
section
variable{P:Program}{b:Frame}{n:Nat}{env:Nv}{ds:List Deferred}{k:List Item}{cs:List Frame}{ops:Array Oper}{j:Nat}{o:Oper}{f:FuncId}{iQ:Array TypeId}
theorem Jq{P:Program}{a:Act}{w:World}{o:Oper}{x:Operand}{cap:Array Value}(aF:o.op= .go {callee:=.value x,args:= #[],argTypes:= #[]})(hx:a.eval x= .func (.func f) #[] cap):
  (execOp a.eval o).run P w= .ok (.spawn {target:=.fn (.func f) cap,args:= #[]}) w/\(execOp a.eval o).events P w #[]= #[]:=by
 unfold execOp
 simp[aF,resolve,Deferred.ofValue,hx]
end
end Go.Co
namespace Go.Co
open Go Go.Conc
open Go.ConcN (upd upd_ne upd_same)
variable{E:Geo}{N i:Nat}{l:Lo}{w:World}
section
variable{P:Program}{b:Frame}{n:Nat}{env:Nv}{ds:List Deferred}{k:List Item}{cs:List Frame}{ops:Array Oper}{j:Nat}{o:Oper}{f:FuncId}{iQ:Array TypeId}
end
end Go.Co
namespace Go.Co
open Go Go.Conc
variable{E:Geo}{N i:Nat}{l:Lo}{w:World}
theorem Tr.le{N':Nat}{g:Goroutine}(h:Tr E N i l g w)(hN:N'<=N):Tr E N' i l g w:=by
 obtain⟨m,rfl⟩: ∃m,N=N'+m:=⟨N-N',by omega⟩
 induction m with
 |zero=>exact h
 |succ m ih=>exact ih (Tr.less h) (by omega)
section
variable{P:Program}{b:Frame}{n:Nat}{env:Nv}{ds:List Deferred}{k:List Item}{cs:List Frame}{ops:Array Oper}{j:Nat}{o:Oper}{f:FuncId}{iQ:Array TypeId}
theorem ah.uZ(W:ay P E l b){xs:Array Operand}{vs:List Value}{nt:Nat}{c:Code}{rs:Array ResultVar}{dd:Nat}(ho:ops[j]?=some o)(hw:bj ops env o=some true)(eR:o.dst=some dd)(hd:Nat.blt dd n=true)(aF:o.op= .call {callee:=.value (.func f),args:=xs,argTypes:=iQ})(hb:ij P f nt c rs)
  (hx:eD env xs.toList=some vs) (h: ∀fr:Frame,(∀N l' w' v,ah E N i l' w' b n ((dd,v)::env) ds ops (j+1) k cs->Tr E N i l' (Conc.G (fr.finish v) cs) w')->Tr E N i l (Conc.G (Frame.enter P f vs.toArray .normal) (fr::cs)) w):
  ah E N i l w b n env ds ops j k cs:=by
 refine ah.open ho ?_
 intro a ha dm
 obtain⟨fn,f1,f2,f3,_⟩:=hb.out
 have hm:xs.map a.eval=vs.toArray:=by
  apply Array.toList_inj.1
  simp only[Array.toList_map]
  exact ha.eD hx
 have dw: ∀v,(b.at a (.inRegion ops (j::List.range' (j+1) (ops.size- (j+1)))::k)).finish v=b.at (a.put o.dst v) (.inRegion ops (List.range' (j+1) (ops.size- (j+1)))::k):=fun v=>by rw[Frame.finish_at,ho];rfl
 have jA: ∀v,Has n ((dd,v)::env) (a.put o.dst v)/\(a.put o.dst v).defers=ds:=fun v=>by
  have:=ha.put (d:=o.dst) (by rw[eR];exact hd) v
  rw[eR]at this ⊢
  exact⟨this,dm⟩
 refine Tr.still W.wk.fin (aX _ _) (g':=Conc.G (Frame.enter P f vs.toArray .normal) (b.at a (.inRegion ops (j::List.range' (j+1) (ops.size- (j+1)))::k)::cs)) rfl W.wk.ch (fun ae _=>?_) (h _ (fun N l' w' v hk=>?_))
 ·have hr:=run_call_body (a:=a) (P:=P) (w:=ae) aF f1 f2 (by rw[f3];rfl)
  rw[W.hP,stepG_enter ho (ha.want hw) W.wk.kind hr,hm]
  unfold listed
  rw[events_call_body aF f1 f2 (by rw[f3];rfl),seen_none]
 rw[dw];exact hk _ (jA v).1 (jA v).2
end
end Go.Co

namespace Go.Co.F1
open Go Go.Conc Go.Proofs
open Go.Co
open Go.ConcN (upd upd_ne upd_same)
variable{E:Geo}{N i:Nat}{l:Lo}{w:World}
set_option maxRecDepth 10000
noncomputable def c40:Code:=(Try.f48.body).getD .skip
theorem XP:ij Try.prog 48 13 c40 #[.tmp 6]:=⟨Try.f48,Try.func48,by decide+kernel,rfl,rfl,rfl⟩
noncomputable def c21:Code:=(Try.f30.body).getD .skip
theorem XQ:ij Try.prog 30 84 c21 #[]:=⟨Try.f30,Try.func30,by decide+kernel,rfl,rfl,rfl⟩
theorem e49:je Try.prog 69 (Extern.Atomic.casT (.int .u64)):=⟨Try.f69,Try.func69,by decide+kernel,rfl,by rfl,by rfl⟩
theorem e33:je Try.prog 65 (Extern.Race.marked .read):=⟨Try.f65,Try.func65,by decide+kernel,rfl,by rfl,by rfl⟩
theorem e41:je Try.prog 50 (Extern.Race.marked .write):=⟨Try.f50,Try.func50,by decide+kernel,rfl,by rfl,by rfl⟩
theorem e42:je Try.prog 52 Extern.Sync.semacquire:=⟨Try.f52,Try.func52,by decide+kernel,rfl,by rfl,by rfl⟩
theorem Mj{B:Nat}(hf:E.da)(hP:E.P=Try.prog)(O:WgAt E B)(bP:l.ch= .no){fr:Frame}{cs:List Frame}
  (h: ∀G ae t,GI E G ae t->(G.th i).af=true->G.th i=l->View l.ai w ae->∃ (v:Int) (l':Lo),ae.cell? (E.sc .bG)=some (.int .u64 v)/\cQ E i G ae ae t #[⟨.cell (E.sc .bG),false,true⟩] l' true false/\l'.ch= .no/\Tr E N i l' (Conc.G (fr.finish (.int .u64 v)) cs) ae):
  Tr E N i l (Conc.G (Frame.enter Try.prog 44 #[.pointer (some ⟨B,0,none⟩)] .normal) (fr::cs)) w:=by
 have W:ay Try.prog E l (base 44):=⟨⟨hf,bP,by decide⟩,hP⟩
 refine Tr.ck hP Rk (Nat.le_of_ble_eq_true rfl) ?_
 (repeat(first|refine ah.dn W ?_|refine ah.pS W (hp:=by first|exact aa (.inl rfl) rfl|exact aa (.inr rfl) rfl|exact ak rfl rfl|exact av rfl rfl (by rfl) rfl (by decide+kernel)) (h:=?_)|refine Tk.seq (ay.wk W) ?_|refine Tk.reg W ?_))
 refine ah.zY W (kk:=.u64) (ad:=E.sc .bG) (by rfl) (by rfl) (by rfl) (by rfl) e47 (by rw[O.t];rfl) fun G ae t hg au ax hv=>?_
 obtain⟨v,l',h1,h2,h3,h4⟩:=h G ae t hg au ax hv
 refine⟨v,l',false,h1,h2,cd.same (ah.bx ?_)⟩
 have W2:ay Try.prog E l' (base 44):=fO W h3
 (repeat(first|refine ah.dn W2 ?_|refine ah.pS W2 (hp:=by exact aa (.inr rfl) rfl) (h:=?_)))
 exact Tk.ret W2.wk (fE.leave1 W2.wk (hP▸Rk) rfl h4)
theorem W7{B:Nat}{v0 v1:Int}(hf:E.da)(hP:E.P=Try.prog)(O:WgAt E B)(bP:l.ch= .no){fr:Frame}{cs:List Frame}
  (h: ∀G ae t,GI E G ae t->(G.th i).af=true->G.th i=l->View l.ai w ae->∃ (v:Int) (l':Lo) (lower:Bool),ae.cell? (E.sc .bG)=some (.int .u64 v)/\ae.frozen? (E.sc .bG)=false/\l'.ch= .no/\
   (
   (v=v0/\lower=false/\cQ E i G ae (ae.setCell (E.sc .bG) (.int .u64 v1)) t (nT (E.sc .bG)) l' true lower/\Tr E N i l' (Conc.G (fr.finish (.bool true)) cs) (ae.setCell (E.sc .bG) (.int .u64 v1)))\/
   (v≠v0/\lower=true/\cQ E i G ae ae t #[⟨.cell (E.sc .bG),false,true⟩] l' true lower/\∀N',N=N'+1->Tr E N' i l' (Conc.G (fr.finish (.bool false)) cs) ae))):
  Tr E N i l (Conc.G (Frame.enter Try.prog 48 #[.pointer (some ⟨B,0,none⟩),.int .u64 v0,.int .u64 v1] .normal) (fr::cs)) w:=by
 have W:ay Try.prog E l (base 48):=⟨⟨hf,bP,by decide⟩,hP⟩
 refine Tr.ck hP XP (Nat.le_of_ble_eq_true rfl) ?_
 (repeat(first|refine ah.dn W ?_|refine ah.pS W (hp:=by first|exact aa (.inl rfl) rfl|exact aa (.inr rfl) rfl|exact ak rfl rfl|exact av rfl rfl (by rfl) rfl (by decide+kernel)) (h:=?_)|refine Tk.seq (ay.wk W) ?_|refine Tk.reg W ?_))
 refine ah.Rh W (kk:=.u64) (ad:=E.sc .bG) (v0:=v0) (v1:=v1) (by rfl) (by rfl) (by rfl) (by rfl) e49 (by rw[O.t];rfl) rfl rfl fun G ae t hg au ax hv=>?_
 obtain⟨v,l',lower,h1,h2,h3,h4⟩:=h G ae t hg au ax hv
 have W2:ay Try.prog E l' (base 48):=fO W h3
 rcases h4 with⟨h4,rfl,h5,h6⟩|⟨h4,rfl,h5,h6⟩
 ·refine⟨v,l',false,h1,h2,.inl ⟨h4,h5,cd.same (ah.bx ?_)⟩⟩
  (repeat(first|refine ah.dn W2 ?_|refine ah.pS W2 (hp:=by exact aa (.inr rfl) rfl) (h:=?_)))
  exact Tk.ret W2.wk (fE.leave1 W2.wk (hP▸XP) rfl h6)
 refine⟨v,l',true,h1,h2,.inr ⟨h4,h5,oE.lower fun N' hN=>?_⟩⟩
 refine Tk.lay (rfl:Nv.put _ _ _=(_,_)::_) ?_
 show ah _ _ _ _ _ _ _ _ _ _ 6 _ _
 (repeat(first|refine ah.dn W2 ?_|refine ah.pS W2 (hp:=by exact aa (.inr rfl) rfl) (h:=?_)))
 exact Tk.ret W2.wk (fE.leave1 W2.wk (hP▸XP) rfl (h6 N' hN))
structure Wt(E:Geo)(l:Lo)(g:Gr)(d:Nat)(c:Bool)(ps:Nat):Prop where
 af:l.af=true
 ch:l.ch= .no
 rel:l.rel=none
 mr:l.mr=none
 bZ:l.bZ=none
 deaf:l.deaf=d
 gr:l.gr=g
 me:l.me=⟨0,0,ps,c⟩
theorem Wt.dJ{g g':Gr}{d:Nat}{c:Bool}{ps:Nat}(h:Wt E l g d c ps):Wt E (l.dJ g') g' d c ps:=⟨h.af,h.ch,h.rel,h.mr,h.bZ,h.deaf,rfl,h.me⟩
theorem Wt.hear{g:Gr}{d d':Nat}{c:Bool}{ps:Nat}(h:Wt E l g d c ps):Wt E (l.hear d') g d' c ps:=⟨h.af,h.ch,h.rel,h.mr,h.bZ,rfl,h.gr,h.me⟩
theorem AF(O:0<E.K){G:Gh}{t:Trace}{c:Bool}{ps:Nat}(hg:GI E G w t)(A:Wt E l .cK 0 c ps)(ax:G.th 0=l):cQ E 0 G w w t #[⟨.mark (.acquire (E.sc .bG)),false,true⟩] (l.dJ .aT) true false:=by
 intro fn pos
 obtain⟨G',d,c⟩:=hg.SJ O fn pos (by rw[ax];exact A.gr) (by rw[ax];exact A.ch) (by rw[ax];exact A.rel) (by rw[ax];exact A.deaf)
 rw[ax]at d
 exact⟨G',d,.inl rfl,A.af,fun e=>by cases e⟩
theorem vz(O:0<E.K){G:Gh}{t:Trace}{m:Mark}(hm:m= .read (E.sc .fX)\/m= .write (E.sc .fX))(hg:GI E G w t)(cP:l.af=true)(ax:G.th 0=l):cQ E 0 G w w t #[⟨.mark m,false,true⟩] l true false:=by
 intro fn pos
 have:=oe.id (i:=0) (hg.SH O fn pos hm)
 rw[ax]at this
 exact⟨G,this,.inl rfl,cP,fun e=>by cases e⟩
theorem Z1{n:Nat}(h:n≠0):cV .eql .i32 (n:Int) 0=some (.bool false):=by simp only[cV,Option.some.injEq,Value.bool.injEq];simp;omega
set_option maxHeartbeats 8000000 in
theorem SN{B:Nat}{c:Bool}{ps:Nat}(hf:E.da)(hP:E.P=Try.prog)(O:WgAt E B)(A:Wt E l .out 0 c ps)(hC:E.eg=true->c=true){fr:Frame}{cs:List Frame}
  (h: ∀l' w',Wt E l' .aT 0 c ps->l'.ai=l.ai->View l.ai w w'->Tr E N 0 l' (Conc.G (fr.finish (.tuple #[])) cs) w'):
  Tr E N 0 l (Conc.G (Frame.enter Try.prog 30 #[.pointer (some ⟨B,0,none⟩)] .normal) (fr::cs)) w:=by
 have W:ay Try.prog E l (base 30):=⟨⟨hf,A.ch,by decide⟩,hP⟩
 refine Tr.ck hP XQ (Nat.le_of_ble_eq_true rfl) ?_
 (repeat(first|refine Tk.seq (ay.wk W) ?_|refine Tk.reg W ?_|refine Tk.cp (ay.wk W) rfl ?_))
 refine ah.jk W (m:=.disable) (fun g e=>by cases e) (by rfl) (by rfl) (by rfl) (by rfl) Rg fun G eA t hg au ax gh=>?_
 refine⟨_,false,kN hg au ax,cd.same (ah.bx ?_)⟩
 rw[A.deaf]
 have A1:Wt E (l.hear 1) .out 1 c ps:=A.hear
 have aN:(l.hear 1).ai=l.ai:=rfl
 generalize l.hear 1=l1 at A1 aN
 have W1:ay Try.prog E l1 (base 30):=fO W A1.ch
 (repeat(first|refine ah.dn W1 ?_|refine Tk.block (ay.wk W1) ?_))
 refine Tk.loop W1.wk ?_
 refine Tk.cut fun K hK=>?_
 have HH: ∀N' l1 w1,N'<=N->Wt E l1 .out 1 c ps->l1.ai=l.ai->View l.ai w w1->Tk E N' 0 l1 w1 (base 30) 84 [(0,.pointer (some ⟨B,0,none⟩))] [] K (fr::cs):=by
  intro N'
  induction N' using Nat.strongRecOn with
  |ind N' Q0=>
  intro l1 w1 hN A1 aN ig
  have W1:ay Try.prog E l1 (base 30):=fO W A1.ch
  rw[hK]
  (repeat(first|refine ah.pS W1 (hp:=by first|exact aa (.inl rfl) rfl|exact ak rfl rfl|exact av rfl rfl (by rfl) rfl (by decide+kernel)) (h:=?_)|refine Tk.seq (ay.wk W1) ?_|refine Tk.reg W1 ?_|refine Tk.block (ay.wk W1) ?_))
  refine ah.uZ W1 (by rfl) (by rfl) (by rfl) (by rfl) (by rfl) Rk rfl fun GW oC=>?_
  refine Mj hf hP O A1.ch fun G w2 t hg au ax dF=>?_
  have qv:=A1.me
  have H:=fun fn pos=>hg.SI O.k fn pos (by rw[ax];exact qv) (by rw[ax];exact A1.gr) (by rw[ax];exact A1.ch) (by rw[ax];exact A1.rel) hC
  obtain⟨⟨c1,c2,c3⟩,_⟩:=H 0 ""
  by_cases Q3:G.wn=0
  ·refine⟨0,l1.dJ .cK,by rw[c1,Q3];simp,fun fn pos=>?_,A1.ch,oC _ _ _ _ ?_⟩
   ·obtain⟨_,h2⟩:=H fn pos
    obtain⟨G',d,c⟩:=h2 .cK (.inl ⟨rfl,Q3⟩)
    rw[ax]at d
    exact⟨G',d,.inl rfl,A1.af,fun e=>by cases e⟩
   have A2:Wt E (l1.dJ .cK) .cK 1 c ps:=A1.dJ
   have qz:(l1.dJ .cK).ai=l.ai:=aN
   generalize l1.dJ .cK=l2 at A2 qz
   have W2:ay Try.prog E l2 (base 30):=fO W A2.ch
   (repeat(first|refine ah.dn W2 ?_|refine ah.pS W2 (hp:=by first|exact aa (.inl rfl) rfl|exact aa (.inr rfl) rfl|exact al rfl rfl rfl rfl|exact dB rfl rfl rfl rfl|exact fM rfl rfl (by rfl) (by rfl)) (h:=?_)|refine Tk.seq (ay.wk W2) ?_|refine Tk.reg W2 ?_|refine Tk.cp (ay.wk W2) rfl ?_))
   refine ah.jk W2 (m:=.enable) (fun g e=>by cases e) (by rfl) (by rfl) (by rfl) (by rfl) GX fun G w3 t hg au ax gh=>?_
   refine⟨_,false,iZ (d:=0) hg au ax A2.deaf,cd.same (ah.bx ?_)⟩
   have A3:Wt E (l2.hear 0) .cK 0 c ps:=A2.hear
   have qy:(l2.hear 0).ai=l.ai:=qz
   generalize l2.hear 0=l3 at A3 qy
   have W3:ay Try.prog E l3 (base 30):=fO W A3.ch
   (repeat(first|refine ah.dn W3 ?_|refine ah.pS W3 (hp:=by exact aa (.inl rfl) rfl) (h:=?_)|refine Tk.reg W3 ?_))
   refine ah.conv W3 (y:=.bG) O.k A3.af (by rfl) (by rfl) (by rfl) (by rfl) (by rfl) (by rfl) (by rfl) (by decide+kernel) (by rw[O.t];rfl) ?_
   refine ah.l7 W3 (mk:=.acquire) (ad:=E.sc .bG) (fun ad g e=>by cases e) (by rfl) (by rfl) (by rfl) (by rfl) U6 rfl fun G w4 t hg au ax wK=>?_
   refine⟨_,false,AF O.k hg A3 ax,cd.same (ah.bx ?_)⟩
   have W4:ay Try.prog E (l3.dJ .aT) (base 30):=fO W A3.ch
   (repeat(first|refine ah.dn W4 ?_|refine ah.cj W4 (by rfl) (by rfl) (by rfl) (by rfl) ?_|refine ah.pS W4 (hp:=by first|exact aa (.inl rfl) rfl|exact al rfl rfl rfl rfl|exact bu rfl rfl rfl|exact bw rfl rfl rfl) (h:=?_)|refine Tk.seq (ay.wk W4) ?_|refine Tk.reg W4 ?_|refine Tk.skip (ay.wk W4) ?_|refine Tk.bC (ay.wk W4) rfl ?_))
   refine Tk.ret W4.wk (fE.leave0 W4.wk (hP▸XQ) (Tr.le (h _ _ A3.dJ qy ?_) hN))
   rw[aN]at dF
   rw[qz]at gh
   rw[qy]at wK
   exact ig.trans (dF.trans (gh.trans wK))
  refine⟨ml G.wn 0,l1.dJ (.y8 G.wn),by rw[c1];unfold ml;simp,fun fn pos=>?_,A1.ch,oC _ _ _ _ ?_⟩
  ·obtain⟨_,h2⟩:=H fn pos
   obtain⟨G',d,c⟩:=h2 (.y8 G.wn) (.inr ⟨rfl,by omega⟩)
   rw[ax]at d
   exact⟨G',d,.inl rfl,A1.af,fun e=>by cases e⟩
  have A2:Wt E (l1.dJ (.y8 G.wn)) (.y8 G.wn) 1 c ps:=A1.dJ
  have qz:(l1.dJ (.y8 G.wn)).ai=l.ai:=aN
  have we:G.wn≠0:=Q3
  generalize cb:G.wn=n at A2 qz we c3
  generalize l1.dJ (.y8 n)=l2 at A2 qz
  have W2:ay Try.prog E l2 (base 30):=fO W A2.ch
  have s1:=wm (n:=n) (m:=0) (by omega) (by omega)
  have s2:=G5 (n:=n) (m:=0) (by omega) (by omega)
  have s3:=G4 (n:=n) (m:=0) (by omega) (by omega)
  have s4:=Fj (n:=n) (by omega)
  have s5:=Fi (m:=0) (by omega)
  have s6:=Z1 we
  have s7:=O0 (n:=n) (by omega)
  repeat(first|refine ah.pS W2 (hp:=by first|exact dB rfl rfl rfl s2|exact al rfl rfl rfl s3|exact df rfl rfl (by rfl) (by rfl) s4|exact df rfl rfl (by rfl) (by rfl) s5|exact al rfl rfl rfl s6|exact al rfl rfl rfl s7) (h:=?_)|refine ah.dn W2 ?_|refine ah.pS W2 (hp:=by first|exact aa (.inl rfl) rfl|exact aa (.inr rfl) rfl|exact ak rfl rfl|exact av rfl rfl (by rfl) rfl (by decide+kernel)) (h:=?_)|refine Tk.seq (ay.wk W2) ?_|refine Tk.reg W2 ?_|refine Tk.skip (ay.wk W2) ?_|refine Tk.bC (ay.wk W2) rfl ?_)
  refine ah.uZ W2 (by rfl) (by rfl) (by rfl) (by rfl) (by rfl) XP rfl fun XK oA=>?_
  refine W7 hf hP O A2.ch fun G w3 t hg au ax gh=>?_
  have qv:=A2.me
  obtain⟨d1,d2⟩:=hg.m.sync .bG O.k
  have Uv:G.ww=0:=by
   have:=hg.g.m
   rw[ax,A2.gr]at this
   simp at this;omega
  by_cases NU:G.wn=n
  ·refine⟨ml n 0,l2.dJ .waits,false,by rw[d1];show some (Value.int .u64 (ml G.wn G.ww))=_;rw[NU,Uv],d2,A2.ch,.inl ⟨rfl,rfl,fun fn pos=>?_,oA _ _ _ _ ?_⟩⟩
   ·obtain⟨G',d,c⟩:=hg.V6 O.k fn pos (by rw[ax];exact qv) (by rw[ax];exact A2.gr) (by omega) NU (by rw[ax];exact A2.ch) (by rw[ax];exact A2.rel) hC
    rw[ax]at d
    exact⟨G',d,.inl rfl,A2.af,fun e=>by cases e⟩
   have Xq:View l2.ai w3 (w3.setCell (E.sc .bG) (.int .u64 (ml n 1))):=by
    have:=hg.bU (x:=.bG) O.k (.int .u64 (ml n 1)) 0 au
    rw[ax]at this;exact this
   have Uy:View l.ai w (w3.setCell (E.sc .bG) (.int .u64 (ml n 1))):=by
    rw[aN]at dF
    rw[qz]at gh Xq
    exact ig.trans (dF.trans (gh.trans Xq))
   generalize w3.setCell (E.sc .bG) (.int .u64 (ml n 1))=w4 at Uy
   have A3:Wt E (l2.dJ .waits) .waits 1 c ps:=A2.dJ
   have qy:(l2.dJ .waits).ai=l.ai:=qz
   generalize l2.dJ .waits=l3 at A3 qy
   have W3:ay Try.prog E l3 (base 30):=fO W A3.ch
   (repeat(first|refine ah.dn W3 ?_|refine ah.pS W3 (hp:=by first|exact aa (.inl rfl) rfl|exact ak rfl rfl|exact av rfl rfl (by rfl) rfl (by decide+kernel)|exact al rfl rfl rfl rfl|exact bu rfl rfl rfl) (h:=?_)|refine Tk.seq (ay.wk W3) ?_|refine Tk.reg W3 ?_|refine Tk.cp (ay.wk W3) rfl ?_))
   refine ah.conv W3 (y:=.fX) O.k A3.af (by rfl) (by rfl) (by rfl) (by rfl) (by rfl) (by rfl) (by rfl) (by decide+kernel) (by rw[O.m];rfl) ?_
   refine ah.l7 W3 (mk:=.write) (ad:=E.sc .fX) (fun ad g e=>by cases e) (by rfl) (by rfl) (by rfl) (by rfl) e41 rfl fun G w5 t hg au ax yV=>?_
   refine⟨_,false,vz O.k (.inr rfl) hg A3.af ax,cd.same (ah.bx ?_)⟩
   repeat(first|refine ah.pS W3 (hp:=by exact al rfl rfl rfl s1) (h:=?_)|refine ah.dn W3 ?_|refine ah.cj W3 (by rfl) (by rfl) (by rfl) (by rfl) ?_|refine ah.pS W3 (hp:=by first|exact aa (.inl rfl) rfl|exact aa (.inr rfl) rfl|exact ak rfl rfl|exact av rfl rfl (by rfl) rfl (by decide+kernel)|exact al rfl rfl rfl rfl|exact bw rfl rfl rfl) (h:=?_)|refine Tk.seq (ay.wk W3) ?_|refine Tk.reg W3 ?_|refine Tk.skip (ay.wk W3) ?_|refine Tk.bC (ay.wk W3) rfl ?_)
   refine ah.Be W3 (xs:= #[.tmp 70,.tmp 71]) (x:=.tmp 70) (ad:=E.sc .fX) (by rfl) (by rfl) (by rfl) (by rfl) (by rfl) e42 (by rw[O.m];rfl) fun G w6 t hg au ax T4=>?_
   have qv:=A3.me
   have H:=fun fn pos=>hg.SF O.k fn pos (by rw[ax];exact qv) (by rw[ax];exact A3.gr) (by rw[ax];exact A3.ch) (by rw[ax];exact A3.rel) hC
   obtain⟨⟨c1,c2⟩,c3,_⟩:=H 0 ""
   refine⟨(G.ws:Int),c1,c2,?_⟩
   by_cases T2:G.ws=0
   ·exact .inl ⟨by rw[T2];rfl,c3 T2⟩
   have Zr:G.ws=1:=by
    obtain⟨_,_,h3⟩:=H 0 ""
    exact(h3 T2).1
   have e1:(G.ws:Int)-1=0:=by rw[Zr];rfl
   rw[e1]
   refine .inr ⟨by omega,l3.dJ .cK,fun fn pos=>?_,ah.bx ?_⟩
   ·obtain⟨_,_,h3⟩:=H fn pos
    obtain⟨_,G',d,_,_⟩:=h3 T2
    rw[ax]at d
    exact⟨G',d,.inl rfl,A3.af,fun e=>by cases e⟩
   have Vr:View l3.ai w6 (w6.setCell (E.sc .fX) (.int .u32 0)):=by
    have:=hg.bU (x:=.fX) O.k (.int .u32 0) 0 au
    rw[ax]at this;exact this
   have hvb:View l.ai w (w6.setCell (E.sc .fX) (.int .u32 0)):=by
    rw[qy]at yV T4 Vr
    exact Uy.trans (yV.trans (T4.trans Vr))
   generalize w6.setCell (E.sc .fX) (.int .u32 0)=w7 at hvb
   have A4:Wt E (l3.dJ .cK) .cK 1 c ps:=A3.dJ
   have LH:(l3.dJ .cK).ai=l.ai:=qy
   generalize l3.dJ .cK=l4 at A4 LH
   have W4:ay Try.prog E l4 (base 30):=fO W A4.ch
   (repeat(first|refine ah.dn W4 ?_|refine ah.pS W4 (hp:=by first|exact aa (.inl rfl) rfl|exact ak rfl rfl|exact av rfl rfl (by rfl) rfl (by decide+kernel)) (h:=?_)|refine Tk.seq (ay.wk W4) ?_|refine Tk.reg W4 ?_))
   refine ah.uZ W4 (by rfl) (by rfl) (by rfl) (by rfl) (by rfl) Rk rfl fun YJ UL=>?_
   refine Mj hf hP O A4.ch fun G w8 t hg au ax hv8=>?_
   obtain⟨b1,b2,b3⟩:=hg.SM O.k (by rw[ax];exact A4.gr)
   refine⟨0,l4,b1,fun fn pos=>?_,A4.ch,UL _ _ _ _ ?_⟩
   ·obtain⟨G',d,c⟩:=hg.E3 (w':=w8) (es:= #[⟨.cell (E.sc .bG),false,true⟩]) fn pos au (by intro e he;simp at he;subst he;exact .inl ⟨.bG,false,O.k,rfl,fun x=>by cases x⟩) rfl rfl rfl (Go.ConcM.OsLater.refl _) (.inl (by rw[ax];exact A4.rel))
    rw[ax]at d
    have e:({l4 with deaf:=deafBehind l4.deaf #[⟨.cell (E.sc .bG),false,true⟩]}:Lo)=l4:=rfl
    rw[e]at d
    exact⟨G',d,.inl rfl,A4.af,fun e=>by cases e⟩
   (repeat(first|refine ah.dn W4 ?_|refine ah.pS W4 (hp:=by first|exact aa (.inr rfl) rfl|exact al rfl rfl rfl rfl) (h:=?_)|refine Tk.seq (ay.wk W4) ?_|refine Tk.reg W4 ?_|refine Tk.cp (ay.wk W4) rfl ?_))
   refine ah.jk W4 (m:=.enable) (fun g e=>by cases e) (by rfl) (by rfl) (by rfl) (by rfl) GX fun G w9 t hg au ax Uz=>?_
   refine⟨_,false,iZ (d:=0) hg au ax A4.deaf,cd.same (ah.bx ?_)⟩
   have A5:Wt E (l4.hear 0) .cK 0 c ps:=A4.hear
   have LG:(l4.hear 0).ai=l.ai:=LH
   generalize l4.hear 0=l5 at A5 LG
   have W5:ay Try.prog E l5 (base 30):=fO W A5.ch
   (repeat(first|refine ah.dn W5 ?_|refine ah.pS W5 (hp:=by exact aa (.inl rfl) rfl) (h:=?_)|refine Tk.reg W5 ?_))
   refine ah.conv W5 (y:=.bG) O.k A5.af (by rfl) (by rfl) (by rfl) (by rfl) (by rfl) (by rfl) (by rfl) (by decide+kernel) (by rw[O.t];rfl) ?_
   refine ah.l7 W5 (mk:=.acquire) (ad:=E.sc .bG) (fun ad g e=>by cases e) (by rfl) (by rfl) (by rfl) (by rfl) U6 rfl fun G w10 t hg au ax Vt=>?_
   refine⟨_,false,AF O.k hg A5 ax,cd.same (ah.bx ?_)⟩
   have W6:ay Try.prog E (l5.dJ .aT) (base 30):=fO W A5.ch
   (repeat(first|refine ah.dn W6 ?_|refine ah.pS W6 (hp:=by exact aa (.inl rfl) rfl) (h:=?_)|refine Tk.seq (ay.wk W6) ?_|refine Tk.reg W6 ?_|refine Tk.skip (ay.wk W6) ?_|refine Tk.bC (ay.wk W6) rfl ?_))
   refine Tk.ret W6.wk (fE.leave0 W6.wk (hP▸XQ) (Tr.le (h _ _ A5.dJ LG ?_) hN))
   rw[LH]at hv8 Uz
   rw[LG]at Vt
   exact hvb.trans (hv8.trans (Uz.trans Vt))
  refine⟨ml G.wn 0,l2.dJ .out,true,by rw[d1];show some (Value.int .u64 (ml G.wn G.ww))=_;rw[Uv],d2,A2.ch,.inr ⟨fun e=>NU ?_,rfl,fun fn pos=>?_,fun N2 hN2=>oA _ _ _ _ ?_⟩⟩
  ·unfold ml at e;omega
  ·obtain⟨G',d,c,hp⟩:=hg.SG O.k fn pos (by rw[ax];exact qv) (by rw[ax];exact A2.gr) NU (by rw[ax];exact A2.ch) (by rw[ax];exact A2.rel) hC
   rw[ax]at d
   exact⟨G',d,.inl rfl,A2.af,fun _=>hp⟩
  have A3:Wt E (l2.dJ .out) .out 1 c ps:=A2.dJ
  have qy:(l2.dJ .out).ai=l.ai:=qz
  generalize l2.dJ .out=l3 at A3 qy
  have W3:ay Try.prog E l3 (base 30):=fO W A3.ch
  (repeat(first|refine ah.dn W3 ?_|refine Tk.skip (ay.wk W3) ?_|refine Tk.bC (ay.wk W3) rfl ?_))
  refine Tk.inBlock W3.wk ?_
  refine Tk.inLoop W3.wk ?_
  rw[<-hK]
  refine Tk.sub (Q0 N2 (by omega) l3 w3 (by omega) A3 qy ?_) (bp.sub ⟨rfl,trivial⟩)
  rw[aN]at dF
  rw[qz]at gh
  exact ig.trans (dF.trans gh)
 exact Tk.sub (HH N l1 eA (Nat.le_refl _) A1 aN gh) (bp.sub ⟨rfl,trivial⟩)
end Go.Co.F1

namespace Go.Co.F1
open Go Go.Conc Go.Proofs
open Go.Co
open Go.ConcN (upd upd_ne upd_same)
variable{E:Geo}{N i:Nat}{l:Lo}{w:World}
set_option maxRecDepth 10000
structure Mn(l:Lo)(d:Nat)(me:Me):Prop where
 af:l.af=true
 ch:l.ch= .no
 rel:l.rel=none
 mr:l.mr=none
 bZ:l.bZ=none
 deaf:l.deaf=d
 gr:l.gr= .out
 me:l.me=me
theorem Mn.hear{d d':Nat}{me:Me}(h:Mn l d me):Mn (l.hear d') d' me:=⟨h.af,h.ch,h.rel,h.mr,h.bZ,rfl,h.gr,h.me⟩
theorem Mn.to{d:Nat}{me me':Me}(h:Mn l d me):Mn {l with me:=me'} d me':=⟨h.af,h.ch,h.rel,h.mr,h.bZ,h.deaf,h.gr,rfl⟩
theorem Y2(n:Nat):((n*4294967296:Nat):Int)=ml n 0:=by unfold ml;omega
theorem Y1(n:Nat):((((n+1)*4294967296:Nat)):Int)=ml (n+1) 0:=by unfold ml;omega
theorem OR{B lf ps:Nat}{c:Bool}(hf:E.da)(hP:E.P=Try.prog)(O:WgAt E B)(A:Mn l 1 ⟨lf+1,0,ps,c⟩){fr:Frame}{cs:List Frame}
  (h: ∀w' n,n<=47->View l.ai w w'->Tr E N 0 {l with me:=⟨lf+1,1,ps,c⟩} (Conc.G (fr.finish (.int .u64 (ml (n+1) 0))) cs) w'):
  Tr E N 0 l (Conc.G (Frame.enter Try.prog 64 #[.pointer (some ⟨B,0,none⟩),.int .u64 4294967296] .normal) (fr::cs)) w:=by
 have W:ay Try.prog E l (base 64):=⟨⟨hf,A.ch,by decide⟩,hP⟩
 refine Tr.ck hP Rl (Nat.le_of_ble_eq_true rfl) ?_
 (repeat(first|refine ah.dn W ?_|refine ah.pS W (hp:=by first|exact aa (.inl rfl) rfl|exact aa (.inr rfl) rfl|exact ak rfl rfl|exact av rfl rfl (by rfl) rfl (by decide+kernel)) (h:=?_)|refine Tk.seq (ay.wk W) ?_|refine Tk.reg W ?_))
 refine ah.CU W (kk:=.u64) (ad:=E.sc .bG) (d:=4294967296) (by rfl) (by rfl) (by rfl) (by rfl) e46 (by rw[O.t];rfl) rfl fun G ae t hg au ax hv=>?_
 have H:=fun fn pos=>hg.V7 O.k fn pos (by rw[ax];exact A.me) (by rw[ax];exact A.gr) (by rw[ax];exact A.ch) (by rw[ax];exact A.rel)
 obtain⟨⟨c1,c2,c3,c4⟩,_⟩:=H 0 ""
 have hx:=Y2 G.wn
 have e2:=Y1 G.wn
 rw[hx]at c3
 have e:IntKind.u64.wrap (ml G.wn 0+4294967296)=ml (G.wn+1) 0:=SR (by omega) (by omega)
 refine⟨ml G.wn 0,{l with me:=⟨lf+1,1,ps,c⟩},false,c3,c4,fun fn pos=>?_,cd.same (ah.bx ?_)⟩
 ·obtain⟨_,G',d,cc⟩:=H fn pos
  rw[ax,e2]at d
  rw[e]
  exact⟨G',d,.inl rfl,A.af,fun e=>by cases e⟩
 rw[e]
 have W2:ay Try.prog E {l with me:=⟨lf+1,1,ps,c⟩} (base 64):=fO W A.ch
 (repeat(first|refine ah.dn W2 ?_|refine ah.pS W2 (hp:=by exact aa (.inr rfl) rfl) (h:=?_)))
 refine Tk.ret W2.wk (fE.leave1 W2.wk (hP▸Rl) rfl (h _ G.wn (by omega) (hv.trans ?_)))
 have:=hg.bU (x:=.bG) O.k (.int .u64 (ml (G.wn+1) 0)) 0 au
 rw[ax]at this;exact this
theorem Zj{n:Nat}:cV .lss .i32 (n:Int) 0=some (.bool false):=by simp only[cV,Option.some.injEq,Value.bool.injEq];simp
theorem Y8{n:Nat}:cV .gtr .i32 ((n+1:Nat):Int) 0=some (.bool true):=by simp only[cV,Option.some.injEq,Value.bool.injEq,decide_eq_true_eq];omega
theorem Ze{n:Nat}(h:n=0):cV .eql .i32 ((n+1:Nat):Int) 1=some (.bool true):=by subst h;rfl
theorem Zf{n:Nat}(h:n≠0):cV .eql .i32 ((n+1:Nat):Int) 1=some (.bool false):=by simp only[cV,Option.some.injEq,Value.bool.injEq];simp;omega
set_option maxHeartbeats 8000000 in
theorem TN{B lf ps:Nat}{c:Bool}(hf:E.da)(hP:E.P=Try.prog)(O:WgAt E B)(A:Mn l 0 ⟨lf+1,0,ps,c⟩){fr:Frame}{cs:List Frame}
  (h: ∀w',View l.ai w w'->Tr E N 0 {l with me:=⟨lf+1,1,ps,c⟩} (Conc.G (fr.finish (.tuple #[])) cs) w'):
  Tr E N 0 l (Conc.G (Frame.enter Try.prog 39 #[.pointer (some ⟨B,0,none⟩),.int .i64 1] .normal) (fr::cs)) w:=by
 have W:ay Try.prog E l (base 39):=⟨⟨hf,A.ch,by decide⟩,hP⟩
 refine Tr.ck hP N0 (Nat.le_of_ble_eq_true rfl) ?_
 (repeat(first|refine ah.dn W ?_|refine ah.pS W (hp:=by first|exact aa (.inl rfl) rfl|exact al rfl rfl rfl rfl) (h:=?_)|refine Tk.seq (ay.wk W) ?_|refine Tk.reg W ?_|refine Tk.skip (ay.wk W) ?_|refine Tk.cp (ay.wk W) rfl ?_|refine Tk.bC (ay.wk W) rfl ?_))
 refine ah.jk W (m:=.disable) (fun g e=>by cases e) (by rfl) (by rfl) (by rfl) (by rfl) Rg fun G eA t hg au ax gh=>?_
 refine⟨_,false,kN hg au ax,cd.same (ah.bx ?_)⟩
 rw[A.deaf]
 have A1:Mn (l.hear 1) 1 ⟨lf+1,0,ps,c⟩:=A.hear
 have W2:ay Try.prog E (l.hear 1) (base 39):=fO W A.ch
 (repeat(first|refine ah.dn W2 ?_|refine Tk.reg W2 ?_))
 refine ah.defer W2 (by rfl) (by rfl) (by rfl) (by rfl) rfl ?_
 refine ah.lay (rfl:Nv.put _ _ _=_) ?_
 (repeat(first|refine ah.dn W2 ?_|refine ah.pS W2 (hp:=by exact aa (.inr rfl) rfl) (h:=?_)|refine Tk.seq (ay.wk W2) ?_|refine Tk.reg W2 ?_))
 refine ah.Ff W2 A.af (.inr trivial) (by rfl) (by rfl) (by rfl) (by rfl) e28 (fun _=>rfl) ?_
 refine ah.bx ?_
 repeat(first|refine ah.pS W2 (hp:=dB rfl rfl rfl Jg) (h:=?_)|refine ah.dn W2 ?_|refine ah.pS W2 (hp:=by first|exact aa (.inl rfl) rfl|exact ak rfl rfl|exact av rfl rfl (by rfl) rfl (by decide+kernel)|exact fM rfl rfl (by rfl) (by rfl)) (h:=?_)|refine Tk.seq (ay.wk W2) ?_|refine Tk.reg W2 ?_|refine Tk.skip (ay.wk W2) ?_|refine Tk.bC (ay.wk W2) rfl ?_)
 refine ah.uZ W2 (by rfl) (by rfl) (by rfl) (by rfl) (by rfl) Rl rfl fun GW oC=>?_
 refine OR hf hP O A1 fun w4 n hn wK=>oC _ _ _ _ ?_
 have A2:Mn {l.hear 1 with me:=⟨lf+1,1,ps,c⟩} 1 ⟨lf+1,1,ps,c⟩:=A1.to
 have Uy:View l.ai w w4:=gh.trans wK
 have W3:ay Try.prog E {l.hear 1 with me:=⟨lf+1,1,ps,c⟩} (base 39):=fO W A.ch
 have h1:=wm (n:=n+1) (m:=0) (by omega) (by omega)
 have h2:=G5 (n:=n+1) (m:=0) (by omega) (by omega)
 have h3:=G4 (n:=n+1) (m:=0) (by omega) (by omega)
 have h4:=Fj (n:=n+1) (by omega)
 have h5:=Fi (m:=0) (by omega)
 have h6:=Zj (n:=n+1)
 have h7:=Y8 (n:=n)
 by_cases we:n=0
 ·have h8:=Ze we
  repeat(first|refine ah.pS W3 (hp:=by first|exact al rfl rfl rfl h1|exact dB rfl rfl rfl h2|exact al rfl rfl rfl h3|exact df rfl rfl (by rfl) (by rfl) h4|exact df rfl rfl (by rfl) (by rfl) h5|exact al rfl rfl rfl h6|exact al rfl rfl rfl h8) (h:=?_)|refine ah.dn W3 ?_|refine ah.cj W3 (by rfl) (by rfl) (by rfl) (by rfl) ?_|refine ah.pS W3 (hp:=by first|exact aa (.inl rfl) rfl|exact aa (.inr rfl) rfl|exact ak rfl rfl|exact av rfl rfl (by rfl) rfl (by decide+kernel)|exact al rfl rfl rfl rfl|exact bu rfl rfl rfl|exact bw rfl rfl rfl|exact fM rfl rfl (by rfl) (by rfl)) (h:=?_)|refine Tk.seq (ay.wk W3) ?_|refine Tk.reg W3 ?_|refine Tk.skip (ay.wk W3) ?_|refine Tk.cp (ay.wk W3) rfl ?_|refine Tk.bC (ay.wk W3) rfl ?_)
  refine ah.conv W3 (y:=.fX) O.k A.af (by rfl) (by rfl) (by rfl) (by rfl) (by rfl) (by rfl) (by rfl) (by decide+kernel) (by rw[O.m];rfl) ?_
  refine ah.l7 W3 (mk:=.read) (ad:=E.sc .fX) (fun ad g e=>by cases e) (by rfl) (by rfl) (by rfl) (by rfl) e33 rfl fun G w5 t hg au ax yV=>?_
  refine⟨_,false,vz O.k (.inl rfl) hg A2.af ax,cd.same (ah.bx ?_)⟩
  repeat(first|refine ah.pS W3 (hp:=by first|exact al rfl rfl rfl h6|exact al rfl rfl rfl h7) (h:=?_)|refine ah.dn W3 ?_|refine ah.cj W3 (by rfl) (by rfl) (by rfl) (by rfl) ?_|refine ah.pS W3 (hp:=by first|exact aa (.inl rfl) rfl|exact bu rfl rfl rfl|exact bw rfl rfl rfl) (h:=?_)|refine Tk.seq (ay.wk W3) ?_|refine Tk.reg W3 ?_|refine Tk.skip (ay.wk W3) ?_|refine Tk.cp (ay.wk W3) rfl ?_|refine Tk.bC (ay.wk W3) rfl ?_)
  refine Tk.ret W3.wk (fE.mark W3.wk (m:=.enable) (fun g e=>by cases e) (hP▸GX) fun G w6 t hg au ax T4=>?_)
  refine⟨_,iZ (d:=0) hg au ax rfl,?_⟩
  have W4:ay Try.prog E (({l.hear 1 with me:=⟨lf+1,1,ps,c⟩}:Lo).hear 0) (base 39):=fO W A.ch
  have e:(({l.hear 1 with me:=⟨lf+1,1,ps,c⟩}:Lo).hear 0)={l with me:=⟨lf+1,1,ps,c⟩}:=by
   unfold Lo.hear;rw[<-A.deaf]
  rw[e]at W4 ⊢
  exact fE.leave0 W4.wk (hP▸N0) (h _ (Uy.trans (yV.trans T4)))
 have h8:=Zf we
 repeat(first|refine ah.pS W3 (hp:=by first|exact al rfl rfl rfl h1|exact dB rfl rfl rfl h2|exact al rfl rfl rfl h3|exact df rfl rfl (by rfl) (by rfl) h4|exact df rfl rfl (by rfl) (by rfl) h5|exact al rfl rfl rfl h6|exact al rfl rfl rfl h7|exact al rfl rfl rfl h8) (h:=?_)|refine ah.dn W3 ?_|refine ah.cj W3 (by rfl) (by rfl) (by rfl) (by rfl) ?_|refine ah.pS W3 (hp:=by first|exact aa (.inl rfl) rfl|exact aa (.inr rfl) rfl|exact al rfl rfl rfl rfl|exact bu rfl rfl rfl|exact bw rfl rfl rfl|exact fM rfl rfl (by rfl) (by rfl)) (h:=?_)|refine Tk.seq (ay.wk W3) ?_|refine Tk.reg W3 ?_|refine Tk.skip (ay.wk W3) ?_|refine Tk.cp (ay.wk W3) rfl ?_|refine Tk.bC (ay.wk W3) rfl ?_)
 refine Tk.ret W3.wk (fE.mark W3.wk (m:=.enable) (fun g e=>by cases e) (hP▸GX) fun G w6 t hg au ax T4=>?_)
 refine⟨_,iZ (d:=0) hg au ax rfl,?_⟩
 have W4:ay Try.prog E (({l.hear 1 with me:=⟨lf+1,1,ps,c⟩}:Lo).hear 0) (base 39):=fO W A.ch
 have e:(({l.hear 1 with me:=⟨lf+1,1,ps,c⟩}:Lo).hear 0)={l with me:=⟨lf+1,1,ps,c⟩}:=by
  unfold Lo.hear;rw[<-A.deaf]
 rw[e]at W4 ⊢
 exact fE.leave0 W4.wk (hP▸N0) (h _ (Uy.trans T4))
end Go.Co.F1

namespace Go.Co
open Go Go.Conc
variable{E:Geo}{N i:Nat}{l:Lo}{w:World}
section
variable{P:Program}{b:Frame}{n:Nat}{env:Nv}{ds:List Deferred}{k:List Item}{cs:List Frame}{ops:Array Oper}{j:Nat}{o:Oper}
theorem ah.Wq(W:ay P E l b){d:Nat}(ho:ops[j]?=some o)(hw:bj ops env o=some true)(eR:o.dst=some d)(hd:Nat.blt d n=true)(aF:o.op= .call {callee:=.builtin .recover,args:= #[],argTypes:= #[]})
  (hr: ∀a todo,tryRecover (b.at a todo) cs=none) (h:ah E N i l w b n ((d,.nilIface)::env) ds ops (j+1) k cs):ah E N i l w b n env ds ops j k cs:=by
 refine ah.open ho fun a ha dm=>?_
 have jA:Has n ((d,.nilIface)::env) (a.put o.dst .nilIface)/\(a.put o.dst .nilIface).defers=ds:=by
  have:=ha.put (d:=o.dst) (by rw[eR];exact hd) .nilIface
  rw[eR]at this ⊢
  exact⟨this,dm⟩
 refine Tr.still W.wk.fin (aX _ _) (g':=Conc.G (b.at (a.put o.dst .nilIface) (.inRegion ops (List.range' (j+1) (ops.size- (j+1)))::k)) cs) rfl W.wk.ch (fun ae hv=>?_) (h _ jA.1 jA.2)
 have hx:(execOp a.eval o)=(Sem.pure Next.recover:Sem Next):=by simp only[execOp,aF,resolve];rfl
 have dw:(b.at a (.inRegion ops (j::List.range' (j+1) (ops.size- (j+1)))::k)).finish .nilIface=b.at (a.put o.dst .nilIface) (.inRegion ops (List.range' (j+1) (ops.size- (j+1)))::k):=by rw[Frame.finish_at,ho];rfl
 rw[<-dw]
 have Kg:=hr a (.inRegion ops (j::List.range' (j+1) (ops.size- (j+1)))::k)
 have cC:(b.kind==CallKind.early)=false:=by simpa using W.wk.kind
 have hrn:(execOp a.eval o).run E.P ae= .ok .recover ae:=by rw[hx];rfl
 have gk:listed E.P b.fn a o ae= #[]:=by
  unfold listed
  rw[hx]
  exact seen_none _ _
 rw[stepG_oper ho (ha.want hw)]
 simp only[Frame.at]at Kg
 simp[stepG.apply,hrn,G,Frame.at,cC,GStep.after,Kg]
 exact gk
end
end Go.Co

namespace Go.Co
open Go Go.Conc
open Go.ConcN (upd upd_ne upd_same)
variable{E:Geo}{N i:Nat}{l:Lo}{w:World}
section
variable{P:Program}{b:Frame}{n:Nat}{env:Nv}{ds:List Deferred}{k:List Item}{cs:List Frame}{ops:Array Oper}{j:Nat}{o:Oper}{f:FuncId}{iQ:Array TypeId}
theorem ah.Ow(W:ay P E l b)(aJ:l.rel=none){e:Array Value->Sem Value}{xs:Array Operand}{d:Nat}{v:Value}(ho:ops[j]?=some o)(eR:o.dst=some d)(hd:Nat.blt d n=true)(zaV:o.op= .call {callee:=.value (.func f),args:=xs,argTypes:=iQ})(_he:je P f e)
  (h: ∀ae,View l.ai w ae->∃w' es,(∀a,Has n env a->a.defers=ds->stepG P (i==0) (Conc.G (b.at a (.inRegion ops (j::List.range' (j+1) (ops.size- (j+1)))::k)) cs) ae= .go (Conc.G (b.at (a.put o.dst v) (.inRegion ops (List.range' (j+1) (ops.size- (j+1)))::k)) cs) w' es)/\
   w'.heap.size=ae.heap.size/\(∀b,¬l.ai b->w'.heap[b]?=ae.heap[b]?)/\w'.tape=ae.tape/\w'.os=ae.os/\w'.output=ae.output/\(∀e∈es,KJ l.ai e)/\ah E N i l w' b n ((d,v)::env) ds ops (j+1) k cs):
  ah E N i l w b n env ds ops j k cs:=by
 refine ah.open ho fun a ha dm=>?_
 have jA:Has n ((d,v)::env) (a.put o.dst v)/\(a.put o.dst v).defers=ds:=by
  have:=ha.put (d:=o.dst) (by rw[eR];exact hd) v
  rw[eR]at this ⊢
  exact⟨this,dm⟩
 refine Tr.tS (aX _ _) W.wk.ch fun ae hv=>?_
 obtain⟨w',es,h1,h2,h3,h4,h5,h6,h7,h8⟩:=h ae hv
 refine⟨_,w',es,by rw[W.hP];exact h1 a ha dm,rfl,⟨Nat.le_of_eq h2.symm,fun c hc _=>h3 c hc,h4,h5,h6,fun e he=>?_⟩,fun hr=>absurd aJ hr,?_⟩
 ·rcases h7 e he with⟨ad,wr,s,x,y⟩|⟨r,wr,x,y⟩|⟨m,wr,s,x,y|⟨ad,y,z⟩⟩
  ·exact .inl ⟨ad,wr,s,x,.inl y⟩
  ·exact .inr (.inl ⟨r,wr,x,.inl y⟩)
  ·exact .inr (.inr ⟨m,wr,s,x,.inl y⟩)
  exact .inr (.inr ⟨m,wr,s,x,.inr ⟨ad,y,.inl z⟩⟩)
 rw[h2,Lo.gJ];exact h8 _ jA.1 jA.2
theorem HX{ad:Addr}(h:l.ai ad.block): ∀e∈nT ad,KJ l.ai e:=fun e he=>by
 rcases iU he with rfl|rfl
 ·exact .inl ⟨ad,false,true,rfl,h⟩
 exact .inl ⟨ad,true,true,rfl,h⟩
theorem ah.Tc(W:ay P E l b)(aJ:l.rel=none){x:Operand}{kk:IntKind}{ad:Addr}{v:Int}{d:Nat}(aN:l.ai ad.block)(hc:w.cell? ad=some (.int kk v))(ho:ops[j]?=some o)(hw:bj ops env o=some true)(eR:o.dst=some d)(hd:Nat.blt d n=true)(aF:o.op= .call {callee:=.value (.func f),args:= #[x],argTypes:=iQ})(he:je P f (Extern.Atomic.loadT (.int kk)))(hx:env.ev x=some (.pointer (some ad)))
  (h: ∀ae,View l.ai w ae->ah E N i l ae b n ((d,.int kk v)::env) ds ops (j+1) k cs):ah E N i l w b n env ds ops j k cs:=by
 refine ah.Ow W aJ ho eR hd aF he fun ae hv=>⟨ae,#[⟨.cell ad,false,true⟩],fun a ha _=>?_,rfl,fun _ _=>rfl,rfl,rfl,rfl,fun e he=>?_,h ae hv⟩
 ·obtain⟨fn,f1,f2,f3,f4,f5⟩:=he.out
  exact stepG_load_atomic ho (ha.want hw) W.wk.kind aF f1 f2 f3 f4 kk f5 (ha.ev hx) (by rw[(cE (hv.2 _ aN)).1];exact hc)
 simp at he;subst he;exact .inl ⟨ad,false,true,rfl,aN⟩
theorem ah.Wu(W:ay P E l b)(aJ:l.rel=none){x y:Operand}{kk:IntKind}{ad:Addr}{v dl r:Int}{d:Nat}(aN:l.ai ad.block)(hc:w.cell? ad=some (.int kk v))(hz:w.frozen? ad=false)(ho:ops[j]?=some o)(hw:bj ops env o=some true)(eR:o.dst=some d)(hd:Nat.blt d n=true)(aF:o.op= .call {callee:=.value (.func f),args:= #[x,y],argTypes:=iQ})(he:je P f (Extern.Atomic.update (Op.intArith .add) kk true))(hx:env.ev x=some (.pointer (some ad)))(hy:env.ev y=some (.int kk dl))(hr:kk.wrap (v+dl)=r)
  (h: ∀ae,View l.ai w ae->ah E N i l (ae.setCell ad (.int kk r)) b n ((d,.int kk r)::env) ds ops (j+1) k cs):ah E N i l w b n env ds ops j k cs:=by
 subst hr
 refine ah.Ow W aJ ho eR hd aF he fun ae hv=>⟨ae.setCell ad (.int kk (kk.wrap (v+dl))),nT ad,fun a ha _=>?_,aD ..,fun b hb=>cS ae _ _ fun e=>hb (e▸aN),rfl,rfl,rfl,HX aN,h ae hv⟩
 obtain⟨fn,f1,f2,f3,f4,f5⟩:=he.out
 obtain⟨e1,e2⟩:=cE (hv.2 _ aN)
 exact stepG_add_atomic ho (ha.want hw) W.wk.kind aF f1 f2 f3 f4 kk f5 (ha.ev hx) (ha.ev hy) (by rw[e1];exact hc) (by rw[e2];exact hz)
theorem ah.Y9(W:ay P E l b)(aJ:l.rel=none){x y z:Operand}{kk:IntKind}{ad:Addr}{v0 v1:Int}{d:Nat}(aN:l.ai ad.block)(hc:w.cell? ad=some (.int kk v0))(hz:w.frozen? ad=false)(ho:ops[j]?=some o)(hw:bj ops env o=some true)(eR:o.dst=some d)(hd:Nat.blt d n=true)(aF:o.op= .call {callee:=.value (.func f),args:= #[x,y,z],argTypes:=iQ})(he:je P f (Extern.Atomic.casT (.int kk)))(hx:env.ev x=some (.pointer (some ad)))(hy:env.ev y=some (.int kk v0))(Q1:env.ev z=some (.int kk v1))
  (h: ∀ae,View l.ai w ae->ah E N i l (ae.setCell ad (.int kk v1)) b n ((d,.bool true)::env) ds ops (j+1) k cs):ah E N i l w b n env ds ops j k cs:=by
 refine ah.Ow W aJ ho eR hd aF he fun ae hv=>⟨ae.setCell ad (.int kk v1),nT ad,fun a ha _=>?_,aD ..,fun b hb=>cS ae _ _ fun e=>hb (e▸aN),rfl,rfl,rfl,HX aN,h ae hv⟩
 obtain⟨fn,f1,f2,f3,f4,f5⟩:=he.out
 obtain⟨e1,e2⟩:=cE (hv.2 _ aN)
 exact stepG_cas_hit ho (ha.want hw) W.wk.kind aF f1 f2 f3 f4 kk f5 (ha.ev hx) (ha.ev hy) (ha.ev Q1) (by rw[e1];exact hc) (by rw[e2];exact hz)
theorem ah.HV(W:ay P E l b)(aJ:l.rel=none){mk:Addr->Mark}(hm:mk= .acquire\/mk= .releaseMerge){x:Operand}{ad:Addr}{d:Nat}(aN:l.ai ad.block)(ho:ops[j]?=some o)(hw:bj ops env o=some true)(eR:o.dst=some d)(hd:Nat.blt d n=true)(aF:o.op= .call {callee:=.value (.func f),args:= #[x],argTypes:=iQ})(he:je P f (Extern.Race.marked mk))(hx:env.ev x=some (.pointer (some ad)))
  (h: ∀ae,View l.ai w ae->ah E N i l ae b n ((d,.tuple #[])::env) ds ops (j+1) k cs):ah E N i l w b n env ds ops j k cs:=by
 refine ah.Ow W aJ ho eR hd aF he fun ae hv=>⟨ae,#[⟨.mark (mk ad),false,true⟩],fun a ha _=>?_,rfl,fun _ _=>rfl,rfl,rfl,rfl,fun e he=>?_,h ae hv⟩
 ·obtain⟨fn,f1,f2,f3,f4,f5⟩:=he.out
  exact stepG_markAt mk (by rcases hm with rfl|rfl<;>(intro ad g e;cases e)) ho (ha.want hw) W.wk.kind aF f1 f2 f3 f4 f5 (by simp[ha.ev hx])
 simp at he;subst he
 refine .inr (.inr ⟨_,_,_,rfl,.inr ⟨ad,?_,aN⟩⟩)
 rcases hm with rfl|rfl
 ·exact .inl rfl
 exact .inr rfl
theorem ah.Qj(W:ay P E l b){s d te:TypeId}{x:Operand}{ad:Addr}{v:Value}{dd:Nat}(aN:l.ai ad.block)(hc:w.cell? ad=some v)(ho:ops[j]?=some o)(hw:bj ops env o=some true)(eR:o.dst=some dd)(hd:Nat.blt dd n=true)(aF:o.op= .convert s d x)(hs:P.underlying s=some (.pointer te))(hu:P.underlying d=some .unsafePointer)(hz:P.cellsOf te≠0)
  (hx:env.ev x=some (.pointer (some ad))) (h:ah E N i l w b n ((dd,.pointer (some ad))::env) ds ops (j+1) k cs):ah E N i l w b n env ds ops j k cs:=by
 refine ah.open ho fun a ha dm=>?_
 have jA:Has n ((dd,.pointer (some ad))::env) (a.put o.dst (.pointer (some ad)))/\(a.put o.dst (.pointer (some ad))).defers=ds:=by
  have:=ha.put (d:=o.dst) (by rw[eR];exact hd) (.pointer (some ad))
  rw[eR]at this ⊢
  exact⟨this,dm⟩
 refine Tr.still W.wk.fin (aX _ _) (g':=Conc.G (b.at (a.put o.dst (.pointer (some ad))) (.inRegion ops (List.range' (j+1) (ops.size- (j+1)))::k)) cs) rfl W.wk.ch (fun ae hv=>?_) (h _ jA.1 jA.2)
 obtain⟨r1,r2⟩:=AJ (P:=E.P) (a:=a) (w:=ae) aF (ha.ev hx) (by rw[W.hP];exact hs) (by rw[W.hP];exact hu) (by rw[W.hP];exact hz) (by rw[(cE (hv.2 _ aN)).1];exact hc)
 rw[stepG_value ho (ha.want hw) W.wk.kind r1]
 unfold listed
 rw[r2,seen_none]
end
end Go.Co

namespace Go.Co
open Go Go.Conc
open Go.ConcN (upd upd_ne upd_same)
variable{E:Geo}{N i:Nat}{l:Lo}{w:World}
section
variable{P:Program}{t e:TypeId}{m:Nat}{f g:Nat->Int}
theorem Ej{env:Nv}{o:Oper}{x y:Operand}{b off:Nat}{k:IntKind}{j:Int}(ho:o.op= .indexAddr t x y)(hu:P.underlying t=some (.array m e))(hz:P.cellsOf e=1)(hx:env.ev x=some (.pointer (some ⟨b,off,none⟩)))(hy:env.ev y=some (.int k j))(hj:0<=j/\j<m):
  bR P env o (.pointer (some ⟨b,off+j.toNat,none⟩)):=fun n a ha w=>by
 have hi: ∃i,P.info? e=some i:=by
  unfold Program.cellsOf at hz
  cases hi:P.info? e with
  |none=>simp[hi]at hz
  |some i=>exact⟨i,rfl⟩
 obtain⟨inf,hi⟩:=hi
 have h1:=iK hi w
 rw[hz]at h1
 have Sc:(⟨b,off,none⟩:Addr).add j.toNat=⟨b,off+j.toNat,none⟩:=by simp[Addr.add]
 constructor<;>simp[execOp,ho,ha.ev hx,ha.ev hy,Instr.indexAt,Instr.sureAddr,asIntOf,run_underlying hu,h1,hj,Sc,events_underlying,events_sizeOf]
end
end Go.Co
namespace Go.Co
open Go Go.Conc
variable{E:Geo}{N i:Nat}{l:Lo}{w:World}
section
variable{P:Program}{a:Act}{o:Oper}{t t':TypeId}{x y:Operand}{g:Nat}{cs old:Array Value}{fr:Nat×Nat}
end
section
variable{P:Program}{b:Frame}{n:Nat}{env:Nv}{ds:List Deferred}{k:List Item}{cs:List Frame}{ops:Array Oper}{j:Nat}{rest:List Nat}{o:Oper}{g:Nat}{t t':TypeId}{x y:Operand}
end
end Go.Co

namespace Go.Co
open Go Go.Conc
open Go.ConcM (OsLater)
open Go.ConcN (sumTo upd sumTo_upd upd_ne upd_same sumTo_congr le_sumTo sumTo_le)
variable{E:Geo}{G G':Gh}{w w':World}{t t' u:Trace}{B B':Nat}
def gn(app:Addr->Option (Value×Gd))(LB:Addr->Option Value)(k:Nat):Addr->Option (Value×Gd):=fun a=>match LB a with
 |some v=>some (v,.dq k)
 |none=>app a
def oX(kn LB:Addr->Option Value):Addr->Option Value:=fun a=>match LB a with
 |some v=>some v
 |none=>kn a
def Lo.rX(l:Lo)(QB:Nat->Prop)(LB:Addr->Option Value)(k:Nat):Lo:={l with ai:=fun b=>l.ai b/\¬QB b,aP:=upd l.aP k true,kn:=oX l.kn LB}
def Gh.eC(E:Geo)(G:Gh)(QB:Nat->Prop)(LB:Addr->Option Value):Gh:={G with th:=upd G.th 0 ((G.th 0).rX QB LB (E.K+G.n)),app:=gn G.app LB (E.K+G.n)}
theorem cm{app:Addr->Option (Value×Gd)}{LB:Addr->Option Value}{k:Nat}{a:Addr}{v:Value}{d:Gd}(h:gn app LB k a=some (v,d)):(LB a=some v/\d= .dq k)\/(LB a=none/\app a=some (v,d)):=by
 unfold gn at h
 split at h
 ·rename_i e;cases h;exact .inl ⟨e,rfl⟩
 rename_i e;exact .inr ⟨e,h⟩
theorem JI{kn LB:Addr->Option Value}{a:Addr}{v:Value}(h:oX kn LB a=some v):LB a=some v\/(LB a=none/\kn a=some v):=by
 unfold oX at h
 split at h
 ·rename_i e;cases h;exact .inl e
 rename_i e;exact .inr ⟨e,h⟩
theorem GI.eC(h:GI E G w t){QB:Nat->Prop}{LB:Addr->Option Value}(Ks: ∀b,QB b->(G.th 0).ai b)(KF: ∀a v,LB a=some v->QB a.block/\w.cell? a=some v/\w.frozen? a=false)
  (more:E.App (gn G.app LB (E.K+G.n)) G.dn G.cv):GI E (G.eC E QB LB) w t/\(G.eC E QB LB).Φ E.K E.nj=G.Φ E.K E.nj:=by
 obtain⟨ic,ee⟩:=PU h
 have h0:=h.a.bl
 have bq: ∀j,((G.eC E QB LB).th j).af=(G.th j).af:=fun j=>aW Lo.af (by rfl) j
 have lu: ∀j,((G.eC E QB LB).th j).mr=(G.th j).mr:=fun j=>aW Lo.mr (by rfl) j
 have dX: ∀j,((G.eC E QB LB).th j).run=(G.th j).run:=fun j=>aW Lo.run (by rfl) j
 have cx: ∀j,((G.eC E QB LB).th j).gr=(G.th j).gr:=fun j=>aW Lo.gr (by rfl) j
 have rQ: ∀j,((G.eC E QB LB).th j).rel=(G.th j).rel:=fun j=>aW Lo.rel (by rfl) j
 have fD: ∀j,((G.eC E QB LB).th j).deaf=(G.th j).deaf:=fun j=>aW Lo.deaf (by rfl) j
 have bP: ∀j,((G.eC E QB LB).th j).ch=(G.th j).ch:=fun j=>aW Lo.ch (by rfl) j
 have CA: ∀j,((G.eC E QB LB).th j).bZ=(G.th j).bZ:=fun j=>aW Lo.bZ (by rfl) j
 have gQ: ∀j,((G.eC E QB LB).th j).sc=(G.th j).sc:=fun j=>aW Lo.sc (by rfl) j
 have qv: ∀j,((G.eC E QB LB).th j).me=(G.th j).me:=fun j=>aW Lo.me (by rfl) j
 have t0:(G.eC E QB LB).th 0=(G.th 0).rX QB LB (E.K+G.n):=by show upd G.th 0 ((G.th 0).rX QB LB (E.K+G.n)) 0=_;exact upd_same G.th 0 _
 have tj: ∀j,j≠0->(G.eC E QB LB).th j=G.th j:=fun j hj=>by show upd G.th 0 _ j=_;rw[upd_ne _ _ hj]
 have aN: ∀j b,((G.eC E QB LB).th j).ai b->(G.th j).ai b/\(j=0->¬QB b):=fun j b hb=>by
  by_cases e:j=0
  ·subst e;rw[t0]at hb;exact⟨hb.1,fun _=>hb.2⟩
  rw[tj j e]at hb;exact⟨hb,fun x=>absurd x e⟩
 have Db: ∀j k,((G.eC E QB LB).th j).aP k=true->(G.th j).aP k=true\/(j=0/\k=E.K+G.n):=fun j k hp=>by
  by_cases e:j=0
  ·subst e;rw[t0]at hp
   by_cases e2:k=E.K+G.n
   ·exact .inr ⟨rfl,e2⟩
   left
   have hp:upd (G.th 0).aP (E.K+G.n) true k=true:=hp
   rw[upd_ne _ _ e2]at hp;exact hp
  rw[tj j e]at hp;exact .inl hp
 have LD: ∀j k,(G.th j).aP k=true->((G.eC E QB LB).th j).aP k=true:=fun j k hp=>by
  by_cases e:j=0
  ·subst e;rw[t0]
   show upd (G.th 0).aP (E.K+G.n) true k=true
   by_cases e2:k=E.K+G.n
   ·subst e2;exact upd_same ..
   rw[upd_ne _ _ e2];exact hp
  rw[tj j e];exact hp
 have QH:((G.eC E QB LB).th 0).aP (E.K+G.n)=true:=by rw[t0];exact upd_same ..
 have fF:(G.eC E QB LB).app=gn G.app LB (E.K+G.n):=rfl
 have wc: ∀a x,G.app a=some x->LB a=none:=fun a x hx=>by
  cases e:LB a with
  |none=>rfl
  |some v=>exact absurd rfl ((h.s.qT 0 _ h0 (Ks _ (KF a v e).1)).2.1 a x hx)
 have zU: ∀a x,G.app a=some x->gn G.app LB (E.K+G.n) a=some x:=fun a x hx=>by
  unfold gn;rw[wc a x hx];exact hx
 have QE:(G.th 0).run=none:=by
  cases e:(G.th 0).run with
  |none=>rfl
  |some k=>have:=(h.k.run 0 k h0 e).1;rw[ee]at this;cases this
 have Tx: ∀j,(G.th j).af=true->(G.th j).aP (E.K+G.n)=true->j=0:=fun j hj hp=>by
  rcases h.k.aP j _ hj hp with⟨x,_⟩|⟨_,x|x⟩
  ·omega
  ·exact x
  have:=(h.a.db j hj).1;omega
 refine⟨⟨h.a.tr rfl rfl bq,?_,?_,?_,h.g.tr rfl rfl rfl rfl rfl rfl fun g=>⟨bq g,aW Lo.wk (by rfl) g,cx g⟩,?_,more,?_⟩,?_⟩
 ·-- whose blocks
  refine⟨fun i j b hi hj tP KD hbj=>?_,fun i b hi hb=>?_,fun i b hi hb=>?_,h.s.jz,h.s.size,fun a x hx=>?_⟩
  ·rw[bq]at hi hj
   exact h.s.apart i j b hi hj tP (aN i b KD).1 (aN j b hbj).1
  ·rw[bq]at hi;exact h.s.old i b hi (aN i b hb).1
  ·rw[bq]at hi
   obtain⟨o1,o2⟩:=aN i b hb
   obtain⟨n1,n2,n3,n4⟩:=h.s.qT i b hi o1
   refine⟨n1,fun a x hx e=>?_,n3,n4⟩
   obtain⟨v,d⟩:=x
   rcases cm (by rw[fF]at hx;exact hx)with⟨hl,_⟩|⟨_,hx⟩
   ·have hq:=(KF a v hl).1
    rw[e]at hq
    by_cases e0:i=0
    ·exact o2 e0 hq
    exact h.s.apart i 0 b hi h0 e0 o1 (Ks b hq)
   exact n2 a _ hx e
  obtain⟨v,d⟩:=x
  rcases cm (by rw[fF]at hx;exact hx)with⟨hl,_⟩|⟨_,hx⟩
  ·exact(h.s.qT 0 _ h0 (Ks _ (KF a v hl).1)).2.2.2
  exact h.s.IM a _ hx
 ·-- memory
  refine⟨fun x hx=>?_,fun a v d ha=>?_,h.m.inj,fun hC=>?_,h.m.tape,h.m.output,h.m.os,fun b hb=>(h.m.keep b hb).to rfl (fun a v e=>?_) fun a v d e e2=>?_⟩
  ·rw[show(Gh.val _ x)=G.val x by cases x<;>rfl];exact h.m.sync x hx
  ·rcases cm (by rw[fF]at ha;exact ha)with⟨hl,_⟩|⟨_,ha⟩
   ·obtain⟨q1,q2,q3⟩:=KF a v hl
    exact⟨q2,q3,fun x hx e=>(h.s.qT 0 _ h0 (Ks _ q1)).1 x hx (by rw[e])⟩
   exact h.m.app a v d ha
  ·obtain⟨c1,c2,c3⟩:=h.m.chan hC
   refine⟨c1,c2,fun a x hx=>?_⟩
   obtain⟨v,d⟩:=x
   rcases cm (by rw[fF]at hx;exact hx)with⟨hl,_⟩|⟨_,hx⟩
   ·exact(h.s.qT 0 _ h0 (Ks _ (KF a v hl).1)).2.2.1 hC
   exact c3 a _ hx
  ·rw[fF]
   unfold gn
   cases el:LB a with
   |none=>exact e
   |some u=>exact absurd rfl ((h.s.qT 0 _ h0 (Ks _ (KF a u el).1)).2.1 a _ e)
  rcases cm (by rw[fF]at e;exact e)with⟨hl,_⟩|⟨_,e⟩
  ·obtain⟨a',v',f1,f2⟩:=(h.m.keep b hb).ro
   exact absurd (f2.trans e2.symm) ((h.s.qT 0 _ h0 (Ks _ (KF a v hl).1)).2.1 a' _ f1)
  exact(h.m.keep b hb).all a v d e e2
 ·-- NM onces
  refine⟨fun k hk=>?_,fun i k r hi hm=>h.k.CE i k r (by rw[<-bq];exact hi) (by rw[<-lu];exact hm),fun i k hi hr=>?_,fun i k hi hp=>?_,fun a v k hv=>?_,fun a v k hv hd=>?_,fun i a v hi hv=>?_,fun a v k hv=>?_⟩
  ·have:(G.eC E QB LB).cnt k=G.cnt k:=by
    funext r
    exact bI (φ:=fun l=>l.at k r) (by rfl)
   rw[this];exact h.k.mu k hk
  ·rw[lu];exact h.k.run i k (by rw[<-bq];exact hi) (by rw[<-dX];exact hr)
  ·rcases Db i k hp with x|⟨rfl,rfl⟩
   ·exact h.k.aP i k (by rw[<-bq];exact hi) x
   exact .inr ⟨Nat.le_add_right _ _,.inl rfl⟩
  ·rcases cm (by rw[fF]at hv;exact hv)with⟨_,e⟩|⟨_,hv⟩
   ·cases e
   obtain⟨p1,p2,p3⟩:=h.k.bM a v k hv
   refine⟨p1,p2,p3.imp (fun⟨j,q1,q2,q3⟩=>⟨j,by rw[bq];exact q1,by rw[dX];exact q2,?_⟩) fun⟨q1,q2⟩=>⟨fun j hj=>by rw[dX];exact q1 j (by rw[<-bq];exact hj),q2⟩⟩
   rw[tj j fun e=>by subst e;rw[QE]at q2;cases q2];exact q3
  ·obtain⟨v',dG⟩:=h.k.qU a v k hv hd
   exact⟨v',zU a _ dG⟩
  ·rw[bq]at hi
   by_cases e:i=0
   ·subst e
    rw[t0]at hv
    rcases JI hv with hl|⟨hl,hv⟩
    ·exact⟨.dq (E.K+G.n),by rw[fF];unfold gn;rw[hl],.inr (.inl ⟨_,rfl,QH⟩)⟩
    obtain⟨d,d1,d2⟩:=h.k.kn 0 a v hi hv
    exact⟨d,zU a _ d1,d2.imp id (.imp (fun⟨k,k1,k2⟩=>⟨k,k1,LD 0 k k2⟩) fun⟨k,k1,k2⟩=>⟨k,k1,by rw[dX];exact k2⟩)⟩
   rw[tj i e]at hv ⊢
   obtain⟨d,d1,d2⟩:=h.k.kn i a v hi hv
   exact⟨d,zU a _ d1,d2⟩
  rcases hv with hv|hv
  ·rcases cm (by rw[fF]at hv;exact hv)with⟨_,e⟩|⟨_,hv⟩
   ·cases e;exact .inr QH
   exact(h.k.mT a v k (.inl hv)).imp id (LD 0 k)
  rcases cm (by rw[fF]at hv;exact hv)with⟨_,e⟩|⟨_,hv⟩
  ·cases e
  exact(h.k.mT a v k (.inr hv)).imp id (LD 0 k)
 ·-- NM rT
  refine⟨fun hC j hj=>?_,fun j v hj hv=>?_,fun j hj hv=>?_,h.j.cl,h.j.CO,fun r=>?_,fun j jj hj ov=>?_,h.j.EL,fun hC hc j hj=>?_,h.j.any,fun hC hg=>?_,fun j hj hm=>?_,?_,fun j hj hs=>?_⟩
  ·rw[bP];exact h.j.Iw hC j (by rw[<-bq];exact hj)
  ·rw[cx];exact h.j.EV j v (by rw[<-bq];exact hj) (by rw[<-bP];exact hv)
  ·rw[CA,lu,cx];exact h.j.Kv j (by rw[<-bq];exact hj) (by rw[<-bP];exact hv)
  ·have:=h.j.cnt r
   show G.cv r+_=dL E.rs r G.pos
   rw[<-this]
   congr 1
   exact bI (φ:=fun l=>l.holds E.rs r) (by rfl)
  ·exact h.j.rT j jj (by rw[<-bq];exact hj) (by rw[<-CA];exact ov)
  ·rw[bq,cx];exact h.j.stay hC hc j hj
  ·rw[cx]at hg;exact h.j.qw hC hg
  ·rw[cx];exact h.j.NN j (by rw[<-bq];exact hj) (by rw[<-lu];exact hm)
  ·rw[qv];exact h.j.me
  exact h.j.sc j (by rw[<-bq];exact hj) (by rw[<-gQ];exact hs)
 ·-- NM trace
  refine⟨h.t.ti.change (fun g l hw=>?_) (fun g l hr=>?_) (fun g l ha=>?_) (fun g l hs=>.inl hs),fun j hj=>by rw[fD];exact h.t.deaf j (by rw[<-bq];exact hj),h.t.quiet,?_⟩
  ·obtain⟨hl,hw⟩:=hw
   rw[bq]at hl
   left
   refine⟨hl,?_⟩
   cases l with
   |cell a=>
    rcases hw with hw|⟨v,k,hv,hw⟩|⟨v,j,hv,hw⟩
    ·exact .inl (aN g _ hw).1
    ·rcases cm (by rw[fF]at hv;exact hv)with⟨_,e⟩|⟨_,hv⟩
     ·cases e
     exact .inr (.inl ⟨v,k,hv,hw.imp (fun x=>by rw[<-dX];exact x) fun x j hj=>by rw[<-dX];exact x j (by rw[bq];exact hj)⟩)
    rcases cm (by rw[fF]at hv;exact hv)with⟨_,e⟩|⟨_,hv⟩
    ·cases e
    exact .inr (.inr ⟨v,j,hv,hw⟩)
   |obj r=>exact(aN g _ hw).1
   |_=>exact hw.elim
  ·obtain⟨hl,hr⟩:=hr
   rw[bq]at hl
   cases l with
   |cell a=>
    obtain⟨v,hv|⟨k,hv,hp⟩⟩:=hr
    ·rcases cm (by rw[fF]at hv;exact hv)with⟨_,e⟩|⟨_,hv⟩
     ·cases e
     exact .inl ⟨hl,v,.inl hv⟩
    rcases cm (by rw[fF]at hv;exact hv)with⟨hlb,e⟩|⟨_,hv⟩
    ·cases e
     right
     have hg:g=0:=(Db g _ hp).elim (Tx g hl) And.left
     subst hg
     intro i b hb rS _
     exact h.t.ti.W 0 (.cell a) i b ⟨h0,.inl (Ks _ (KF a v hlb).1)⟩ hb rS
    left
    refine⟨hl,v,.inr ⟨k,hv,?_⟩⟩
    rcases Db g k hp with x|⟨rfl,rfl⟩
    ·exact x
    exact(h.k.mT a v _ (.inl hv)).elim (fun x=>absurd x (by omega)) id
   |_=>exact hr.elim
  ·obtain⟨hl,ha⟩:=ha
   rw[bq]at hl
   left
   refine⟨hl,?_⟩
   cases l with
   |cell a=>
    rcases ha with ha|⟨v,k,hv,hp⟩
    ·exact .inl ha
    rcases cm (by rw[fF]at hv;exact hv)with⟨_,e⟩|⟨_,hv⟩
    ·cases e
    refine .inr ⟨v,k,hv,?_⟩
    rcases Db g k hp with x|⟨rfl,rfl⟩
    ·exact x
    exact(h.k.mT a v _ (.inr hv)).elim (fun x=>absurd x (by omega)) id
   |obj r=>exact ha
   |_=>exact ha.elim
  have T:=h.t.tell
  refine⟨T.known,T.over,T.norel,fun g hg=>?_,fun k hk hd=>?_,fun hj g r hg hr=>?_⟩
  ·rw[rQ,bq,cx];exact T.rel g hg
  ·obtain⟨p,a1,a2,a3,a4⟩:=T.dq k hk hd
   refine⟨p,a1,a2,fun i op a ad v e1 e2 e3 e4=>a3 i op a ad v e1 e2 e3 ?_,fun i hi hp=>?_⟩
   ·rcases e4 with⟨e4,e5⟩|⟨e4,e5⟩
    ·rcases cm (by rw[fF]at e4;exact e4)with⟨_,e⟩|⟨_,e4⟩
     ·cases e;omega
     exact .inl ⟨e4,e5⟩
    rcases cm (by rw[fF]at e4;exact e4)with⟨_,e⟩|⟨_,e4⟩
    ·cases e
    exact .inr ⟨e4,e5⟩
   rcases Db i k hp with x|⟨_,x⟩
   ·exact a4 i (by rw[<-bq];exact hi) x
   omega
  rw[cx]at hj;rw[rQ]at hr;exact T.join hj g r hg hr
 have eφ:((G.th 0).rX QB LB (E.K+G.n)).φ E.K=(G.th 0).φ E.K:=by
  have: ∀k,((G.th 0).rX QB LB (E.K+G.n)).wt k=(G.th 0).wt k:=fun k=>by
   simp[Lo.wt,Lo.rX,ic]
  show(if(G.th 0).af=true then 1+2*(G.th 0).busy+(G.th 0).ba+(match(G.th 0).gr with|.out=>4|.y8 _=>3|.waits=>2|.cK=>1|_=>0)+sumTo E.K fun k=>64*((G.th 0).rX QB LB (E.K+G.n)).wt k else 0)=_
  simp only[this]
  rfl
 have e1:(sumTo G.n fun g=>((G.eC E QB LB).th g).φ E.K)=sumTo G.n fun g=>(G.th g).φ E.K:=bI (φ:=fun l=>l.φ E.K) eφ
 have e3: ∀k',(sumTo G.n fun g=>((G.eC E QB LB).th g).bh k' (G.wd k'))=sumTo G.n fun g=>(G.th g).bh k' (G.wd k'):=fun k'=>bI (φ:=fun l=>l.bh k' (G.wd k')) (by rfl)
 have e4:((G.eC E QB LB).th 0).aO G.wn=(G.th 0).aO G.wn:=aW (fun l=>l.aO G.wn) (by rfl) 0
 show(sumTo G.n fun g=>((G.eC E QB LB).th g).φ E.K)+sumTo E.K (fun k=>320*G.sm k+sumTo G.n fun i=>((G.eC E QB LB).th i).bh k (G.wd k))+8192*G.left+(E.nj-G.pos)+(!G.cl).toNat+((G.eC E QB LB).th 0).aO G.wn=_
 simp only[e1,e3,e4]
 rfl
theorem GI.M5(h:GI E G w t){i j r:Nat}{a:Addr}{v:Value}(v':Value)(fn:FuncId)(pos:String)(hi:(G.th i).af=true)(aJ:(G.th i).rel=none)(mV:(G.th i).bZ=some j)(T5:E.rs j=some r)
  (ha:G.app a=some (v,.out j)) (more:E.App (b7 G.app a (v',.out j)) G.dn (upd G.cv r (G.cv r+1))):
  ∃G',oe E i G G' w (w.setCell a v') (t++MemOp.ofEvents i fn pos #[⟨.cell a,true,false⟩]) {G.th i with bZ:=none}/\Calm E G G'/\G'.app=b7 G.app a (v',.out j)/\G'.dn=G.dn/\G'.cv=upd G.cv r (G.cv r+1):=by
 obtain⟨Kp,XB,Oe⟩:=h.m.app a _ _ ha
 have ll:=(h.a.db i hi).1
 have bq: ∀g,(upd G.th i {G.th i with bZ:=none} g).af=(G.th g).af:=fun g=>aW Lo.af (by rfl) g
 have aN: ∀g,(upd G.th i {G.th i with bZ:=none} g).ai=(G.th g).ai:=fun g=>aW Lo.ai (by rfl) g
 have dR: ∀g,(upd G.th i {G.th i with bZ:=none} g).aP=(G.th g).aP:=fun g=>aW Lo.aP (by rfl) g
 have lu: ∀g,(upd G.th i {G.th i with bZ:=none} g).mr=(G.th g).mr:=fun g=>aW Lo.mr (by rfl) g
 have dX: ∀g,(upd G.th i {G.th i with bZ:=none} g).run=(G.th g).run:=fun g=>aW Lo.run (by rfl) g
 have cx: ∀g,(upd G.th i {G.th i with bZ:=none} g).gr=(G.th g).gr:=fun g=>aW Lo.gr (by rfl) g
 have rQ: ∀g,(upd G.th i {G.th i with bZ:=none} g).rel=(G.th g).rel:=fun g=>aW Lo.rel (by rfl) g
 have yX: ∀g,(upd G.th i {G.th i with bZ:=none} g).kn=(G.th g).kn:=fun g=>aW Lo.kn (by rfl) g
 have bP: ∀g,(upd G.th i {G.th i with bZ:=none} g).ch=(G.th g).ch:=fun g=>aW Lo.ch (by rfl) g
 have CA: ∀g jj,(upd G.th i {G.th i with bZ:=none} g).bZ=some jj->(G.th g).bZ=some jj:=fun g jj hg=>by
  by_cases e:g=i
  ·subst e;rw[upd_same]at hg;cases hg
  rw[upd_ne _ _ e]at hg;exact hg
 have hold: ∀b v1 d,b7 G.app a (v',.out j) b=some (v1,d)->∃v2,G.app b=some (v2,d):=fun b v1 d hb=>by
  rcases gI hb with⟨rfl,e⟩|⟨_,e⟩
  ·cases e;exact⟨v,ha⟩
  exact⟨v1,e⟩
 have cb: ∀b v1 d,G.app b=some (v1,d)->d≠ .out j->b7 G.app a (v',.out j) b=some (v1,d):=fun b v1 d hb hd=>by
  unfold b7
  rw[if_neg fun e=>?_]
  ·exact hb
  subst e;rw[ha]at hb;cases hb;exact hd rfl
 have dI: ∀op∈MemOp.ofEvents i fn pos #[⟨.cell a,true,false⟩],op.act≠ .mark .disable/\op.act≠ .mark .enable:=fun op aF=>by
  rw[ofEvents_one]at aF;simp at aF;subst aF;exact⟨by simp[MemAct.ofEvent],by simp[MemAct.ofEvent]⟩
 have Od:=(h.j.rT i j hi mV).2
 have ht:AW E G w.heap.size (t++MemOp.ofEvents i fn pos #[⟨.cell a,true,false⟩]):=by
  refine⟨h.t.ti.wo rfl ⟨.inl ⟨hi,.inr (.inr ⟨v,j,ha,.inl Od⟩)⟩,fun g hg=>⟨fun hw=>?_,fun _ hw=>?_,fun _ hw=>?_,(fun e=>by cases e)⟩⟩ (bT Kp),fun g hg=>?_,fun g hg=>?_,?_⟩
  ·obtain⟨hl,hw⟩:=hw
   rcases hw with hw|⟨v',k',hv,hw⟩|⟨v',j',hv,hw⟩
   ·exact h.gY ha g hl hw
   ·rw[ha]at hv;cases hv
   rw[ha]at hv;cases hv
   rw[Od]at hw
   rcases hw with hw|hw
   ·cases hw;exact hg rfl
   cases hw
  ·obtain⟨_,v',hv|⟨k',hv,_⟩⟩:=hw<;>rw[ha]at hv<;>cases hv
  ·obtain⟨_,⟨x,hx,e⟩|⟨v',k',hv,_⟩⟩:=hw
   ·exact Oe x hx e
   rw[ha]at hv;cases hv
  ·rw[Go.ConcN.Deaf_still _ _ _ dI];exact h.t.deaf g hg
  ·rw[Go.ConcN.Deaf_still _ _ _ dI];exact h.t.quiet g hg
  refine h.t.tell.app cn (h.ours hi) (fun op aF=>?_) (fun op aF b hb hw=>?_) (fun op aF b hb hk ad v' k' el hv=>?_) (fun _=>.inl aJ)
  ·rw[ofEvents_one]at aF;simp at aF;subst aF;simp[MemAct.ofEvent]
  ·rw[ofEvents_one]at aF;simp at aF;subst aF
   simp[MemAct.ofEvent,MemAct.touch?]at hb;subst hb
   refine⟨fun k' cC e=>?_,fun ad v' k' e hv=>?_⟩
   ·simp only[Loc.cell.injEq]at e
    exact Oe (.done k') cC e
   simp only[Loc.cell.injEq]at e;subst e;rw[ha]at hv;cases hv
  rw[ofEvents_one]at aF;simp at aF;subst aF
  simp[MemAct.ofEvent,MemAct.touch?]at hb;subst hb
  simp only[Loc.cell.injEq]at el
  subst el;rw[ha]at hv;cases hv
 refine⟨{G with th:=upd G.th i {G.th i with bZ:=none},app:=b7 G.app a (v',.out j),cv:=upd G.cv r (G.cv r+1)},
  ⟨⟨h.a.tr rfl rfl bq,?_,?_,?_,h.g.tr rfl rfl rfl rfl rfl rfl fun g=>⟨bq g,aW Lo.wk (by rfl) g,cx g⟩,?_,more,?_⟩,upd_same _ _ _,fun g hg=>upd_ne _ _ hg,rfl,fun g hg fP=>⟨by rw[aD];exact Nat.le_refl _,fun b hb=>cS w a v' fun e=>h.gY ha g hg (e▸hb)⟩,?_⟩,
  Calm.of rfl rfl rfl rfl rfl rfl,rfl,rfl,rfl⟩
 ·rw[aD]
  refine h.s.tr (Nat.le_refl _) (fun b x hx=>?_) fun g hg=>⟨?_,aN g⟩
  ·obtain⟨v2,dF⟩:=hold b x.1 x.2 hx;exact⟨_,dF⟩
  have hg:(upd G.th i {G.th i with bZ:=none} g).af=true:=hg
  rw[bq]at hg;exact hg
 ·refine⟨fun x hx=>?_,fun b v1 d hb=>?_,h.m.inj,fun hC=>?_,h.m.tape,h.m.output,h.m.os,fun b hb=>(h.m.keep b hb).at ha (by intro e;cases e) rfl⟩
  ·rw[show(Gh.val _ x)=G.val x by cases x<;>rfl,nm,j8 Kp v' (fun e=>Oe x hx e.symm)]
   exact h.m.sync x hx
  ·rw[nm]
   rcases gI hb with⟨rfl,e⟩|⟨cb,e⟩
   ·cases e;exact⟨sK Kp v',XB,Oe⟩
   rw[j8 Kp v' cb];exact h.m.app b v1 d e
  obtain⟨⟨s,r,c1⟩,c2,c3⟩:=h.m.chan hC
  refine⟨⟨s,r,?_⟩,c2,fun b x hx=>?_⟩
  ·rw[cS w a v' (c3 a _ ha)];exact c1
  obtain⟨v2,dF⟩:=hold b x.1 x.2 hx;exact c3 b _ dF
 ·refine⟨fun k' hk=>?_,fun g k' r hg hm=>h.k.CE g k' r (by rw[<-bq];exact hg) (by rw[<-lu];exact hm),fun g k' hg hr=>?_,fun g k' hg hp=>h.k.aP g k' (by rw[<-bq];exact hg) (by rw[<-dR];exact hp),fun b v1 k' hb=>?_,fun b v1 k' hb ln=>?_,fun g b v1 hg ig=>?_,fun b v1 k' hb=>by
   rw[show(Gh.th _ 0).aP=_ from dR 0]
   rcases hb with hb|hb
   ·obtain⟨v2,dF⟩:=hold b v1 _ hb;exact h.k.mT b v2 k' (.inl dF)
   obtain⟨v2,dF⟩:=hold b v1 _ hb;exact h.k.mT b v2 k' (.inr dF)⟩
  ·have:Gh.cnt {G with th:=upd G.th i {G.th i with bZ:=none},app:=b7 G.app a (v',.out j),cv:=upd G.cv r (G.cv r+1)} k'=G.cnt k':=by
    funext r
    exact bI (φ:=fun l=>l.at k' r) (by rfl)
   rw[this];exact h.k.mu k' hk
  ·rw[show(Gh.th _ g).mr=_ from lu g]
   exact h.k.run g k' (by rw[<-bq];exact hg) (by rw[<-dX];exact hr)
  ·rcases gI hb with⟨rfl,e⟩|⟨_,e⟩
   ·cases e
   obtain⟨p1,p2,p3⟩:=h.k.bM b v1 k' e
   exact⟨p1,p2,p3.imp (fun⟨g,q1,q2,q3⟩=>⟨g,by rw[show(Gh.th _ g).af=_ from bq g];exact q1,by rw[show(Gh.th _ g).run=_ from dX g];exact q2,by rw[show(Gh.th _ g).kn=_ from yX g];exact q3⟩) fun⟨q1,q2⟩=>⟨fun g hg=>by rw[show(Gh.th _ g).run=_ from dX g];exact q1 g (by rw[<-bq];exact hg),q2⟩⟩
  ·obtain⟨v2,dF⟩:=h.k.qU b v1 k' hb ln
   exact⟨v2,cb _ _ _ dF fun e=>by cases e⟩
  obtain⟨d,d1,d2⟩:=h.k.kn g b v1 (by rw[<-bq];exact hg) (by rw[<-yX];exact ig)
  refine⟨d,cb _ _ _ d1 fun e=>?_,by rw[show(Gh.th _ g).aP=_ from dR g,show(Gh.th _ g).run=_ from dX g];exact d2⟩
  subst e
  rcases d2 with x|⟨_,x,_⟩|⟨_,x,_⟩<;>cases x
 ·refine⟨fun hC g hg=>?_,fun g v hg hv=>?_,fun g hg hv=>?_,h.j.cl,h.j.CO,fun r'=>?_,fun g jj hg ov=>?_,h.j.EL,fun hC hc g hg=>?_,h.j.any,fun hC=>?_,fun g hg hm=>?_,?_,fun g hg hs=>?_⟩
  ·rw[show(Gh.th _ g).ch=_ from bP g];exact h.j.Iw hC g (by rw[<-bq];exact hg)
  ·rw[show(Gh.th _ g).gr=_ from cx g];exact h.j.EV g v (by rw[<-bq];exact hg) (by rw[<-bP];exact hv)
  ·obtain⟨c1,c2,c3,c4⟩:=h.j.Kv g (by rw[<-bq];exact hg) (by rw[<-bP];exact hv)
   exact⟨c1,fun jj ov=>c2 jj (CA g jj ov),by rw[show(Gh.th _ g).mr=_ from lu g];exact c3,by rw[show(Gh.th _ g).gr=_ from cx g];exact c4⟩
  ·have hc:=h.j.cnt r'
   have s1:=fH ll G.th {G.th i with bZ:=none} (fun l=>l.holds E.rs r')
   have e2:({G.th i with bZ:=none}:Lo).holds E.rs r'=0:=by unfold Lo.holds;rfl
   show upd G.cv r (G.cv r+1) r'+(sumTo G.n fun g=>(upd G.th i {G.th i with bZ:=none} g).holds E.rs r')=dL E.rs r' G.pos
   by_cases e:r'=r
   ·subst e
    have e1:(G.th i).holds E.rs r'=1:=by unfold Lo.holds;rw[mV];simp only;rw[if_pos ⟨hi,T5⟩]
    rw[upd_same];omega
   have e1:(G.th i).holds E.rs r'=0:=by
    unfold Lo.holds;rw[mV];simp only
    rw[if_neg]
    rintro⟨_,x⟩;rw[T5]at x;cases x;exact e rfl
   rw[upd_ne _ _ e];omega
  ·exact h.j.rT g jj (by rw[<-bq];exact hg) (CA g jj ov)
  ·rw[show(Gh.th _ g).af=_ from bq g,show(Gh.th _ g).gr=_ from cx g];exact h.j.stay hC hc g hg
  ·rw[show(Gh.th _ 0).gr=_ from cx 0];exact h.j.qw hC
  ·rw[show(Gh.th _ g).gr=_ from cx g];exact h.j.NN g (by rw[<-bq];exact hg) (by rw[<-lu];exact hm)
  ·rw[show(Gh.th _ 0).me=(G.th 0).me from aW (i:=i) (l:={G.th i with bZ:=none}) Lo.me (by rfl) 0];exact h.j.me
  exact h.j.sc g (by rw[<-bq];exact hg) (by rw[<-aW (i:=i) (l:={G.th i with bZ:=none}) Lo.sc (by rfl) g];exact hs)
 ·rw[aD]
  refine ht.less rfl bq (fun g=>aW Lo.deaf (by rfl) g) (fun g b hg hw=>?_) (fun g b hg hb=>by rw[<-aN];exact hb) (fun g b hg hr=>?_) (fun g b hg hA=>?_) ?_
  ·rcases hw with hw|⟨v1,k',hv,hw⟩|⟨v1,j',hv,hw⟩
   ·exact .inl (by rw[<-aN];exact hw)
   ·obtain⟨v2,dF⟩:=hold _ _ _ hv
    refine .inr (.inl ⟨v2,k',dF,hw.imp (fun x=>by rw[<-dX];exact x) fun x j hj=>by rw[<-dX];exact x j (by rw[show(Gh.th _ j).af=_ from bq j];exact hj)⟩)
   obtain⟨v2,dF⟩:=hold _ _ _ hv
   exact .inr (.inr ⟨v2,j',dF,hw⟩)
  ·obtain⟨v1,hv|⟨k',hv,hp⟩⟩:=hr
   ·obtain⟨v2,dF⟩:=hold _ _ _ hv;exact⟨v2,.inl dF⟩
   obtain⟨v2,dF⟩:=hold _ _ _ hv;exact⟨v2,.inr ⟨k',dF,by rw[<-dR];exact hp⟩⟩
  ·rcases hA with hA|⟨v1,k',hv,hp⟩
   ·exact .inl hA
   obtain⟨v2,dF⟩:=hold _ _ _ hv;exact .inr ⟨v2,k',dF,by rw[<-dR];exact hp⟩
  exact ht.tell.XW rfl (fun ad v1 k'=>⟨fun x=>hold _ _ _ x,fun x=>hold _ _ _ x⟩) rfl fun g=>⟨bq g,dR g,rQ g,cx g⟩
 have e1:(sumTo G.n fun g=>(upd G.th i {G.th i with bZ:=none} g).φ E.K)=sumTo G.n fun g=>(G.th g).φ E.K:=bI (φ:=fun l=>l.φ E.K) (by rfl)
 have e3: ∀k',(sumTo G.n fun g=>(upd G.th i {G.th i with bZ:=none} g).bh k' (G.wd k'))=sumTo G.n fun g=>(G.th g).bh k' (G.wd k'):=fun k'=>bI (φ:=fun l=>l.bh k' (G.wd k')) (by rfl)
 have e4:(upd G.th i {G.th i with bZ:=none} 0).aO G.wn=(G.th 0).aO G.wn:=aW (fun l=>l.aO G.wn) (by rfl) 0
 unfold Gh.Φ
 simp only[e1,e3,e4]
 exact Nat.le_refl _
theorem GI.Pj(h:GI E G w t){i k:Nat}{a:Addr}{v:Value}(v':Value)(fn:FuncId)(pos:String)(hi:(G.th i).af=true)(aJ:(G.th i).rel=none)(aS:(G.th i).run=some k)(ha:G.app a=some (v,.bM k))
  (more:E.App (b7 G.app a (v',.bM k)) G.dn G.cv):
  ∃G',oe E i G G' w (w.setCell a v') (t++MemOp.ofEvents i fn pos (nT a)) {G.th i with kn:=cX (G.th i).kn a v'}/\Calm E G G'/\G'.app=b7 G.app a (v',.bM k)/\G'.dn=G.dn:=by
 obtain⟨Kp,XB,Oe⟩:=h.m.app a _ _ ha
 have dI: ∀op∈MemOp.ofEvents i fn pos (nT a),op.act≠ .mark .disable/\op.act≠ .mark .enable:=fun op aF=>by
  obtain⟨x,hx,rfl⟩:=cg aF
  rcases iU hx with rfl|rfl<;>exact⟨by simp[MemAct.ofEvent],by simp[MemAct.ofEvent]⟩
 refine h.ye v' fn pos hi aJ aS ha ⟨h.t.ti.step cn (fun op aF b hb=>?_) (Nat.le_refl _) fun op aF=>?_,fun g hg=>?_,fun g hg=>?_,?_⟩ more
 ·have IC:b.loc= .cell a:=by
   obtain⟨x,hx,rfl⟩:=cg aF
   rcases iU hx with rfl|rfl<;>(simp[MemAct.ofEvent,MemAct.touch?]at hb;subst hb;rfl)
  have ES:b.kind= .atomic:=by
   obtain⟨x,hx,rfl⟩:=cg aF
   rcases iU hx with rfl|rfl<;>(simp[MemAct.ofEvent,MemAct.touch?]at hb;subst hb;rfl)
  refine⟨.inl ?_,fun g hg=>⟨fun hw=>?_,fun _ hw=>?_,fun e=>(by rw[ES]at e;cases e),fun e=>(by rw[ES]at e;cases e)⟩⟩
  ·rw[IC];exact⟨hi,.inr (.inl ⟨v,k,ha,.inl aS⟩)⟩
  ·rw[IC]at hw
   obtain⟨hl,hw⟩:=hw
   rcases hw with hw|⟨v',k',hv,hw⟩|⟨v',j',hv,hw⟩
   ·exact h.gY ha g hl hw
   ·rw[ha]at hv;cases hv
    rcases hw with hw|hw
    ·exact hg (h.IK hi hl (h.k.run i k hi aS).1 hw)
    exact hw i hi aS
   rw[ha]at hv;cases hv
  rw[IC]at hw
  obtain⟨_,v',hv|⟨k',hv,_⟩⟩:=hw<;>rw[ha]at hv<;>cases hv
 ·obtain⟨x,hx,rfl⟩:=cg aF
  rcases iU hx with rfl|rfl<;>exact bT Kp
 ·rw[Go.ConcN.Deaf_still _ _ _ dI];exact h.t.deaf g hg
 ·rw[Go.ConcN.Deaf_still _ _ _ dI];exact h.t.quiet g hg
 refine h.t.tell.app cn (h.ours hi) (fun op aF=>?_) (fun op aF b hb hw=>?_) (fun op aF b hb hk ad v' k' el hv=>?_) (fun _=>.inl aJ)
 ·obtain⟨x,hx,rfl⟩:=cg aF
  rcases iU hx with rfl|rfl<;>simp[MemAct.ofEvent]
 ·have rS:b.loc= .cell a:=by
   obtain⟨x,hx,rfl⟩:=cg aF
   rcases iU hx with rfl|rfl<;>(simp[MemAct.ofEvent,MemAct.touch?]at hb;subst hb;rfl)
  refine⟨fun k' cC e=>?_,fun ad v' k' e hv=>?_⟩
  ·rw[rS]at e;simp only[Loc.cell.injEq]at e
   exact Oe (.done k') cC e
  rw[rS]at e;simp only[Loc.cell.injEq]at e;subst e;rw[ha]at hv;cases hv
 obtain⟨x,hx,rfl⟩:=cg aF
 exfalso
 rcases iU hx with rfl|rfl<;>(simp[MemAct.ofEvent,MemAct.touch?]at hb;subst hb;cases hk)
end Go.Co

namespace Go.Co
open Go Go.Conc
open Go.ConcN (upd upd_ne upd_same)
variable{E:Geo}{N i:Nat}{l:Lo}{w:World}
def Hr(G:Gh)(i:Nat)(kn:Addr->Option Value):Prop:=∀a v,kn a=some v->(G.th i).kn a=some v\/∃d,G.app a=some (v,d)/\(d= .ro\/(∃k,d= .dq k/\(G.th i).aP k=true)\/∃k,d= .bM k/\(G.th i).run=some k)
theorem GI.WE{G:Gh}{t:Trace}(h:GI E G w t)(hi:(G.th i).af=true){kn:Addr->Option Value}(hk:Hr G i kn)(hm: ∀a v,(G.th i).kn a=some v->kn a=some v):
  ∃G',oe E i G G' w w t {G.th i with kn:=kn}/\Calm E G G':=by
 have hh:=h.XY (l':={G.th i with kn:=kn}) (w':=w) (t':=t) hi ⟨rfl,rfl,rfl,rfl,rfl,rfl,rfl,rfl,rfl,rfl,rfl⟩ (fun k hk=>.inl hk) (fun k hk=>hk) hk hm (.inl rfl) h.m rfl
  (h.t.tr ⟨rfl,rfl,rfl,rfl,fun j=>⟨aW Lo.af (by rfl) j,aW Lo.ai (by rfl) j,aW Lo.run (by rfl) j,aW Lo.aP (by rfl) j,aW Lo.rel (by rfl) j,by rw[aW (i:=i) (l:={G.th i with kn:=kn}) Lo.gr (by rfl) j],by rw[aW (i:=i) (l:={G.th i with kn:=kn}) Lo.gr (by rfl) j]⟩⟩ (fun j=>aW Lo.deaf (by rfl) j) (Nat.le_refl _))
 exact⟨_,⟨hh.1,upd_same _ _ _,fun j hj=>upd_ne _ _ hj,rfl,fun j _ _=>View.refl _ _,hh.2⟩,Calm.of rfl rfl rfl rfl rfl rfl⟩
theorem Tr.RF{g g':Goroutine}(hg:Bb g)(P8:g'.status= .running)(bP:l.ch= .no)(cP:l.af=true)(hs: ∀ae,stepG E.P (i==0) g ae= .go g' ae #[])
  (h: ∀G ae t,GI E G ae t->(G.th i).af=true->G.th i=l->View l.ai w ae->∃kn,Hr G i kn/\(∀a v,l.kn a=some v->kn a=some v)/\Tr E N i {l with kn:=kn} g' ae):Tr E N i l g w:=by
 refine Tr.stop hg bP fun G ae t fP au ax hv=>?_
 obtain⟨kn,h1,h2,h3⟩:=h G ae t fP au ax hv
 refine⟨g',ae,#[],{l with kn:=kn},false,hs ae,P8,fun fn pos=>?_,by simpa using h3⟩
 obtain⟨G',d,c⟩:=fP.WE au h1 (by rw[ax];exact h2)
 rw[ax]at d
 exact⟨G',by simpa [MemOp.ofEvents]using d,.inr c,cP,fun e=>by cases e⟩
section
variable{P:Program}{b:Frame}{n:Nat}{env:Nv}{ds:List Deferred}{k:List Item}{cs:List Frame}{ops:Array Oper}{j:Nat}{o:Oper}{f:FuncId}{iQ:Array TypeId}
theorem Tk.RF(W:Wk E l b)(cP:l.af=true){x y:Code}
  (h: ∀G ae t,GI E G ae t->(G.th i).af=true->G.th i=l->View l.ai w ae->∃kn,Hr G i kn/\(∀a v,l.kn a=some v->kn a=some v)/\Tk E N i {l with kn:=kn} ae b n env ds (.code x:: .code y::k) cs):
  Tk E N i l w b n env ds (.code (.seq x y)::k) cs:=fun a ha dm=>Tr.RF (aX _ _) rfl W.ch cP (fun _=>stepG_seq) fun G ae t hg au ax hv=>
 let⟨kn,h1,h2,h3⟩:=h G ae t hg au ax hv
 ⟨kn,h1,h2,h3 a ha dm⟩
theorem FP(bk o j:Nat):(⟨bk,o,none⟩:Addr).add j=⟨bk,o+j,none⟩:=by unfold Addr.add;split<;>simp_all
theorem tz(bk o:Nat): ∀ (m i:Nat) (acc:Array Value) (w:World) (es:Array Event),(∀j,j<m->(w.cell? ⟨bk,o+(i+j),none⟩).isSome)->
  ∀ev∈(loadCellsFrom ⟨bk,o,none⟩ i m acc).events P w es,ev∈es\/∃j,j<m/\ev=⟨.cell ⟨bk,o+(i+j),none⟩,false,false⟩
 |0,_,_,_,_,_=>fun ev h=>.inl (by simpa [loadCellsFrom]using h)
 |m+1,i,acc,w,es,hc=>fun ev h=>by
  simp only[loadCellsFrom,Sem.events_bind]at h
  obtain⟨u,hu⟩:=Option.isSome_iff_exists.1 (hc 0 (by omega))
  simp only[Nat.add_zero]at hu
  have hu':w.cell? ((⟨bk,o,none⟩:Addr).add i)=some u:=by rw[FP];exact hu
  have hr:(load ((⟨bk,o,none⟩:Addr).add i)).run P w= .ok u w:=by simp[hu']
  rw[hr]at h
  have he:(load ((⟨bk,o,none⟩:Addr).add i)).events P w es=es.push ⟨.cell ⟨bk,o+i,none⟩,false,false⟩:=by
   simp[events_load,FP,hu];rfl
  rw[he]at h
  rcases tz bk o m (i+1) (acc.push u) w _ (fun j hj=>by have:=hc (j+1) (by omega);rwa [show o+(i+(j+1))=o+(i+1+j) by omega]at this) ev h with h|⟨j,hj,h⟩
  ·rcases Array.mem_push.1 h with h|rfl
   ·exact .inl h
   exact .inr ⟨0,by omega,rfl⟩
  exact .inr ⟨j+1,by omega,by rw[h,show o+(i+1+j)=o+(i+(j+1)) by omega]⟩
theorem yA{a:Act}{t:TypeId}{x:Operand}{bk off:Nat}{vs:List Value}{d:TypeDesc}(ho:o.op= .load t x)(hx:a.eval x= .pointer (some ⟨bk,off,none⟩))(hc:w.rangeAt bk off vs)(hu:P.underlying t=some d)(tW:d.isRow=true)(hi:(P.info? t).map (·.size)=some vs.length):
  (execOp a.eval o).run P w= .ok (.value (.agg vs.toArray)) w/\∀ev∈(execOp a.eval o).events P w #[],∃j,j<vs.length/\ev=⟨.cell ⟨bk,off+j,none⟩,false,false⟩:=by
 have r1:=run_loadVar_mid (P:=P) w bk off t vs d hc hu tW hi
 refine⟨by simp[execOp,ho,hx,Instr.loadAt,Instr.sureAddr,r1],fun ev gk=>?_⟩
 have key:(execOp a.eval o).events P w #[]=(loadVar t ⟨bk,off,none⟩).events P w #[]:=by
  simp[execOp,ho,hx,Instr.loadAt,Instr.sureAddr]
 rw[key]at gk
 obtain⟨inf,yY,e8⟩:=Option.map_eq_some_iff.1 hi
 have h1:=run_underlying hu w
 have ha:(isAgg t).run P w= .ok true w:=by
  unfold isAgg
  rw[Sem.run_bind,h1]
  cases d<;>simp_all
 have hae: ∀es,(isAgg t).events P w es=es:=fun es=>by
  unfold isAgg
  rw[Sem.events_bind,h1,events_underlying]
  cases d<;>simp_all
 have hs:(sizeOf t).run P w= .ok vs.length w:=by simp[sizeOf,typeInfo,yY,e8]
 have RG:(loadVar t ⟨bk,off,none⟩).events P w #[]=(loadCellsFrom ⟨bk,off,none⟩ 0 vs.length #[]).events P w #[]:=by
  simp only[loadVar,Sem.events_bind,ha,hae,Result.evThen_ok,if_true,hs,events_sizeOf,loadCells]
  cases(loadCellsFrom ⟨bk,off,none⟩ 0 vs.length #[]).run P w<;>rfl
 rw[RG]at gk
 rcases tz (P:=P) bk off vs.length 0 #[] w #[] (fun j hj=>by
  rw[Nat.zero_add,hc j vs[j] (List.getElem?_eq_getElem hj)];rfl) ev gk with h|⟨j,hj,h⟩
 ·simp at h
 exact⟨j,hj,by rw[h,Nat.zero_add]⟩
theorem Tk.Mh(W:Wk E l b)(aJ:l.rel=none){t:TypeId}{x:Operand}{bk off dd:Nat}{vs:List Value}{d:TypeDesc}{rest:List Nat}(ho:ops[j]?=some o)(hw:bj ops env o=some true)(eR:o.dst=some dd)(hd:Nat.blt dd n=true)(aF:o.op= .load t x)(hx:env.ev x=some (.pointer (some ⟨bk,off,none⟩)))
  (hu:E.P.underlying t=some d) (tW:d.isRow=true) (hi:(E.P.info? t).map (·.size)=some vs.length) (aN:l.ai bk) (hc:w.rangeAt bk off vs) (h:Tk E N i l w b n ((dd,.agg vs.toArray)::env) ds (.inRegion ops rest::k) cs):
  Tk E N i l w b n env ds (.inRegion ops (j::rest)::k) cs:=by
 refine Tk.Qi W aJ ho hw (by rw[eR];exact hd) fun ae hv=>⟨.agg vs.toArray,ae,fun a ha=>?_,Nat.le_refl _,fun _ _ _=>rfl,rfl,rfl,rfl,?_⟩
 ·have IB:ae.rangeAt bk off vs:=fun jj v hj=>by rw[(cE (a:=⟨bk,off+jj,none⟩) (hv.2 bk aN)).1];exact hc jj v hj
  obtain⟨r1,r2⟩:=yA (P:=E.P) aF (ha.ev hx) IB hu tW hi
  refine⟨r1,fun ev gk=>?_⟩
  obtain⟨jj,_,rfl⟩:=r2 ev gk
  exact .inl ⟨_,_,_,rfl,.inl aN⟩
 rw[Lo.gJ,eR]
 exact fun a ha dm=>(h a ha dm).view W.fin hv
theorem GI.Qg{G:Gh}(hi:(G.th i).af=true)(aJ:(G.th i).rel=none){fn:FuncId}{pos:String}: ∀ (es:List Event) {t:Trace},GI E G w t->(∀e∈es,∃a v d,e=⟨.cell a,false,false⟩/\G.app a=some (v,d)/\(d= .ro\/(∃k,d= .dq k/\(G.th i).aP k=true)\/(∃k,d= .bM k/\(G.th i).run=some k)\/∃j,d= .out j/\G.tk j=some i))->
  GI E G w (t++MemOp.ofEvents i fn pos es.toArray)
 | [],t,h,_=>by
  have:t++MemOp.ofEvents i fn pos [].toArray=t:=by simp[MemOp.ofEvents]
  rw[this];exact h
 |e::es,t,h,he=>by
  obtain⟨a,v,d,rfl,h1,h2⟩:=he e (by simp)
  have hr:GI E G w (t++MemOp.ofEvents i fn pos #[⟨.cell a,false,false⟩]):=⟨h.a,h.s,h.m,h.k,h.g,h.j,h.more,h.read fn pos hi aJ h1 h2⟩
  have:=GI.Qg (fn:=fn) (pos:=pos) hi aJ es hr fun e' KC=>he e' (by simp[KC])
  have e2:t++MemOp.ofEvents i fn pos ((⟨.cell a,false,false⟩:Event)::es).toArray=t++MemOp.ofEvents i fn pos #[⟨.cell a,false,false⟩]++MemOp.ofEvents i fn pos es.toArray:=by
   rw[ofEvents_eq,ofEvents_eq,ofEvents_eq]
   apply Array.toList_inj.1
   simp
  rw[e2];exact this
theorem Tk.SX(W:Wk E l b)(cP:l.af=true)(aJ:l.rel=none){t:TypeId}{x:Operand}{bk off dd:Nat}{d:TypeDesc}{rest:List Nat}(ho:ops[j]?=some o)(hw:bj ops env o=some true)(eR:o.dst=some dd)(hd:Nat.blt dd n=true)(aF:o.op= .load t x)(hx:env.ev x=some (.pointer (some ⟨bk,off,none⟩)))
  (hu:E.P.underlying t=some d) (tW:d.isRow=true)
  (h: ∀G ae u,GI E G ae u->(G.th i).af=true->G.th i=l->View l.ai w ae->∃vs:List Value,(E.P.info? t).map (·.size)=some vs.length/\
   (∀jj v,vs[jj]?=some v->∃d,G.app ⟨bk,off+jj,none⟩=some (v,d)/\(d= .ro\/(∃k,d= .dq k/\(G.th i).aP k=true)\/(∃k,d= .bM k/\(G.th i).run=some k)\/∃j,d= .out j/\G.tk j=some i))/\
   Tk E N i l ae b n ((dd,.agg vs.toArray)::env) ds (.inRegion ops rest::k) cs):Tk E N i l w b n env ds (.inRegion ops (j::rest)::k) cs:=by
 refine Tk.stop W ho (by rw[eR];exact hd) fun G ae u hg au ax hv=>?_
 obtain⟨vs,hi,hc,hk⟩:=h G ae u hg au ax hv
 have IB:ae.rangeAt bk off vs:=fun jj v hj=>by
  obtain⟨d,h1,_⟩:=hc jj v hj
  exact(hg.m.app _ _ _ h1).1
 have hex:=fun(a:Act) (ha:Has n env a)=>yA (P:=E.P) (w:=ae) aF (ha.ev hx) IB hu tW hi
 have aS: ∀a,Has n env a->a.defers=ds->stepG E.P (i==0) (Conc.G (b.at a (.inRegion ops (j::rest)::k)) cs) ae= .go (Conc.G (b.at (a.put o.dst (.agg vs.toArray)) (.inRegion ops rest::k)) cs) ae (listed E.P b.fn a o ae):=fun a ha dm=>stepG_value ho (ha.want hw) W.kind (hex a ha).1
 refine⟨.agg vs.toArray,ae,?_⟩
 by_cases cb: ∃a,Has n env a/\a.defers=ds
 ·obtain⟨a0,ha0,hd0⟩:=cb
  refine⟨listed E.P b.fn a0 o ae,l,false,fun a ha dm=>⟨?_,fun fn pos=>?_⟩,oE.same (by rw[eR];exact hk)⟩
  ·have e:listed E.P b.fn a o ae=listed E.P b.fn a0 o ae:=by
    unfold listed
    congr 1
    simp only[execOp,aF,ha.ev hx,ha0.ev hx]
   rw[<-e];exact aS a ha dm
  refine⟨G,⟨?_,ax,fun _ _=>rfl,rfl,fun _ _ _=>View.refl _ _,Nat.le_refl _⟩,.inr ⟨fun _ x=>x,rfl⟩,cP,fun e=>by cases e⟩
  have:=GI.Qg (fn:=fn) (pos:=pos) au (by rw[ax];exact aJ) (listed E.P b.fn a0 o ae).toList hg fun e he=>?_
  ·simpa using this
  obtain⟨jj,hj,rfl⟩:=(hex a0 ha0).2 e (mem_listed (by simpa using he))
  obtain⟨d,h1,h2⟩:=hc jj vs[jj] (List.getElem?_eq_getElem hj)
  exact⟨_,_,_,rfl,h1,h2⟩
 refine⟨#[],l,false,fun a ha dm=>absurd ⟨a,ha,dm⟩ cb,oE.same (by rw[eR];exact hk)⟩
theorem jT{t e:TypeId}{x y:Operand}{bk off len cap sz:Nat}{kk:IntKind}{m:Int}(ho:o.op= .indexAddr t x y)(hu:P.underlying t=some (.slice e))(hz:P.cellsOf e=sz)(T0:sz≠0)(hx:env.ev x=some (.slice (some ⟨bk,off,none⟩) len cap))(hy:env.ev y=some (.int kk m))(hm:0<=m/\m<len):
  bR P env o (.pointer (some ⟨bk,off+m.toNat*sz,none⟩)):=fun n a ha w=>by
 have hi: ∃i,P.info? e=some i:=by
  unfold Program.cellsOf at hz
  cases hi:P.info? e with
  |none=>simp[hi]at hz;omega
  |some i=>exact⟨i,rfl⟩
 obtain⟨inf,hi⟩:=hi
 have h1:=iK hi w
 rw[hz]at h1
 have Sc:(⟨bk,off,none⟩:Addr).add (m.toNat*sz)=⟨bk,off+m.toNat*sz,none⟩:=FP _ _ _
 constructor<;>simp[execOp,ho,ha.ev hx,ha.ev hy,Instr.indexAt,asIntOf,run_underlying hu,h1,hm,Sc,events_underlying,events_sizeOf]
theorem jx{f:FuncId}{first captured:Array Operand}{vs us:List Value}(ho:o.op= .makeFunc (.func f) first captured)(h1:eD env first.toList=some vs)(h2:eD env captured.toList=some us):bR P env o (.func (.func f) vs.toArray us.toArray):=fun n a ha w=>by
 have e1:first.map a.eval=vs.toArray:=by apply Array.toList_inj.1;simp only[Array.toList_map];exact ha.eD h1
 have e2:captured.map a.eval=us.toArray:=by apply Array.toList_inj.1;simp only[Array.toList_map];exact ha.eD h2
 have e1':first.map (fun x=>a.eval x)=vs.toArray:=e1
 have e2':captured.map (fun x=>a.eval x)=us.toArray:=e2
 constructor<;>simp[execOp,ho,Instr.makeFunc,e1',e2']
def qD(f:FuncId)(cap:Array Value):Deferred:={target:=.fn (.func f) cap,args:= #[]}
theorem B7{main:Bool}{a:Act}{rest:List Nat}{x:Operand}{cap:Array Value}{kk:List Item}(ho:ops[j]?=some o)(hw:Region.wanted o (yielded ops a.tmps)=true)(hk:b.kind≠ .early)
  (aF:o.op= .defer {callee:=.value x,args:= #[],argTypes:= #[]}) (hx:a.eval x= .func (.func f) #[] cap):
  stepG P main (Conc.G (b.at a (.inRegion ops (j::rest)::kk)) cs) w= .go (Conc.G (b.at (Act.put ⟨a.tmps,qD f cap::a.defers⟩ o.dst undef) (.inRegion ops rest::kk)) cs) w #[]:=by
 have hr:(execOp a.eval o).run P w= .ok (.defer (qD f cap)) w:=by
  unfold execOp
  simp[aF,resolve,Deferred.ofValue,hx,qD]
 have he:(execOp a.eval o).events P w #[]= #[]:=by
  unfold execOp
  simp[aF,resolve,Deferred.ofValue,hx]
 have dw:(b.at ⟨a.tmps,qD f cap::a.defers⟩ (.inRegion ops (j::rest)::kk)).finish undef=b.at (Act.put ⟨a.tmps,qD f cap::a.defers⟩ o.dst undef) (.inRegion ops rest::kk):=by rw[Frame.finish_at,ho];rfl
 have cC:(b.kind==CallKind.early)=false:=by simpa using hk
 rw[stepG_oper ho hw,<-dw]
 simp[stepG.apply,hr,he,Conc.G,Frame.at,cC,GStep.after,seen_none]
theorem ah.TE(W:ay P E l b){x:Operand}{cap:Array Value}(ho:ops[j]?=some o)(hw:bj ops env o=some true)(eR:o.dst=none)(aF:o.op= .defer {callee:=.value x,args:= #[],argTypes:= #[]})(hx:env.ev x=some (.func (.func f) #[] cap))
  (h:ah E N i l w b n env (qD f cap::ds) ops (j+1) k cs):ah E N i l w b n env ds ops j k cs:=by
 refine ah.open ho fun a ha dm=>?_
 refine Tr.still W.wk.fin (aX _ _) (g':=Conc.G (b.at (Act.put ⟨a.tmps,qD f cap::a.defers⟩ o.dst undef) (.inRegion ops (List.range' (j+1) (ops.size- (j+1)))::k)) cs) rfl W.wk.ch (fun ae _=>B7 ho (ha.want hw) W.wk.kind aF (ha.ev hx)) (h _ ?_ ?_)
 ·rw[eR];exact ha
 rw[eR];simp[Act.put,dm]
theorem tG{main:Bool}{a:Act}{todo:List Item}{fn:Func}{c:Code}{cap:Array Value}(hd:a.defers=qD f cap::ds)(hf:P.funcs[f]?=some fn)(Dc:(fn.name== "runtime.NumGoroutine")=false)(hb:fn.body=some c):
  stepG P main (Conc.G {b.at a todo with mode:=.returning} cs) w=
   .go (Conc.G ((baseD f).at {tmps:=cap++Array.replicate (fn.ntmps-cap.size) undef,defers:= []} [.code c]) ({b.at ⟨a.tmps,ds⟩ todo with mode:=.returning}::cs)) w #[]:=by
 have h1: ¬fn.name= "runtime.NumGoroutine" :=by simpa using Dc
 rw[<-enter_atD cap hf hb]
 simp[Conc.G,stepG,unwind,callDeferred,Frame.at,hd,qD,invoke,callFunc,hf,h1,hb,GStep.after,seen_none]
theorem fE.Xa(W:Wk E l b){cap:Array Value}{nt:Nat}{c:Code}{rs:Array ResultVar}(hb:ij E.P f nt c rs)(ha:cap.size<=nt)
  (h: ∀fr:Frame,fr.mode= .returning->(∀l' w',fE E N i l' w' b n env ds cs->Tr E N i l' (Conc.G fr cs) w')->(∀d,QR E.P d b n env ds cs->Qt E.P d (Conc.G fr cs))->(∀a todo,Has n env a->fr={b.at a todo with mode:=.returning}->True)->Tk E N i l w (baseD f) nt (gq cap.toList 0) [] [.code c] (fr::cs)):fE E N i l w b n env (qD f cap::ds) cs:=by
 intro a todo hh dm
 obtain⟨fn,f1,f2,f3,f4,_⟩:=hb.out
 refine Tr.still W.fin (aX _ _) (g':=Conc.G ((baseD f).at {tmps:=cap++Array.replicate (fn.ntmps-cap.size) undef,defers:= []} [.code c]) ({b.at ⟨a.tmps,ds⟩ todo with mode:=.returning}::cs)) rfl W.ch (fun ae _=>tG dm f1 f2 f3) ?_
 rw[f4]
 exact h _ rfl (fun l' w' hr=>hr ⟨a.tmps,ds⟩ todo hh rfl) (fun d hr=>hr ⟨a.tmps,ds⟩ todo hh rfl) (fun _ _ _ _=>trivial) _ (pg ha) rfl
theorem ah.goL(W:ay P E l b)(cP:l.af=true){x:Operand}{cap:Array Value}{lf ps:Nat}{c:Bool}(qv:l.me=⟨lf+1,1,ps,c⟩)(cx:l.gr= .out)(fD:l.deaf=0)(hK:E.K<=8)(rR:ps<E.nj)
  (Sd: ∀app app' dn cv,E.App app dn cv->(∀a x,app a=some x->app' a=some x)->(∀a x,app' a=some x->app a=some x\/∃v k,x=(v,.dq k)/\E.K<=k)->E.App app' dn cv)
  {PB QB:Nat->Prop} {LB:Addr->Option Value} (Qa: ∀b,PB b->l.ai b/\¬QB b) (Ks: ∀b,QB b->l.ai b) (KF: ∀a v,LB a=some v->QB a.block/\w.cell? a=some v/\w.frozen? a=false)
  (ho:ops[j]?=some o) (hw:bj ops env o=some true) (eR:o.dst=none) (aF:o.op= .go {callee:=.value x,args:= #[],argTypes:= #[]}) (hx:env.ev x=some (.func (.func f) #[] cap))
  (h0: ∀N',N=N'+1->∀w' nn,View l.ai w w'->ah E N' 0 {l with ai:=fun b=>(l.ai b/\¬QB b)/\¬PB b,aP:=upd l.aP (E.K+nn) true,kn:=oX l.kn LB,me:=⟨lf,0,ps+1,c⟩} w' b n env ds ops (j+1) k cs)
  (h1: ∀N',N=N'+1->∀w' i',i'≠0->View l.ai w w'->Tr E N' i' (Lo.mq PB (some ps) (fun k=>k==E.K+i') LB) (born P {target:=.fn (.func f) cap,args:= #[]}) w'):
  ah E N 0 l w b n env ds ops j k cs:=by
 refine ah.open ho fun a ha dm=>?_
 refine jI.Lv.fold ⟨aX _ _,.inr (.inr (.inl ⟨W.wk.ch,fun G ae t hg au ax hv=>.inr (.inr ⟨rfl,?_⟩)⟩))⟩
 have ax:G.th 0=l:=ax
 have hg:GI E G ae t:=hg
 obtain⟨r1,r2⟩:=Jq (P:=P) (w:=ae) aF (ha.ev hx)
 have jA:a.put o.dst undef=a:=by rw[eR];rfl
 obtain⟨hg1,WK⟩:=hg.eC (QB:=QB) (LB:=LB) (fun b hb=>by rw[ax];exact Ks b hb) (fun ad v dG=>by
  obtain⟨q1,q2,q3⟩:=KF ad v dG
  have:=cE (a:=ad) (hv.2 ad.block (Ks _ q1))
  exact⟨q1,by rw[this.1];exact q2,by rw[this.2];exact q3⟩) (Sd _ _ _ _ hg.more (fun ad y hy=>by
   cases e:LB ad with
   |none=>unfold gn;rw[e];exact hy
   |some v=>exact absurd rfl ((hg.s.qT 0 _ au (by rw[ax];exact Ks _ (KF ad v e).1)).2.1 ad y hy)) (fun ad ⟨v,d⟩ hy=>by
   rcases cm hy with⟨_,rfl⟩|⟨_,hy⟩
   ·exact .inr ⟨v,_,rfl,Nat.le_add_right _ _⟩
   exact .inl hy))
 have t0:(G.eC E QB LB).th 0=l.rX QB LB (E.K+G.n):=by
  show upd G.th 0 ((G.th 0).rX QB LB (E.K+G.n)) 0=_
  rw[upd_same,ax]
 refine⟨Conc.G (b.at (a.put o.dst undef) (.inRegion ops (List.range' (j+1) (ops.size- (j+1)))::k)) cs,born P {target:=.fn (.func f) cap,args:= #[]},ae,#[],?_,fun KG=>?_⟩
 ·show stepG E.P true _ ae=_
  rw[W.hP,stepG_spawn ho (ha.want hw) W.wk.kind r1 rfl]
  unfold listed
  rw[r2,seen_none]
 obtain⟨s1,s2,s3,s4,s5,s6,s7⟩:=hg1.aM (PB:=PB) (PS:=fun k=>k==E.K+G.n) (KN:=LB) ((Conc.G (b.at a (.inRegion ops (j::List.range' (j+1) (ops.size- (j+1)))::k)) cs).frame.fn) KG ((Conc.G (b.at a (.inRegion ops (j::List.range' (j+1) (ops.size- (j+1)))::k)) cs).frame.place) true (by rw[t0];exact qv) (by rw[t0];exact cx) (by rw[t0];exact W.wk.ch) (by rw[t0];exact fD) hK (fun b hb=>by rw[t0];exact Qa b hb) (fun _=>rR) (fun k hk=>by
   have:k=E.K+G.n:=by simpa using hk
   subst this
   exact⟨rfl,by rw[t0];exact upd_same _ _ _⟩) (fun ad v dG=>⟨.dq (E.K+G.n),by show gn G.app LB (E.K+G.n) ad=_;unfold gn;rw[dG],.inr ⟨_,rfl,by simp⟩⟩)
 have we:(0:Nat)≠G.n:=by have:=hg.a.qn;omega
 have e3:((G.eC E QB LB).aM PB true (fun k=>k==E.K+G.n) LB).th 0={l with ai:=fun b=>(l.ai b/\¬QB b)/\¬PB b,aP:=upd l.aP (E.K+G.n) true,kn:=oX l.kn LB,me:=⟨lf,0,ps+1,c⟩}:=by
  rw[s3,t0];rfl
 have e4:((G.eC E QB LB).aM PB true (fun k=>k==E.K+G.n) LB).th G.n=Lo.mq PB (some ps) (fun k=>k==E.K+G.n) LB:=s4
 have e5: ∀jj,jj≠0->jj≠G.n->((G.eC E QB LB).aM PB true (fun k=>k==E.K+G.n) LB).th jj=G.th jj:=fun jj h1 h2=>by
  rw[s5 jj h1 h2];exact upd_ne _ _ h1
 refine⟨(G.eC E QB LB).aM PB true (fun k=>k==E.K+G.n) LB,by(rw[show t++MemOp.ofEvents 0 _ _ #[]=t from by simp[MemOp.ofEvents]];exact s1),rfl,?_,?_,Nat.lt_of_lt_of_eq s2 WK,fun jj hj Kj=>⟨e5 jj hj Kj,?_,fun _=>View.refl _ _⟩,fun jj Kj yW=>s6 jj Kj ?_,rfl,?_,?_⟩
 ·show(((G.eC E QB LB).aM PB true (fun k=>k==E.K+G.n) LB).th 0).af=true
  rw[e3];exact cP
 ·show(((G.eC E QB LB).aM PB true (fun k=>k==E.K+G.n) LB).th G.n).af=true
  rw[e4];rfl
 ·show(((G.eC E QB LB).aM PB true (fun k=>k==E.K+G.n) LB).th jj).af=true↔(G.th jj).af=true
  rw[e5 jj hj Kj]
 ·have yW:G.PK E jj:=yW
  unfold Gh.PK at yW ⊢
  rw[show((G.eC E QB LB).th jj).mr=(G.th jj).mr from aW Lo.mr (by rfl) jj,show((G.eC E QB LB).th 0).gr=(G.th 0).gr from aW Lo.gr (by rfl) 0]
  exact yW
 ·show E.Cv.Lv N 0 (((G.eC E QB LB).aM PB true (fun k=>k==E.K+G.n) LB).th 0,_,ae)
  rw[e3]
  cases N with
  |zero=>trivial
  |succ N'=>
   rw[jA]
   exact h0 N' rfl ae G.n hv a ha dm
 show E.Cv.Lv N G.n (((G.eC E QB LB).aM PB true (fun k=>k==E.K+G.n) LB).th G.n,_,ae)
 rw[e4]
 cases N with
 |zero=>trivial
 |succ N'=>exact h1 N' rfl ae G.n (Ne.symm we) hv
end
end Go.Co

namespace Go.SE
open Go
universe u
def mz{α:Type u}(n:Nat)(k:Nat->α):α:=
 match n with
 |0=>k 0
 |m+1=>k (m+1)
theorem eY{α:Type u}(n:Nat)(k:Nat->α):mz n k=k n:=by cases n<;>rfl
def FC:List Int:= [0,1,2,3,4,5,6,7,8,9,10,11,12,13,14,15,16,17,18,19,20,21,22,23,24,25,26,27,28,29,30,31,32,33,34,35,36,37,38,39,40,41,42,43,44,45,46,47,48,49,50,51,52,53,54,55,56,57,58,59,60,61,62,63]
def Hd:List Int->Nat->Option Int
 | [],_=>none
 |x::_,0=>some x
 |_::l,n+1=>Hd l n
theorem AD: ∀n,n<64->Hd FC n=some (n:Int):=by decide
def KZ{α:Type u}:Nat->Nat->(Int->α)->α
 |0,n,k=>k (n:Int)
 |f+1,n,k=>bif Nat.blt n 64 then(match Hd FC n with|some x=>k x|none=>k (n:Int))
  else KZ f (n/64) fun q=>match Hd FC (n%64)with|some r=>k (64*q+r)|none=>k (n:Int)
theorem BO{α:Type u}: ∀ (f n:Nat) (k:Int->α),KZ f n k=k (n:Int)
 |0,n,k=>rfl
 |f+1,n,k=>by
  simp only[KZ,cond_eq_ite]
  split
  ·rename_i h
   rw[AD n (Nat.le_of_ble_eq_true h)]
  rw[BO f,AD (n%64) (Nat.mod_lt _ (by decide))]
  simp only
  congr 1
  omega
def GY{α:Type u}(i:Int)(k:Int->α):α:=
 match i with
 |.ofNat n=>KZ 11 n k
 |.negSucc n=>KZ 11 (n+1) fun x=>k (-x)
theorem MD{α:Type u}(i:Int)(k:Int->α):GY i k=k i:=by
 cases i with
 |ofNat n=>simp only[GY,BO];rfl
 |negSucc n=>simp only[GY,BO];congr 1
structure Loc where
 blk:Nat
 base:Nat
 cap:Nat
 sz:Nat
 nil:Bool
inductive S where
 |v (x:Value)
 |b (c:Bool)
 |n (k:IntKind) (i:Int)
 |ptr (h o:Nat)
 |lV (h o:Nat)
 |sl (h off len:Nat)
 |fn (f:FuncId) (cz:List (Nat×Nat))
 |bm (f:FuncId) (h o:Nat)
 |Cu (h:Nat)
 |mp (h:Nat)
 |any
inductive T where
 |one (s:S)
 |agg (l:List S)
inductive X where
 |t (x:T)
 |lv (l:List T)
 |uL
abbrev Env:=List (Nat×X)
def Env.get:Env->Nat->Option X
 | [],_=>none
 |(k,x)::r,j=>bif Nat.beq k j then some x else Env.get r j
inductive bd where
 |box (cells:List S) (sz:Nat) (e:TypeId)
 |row (xs:List Value) (sz:Nat) (e:TypeId) (ai:Bool)
 |obj (o:Obj)
 |loop (nt:Nat) (env:Env) (ps:Array Tmp) (assign body:Code) (st:LoopState) (pe:Option Code) (hd:Nat)
 |fR (cells:List S) (sz:Nat) (e:TypeId)
 |slot (mh:Nat) (key:Option Nat) (val:Option S)
 |iter (mh since:Nat) (seen:List Nat) (BF:Nat)
 |gone
inductive lp where
 |Ku (h:Nat)
 |call (f:FuncId) (h o:Nat) (xs:List Bool)
def lp.hd:lp->Nat
 |.Ku h=>h
 |.call _ h _ _=>h
structure M where
 aj:List (Nat×bd)
 nh:Nat
 ds:List lp
def aK:List (Nat×bd)->Nat->Option bd
 | [],_=>none
 |(k,x)::r,j=>bif Nat.beq k j then some x else aK r j
def M.reg(m:M)(h:Nat):Option bd:=aK m.aj h
def rW:Value->S
 |.int k i=>.n k i
 |x=>.v x
def m0:List Value->Bool
 | []=>true
 |x::l=>bif x.oneCell' then m0 l else false
def Fw:List Value->List S
 | []=> []
 |x::l=>rW x::Fw l
def vS:List Value->List S
 | []=> []
 |x::l=>.v x::vS l
def ofValue:Value->Option T
 |.agg cs=>bif m0 cs.toList then some (.agg (Fw cs.toList))else none
 |.tuple _=>none
 |x=>some (.one (rW x))
def ev(env:Env):Operand->Option X
 |.tmp t=>env.get t
 |.const v=>match ofValue v with
  |some t=>some (.t t)
  |none=>none
 |.global g=>some (.t (.one (.v (.pointer (some ⟨g,0,none⟩)))))
 |.func f=>some (.t (.one (.fn f [])))
def cJ(env:Env)(o:Operand):Option S:=
 match ev env o with
 |some (.t (.one s))=>some s
 |_=>none
def nU(env:Env)(o:Operand):Option T:=
 match ev env o with
 |some (.t x)=>some x
 |_=>none
def fi:List S->Option (List Value)
 | []=>some []
 |.v x::l=>match fi l with
  |some r=>some (x::r)
  |none=>none
 |.n k i::l=>match fi l with
  |some r=>some (.int k i::r)
  |none=>none
 |.b c::l=>match fi l with
  |some r=>some (.bool c::r)
  |none=>none
 |_=>none
def mY:Option Nat->List (Nat×bd)
 |some h=> [(h,.gone)]
 |none=> []
structure Eff where
 val:X
 aj:List (Nat×bd)
 nh:Nat
def M.app(m:M)(e:Eff):M:={aj:=e.aj++m.aj,nh:=e.nh,ds:=m.ds}
def eL(env:Env)(d:Option Nat)(x:X):Env:=
 match d with
 |some d=>(d,x)::env
 |none=>env
inductive Comes:Type 1 where
 |EJ (e:Eff)
 |ask {α:Type} (p:α->Prop) (f:α->Eff)
 |call (f:FuncId) (args:List T)
 |yield (h:Nat) (args:List T)
 |none
def T.cells:T->List S
 |.one s=> [s]
 |.agg l=>l
def aI(m:M)(x:T):Comes:=.EJ {val:=.t x,aj:= [],nh:=m.nh}
def II(m:M)(k:IntKind)(r:Int):Comes:=GY r fun r=>aI m (.one (.n k r))
theorem cG(m:M)(k:IntKind)(r:Int):II m k r=aI m (.one (.n k r)):=MD _ _
def S.int?:S->Option (IntKind×Int×Bool)
 |.n k i=>some (k,i,true)
 |.v (.int k i)=>some (k,i,false)
 |_=>none
def bW(P:Program)(t:TypeId):Option Bool:=
 match P.underlying t with
 |some (.struct _)=>some true
 |some (.array _ _)=>some true
 |some _=>some false
 |none=>none
def Hn(op:BinOp)(a b:Int):Option Bool:=
 match op with
 |.eql=>some (decide (a=b))
 |.neq=>some (!decide (a=b))
 |.lss=>some (decide (a<b))
 |.leq=>some (decide (a<=b))
 |.gtr=>some (decide (b<a))
 |.geq=>some (decide (b<=a))
 |_=>none
def setAt:List S->Nat->List S->List S
 |x::xs,0,v::vs=>v::setAt xs 0 vs
 |xs,0,[]=>xs
 |x::xs,o+1,vs=>x::setAt xs o vs
 | [],_,_=> []
def bc:List Value->Nat->List Value->List Value
 |x::xs,0,v::vs=>v::bc xs 0 vs
 |xs,0,[]=>xs
 |x::xs,o+1,vs=>x::bc xs o vs
 | [],_,_=> []
def cut:List S->Nat->Nat->List S
 |_,_,0=> []
 |x::xs,0,n+1=>x::cut xs 0 n
 |_::xs,o+1,n=>cut xs o n
 | [],_,_=> []
def nth:List S->Nat->Option S
 | [],_=>none
 |x::_,0=>some x
 |_::xs,n+1=>nth xs n
def rep(z:List S):Nat->List S
 |0=> []
 |n+1=>z++rep z n
def aY(n:Nat)(k:Nat->Prop):Prop:=
 match n with
 |0=>k 0
 |m+1=>k (m+1)
def FL(i:Int)(k:Int->Prop):Prop:=
 match i with
 |.ofNat n=>aY n fun n=>k (n:Int)
 |.negSucc n=>aY n fun n=>k (-((n:Int)+1))
def rm(x:S)(k:S->Prop):Prop:=
 match x with
 |.v x=>k (.v x)
 |.b c=>k (.b c)
 |.n q i=>k (.n q i)
 |.ptr h o=>aY h fun h=>aY o fun o=>k (.ptr h o)
 |.lV h o=>aY h fun h=>k (.lV h o)
 |.sl h off len=>aY h fun h=>k (.sl h off len)
 |.fn f l=>k (.fn f l)
 |.bm f h o=>aY h fun h=>aY o fun o=>k (.bm f h o)
 |.Cu h=>aY h fun h=>k (.Cu h)
 |.mp h=>aY h fun h=>k (.mp h)
 |.any=>k .any
def jC:List S->(List S->Prop)->Prop
 | [],k=>k []
 |x::xs,k=>rm x fun y=>jC xs fun ys=>k (y::ys)
def Bq(x:T)(k:T->Prop):Prop:=
 match x with
 |.one s=>rm s fun s=>k (.one s)
 |.agg l=>jC l fun l=>k (.agg l)
def wy:List T->(List T->Prop)->Prop
 | [],k=>k []
 |x::l,k=>Bq x fun x=>wy l fun l=>k (x::l)
def l8(x:X)(k:X->Prop):Prop:=
 match x with
 |.t x=>Bq x fun x=>k (.t x)
 |.lv l=>wy l fun l=>k (.lv l)
 |.uL=>k .uL
def Br(x:Option S)(k:Option S->Prop):Prop:=
 match x with
 |none=>k none
 |some x=>rm x fun x=>k (some x)
def wz(x:Option Nat)(k:Option Nat->Prop):Prop:=
 match x with
 |none=>k none
 |some x=>aY x fun x=>k (some x)
def FK(r:bd)(k:bd->Prop):Prop:=
 match r with
 |.box l sz e=>jC l fun l=>aY sz fun sz=>k (.box l sz e)
 |.fR l sz e=>jC l fun l=>aY sz fun sz=>k (.fR l sz e)
 |.slot mh key val=>aY mh fun mh=>wz key fun key=>Br val fun val=>k (.slot mh key val)
 |.iter mh a b c=>aY mh fun mh=>k (.iter mh a b c)
 |.row xs sz e ai=>k (.row xs sz e ai)
 |.obj o=>k (.obj o)
 |.loop nt env ps a b st pe hd=>k (.loop nt env ps a b st pe hd)
 |.gone=>k .gone
def ja:List (Nat×bd)->(List (Nat×bd)->Prop)->Prop
 | [],k=>k []
 |(h,r)::l,k=>aY h fun h=>FK r fun r=>ja l fun l=>k ((h,r)::l)
def mB(place:Nat->Option (Nat×Nat))(cells:List S):List (Nat×T)->Option (List S)
 | []=>some cells
 |(i,v)::rest=>
  match place i with
  |none=>none
  |some (off,size)=>bif Nat.beq v.cells.length size&&Nat.ble (off+v.cells.length) cells.length then mB place (setAt cells off v.cells) rest else none
def gp(env:Env):List (Nat×Operand)->Option (List (Nat×T))
 | []=>some []
 |(i,o)::r=>match nU env o,gp env r with
  |some t,some l=>some ((i,t)::l)
  |_,_=>none
def kD(env:Env):List Operand->Option (List T)
 | []=>some []
 |o::r=>match nU env o,kD env r with
  |some t,some l=>some (t::l)
  |_,_=>none
def nV(P:Program)(t:TypeId):Option T:=
 match(P.info? t).bind (·.zero)with
 |some z=>ofValue z
 |none=>none
def AZ:List Operand->Env->Option (List (Nat×Nat))
 | [],_=>some []
 |o::r,env=>match cJ env o,AZ r env with
  |some (.ptr h k),some l=>some ((h,k)::l)
  |_,_=>none
def dx(op:BinOp)(k:IntKind)(a b r:Int):Prop:=
 match op with
 |.add=>k.wrap (a+b)=r
 |.sub=>k.wrap (a-b)=r
 |.mul=>k.wrap (a*b)=r
 |.quo=>b≠0/\k.wrap (a.tdiv b)=r
 |.rem=>b≠0/\a.tmod b=r
 |.and=>k.wrap (BitVec.ofInt k.bits a&&&BitVec.ofInt k.bits b).toNat=r
 |.or=>k.wrap (BitVec.ofInt k.bits a|||BitVec.ofInt k.bits b).toNat=r
 |.xor=>k.wrap (BitVec.ofInt k.bits a^^^BitVec.ofInt k.bits b).toNat=r
 |.andNot=>k.wrap (BitVec.ofInt k.bits a&&& ~~~BitVec.ofInt k.bits b).toNat=r
 |.shl=>0<=b/\k.wrap (a*2^min b.toNat k.bits)=r
 |.shr=>0<=b/\a.fdiv (2^min b.toNat k.bits)=r
 |_=>False
def LV(op:BinOp)(k:IntKind)(a b:Int):Option Int:=
 match op with
 |.add=>some (k.wrap (a+b))
 |.sub=>some (k.wrap (a-b))
 |.mul=>some (k.wrap (a*b))
 |.quo=>if b=0 then none else some (k.wrap (a.tdiv b))
 |.rem=>if b=0 then none else some (a.tmod b)
 |.and=>some (k.wrap (BitVec.ofInt k.bits a&&&BitVec.ofInt k.bits b).toNat)
 |.or=>some (k.wrap (BitVec.ofInt k.bits a|||BitVec.ofInt k.bits b).toNat)
 |.xor=>some (k.wrap (BitVec.ofInt k.bits a^^^BitVec.ofInt k.bits b).toNat)
 |.andNot=>some (k.wrap (BitVec.ofInt k.bits a&&& ~~~BitVec.ofInt k.bits b).toNat)
 |.shl=>if 0<=b then some (k.wrap (a*2^min b.toNat k.bits))else none
 |.shr=>if 0<=b then some (a.fdiv (2^min b.toNat k.bits))else none
 |_=>none
def ed(m:M)(c kn:Bool):Comes:=
 bif kn then(match c with|true=>aI m (.one (.v (.bool true)))|false=>aI m (.one (.v (.bool false))))else aI m (.one (.b c))
def sr(op:BinOp):Bool:=
 match op with
 |.shl=>true
 |.shr=>true
 |_=>false
def Df(op:BinOp)(m:M)(k:IntKind)(a b:Int)(kn:Bool):Comes:=
 match Hn op a b with
 |some c=>ed m c kn
 |none=>bif kn then(match LV op k a b with|some r=>II m k r|none=>.none)
  else .ask (fun r:Int=>dx op k a b r) fun r=>{val:=.t (.one (.v (.int k r))),aj:= [],nh:=m.nh}
def S.bool?:S->Option (Bool×Bool)
 |.v (.bool c)=>some (c,true)
 |.b c=>some (c,false)
 |_=>none
def S.wP:S->Option ByteArray
 |.v (.string x)=>some x
 |_=>none
def L8(op:BinOp)(a b:ByteArray):Option Bool:=
 match op with
 |.eql=>some (a.toList==b.toList)
 |.neq=>some (!(a.toList==b.toList))
 |.lss=>some (Op.bytesLess a.toList b.toList)
 |.leq=>some (Op.bytesLess a.toList b.toList||a.toList==b.toList)
 |.gtr=>some (!(Op.bytesLess a.toList b.toList||a.toList==b.toList))
 |.geq=>some (!Op.bytesLess a.toList b.toList)
 |_=>none
def Hm(op:BinOp)(m:M)(a b:ByteArray):Comes:=
 match L8 op a b with
 |some c=>aI m (.one (.b c))
 |none=>match op with
  |.add=>.ask (fun r:ByteArray=>a++b=r/\((a.size+b.size:Nat):Int)<=IntKind.i64.max) fun r=>{val:=.t (.one (.v (.string r))),aj:= [],nh:=m.nh}
  |_=>.none
def xy(op:BinOp)(m:M)(a b kn:Bool):Comes:=
 match op with
 |.eql=>ed m (a==b) kn
 |.neq=>ed m (!(a==b)) kn
 |_=>.none
def uf(op:BinOp):Option Bool:=
 match op with
 |.eql=>some false
 |.neq=>some true
 |_=>none
def xd(P:Program)(op:BinOp)(m:M)(t:TypeId)(x y:S):Comes:=
 match uf op with
 |none=>.none
 |some c=>match P.underlying t,x,y with
  |some (.slice _),.sl h _ len,.v (.slice none 0 0)=>(match m.reg h with
   |some (.box _ _ _)=>ed m c true
   |some (.row xs _ _ _)=>.ask (fun _:Unit=>0<len\/xs≠ []) fun _=>{val:=.t (.one (.v (.bool c))),aj:= [],nh:=m.nh}
   |_=>.none)
  |some (.slice _),.v (.slice none 0 0),.v (.slice none 0 0)=>ed m (!c) true
  |some (.slice _),.v (.slice (some _) _ _),.v (.slice none 0 0)=>ed m c true
  |some (.pointer _),.ptr _ _,.v (.pointer none)=>ed m c true
  |some (.pointer _),.lV _ _,.v (.pointer none)=>ed m c true
  |some (.func _ _ _),.fn _ _,.v .nilFunc=>ed m c true
  |some (.func _ _ _),.v .nilFunc,.v .nilFunc=>ed m (!c) true
  |some (.pointer _),.v (.pointer none),.v (.pointer none)=>ed m (!c) true
  |_,_,_=>.none
def xe(P:Program)(op:BinOp)(m:M)(t:TypeId)(x y:S):Comes:=
 match x.int?,y.int? with
 |some (k,a,ka),some (k',b,kb)=>
  bif sr op then Df op m k a b (ka&&kb)else(if k=k' then Df op m k a b (ka&&kb)else .none)
 |_,_=>match x.bool?,y.bool? with
  |some (a,ka),some (b,kb)=>(match P.underlying t with|some .bool=>xy op m a b (ka&&kb)|_=>.none)
  |_,_=>match x.wP,y.wP with
   |some a,some b=>Hm op m a b
   |_,_=>xd P op m t x y
def pq(P:Program):List Field->Bool
 | []=>true
 |f::l=>bif (P.info? f.type).isSome then pq P l else false
def iF(P:Program)(t:TypeId):Option TypeId:=
 match P.underlying t with
 |some (.slice e)=>some e
 |_=>none
def zX(env:Env)(m:M)(x:Operand):Comes:=match ev env x with
 |some (.t t)=>aI m t
 |some (.lv l)=>.EJ {val:=.lv l,aj:= [],nh:=m.nh}
 |_=>.none
def Ho(env:Env)(m:M)(c a b:Operand):Comes:=match cJ env c with
 |some (.v (.bool true))=>(match nU env a with|some t=>aI m t|none=>.none)
 |some (.v (.bool false))=>(match nU env b with|some t=>aI m t|none=>.none)
 |_=>.none
def ug(m:M)(cells:List S)(e:TypeId):Comes:=bif Nat.ble cells.length 16777216 then mz m.nh fun nh=>.EJ {val:=.t (.one (.ptr nh 0)),aj:= [(nh,.box cells 1 e)],nh:=nh+1}else .none
def OG(env:Env)(m:M)(e:TypeId)(x:Operand):Comes:=match nU env x with
 |some t=>ug m t.cells e
 |none=>.none
def BA(P:Program)(m:M)(e:TypeId):Comes:=match nV P e with
 |some t=>ug m t.cells e
 |none=>.none
def Bz(P:Program)(env:Env)(m:M)(t:TypeId)(parts:Array (Nat×Operand)):Comes:=
 match P.underlying t,nV P t,gp env parts.toList with
 |some (.struct fields),some z,some l=>bif pq P fields.toList then
  (
  match mB (fun i=>(fields[i]?).map fun f=>(f.offset,P.cellsOf f.type)) z.cells l with
  |some cs=>aI m (.agg cs)
  |none=>.none)else .none
 |some (.array _ elem),some z,some l=>bif (P.info? elem).isSome then
  (
  match mB (fun i=>some (i*P.cellsOf elem,P.cellsOf elem)) z.cells l with
  |some cs=>aI m (.agg cs)
  |none=>.none)else .none
 |_,_,_=>.none
def lR(P:Program)(env:Env)(m:M)(t:TypeId)(len:Nat)(parts:Array (Nat×Operand)):Comes:=
 match iF P t,gp env parts.toList with
 |some elem,some l=>
  (
  match nV P elem with
  |some z=>bif Nat.beq z.cells.length (P.cellsOf elem)&&Nat.ble (len*P.cellsOf elem) 16777216 then
   (
    match mB (fun i=>some (i*P.cellsOf elem,P.cellsOf elem)) (rep z.cells len) l with
    |some cs=>mz m.nh fun nh=>.EJ {val:=.t (.one (.sl nh 0 len)),aj:= [(nh,.box cs (P.cellsOf elem) elem)],nh:=nh+1}
    |none=>.none)else .none
  |none=>.none)
 |_,_=>.none
def Hp(P:Program)(env:Env)(m:M)(t:TypeId)(a:Operand):Comes:=match cJ env a with
 |some (.ptr h k)=>(match m.reg h with
  |some (.box cells _ _)=>(match bW P t with
   |some true=>bif Nat.ble (k+P.cellsOf t) cells.length then aI m (.agg (cut cells k (P.cellsOf t)))else .none
   |some false=>(match nth cells k with|some s=>aI m (.one s)|none=>.none)
   |none=>.none)
  |some (.fR cells _ _)=>(match bW P t with
   |some true=>bif Nat.ble (k+P.cellsOf t) cells.length then aI m (.agg (cut cells k (P.cellsOf t)))else .none
   |some false=>(match nth cells k with|some s=>aI m (.one s)|none=>.none)
   |none=>.none)
  |_=>.none)
 |some (.lV h k)=>(match m.reg h with
  |some (.box cells _ _)=>(match bW P t with
   |some true=>.ask (fun l=>cut cells k (P.cellsOf t)=l/\k+P.cellsOf t<=cells.length) fun l=>{val:=.t (.agg l),aj:= [],nh:=m.nh}
   |some false=>.ask (fun s=>nth cells k=some s) fun s=>{val:=.t (.one s),aj:= [],nh:=m.nh}
   |none=>.none)
  |some (.row xs _ _ _)=>(match bW P t with
   |some true=>.ask (fun l=>(xs.drop k).take (P.cellsOf t)=l/\k+P.cellsOf t<=xs.length) fun l=>{val:=.t (.agg (vS l)),aj:= [],nh:=m.nh}
   |some false=>.ask (fun y=>xs[k]?=some y) fun y=>{val:=.t (.one (.v y)),aj:= [],nh:=m.nh}
   |none=>.none)
  |_=>.none)
 |_=>.none
def Bu(P:Program)(env:Env)(m:M)(t:TypeId)(a x:Operand):Comes:=match cJ env a,nU env x,P.underlying t with
 |some (.ptr h k),some v,some _=>(match m.reg h with
  |some (.box cells sz e)=>
   bif Nat.beq v.cells.length (P.cellsOf t)&&Nat.ble (k+v.cells.length) cells.length then .EJ {val:=.uL,aj:= [(h,.box (setAt cells k v.cells) sz e)],nh:=m.nh}else .none
  |_=>.none)
 |some (.lV h k),some v,some _=>(match m.reg h with
  |some (.box cells sz e)=>
   bif Nat.beq v.cells.length (P.cellsOf t)then .ask (fun l=>setAt cells k v.cells=l/\k+v.cells.length<=cells.length) fun l=>{val:=.uL,aj:= [(h,.box l sz e)],nh:=m.nh}else .none
  |some (.row xs sz e true)=>(match fi v.cells with
   |some vs=>bif Nat.beq v.cells.length (P.cellsOf t)&&Nat.blt 0 v.cells.length then .ask (fun l=>bc xs k vs=l/\k+vs.length<=xs.length) fun l=>{val:=.uL,aj:= [(h,.row l sz e true)],nh:=m.nh}else .none
   |none=>.none)
  |_=>.none)
 |_,_,_=>.none
def kU(P:Program)(env:Env)(m:M)(t:TypeId)(x:Operand)(i:Nat):Comes:=match P.underlying t with
 |some (.struct fields)=>(match fields[i]? with
  |some f=>bif Nat.beq (P.cellsOf f.type) 0 then .none else(match cJ env x with
   |some (.ptr h k)=>aI m (.one (.ptr h (k+f.offset)))
   |some (.lV h k)=>aI m (.one (.lV h (k+f.offset)))
   |_=>.none)
  |none=>.none)
 |_=>.none
def nJ(P:Program)(env:Env)(m:M)(t:TypeId)(x i:Operand):Comes:=match cJ env i with
 |some si=>(match si.int?,P.underlying t with
  |some (_,j,kn),some (.array len elem)=>bif (P.info? elem).isSome then
   (
   match cJ env x with
   |some (.ptr h k)=>bif kn then(if 0<=j/\j<len then aI m (.one (.ptr h (k+j.toNat*P.cellsOf elem)))else .none)
    else .ask (fun _:Unit=>0<=j/\j<len) fun _=>{val:=.t (.one (.lV h (k+j.toNat*P.cellsOf elem))),aj:= [],nh:=m.nh}
   |some (.lV h k)=>.ask (fun _:Unit=>0<=j/\j<len) fun _=>{val:=.t (.one (.lV h (k+j.toNat*P.cellsOf elem))),aj:= [],nh:=m.nh}
   |_=>.none)else .none
  |some (_,j,kn),some (.slice elem)=>bif (P.info? elem).isSome then
   (
   match cJ env x with
   |some (.sl h off len)=>(match m.reg h with
    |some (.box _ sz _)=>bif Nat.beq sz (P.cellsOf elem)then(bif kn then(if 0<=j/\j<len then aI m (.one (.ptr h ((off+j.toNat)*sz)))else .none)
     else .ask (fun _:Unit=>0<=j/\j<len) fun _=>{val:=.t (.one (.lV h ((off+j.toNat)*sz))),aj:= [],nh:=m.nh})else .none
    |some (.row _ sz _ _)=>bif Nat.beq sz (P.cellsOf elem)then
     .ask (fun _:Unit=>0<=j/\j<len) fun _=>{val:=.t (.one (.lV h ((off+j.toNat)*sz))),aj:= [],nh:=m.nh}else .none
    |some (.fR _ sz _)=>bif Nat.beq sz (P.cellsOf elem)&&kn then(if 0<=j/\j<len then aI m (.one (.ptr h ((off+j.toNat)*sz)))else .none)else .none
    |_=>.none)
   |_=>.none)else .none
  |_,_=>.none)
 |none=>.none
def Rd(P:Program)(t:TypeId)(x y:S):Option (Bool×Bool):=
 match P.underlying t with
 |some (.int _)=>(match x.int?,y.int? with
  |some (k,a,ka),some (k',b,kb)=>if k=k' then some (a==b,ka&&kb)else none
  |_,_=>none)
 |some .bool=>(match x.bool?,y.bool? with
  |some (a,ka),some (b,kb)=>some (a==b,ka&&kb)
  |_,_=>none)
 |some .string=>(match x.wP,y.wP with
  |some a,some b=>some (a==b,false)
  |_,_=>none)
 |_=>none
def OJ:Option (Bool×Bool)->Option (Bool×Bool)->Option (Bool×Bool)
 |some (a,ka),some (b,kb)=>some (a&&b,ka&&kb)
 |_,_=>none
def oL(P:Program)(t:TypeId)(xs:List S)(off:Nat):Option T:=
 match bW P t with
 |some true=>some (.agg (cut xs off (P.cellsOf t)))
 |some false=>(match nth xs off with|some s=>some (.one s)|none=>none)
 |none=>none
def mZ(P:Program)(g:TypeId->T->T->Option (Bool×Bool))(t:TypeId)(xs ys:List S)(off:Nat):Option (Bool×Bool):=
 match oL P t xs off,oL P t ys off with
 |some a,some b=>g t a b
 |_,_=>none
def fx(P:Program)(g:TypeId->T->T->Option (Bool×Bool))(xs ys:List S):List Field->Option (Bool×Bool)
 | []=>some (true,true)
 |f::fs=>bif f.name== "_" then none else OJ (mZ P g f.type xs ys f.offset) (fx P g xs ys fs)
def eu(P:Program)(g:TypeId->T->T->Option (Bool×Bool))(e:TypeId)(xs ys:List S)(n:Nat):Nat->Nat->Option (Bool×Bool)
 |0,_=>some (true,true)
 |len+1,i=>OJ (mZ P g e xs ys (i*n)) (eu P g e xs ys n len (i+1))
def EI(P:Program):Nat->TypeId->T->T->Option (Bool×Bool)
 |0,_,_,_=>none
 |d+1,t,.one x,.one y=>Rd P t x y
 |d+1,t,.agg xs,.agg ys=>
  match P.underlying t with
  |some (.struct fs)=>bif P.stoodInHeld t then none else fx P (EI P d) xs ys fs.toList
  |some (.array len e)=>bif (P.info? e).isSome&&!Nat.beq len 0 then eu P (EI P d) e xs ys (P.cellsOf e) len 0 else none
  |_=>none
 |_,_,_,_=>none
def Fe(P:Program):Nat->TypeId->T->T->Option (Bool×Bool)
 |0,_,_,_=>none
 |_+1,t,.one x,.one y=>Rd P t x y
 |d+1,t,.agg xs,.agg ys=>
  match P.underlying t with
  |some (.struct fs)=>fx P (Fe P d) xs ys fs.toList
  |some (.array len e)=>bif (P.info? e).isSome&&!Nat.beq len 0 then eu P (Fe P d) e xs ys (P.cellsOf e) len 0 else none
  |_=>none
 |_,_,_,_=>none
def fu(P:Program):Nat->TypeId->Bool
 |0,_=>true
 |d+1,t=>match P.underlying t with
  |some (.struct fs)=>!P.stoodInHeld t&&fs.toList.all fun f=>fu P d f.type
  |some (.array _ e)=>fu P d e
  |_=>true
def sE(m:M)(c kn:Bool):Eff:=
 bif kn then(match c with|true=>{val:=.t (.one (.v (.bool true))),aj:= [],nh:=m.nh}|false=>{val:=.t (.one (.v (.bool false))),aj:= [],nh:=m.nh})else{val:=.t (.one (.b c)),aj:= [],nh:=m.nh}
def Fg(P:Program)(op:BinOp)(m:M)(t:TypeId)(xs ys:List S):Comes:=
 match op with
 |.eql=>(match Fe P 8 t (.agg xs) (.agg ys)with|some (c,kn)=>.ask (fun _:Unit=>fu P 8 t=true) fun _=>sE m c kn|none=>.none)
 |.neq=>(match Fe P 8 t (.agg xs) (.agg ys)with|some (c,kn)=>.ask (fun _:Unit=>fu P 8 t=true) fun _=>sE m (!c) kn|none=>.none)
 |_=>.none
def Ld(P:Program)(env:Env)(m:M)(op:BinOp)(t:TypeId)(x y:Operand):Comes:=match nU env x,nU env y with
 |some (.one a),some (.one b)=>xe P op m t a b
 |some (.agg a),some (.agg b)=>Fg P op m t a b
 |_,_=>.none
def XL(env:Env)(m:M)(op:UnOp)(x:Operand):Comes:=match op,cJ env x with
 |.not,some (.v (.bool true))=>aI m (.one (.v (.bool false)))
 |.not,some (.v (.bool false))=>aI m (.one (.v (.bool true)))
 |.not,some (.b c)=>aI m (.one (.b (!c)))
 |_,_=>.none
def pw(P:Program)(env:Env)(m:M)(s d:TypeId)(x:Operand):Comes:=match P.underlying s,P.underlying d,(cJ env x)with
 |some (.int _),some (.int k),some sx=>(match sx.int? with
  |some (_,i,kn)=>bif kn then II m k (k.wrap i)else .ask (fun r:Int=>k.wrap i=r) fun r=>{val:=.t (.one (.v (.int k r))),aj:= [],nh:=m.nh}
  |none=>.none)
 |_,_,_=>.none
def mN(env:Env)(m:M)(x:Operand):Comes:=match cJ env x with
 |some (.ptr h k)=>aI m (.one (.ptr h k))
 |some (.lV h k)=>aI m (.one (.lV h k))
 |some (.fn f l)=>aI m (.one (.fn f l))
 |_=>.none
def qj(env:Env)(m:M)(fn:Fn)(first cz:Array Operand):Comes:=match fn,first.toList,AZ cz.toList env with
 |.func f,[],some l=>aI m (.one (.fn f l))
 |.func f,[x],some []=>(match cJ env x with|some (.ptr h k)=>aI m (.one (.bm f h k))|_=>.none)
 |_,_,_=>.none
def sX(env:Env)(m:M)(t:Operand)(i:Nat):Comes:=match ev env t with
 |some (.lv l)=>(match l[i]? with|some x=>aI m x|none=>.none)
 |_=>.none
def Sk(P:Program)(env:Env)(m:M)(args:Array Operand)(argTypes:Array TypeId):Comes:=match args.toList,(argTypes[0]?).bind P.underlying with
 | [x],some (.slice _)=>(match cJ env x with
  |some (.sl h _ len)=>(match m.reg h with
   |some (.box _ _ _)=>aI m (.one (.n .i64 len))
   |some (.row _ _ _ _)=>aI m (.one (.v (.int .i64 len)))
   |some (.fR _ _ _)=>aI m (.one (.n .i64 len))
   |_=>.none)
  |some (.v (.slice none 0 0))=>aI m (.one (.n .i64 0))
  |some (.v (.slice (some _) len _))=>aI m (.one (.v (.int .i64 len)))
  |_=>.none)
 |_,_=>.none
structure Own where
 ho:Option Nat
 xs:List Value
 len:Nat
def np(m:M)(sz:Nat)(e:TypeId):S->Option Own
 |.v (.slice none 0 0)=>some ⟨none,[],0⟩
 |.sl h 0 len=>match m.reg h with
  |some (.row xs jN e' true)=>bif Nat.beq jN sz&&Nat.beq e' e then some ⟨some h,xs,len⟩else none
  |some (.box cells jN e')=>bif Nat.beq jN sz&&Nat.beq e' e then(match fi cells with|some xs=>some ⟨some h,xs.take (len*sz),len⟩|none=>none)else none
  |_=>none
 |_=>none
def jR(m:M)(sz:Nat):S->Option (List Value×Nat)
 |.v (.slice none 0 0)=>some ([],0)
 |.v (.slice (some _) 0 _)=>some ([],0)
 |.sl h off len=>match m.reg h with
  |some (.row xs jN _ _)=>bif Nat.beq jN sz then some ((xs.drop (off*sz)).take (len*sz),len)else none
  |some (.box cells jN _)=>bif Nat.beq jN sz then(match fi cells with
   |some xs=>bif Nat.beq off 0&&Nat.beq (len*sz) cells.length then some (xs,len)else some ((xs.drop (off*sz)).take (len*sz),len)
   |none=>none)else none
  |_=>none
 |_=>none
structure OM where
 e:TypeId
 sz:Nat
 bytes:Nat
def gX(P:Program)(t:TypeId):Option OM:=
 match P.underlying t with
 |some (.slice e)=>match P.info? e with
  |some i=>match i.zero with
   |some z=>bif Nat.beq z.cells.size i.size&&Nat.blt 0 i.size then mz i.size fun sz=>mz i.bytes fun by_=>some ⟨e,sz,by_⟩else none
   |none=>none
  |none=>none
 |_=>none
def wx(m:M)(nh:Nat)(ho:Option Nat)(n sz:Nat)(e:TypeId)(r:List Value):Eff:=
 {val:=.t (.one (.sl nh 0 n)),aj:=(nh,.row r sz e true)::mY ho,nh:=nh+1}
def OI{α:Type u}:List S->List S->(List S->α)->α
 | [],l,k=>k l
 |x::xs,l,k=>OI xs l fun r=>k (x::r)
theorem Iq{α:Type u}: ∀ (l r:List S) (k:List S->α),OI l r k=k (l++r)
 | [],_,_=>rfl
 |x::l,r,k=>by simp only[OI,Iq l,List.cons_append]
def DO(nh:Nat)(ho:Option Nat)(n sz:Nat)(e:TypeId)(cells:List S):Eff:=
 {val:=.t (.one (.sl nh 0 n)),aj:=(nh,.fR cells sz e)::mY ho,nh:=nh+1}
def mF(m:M)(e:TypeId)(sz by_:Nat)(vs vx:S):Comes:=
 match vs with
 |.sl h 0 n=>(match m.reg h with
  |some (.box cells jN e')=>bif Nat.beq jN sz&&(Nat.beq e' e&&(Nat.blt 0 sz&&Nat.beq (n*sz) cells.length))then
   (
   match vx with
   |.v (.slice none 0 0)=>aI m (.one (.sl h 0 n))
   |.sl h2 0 k=>(match m.reg h2 with
    |some (.box fj tN _)=>bif Nat.beq tN sz&&(Nat.blt 0 k&&Nat.beq (k*sz) fj.length)then mz m.nh fun nh=>
      .ask (fun _:Unit=>n+k<=maxLen/\(n+k)*by_<=140737488355328) fun _=>{val:=.t (.one (.sl nh 0 (n+k))),aj:= [(nh,.fR (cells++fj) sz e)],nh:=nh+1}else .none
    |_=>.none)
   |_=>.none)else .none
  |some (.fR cells jN e')=>bif Nat.beq jN sz&&(Nat.beq e' e&&(Nat.blt 0 sz&&Nat.beq (n*sz) cells.length))then
   (
   match vx with
   |.sl h2 0 k=>(match m.reg h2 with
    |some (.box fj tN _)=>bif Nat.beq tN sz&&(Nat.blt 0 k&&Nat.beq (k*sz) fj.length)then mz m.nh fun nh=>mz (n+k) fun q=>
      OI cells fj fun cs=>.ask (fun _:Unit=>q<=maxLen/\q*by_<=140737488355328) fun _=>DO nh (some h) q sz e cs else .none
    |_=>.none)
   |_=>.none)else .none
  |_=>.none)
 |.v (.slice none 0 0)=>(match vx with
  |.sl h2 0 k=>(match m.reg h2 with
   |some (.box fj tN _)=>bif Nat.beq tN sz&&(Nat.blt 0 k&&Nat.beq (k*sz) fj.length)then mz m.nh fun nh=>
     .ask (fun _:Unit=>k<=maxLen/\k*by_<=140737488355328) fun _=>DO nh none k sz e fj else .none
   |_=>.none)
  |_=>.none)
 |_=>.none
def wH(P:Program)(env:Env)(m:M)(c:Call):Comes:=
 match c.args.toList,c.argTypes.toList with
 | [s,x],[t,t']=>bif Nat.beq t t' then(match gX P t,cJ env s,cJ env x with
  |some ⟨e,sz,by_⟩,some vs,some vx=>(match np m sz e vs,jR m sz vx with
   |some ⟨ho,xs,n⟩,some (news,k)=>mz m.nh fun nh=>.ask (fun r:List Value=>xs++news=r/\xs.length=n*sz/\news.length=k*sz/\n+k<=maxLen/\(n+k)*by_<=140737488355328) fun r=>wx m nh ho (n+k) sz e r
   |_,_=>mF m e sz by_ vs vx)
  |_,_,_=>.none)else .none
 |_,_=>.none
def bound(env:Env)(d:Nat):Option Operand->Option Int
 |none=>some d
 |some x=>match cJ env x with
  |some s=>match s.int? with
   |some (_,i,_)=>some i
   |none=>none
  |none=>none
def IJ(m:M)(h:Nat):Option Nat:=
 match m.reg h with
 |some (.row _ sz _ _)=>some sz
 |some (.box _ sz _)=>some sz
 |_=>none
def B0(P:Program)(t:TypeId):Option (Nat×TypeId):=
 match P.underlying t with
 |some (.array n e)=>some (n,e)
 |_=>none
def Bv(P:Program)(env:Env)(m:M)(t:TypeId)(x:Operand)(lo hi mx:Option Operand):Comes:=
 match mx with
 |some c=>(match iF P t,cJ env x,lo,hi with
  |some e,some (.sl h 0 len),none,some y=>(match(cJ env y).bind S.int?,(cJ env c).bind S.int?,m.reg h with
   |some (_,u,_),some (_,c,_),some (.box cells sz _)=>bif Nat.beq sz (P.cellsOf e)&&((P.info? e).isSome&&Nat.blt 0 sz)then
     (if u=(len:Int)/\c=(len:Int)/\len*sz=cells.length then aI m (.one (.sl h 0 len))else .none)else .none
   |_,_,_=>.none)
  |_,_,_,_=>.none)
 |none=>match iF P t,cJ env x with
  |some e,some (.sl h off len)=>(match bound env 0 lo,bound env len hi,IJ m h with
   |some l,some u,some sz=>bif Nat.beq sz (P.cellsOf e)&&(P.info? e).isSome then .ask (fun p:Nat×Nat=>l=(p.1:Int)/\u=(p.2:Int)/\p.1<=p.2/\p.2<=len) fun p=>{val:=.t (.one (.sl h (off+p.1) (p.2-p.1))),aj:= [],nh:=m.nh}else .none
   |_,_,_=>.none)
  |some e,some (.v (.slice none 0 0))=>(match bound env 0 lo,bound env 0 hi with
   |some l,some u=>bif (P.info? e).isSome then .ask (fun _:Unit=>l=0/\u=0) fun _=>{val:=.t (.one (.v (.slice none 0 0))),aj:= [],nh:=m.nh}else .none
   |_,_=>.none)
  |none,some (.ptr h o)=>(match B0 P t,m.reg h with
   |some (n,e),some (.box cells sz _)=>bif Nat.beq o 0&&(Nat.beq sz 1&&(Nat.beq cells.length n&&(Nat.beq (P.cellsOf e) 1&&(P.info? e).isSome)))then
    (match bound env 0 lo,bound env n hi with
    |some l,some u=>.ask (fun p:Nat×Nat=>l=(p.1:Int)/\u=(p.2:Int)/\p.1<=p.2/\p.2<=n) fun p=>{val:=.t (.one (.sl h p.1 (p.2-p.1))),aj:= [],nh:=m.nh}
    |_,_=>.none)else .none
   |_,_=>.none)
  |_,_=>.none
def strOf:List Value->ByteArray->Option ByteArray
 | [],r=>some r
 |.int .u8 n::l,r=>strOf l (r.push (UInt8.ofNat n.toNat))
 |_,_=>none
def wv(P:Program)(t:TypeId):Bool:=
 match P.underlying t with
 |some (.slice e)=>match P.underlying e with
  |some (.int .u8)=>true
  |_=>false
 |_=>false
def mM(P:Program)(env:Env)(m:M)(s:TypeId)(x:Operand):Comes:=
 bif wv P s then(match cJ env x with
  |some vx=>(match jR m 1 vx with
   |some (xs,k)=>.ask (fun r:ByteArray=>strOf xs .empty=some r/\xs.length=k) fun r=>{val:=.t (.one (.v (.string r))),aj:= [],nh:=m.nh}
   |none=>.none)
  |none=>.none)else .none
def Dg(P:Program)(env:Env)(m:M)(s d:TypeId)(x:Operand):Comes:=
 match P.underlying d with
 |some .string=>mM P env m s x
 |_=>pw P env m s d x
def fa(z:List Value):Nat->List Value
 |0=> []
 |n+1=>z++fa z n
def xU(P:Program)(t:TypeId):Option (OM×List Value):=
 match gX P t with
 |some el=>match(P.info? el.e).bind (·.zero)with
  |some z=>bif m0 z.cells.toList then some (el,z.cells.toList)else none
  |none=>none
 |none=>none
def nI(P:Program)(env:Env)(m:M)(t:TypeId)(l c:Operand):Comes:=
 match xU P t,cJ env l,cJ env c with
 |some (el,z),some sl,some sc=>(match sl.int?,sc.int? with
  |some (_,l,_),some (_,c,_)=>mz m.nh fun nh=>.ask (fun p:Nat×Nat×List Value=>l=(p.1:Int)/\c=(p.2.1:Int)/\p.1<=p.2.1/\p.2.1*el.bytes<=281474976710656/\p.2.1<=maxLen/\fa z p.1=p.2.2)
    fun p=>wx m nh none p.1 el.sz el.e p.2.2
  |_,_=>.none)
 |_,_,_=>.none
def rowOf(m:M)(h:Nat):Option (List Value×Nat×TypeId):=
 match m.reg h with
 |some (.row xs sz e true)=>some (xs,sz,e)
 |some (.box cells sz e)=>(match fi cells with|some xs=>some (xs,sz,e)|none=>none)
 |_=>none
def Hq(P:Program)(env:Env)(m:M)(c:Call):Comes:=
 match c.args.toList,c.argTypes.toList with
 | [d,s],[t,_]=>(match gX P t,cJ env d,cJ env s with
  |some ⟨_,sz,_⟩,some (.sl h off len),some vx=>(match rowOf m h,jR m sz vx with
   |some (xs,jN,e),some (news,k)=>bif Nat.beq jN sz then .ask (fun p:Nat×List Value=>Nat.min k len=p.1/\news.length=k*sz/\(off+p.1)*sz<=xs.length/\bc xs (off*sz) (news.take (p.1*sz))=p.2)
     fun p=>{val:=.t (.one (.v (.int .i64 p.1))),aj:= [(h,.row p.2 sz e true)],nh:=m.nh}else .none
   |_,_=>.none)
  |_,_,_=>.none)
 |_,_=>.none
def uh(b:Bool)(i j:Int):Int:=
 match b with
 |true=>if j>i then j else i
 |false=>if j<i then j else i
def p5(env:Env)(m:M)(b:Bool)(c:Call):Comes:=
 match c.args.toList with
 | [x,y]=>(match cJ env x,cJ env y with
  |some sx,some sy=>(match sx.int?,sy.int? with
   |some (k,i,ki),some (_,j,kj)=>bif ki&&kj then II m k (uh b i j)else aI m (.one (.v (.int k (uh b i j))))
   |_,_=>.none)
  |_,_=>.none)
 |_=>.none
def OE(env:Env)(m:M)(x:Operand):Comes:=match cJ env x with
 |some sx=>(match sx.int? with
  |some (k,i,kn)=>bif kn then II m k (k.wrap (BitVec.ofInt k.bits (if k.signed then -1 else k.max)^^^BitVec.ofInt k.bits i).toNat)
   else .ask (fun r:Int=>k.wrap (BitVec.ofInt k.bits (if k.signed then -1 else k.max)^^^BitVec.ofInt k.bits i).toNat=r) fun r=>{val:=.t (.one (.v (.int k r))),aj:= [],nh:=m.nh}
  |none=>.none)
 |none=>.none
def OF(env:Env)(m:M)(x:Operand):Comes:=match cJ env x with
 |some sx=>(match sx.int? with
  |some (k,i,kn)=>bif kn then II m k (k.wrap (0-i))else .ask (fun r:Int=>k.wrap (0-i)=r) fun r=>{val:=.t (.one (.v (.int k r))),aj:= [],nh:=m.nh}
  |none=>.none)
 |none=>.none
def Bw(P:Program)(env:Env)(m:M)(t:TypeId)(x i:Operand):Comes:=
 match nU env x,cJ env i,P.underlying t with
 |some (.agg xs),some si,some (.array len elem)=>(match si.int? with
  |some (_,j,kn)=>bif (P.info? elem).isSome then
   (
   bif kn then(if 0<=j/\j<len then(match oL P elem xs (j.toNat*P.cellsOf elem)with|some y=>aI m y|none=>.none)else .none)
   else .ask (fun y:T=>(0<=j/\j<len)/\oL P elem xs (j.toNat*P.cellsOf elem)=some y) fun y=>{val:=.t y,aj:= [],nh:=m.nh})else .none
  |none=>.none)
 |some (.one s),some si,some .string=>(match s.wP,si.int? with
  |some str,some (_,j,_)=>.ask (fun b:UInt8=>0<=j/\str[j.toNat]?=some b) fun b=>{val:=.t (.one (.v (.int .u8 b.toNat))),aj:= [],nh:=m.nh}
  |_,_=>.none)
 |_,_,_=>.none
def mapElem(P:Program)(t:TypeId):Option TypeId:=
 match P.underlying t with
 |some (.map k e)=>match P.underlying k with
  |some (.int .u8)=>some e
  |_=>none
 |_=>none
def By(P:Program)(env:Env)(m:M)(t:TypeId)(x:Operand)(i:Nat):Comes:=
 match P.underlying t,nU env x with
 |some (.struct fields),some (.agg xs)=>(match fields[i]? with
  |some f=>bif (P.info? f.type).isSome then(match oL P f.type xs f.offset with|some y=>aI m y|none=>.none)else .none
  |none=>.none)
 |_,_=>.none
def qi(P:Program)(m:M)(t:TypeId):Comes:=match P.underlying t with
 |some (.map _ _)=>mz m.nh fun nh=>.EJ {val:=.t (.one (.mp nh)),aj:= [(nh,.obj (.map #[] 0))],nh:=nh+8}
 |_=>.none
def mJ(P:Program)(xs:List S):List Field->Bool
 | []=>true
 |f::l=>match P.underlying f.type,oL P f.type xs f.offset with
  |some (.int _),some _=>mJ P xs l
  |_,_=>false
def zR(P:Program)(kt:TypeId)(xs:List S):Bool:=match P.underlying kt with
 |some (.struct fs)=>mJ P xs fs.toList
 |_=>false
def Hf(P:Program)(kt:TypeId)(xs:List S)(k:Value):Option Bool:=
 match ofValue k with
 |some ky=>match Fe P 5 kt (.agg xs) ky with
  |some (c,_)=>some c
  |none=>none
 |none=>none
def kL(P:Program)(kt:TypeId)(xs:List S)(z v:Value)(ok:Bool):List MapEntry->Prop
 | []=>v=z/\ok=false
 |e::es=>match Hf P kt xs e.key with
  |some c=>(c=true->v=e.val/\ok=true)/\(c=false->kL P kt xs z v ok es)
  |none=>False
def Ha(P:Program)(kt:TypeId)(xs:List S):List MapEntry->Bool
 | []=>true
 |e::es=>match Hf P kt xs e.key with
  |some false=>Ha P kt xs es
  |_=>false
def sW(P:Program)(env:Env)(m:M)(t:TypeId)(mp k:Operand):Comes:=
 match P.underlying t,cJ env mp,nU env k with
 |some (.map kt e),some (.mp h),some (.agg xs)=>(match m.reg h,(P.info? e).bind (·.zero)with
  |some (.obj (.map es _)),some z=>bif zR P kt xs then
   .ask (fun p:Value×Bool=>p.1.oneCell'=true/\fu P 5 kt=true/\kL P kt xs z p.1 p.2 es.toList) fun p=>{val:=.lv [.one (.v p.1),.one (.b p.2)],aj:= [],nh:=m.nh}else .none
  |_,_=>.none)
 |_,_,_=>.none
def nH(P:Program)(env:Env)(m:M)(t:TypeId)(mp k v:Operand):Comes:=
 match P.underlying t,cJ env mp,nU env k,cJ env v with
 |some (.map kt _),some (.mp h),some (.agg xs),some s=>(match m.reg h,fi xs,fi [s]with
  |some (.obj (.map es c)),some ks,some [y]=>bif zR P kt xs then
   .ask (fun _:Unit=>fu P 5 kt=true/\Ha P kt xs es.toList=true) fun _=>{val:=.uL,aj:= [(h,.obj (.map (es.push {key:=.agg ks.toArray,val:=y,born:=c}) (c+1)))],nh:=m.nh}else .none
  |_,_,_=>.none)
 |_,_,_,_=>.none
def sV(P:Program)(m:M)(t:TypeId)(r:Option Operand):Comes:=match mapElem P t,r with
 |none,none=>qi P m t
 |some _,none=>mz m.nh fun nh=>.EJ {val:=.t (.one (.mp nh)),aj:= [(nh,.slot nh none none),(nh+1,.slot nh (some 1) none),(nh+2,.slot nh (some 2) none),(nh+3,.slot nh (some 3) none),(nh+4,.slot nh (some 4) none),(nh+5,.slot nh (some 5) none),(nh+6,.slot nh (some 6) none),(nh+7,.slot nh (some 7) none)],nh:=nh+8}
 |_,_=>.none
def rk(env:Env)(k:Operand):Option Nat:=match cJ env k with
 |some s=>match s.int? with
  |some (.u8,.ofNat (n+1),true)=>bif Nat.blt n 7 then some (n+1)else none
  |_=>none
 |none=>none
def wG(P:Program)(env:Env)(m:M)(t:TypeId)(mp k v:Operand):Comes:=match mapElem P t,cJ env mp,rk env k,cJ env v with
 |some _,some (.mp h),some j,some s=>(match m.reg (h+j)with
  |some (.slot mh (some j') none)=>bif Nat.beq mh h&&Nat.beq j' j then .EJ {val:=.uL,aj:= [(h+j,.slot h (some j) (some s))],nh:=m.nh}else .none
  |_=>.none)
 |_,_,_,_=>.none
def iA(P:Program)(m:M)(e:TypeId)(h:Nat):Option Nat->Option T
 |some j=>match m.reg (h+j)with
  |some (.slot mh (some j') (some s))=>bif Nat.beq mh h&&Nat.beq j' j then some (.one s)else none
  |some (.slot mh (some j') none)=>bif Nat.beq mh h&&Nat.beq j' j then nV P e else none
  |_=>none
 |none=>match m.reg h with
  |some (.slot mh none none)=>bif Nat.beq mh h then nV P e else none
  |_=>none
def so(i:Int):Option Nat->Prop
 |some j=>i=(j:Int)/\1<=j/\j<=7
 |none=>i<1\/7<i
def sn(P:Program)(m:M)(e:TypeId)(h:Nat)(r:Option Nat):Option Eff:=match iA P m e h r with
 |some t=>some {val:=.t t,aj:= [],nh:=m.nh}
 |none=>none
def wF(P:Program)(env:Env)(m:M)(t:TypeId)(mp k:Operand)(PH:Bool):Comes:=
 bif PH then sW P env m t mp k else match mapElem P t,cJ env mp,cJ env k with
 |some e,some (.mp h),some s=>(match s.int? with
  |some (.u8,i,true)=>(match i with
   |.ofNat (n+1)=>bif Nat.blt n 7 then(match iA P m e h (some (n+1))with|some t=>aI m t|none=>.none)else(match iA P m e h none with|some t=>aI m t|none=>.none)
   |_=>(match iA P m e h none with|some t=>aI m t|none=>.none))
  |some (.u8,i,false)=>.ask (fun p:Option Nat×Eff=>so i p.1/\sn P m e h p.1=some p.2) fun p=>p.2
  |_=>.none)
 |_,_,_=>.none
def Dh(P:Program)(env:Env)(m:M)(c:Call):Comes:=match c.callee with
 |.value f=>(match cJ env f,kD env c.args.toList with
  |some (.fn g cz),some l=>.call g (l++cz.map fun p=>.one (.ptr p.1 p.2))
  |some (.Cu h),some l=>.yield h l
  |some (.bm g h k),some l=>.call g (.one (.ptr h k)::l)
  |_,_=>.none)
 |.builtin .len=>Sk P env m c.args c.argTypes
 |.builtin .append=>wH P env m c
 |.builtin .copy=>Hq P env m c
 |.builtin .max=>p5 env m true c
 |.builtin .min=>p5 env m false c
 |_=>.none
def G6(s:S):Bool:=match s.int? with
 |some _=>true
 |none=>match s.bool? with
  |some _=>true
  |none=>s.wP.isSome
def zO:List S->Bool
 | []=>true
 |x::l=>bif G6 x then zO l else false
def oJ(env:Env)(k:Operand):Bool:=match nU env k with
 |some (.one s)=>G6 s
 |some (.agg l)=>zO l
 |none=>false
def zP(env:Env)(k:Operand):Bool:=match nU env k with
 |some (.agg l)=>zO l
 |_=>true
def kC(b:Bool)(c:Comes):Comes:=bif b then c else .none
def classify(P:Program)(o:Oper)(env:Env)(m:M):Comes:=
 match o.op with
 |.move x=>zX env m x
 |.assign x=>zX env m x
 |.pick c a b=>Ho env m c a b
 |.box e x=>OG env m e x
 |.alloc e=>BA P m e
 |.build t parts=>Bz P env m t parts
 |.buildSlice t len parts=>lR P env m t len parts
 |.load t a=>Hp P env m t a
 |.store t a x=>Bu P env m t a x
 |.fieldAddr t x i=>kU P env m t x i
 |.field t x i=>By P env m t x i
 |.indexAddr t x i=>nJ P env m t x i
 |.binOp op t x y _=>kC (zP env x) (Ld P env m op t x y)
 |.unOp op _ x=>(match op with
  |.xor=>OE env m x
  |.neg=>OF env m x
  |op=>XL env m op x)
 |.makeSlice t l c=>nI P env m t l c
 |.index t x i=>Bw P env m t x i
 |.convert s d x=>Dg P env m s d x
 |.slice t x lo hi mx=>Bv P env m t x lo hi mx
 |.makeFunc fn first cz=>qj env m fn first cz
 |.nilCheck x=>mN env m x
 |.extract t i=>sX env m t i
 |.makeMap t r=>sV P m t r
 |.insert t mp k v=>kC (oJ env k) (wG P env m t mp k v)
 |.mapUpdate t mp k v=>kC (oJ env k) (nH P env m t mp k v)
 |.lookup t mp k c=>kC (oJ env k) (wF P env m t mp k c)
 |.call c=>Dh P env m c
 |_=>.none
end Go.SE

namespace Go.SE
open Go Go.RowKit
abbrev aZ:=Nat->Loc
def jL(L:Loc)(off len:Nat)(y:Value):Prop:=
 (L.nil=true/\L.cap=0/\off=0/\len=0/\y= .slice none 0 0)\/
 (L.nil=false/\off+len<=L.cap/\∃a,y= .slice (some a) len (L.cap-off)/\(off<L.cap\/off=0->a=⟨L.blk,L.base+off*L.sz,none⟩))
def aB(ρ:aZ)(h o:Nat):Value:=.pointer (some ⟨(ρ h).blk,(ρ h).base+o,none⟩)
def S.Rel(ρ:aZ):S->Value->Prop
 |.v x,y=>y=x/\x.oneCell'=true
 |.b c,y=>y= .bool c
 |.n k i,y=>y= .int k i
 |.ptr h o,y=>y=aB ρ h o
 |.lV h o,y=>y=aB ρ h o
 |.sl h off len,y=>jL (ρ h) off len y
 |.fn f cz,y=>y= .func (.func f) #[] (cz.map fun p=>aB ρ p.1 p.2).toArray
 |.bm f h o,y=>y= .func (.func f) #[aB ρ h o] #[]
 |.Cu h,y=>y= .func (.yield (ρ h).blk) #[] #[]
 |.mp h,y=>y= .map (some (ρ h).blk)
 |.any,y=>y.oneCell'=true
def bt(ρ:aZ):List S->List Value->Prop
 | [],[]=>True
 |s::ss,y::ys=>s.Rel ρ y/\bt ρ ss ys
 |_,_=>False
def T.Rel(ρ:aZ):T->Value->Prop
 |.one s,y=>s.Rel ρ y
 |.agg l,y=>∃ys:List Value,y= .agg ys.toArray/\bt ρ l ys
def cD(ρ:aZ):List T->List Value->Prop
 | [],[]=>True
 |s::ss,y::ys=>s.Rel ρ y/\cD ρ ss ys
 |_,_=>False
def X.Rel(ρ:aZ):X->Value->Prop
 |.t x,y=>x.Rel ρ y
 |.lv l,y=>∃ys:List Value,y= .tuple ys.toArray/\cD ρ l ys
 |.uL,_=>True
theorem S.Rel.one{ρ:aZ}{s:S}{y:Value}(h:s.Rel ρ y):y.oneCell'=true:=by
 cases s with
 |v x=>obtain⟨rfl,h⟩:=h;exact h
 |b c=>subst h;rfl
 |n k i=>subst h;rfl
 |ptr h o=>subst h;rfl
 |lV h o=>subst h;rfl
 |sl h off len=>rcases h with⟨_,_,_,_,rfl⟩|⟨_,_,a,rfl,_⟩<;>rfl
 |fn f cz=>subst h;rfl
 |bm f h o=>subst h;rfl
 |Cu l=>subst h;rfl
 |mp l=>subst h;rfl
 |any=>exact h
theorem bt.length{ρ:aZ}: ∀ {l:List S} {ys:List Value},bt ρ l ys->l.length=ys.length
 | [],[],_=>rfl
 |_::_,_::_,h=>by simp[bt.length h.2]
theorem cD.length{ρ:aZ}: ∀ {l:List T} {ys:List Value},cD ρ l ys->l.length=ys.length
 | [],[],_=>rfl
 |_::_,_::_,h=>by simp[cD.length h.2]
theorem cD.get{ρ:aZ}: ∀ {l:List T} {ys:List Value} (_:cD ρ l ys) {i:Nat} {x:T},l[i]?=some x->∃y,ys[i]?=some y/\x.Rel ρ y
 |_::_,_::_,h,0,x,hx=>by simp at hx;subst hx;exact⟨_,rfl,h.1⟩
 |_::_,_::_,h,i+1,x,hx=>by simpa using cD.get h.2 (by simpa using hx)
theorem bt.nth{ρ:aZ}: ∀ {l:List S} {ys:List Value} (_:bt ρ l ys) {i:Nat} {x:S},nth l i=some x->∃y,ys[i]?=some y/\x.Rel ρ y
 |_::_,_::_,h,0,x,hx=>by simp[SE.nth]at hx;subst hx;exact⟨_,rfl,h.1⟩
 |_::_,_::_,h,i+1,x,hx=>by simpa using bt.nth h.2 (by simpa [SE.nth]using hx)
theorem bt.one{ρ:aZ}: ∀ {l:List S} {ys:List Value} (_:bt ρ l ys),∀y∈ys,y.oneCell'=true
 | [],[],_=>by simp
 |_::_,_::_,h=>by
  intro y hy
  rcases List.mem_cons.1 hy with rfl|hy
  ·exact h.1.one
  exact bt.one h.2 y hy
theorem bt.append{ρ:aZ}: ∀ {l:List S} {ys:List Value} {l':List S} {ys':List Value},bt ρ l ys->bt ρ l' ys'->bt ρ (l++l') (ys++ys')
 | [],[],_,_,_,h=>h
 |_::_,_::_,_,_,h,h'=>⟨h.1,bt.append h.2 h'⟩
theorem bt.cut{ρ:aZ}: ∀ {l:List S} {ys:List Value} (_:bt ρ l ys) (o n:Nat),bt ρ (cut l o n) ((ys.drop o).take n)
 |l,ys,h,o,0=>by cases l<;>simp[SE.cut,bt]
 | [],[],_,o,n+1=>by simp[SE.cut,bt]
 |x::l,y::ys,h,0,n+1=>by
  have:=bt.cut h.2 0 n
  simp only[SE.cut,List.drop_zero,List.take_succ_cons]
  exact⟨h.1,by simpa using this⟩
 |x::l,y::ys,h,o+1,n+1=>by simpa [SE.cut]using bt.cut h.2 o (n+1)
theorem bt.setAt{ρ:aZ}: ∀ {l:List S} {ys:List Value} (_:bt ρ l ys) {l':List S} {ys':List Value} (_:bt ρ l' ys') (o:Nat),bt ρ (setAt l o l') (bc ys o ys')
 | [],[],_,l',ys',h',o=>by cases l'<;>cases ys'<;>cases o<;>simp_all [SE.setAt,bc,bt]
 |x::l,y::ys,h,[],[],_,0=>by simpa [SE.setAt,bc]using h
 |x::l,y::ys,h,s::l',z::ys',h',0=>⟨h'.1,bt.setAt h.2 h'.2 0⟩
 |x::l,y::ys,h,l',ys',h',o+1=>by
  have:=bt.setAt h.2 h' o
  cases l'<;>cases ys'<;>simp_all [SE.setAt,bc,bt]
theorem fC: ∀ (l:List Value) (o:Nat) (vs:List Value),(bc l o vs).length=l.length
 | [],o,vs=>by cases o<;>cases vs<;>simp[bc]
 |x::l,0,[]=>by simp[bc]
 |x::l,0,v::vs=>by simp[bc,fC l 0 vs]
 |x::l,o+1,vs=>by cases vs<;>simp[bc,fC l o]
theorem gM: ∀ (l:List Value) (o:Nat),bc l o []=l
 | [],o=>by cases o<;>simp[bc]
 |x::l,0=>by simp[bc]
 |x::l,o+1=>by simp[bc,gM l o]
theorem jS: ∀ (l:List Value) (o:Nat) (v:Value) (vs:List Value),bc l o (v::vs)=bc (l.set o v) (o+1) vs
 | [],o,v,vs=>by cases o<;>cases vs<;>simp[bc]
 |x::l,0,v,vs=>by simp[bc]
 |x::l,o+1,v,vs=>by simp[bc,jS l o v vs]
theorem dA{ρ:aZ}: ∀ {l:List S} {r ys:List Value},fi l=some r->bt ρ l ys->ys=r
 | [],r,[],h,_=>by simp only[fi,Option.some.injEq]at h;exact h
 |x::l,r,y::ys,h,hr=>by
  cases x<;>simp only[fi]at h<;>first
   |cases h
   |(
    split at h
    ·rename_i r' lX
     cases h
     rw[dA lX hr.2]
     first
      |rw[hr.1.1]
      |rw[show y=_ from hr.1]
    cases h)
def lp.den(ρ:aZ):lp->Deferred
 |.Ku h=>{target:=.collected (ρ h).blk,args:= #[]}
 |.call f h o xs=>{target:=.fn (.func f) #[],args:=(aB ρ h o::xs.map Value.bool).toArray}
theorem lp.AM{ρ ρ':aZ}{d:lp}{k:Nat}(h:ρ' d.hd=ρ k)(hk:k=d.hd):d.den ρ'=d.den ρ:=by
 subst hk
 cases d with
 |Ku h'=>simp only[lp.den,lp.hd]at*;rw[h]
 |call f h' o xs=>simp only[lp.den,lp.hd,aB]at*;rw[h]
def bd.ai:bd->Bool
 |.box _ _ _=>true
 |.row _ _ _ ai=>ai
 |.obj (.pending _ _)=>false
 |.obj _=>true
 |.loop .. =>true
 |.fR .. =>true
 |.slot .. =>true
 |.iter .. =>true
 |.gone=>false
def gR:bd->bd->Bool
 |.slot _ a _,.slot _ b _=>!(a==b)
 |_,_=>false
def bd.KT:bd->Bool
 |.slot .. =>false
 |r=>r.ai
theorem bd.pD{r:bd}(h:r.KT=true):r.ai=true:=by cases r<;>first|exact h|rfl
theorem B5{r:bd}(h:r.KT=true)(r':bd):gR r r'=false:=by cases r<;>first|rfl|(cases h;done)
def uT(j:Nat):Value->Bool
 |.int .u8 i=>i==(j:Int)
 |_=>false
def eN(j:Nat):List MapEntry->Option Value
 | []=>none
 |e::es=>bif uT j e.key then some e.val else eN j es
def p7(es:List MapEntry):Prop:=∀e∈es,∃j:Nat,1<=j/\j<=7/\e.key= .int .u8 j
def NH(ρ:aZ)(es:List MapEntry):Option Nat->Option S->Prop
 |none,_=>True
 |some j,none=>eN j es=none
 |some j,some s=>∃y,eN j es=some y/\s.Rel ρ y
def bd.af:bd->Bool
 |.gone=>false
 |.row xs _ _ ai=>ai||!xs.isEmpty
 |_=>true
def nf(ρ:aZ)(env:Env)(tmps:Array Value):Prop:=∀k x,env.get k=some x->∃y,tmps[k]?=some y/\x.Rel ρ y
def bz(ρ:aZ)(w:World)(h:Nat):bd->Prop
 |.box cells sz e=>(ρ h).nil=false/\(ρ h).base=0/\((ρ h).sz=sz/\(ρ h).cap*sz=cells.length/\(sz≠0->(ρ h).cap<=maxLen))/\∃ys:List Value,w.heap[(ρ h).blk]?=some (.cells ys.toArray e (0,0))/\bt ρ cells ys
 |.row xs sz e true=>(ρ h).sz=sz/\(∀x∈xs,x.oneCell'=true)/\(((ρ h).nil=true/\(ρ h).cap=0/\xs= [])\/
   ((ρ h).nil=false/\(ρ h).base=0/\∃ys:List Value,w.heap[(ρ h).blk]?=some (.cells ys.toArray e (0,0))/\(ys.length=(ρ h).cap*sz/\(ρ h).cap<=maxLen)/\xs<+:ys))
 |.row xs sz e false=>(ρ h).sz=sz/\(∀x∈xs,x.oneCell'=true)/\(((ρ h).nil=true/\(ρ h).cap=0/\xs= [])\/
   ((ρ h).nil=false/\∀i x,xs[i]?=some x->w.cell? ⟨(ρ h).blk,(ρ h).base+i,none⟩=some x))
 |.obj o=>(ρ h).nil=false/\w.heap[(ρ h).blk]?=some o/\(∀c e,o= .pending c e->(ρ h).base=0/\(ρ h).blk=e)
 |.loop nt env ps assign body st pe hd=>(ρ h).nil=false/\∃r:Loop,w.heap[(ρ h).blk]?=some (.loop r)/\r.params=ps/\r.assign=assign/\r.body=body/\r.state=st/\r.pending=pe/\
   r.defers=(ρ hd).blk/\nt<=r.tmps.size/\nf ρ env r.tmps
 |.fR cells sz e=>(ρ h).nil=false/\(ρ h).base=0/\((ρ h).sz=sz/\(ρ h).cap<=maxLen)/\∃ys zs:List Value,w.heap[(ρ h).blk]?=some (.cells ys.toArray e (0,0))/\ys.length=(ρ h).cap*sz/\zs<+:ys/\bt ρ cells zs
 |.slot mh key val=>(ρ h).nil=false/\(ρ h).blk=(ρ mh).blk/\∃ (es:Array MapEntry) (c:Nat),w.heap[(ρ h).blk]?=some (.map es c)/\p7 es.toList/\NH ρ es.toList key val
 |.iter mh since seen BF=>((ρ h).nil=false/\(ρ h).base=0)/\w.heap[(ρ h).blk]?=some (.mapIter (some (ρ mh).blk) since seen.toArray BF)
 |.gone=>True
structure kh(P:Program)(B:Nat)(w0:World)(ρ:aZ)(m:M)(w:World):Prop where
 aj: ∀h r,m.reg h=some r->bz ρ w h r
 fG: ∀h h' r r',m.reg h=some r->m.reg h'=some r'->h≠h'->gR r r'=false->r.ai=true->r'.af=true->(ρ h).nil=false->(ρ h').nil=false->(ρ h).blk≠(ρ h').blk
 base: ∀h r,m.reg h=some r->r.ai=true->(ρ h).nil=false->B<=(ρ h).blk
 below:Below B w0 w
 hB:B<=w0.heap.size
def cq(ρ:aZ)(env:Env)(a:Act):Prop:=∀k x,env.get k=some x->∃y,a.tmps[k]?=some y/\x.Rel ρ y
def an(D:Nat->Prop)(ρ ρ':aZ):Prop:=∀h,D h->ρ' h=ρ h
theorem an.refl(D:Nat->Prop)(ρ:aZ):an D ρ ρ:=fun _ _=>rfl
theorem an.trans{D D':Nat->Prop}{ρ ρ' ρ'':aZ}(h:an D ρ ρ')(h':an D' ρ' ρ'')(hd: ∀h,D h->D' h):an D ρ ρ'':=fun k hk=>(h' k (hd k hk)).trans (h k hk)
theorem an.mono{D D':Nat->Prop}{ρ ρ':aZ}(h:an D ρ ρ')(hd: ∀h,D' h->D h):an D' ρ ρ':=fun k hk=>h k (hd k hk)
structure Ok(P:Program)(nt B:Nat)(w0:World)(D:Nat->Prop)(ρ:aZ)(env:Env)(m:M)(a:Act)(w:World):Prop where
 env: ∀ρ',an D ρ ρ'->cq ρ' env a
 mem: ∀ρ',an D ρ ρ'->kh P B w0 ρ' m w
 size:nt<=a.tmps.size
def Sz(P:Program)(o:Oper)(a:Act)(w:World)(y:Value)(w':World):Prop:=
 (execOp a.eval o).run P w= .ok (.value y) w'\/(y=undef/\(execOp a.eval o).run P w= .ok .skip w')
def Lr(m:M)(e:Eff)(h:Nat):Prop:=m.nh<=h/\h<e.nh
def dj(P:Program)(o:Oper)(env:Env)(m:M)(e:Eff):Prop:=
 m.nh<=e.nh/\∀ (nt B:Nat) (w0:World) (D:Nat->Prop) (ρ:aZ) (a:Act) (w:World),(∀h,Lr m e h->¬D h)->Ok P nt B w0 D ρ env m a w->
  ∃y w' ρ',Sz P o a w y w'/\an D ρ ρ'/\∀ρ'',an (fun h=>D h\/Lr m e h) ρ' ρ''->kh P B w0 ρ'' (m.app e) w'/\e.val.Rel ρ'' y
theorem cA: ∀ (l l':List (Nat×bd)) (h:Nat),aK (l++l') h=(aK l h).or (aK l' h)
 | [],l',h=>by simp[aK]
 |(k,x)::l,l',h=>by
  simp only[List.cons_append,aK]
  cases Nat.beq k h<;>simp[cA l l' h]
theorem lD{m:M}{e:Eff}{h:Nat}:(m.app e).reg h=(aK e.aj h).or (m.reg h):=by
 simp[M.app,M.reg,cA]
theorem p9{ρ:aZ}{y:Value}(h:y.oneCell'=true):(rW y).Rel ρ y:=by
 cases y<;>simp_all [rW,S.Rel,Value.oneCell']
theorem L7{ρ:aZ}: ∀ {l:List Value},(∀x∈l,x.oneCell'=true)->bt ρ (vS l) l
 | [],_=>trivial
 |x::l,h=>⟨⟨rfl,h x (by simp)⟩,L7 fun y hy=>h y (by simp[hy])⟩
theorem yi{ρ:aZ}: ∀ {l:List Value},m0 l=true->bt ρ (Fw l) l
 | [],_=>trivial
 |y::l,h=>by
  simp only[m0,cond_eq_ite]at h
  split at h
  ·rename_i h1;exact⟨p9 h1,yi h⟩
  cases h
theorem T.Rel.Tg{ρ:aZ}{s:S}{y:Value}(h:s.Rel ρ y):T.Rel ρ (.one s) y:=h
theorem eG{ρ:aZ}{y:Value}{x:T}(h:ofValue y=some x):x.Rel ρ y:=by
 have key:y.oneCell'=true->T.Rel ρ (.one (rW y)) y:=fun h=>T.Rel.Tg (p9 h)
 cases y
 case agg cs=>
  simp only[ofValue,cond_eq_ite]at h
  split at h
  ·rename_i h1
   cases h
   exact⟨cs.toList,by simp,yi h1⟩
  cases h
 case tuple=>simp[ofValue]at h
 all_goals(simp only[ofValue,Option.some.injEq]at h;subst h;exact key rfl)
theorem lN{ρ:aZ}{env:Env}{a:Act}(he:cq ρ env a){x:Operand}{s:X}(h:ev env x=some s):s.Rel ρ (a.eval x):=by
 cases x with
 |tmp t=>
  obtain⟨y,hy,hr⟩:=he t s h
  simp only[Act.eval,Array.getD_eq_getD_getElem?,hy,Option.getD_some]
  exact hr
 |const v=>
  simp only[ev]at h
  split at h
  ·rename_i t ht;cases h;exact eG ht
  cases h
 |global g=>simp only[ev,Option.some.injEq]at h;subst h;exact⟨rfl,rfl⟩
 |func f=>simp only[ev,Option.some.injEq]at h;subst h;simp[X.Rel,T.Rel,S.Rel,Act.eval]
theorem cM{ρ:aZ}{env:Env}{a:Act}(he:cq ρ env a){x:Operand}{s:T}(h:nU env x=some s):s.Rel ρ (a.eval x):=by
 simp only[nU]at h
 split at h
 ·rename_i t ht;cases h;exact lN he ht
 cases h
theorem aA{ρ:aZ}{env:Env}{a:Act}(he:cq ρ env a){x:Operand}{s:S}(h:cJ env x=some s):s.Rel ρ (a.eval x):=by
 simp only[cJ]at h
 split at h
 ·rename_i t ht;cases h;exact lN he ht
 cases h
end Go.SE

namespace Go.SE
open Go Go.RowKit
theorem aH{P:Program}{o:Oper}{env:Env}{m:M}{x:X}
  (h: ∀ (B:Nat) (w0:World) (ρ:aZ) (a:Act) (w:World),cq ρ env a->kh P B w0 ρ m w->∃y,(execOp a.eval o).run P w= .ok (.value y) w/\x.Rel ρ y):
  dj P o env m {val:=x,aj:= [],nh:=m.nh}:=by
 refine⟨Nat.le_refl _,fun nt B w0 D ρ a w _ aL=>?_⟩
 obtain⟨y,hy,_⟩:=h B w0 ρ a w (aL.env ρ (an.refl _ _)) (aL.mem ρ (an.refl _ _))
 refine⟨y,w,ρ,.inl hy,an.refl _ _,fun ρ'' aU=>?_⟩
 have cW:an D ρ ρ'':=aU.mono fun h hd=>.inl hd
 obtain⟨y',pQ,hr⟩:=h B w0 ρ'' a w (aL.env ρ'' cW) (aL.mem ρ'' cW)
 rw[hy]at pQ
 cases pQ
 exact⟨aL.mem ρ'' cW,hr⟩
theorem bX{P:Program}{t:TypeId}{b:Bool}(h:bW P t=some b)(w:World):(isAgg t).run P w= .ok b w:=by
 unfold bW at h
 cases hu:P.underlying t with
 |none=>simp[hu]at h
 |some d=>
  have hr:=run_underlying hu w
  cases d<;>simp[hu]at h<;>subst h<;>simp[isAgg,hr]
theorem eF{P:Program}{t:TypeId}{d:TypeDesc}(h:P.underlying t=some d)(w:World):(sizeOf t).run P w= .ok (P.cellsOf t) w:=by
 have: ∃i,P.info? t=some i:=by
  unfold Program.underlying at h
  cases hi:P.info? t with
  |none=>simp[hi]at h
  |some i=>exact⟨i,rfl⟩
 obtain⟨i,hi⟩:=this
 exact run_sizeOf w hi
theorem px{ρ:aZ}{w:World}{h:Nat}{cells:List S}{sz:Nat}{e:TypeId}(hb:bz ρ w h (.box cells sz e)):
  (ρ h).base=0/\∃ys:List Value,w.heap[(ρ h).blk]?=some (.cells ys.toArray e (0,0))/\bt ρ cells ys/\∀i,w.cell? ⟨(ρ h).blk,i,none⟩=ys[i]?:=by
 obtain⟨_,h2,_,ys,h3,h4⟩:=hb
 exact⟨h2,ys,h3,h4,fun i=>by simp[World.cell?,h3]⟩
theorem cN(b o i:Nat):(⟨b,o,none⟩:Addr).add i=⟨b,o+i,none⟩:=by
 unfold Addr.add;split
 ·rename_i h;subst h;rfl
 rfl
theorem Po{P:Program}{o:Oper}{env:Env}{m:M}{x:Operand}{t:T}(ho:o.op= .move x\/o.op= .assign x)(hx:nU env x=some t):
  dj P o env m {val:=.t t,aj:= [],nh:=m.nh}:=by
 refine aH fun B w0 ρ a w he hm=>?_
 refine⟨a.eval x,?_,cM he hx⟩
 rcases ho with ho|ho<;>simp[execOp,ho]
theorem HW{P:Program}{o:Oper}{env:Env}{m:M}{c x y:Operand}{b:Bool}{t:T}(ho:o.op= .pick c x y)(hc:cJ env c=some (.v (.bool b)))
  (hx:nU env (if b then x else y)=some t):dj P o env m {val:=.t t,aj:= [],nh:=m.nh}:=by
 refine aH fun B w0 ρ a w he hm=>?_
 have h1:=aA he hc
 simp only[S.Rel]at h1
 refine⟨a.eval (if b then x else y),?_,cM he hx⟩
 cases b<;>simp[execOp,ho,h1.1,asBool]
end Go.SE

namespace Go.SE
open Go Go.Conc
def poison:Obj:=.cells #[] 0 (1,0)
structure Itf(v v':World):Prop where
 heap: ∃n,v'.heap=v.heap++Array.replicate n poison
 tape:v'.tape=v.tape
 os:v'.os=v.os
 output:v'.output=v.output
theorem Itf.refl(v:World):Itf v v:=⟨⟨0,by simp⟩,rfl,rfl,rfl⟩
theorem Itf.trans{a b c:World}(h:Itf a b)(k:Itf b c):Itf a c:=by
 obtain⟨⟨n,hn⟩,h2,h3,h4⟩:=h
 obtain⟨⟨m,hm⟩,k2,k3,k4⟩:=k
 exact⟨⟨n+m,by rw[hm,hn,Array.append_assoc,Array.replicate_append_replicate]⟩,k2.trans h2,k3.trans h3,k4.trans h4⟩
theorem Itf.size{v v':World}(h:Itf v v'):v.heap.size<=v'.heap.size:=by
 obtain⟨⟨n,hn⟩,_⟩:=h
 rw[hn];simp
theorem Itf.lt{v v':World}(h:Itf v v'){b:Nat}(hb:b<v.heap.size):v'.heap[b]?=v.heap[b]?:=by
 obtain⟨⟨n,hn⟩,_⟩:=h
 rw[hn,Array.getElem?_append_left hb]
theorem Itf.get{v v':World}(h:Itf v v'){b:Nat}{o:Obj}(hb:v.heap[b]?=some o):v'.heap[b]?=some o:=by
 rw[h.lt (Array.getElem?_eq_some_iff.1 hb).1];exact hb
def gP{α:Type}:Sem α->Prop
 |.pure _=>False
 |.load _ _ k=>∀v,gP (k v)
 |.store _ _ _ k=>gP k
 |.new _ k=>∀r,gP (k r)
 |.shape _ k=>∀s,gP (k s)
 |.freeze _ _ k=>gP k
 |.frozen _ k=>∀b,gP (k b)
 |.getObj _ k=>∀o,gP (k o)
 |.setObj _ _ k=>gP k
 |.choose _ k=>∀n,gP (k n)
 |.sys _ k=>∀r,gP (k r)
 |.program k=>∀p,gP (k p)
 |.mark _ k=>gP k
 |.halt _=>True
def BD(ok:Nat->Prop)(m:Mark):Prop:=(∃f,m= .extern f)\/Neutral m\/∃a,(m= .acquire a\/m= .releaseMerge a)/\ok a.block
def plainO:Obj->Bool
 |.view .. =>false
 |.chan .. =>false
 |.pending .. =>false
 |_=>true
def qp(P:Program){α:Type}(R:α->Prop):(Nat->Prop)->Sem α->Prop
 |_,.pure a=>R a
 |ok,.load _ _ k=>∀v,qp P R ok (k v)
 |ok,.store _ _ _ k=>qp P R ok k
 |ok,.new o k=>(plainO o=true/\∀r,qp P R ok (k r))\/∀r,gP (k r)
 |ok,.shape r k=>(ok r/\∀s,qp P R ok (k s))\/∀s,gP (k s)
 |ok,.freeze a _ k=>(ok a.block/\qp P R ok k)\/gP k
 |ok,.frozen a k=>(ok a.block/\∀b,qp P R ok (k b))\/∀b,gP (k b)
 |ok,.getObj r k=>(∀o,qp P R (fun b=>ok b\/b=r) (k o))/\∀c e,gP (k (.pending c e))
 |ok,.setObj r o k=>(ok r/\plainO o=true/\qp P R ok k)\/gP k
 |ok,.choose _ k=>∀n,qp P R ok (k n)
 |_,.sys _ k=>∀r,gP (k r)
 |ok,.program k=>qp P R ok (k P)
 |ok,.mark m k=>(BD ok m/\qp P R ok k)\/gP k
 |_,.halt _=>True
abbrev bB(P:Program)(ok:Nat->Prop){α:Type}(R:α->Prop)(s:Sem α):Prop:=qp P R ok s
def Good(v:World)(b:Nat):Prop:=∃o,v.heap[b]?=some o/\o≠poison/\∀c e,o≠ .pending c e
theorem Good.lj{v v':World}{b:Nat}(h:Good v b)(i:Itf v v'):Good v' b:=let⟨o,h1,h2⟩:=h;⟨o,i.get h1,h2⟩
def look(v:World)(ad:Addr):Option Value:=match v.heap[ad.block]? with
 |some (.pending c _)=>if ad.spot.isSome then none else c[ad.off]?
 |_=>none
theorem Itf.look{v v':World}{ad:Addr}{x:Value}(i:Itf v v')(h:look v ad=some x):look v' ad=some x:=by
 unfold SE.look at*
 by_cases hb:ad.block<v.heap.size
 ·rw[i.lt hb];exact h
 rw[Array.getElem?_eq_none (by omega)]at h;cases h
class aG where
 x:Program->Bool->CallKind->FuncId->Array Value->World->(Value->World->Prop)->Prop
variable [aG]
inductive Iv(P:Program)(mn:Bool)(Fin:Goroutine->World->Prop):Goroutine->World->Prop
 |fin {g:Goroutine} {v:World} (h: ∀v',Itf v v'->Fin g v'):Iv P mn Fin g v
 |step {g:Goroutine} {v:World} {α:Type} (s:Sem α) (ok:Nat->Prop) (nx:α->Option Goroutine) (x:World->α) (v2:World->World) (g2:World->Goroutine)
   (hg:g.status= .running/\g.offers=none/\g.dying=none) (aL: ∀b,ok b->Good v b) (hs:bB P ok (fun _=>True) s)
   (dI: ∀w a w' g',s.run P w= .ok a w'->nx a=some g'->g'.status= .running/\∃es,stepG P mn g w= .go g' w' es/\∀e∈es,e∈s.events P w #[]/\∀f,e.loc≠ .mark (.extern f))
   (h1: ∀v',Itf v v'->s.run P v'= .ok (x v') (v2 v')/\nx (x v')=some (g2 v'))
   (h2: ∀v',Itf v v'->Iv P mn Fin (g2 v') (v2 v')):Iv P mn Fin g v
 |look {g g':Goroutine} {v:World} (ad:Addr) (x:Value) (hg:g.status= .running/\g.offers=none/\g.dying=none) (hl:look v ad=some x) (hx:x.oneCell'=true) (hr:g'.status= .running)
   (dI: ∀w,w.cell? ad=some x->∃es,stepG P mn g w= .go g' w es/\(es= #[]\/es= #[⟨.cell ad,false,false⟩])) (h: ∀v',Itf v v'->Iv P mn Fin g' v'):Iv P mn Fin g v
 |ext {kd:CallKind} {f:FuncId} {args:Array Value} {c:Frame} {cs:List Frame} {v:World} (after:Value->Frame) (R:World->Value->World->Prop) (zM:(kd= .normal/\after=c.finish)\/(kd= .deferred/\c.mode= .returning/\after=fun _=>c))
   (hx: ∀v',Itf v v'->aG.x P mn kd f args v' (R v')) (h: ∀v',Itf v v'->∀y v2,R v' y v2->Iv P mn Fin (G (after y) cs) v2):Iv P mn Fin (G (Frame.enter P f args kd) (c::cs)) v
section
variable{P:Program}{mn:Bool}{Fin:Goroutine->World->Prop}{g:Goroutine}{v:World}
theorem Iv.lj{v':World}(h:Iv P mn Fin g v)(i:Itf v v'):Iv P mn Fin g v':=by
 cases h with
 |fin h=>exact .fin fun u hu=>h u (i.trans hu)
 |step s ok nx x v2 g2 hg aL hs dI h1 h2=>exact .step s ok nx x v2 g2 hg (fun b hb=>(aL b hb).lj i) hs dI (fun u hu=>h1 u (i.trans hu)) fun u hu=>h2 u (i.trans hu)
 |look ad x hg hl hx hr dI h=>exact .look ad x hg (i.look hl) hx hr dI fun u hu=>h u (i.trans hu)
 |ext after R zM hx h=>exact .ext after R zM (fun u hu=>hx u (i.trans hu)) fun u hu=>h u (i.trans hu)
theorem Iv.EB{α:Type}(s:Sem α)(ok:Nat->Prop)(nx:α->Option Goroutine)(hg:g.status= .running/\g.offers=none/\g.dying=none)(aL: ∀b,ok b->Good v b)(hs:bB P ok (fun _=>True) s)
  (dI: ∀w a w' g',s.run P w= .ok a w'->nx a=some g'->g'.status= .running/\∃es,stepG P mn g w= .go g' w' es/\∀e∈es,e∈s.events P w #[]/\∀f,e.loc≠ .mark (.extern f))
  (h: ∀v',Itf v v'->∃a v2 g2,s.run P v'= .ok a v2/\nx a=some g2/\Iv P mn Fin g2 v2):Iv P mn Fin g v:=by
 obtain⟨a0,_⟩:=h v (Itf.refl v)
 have h': ∀v',∃y:α×World×Goroutine,Itf v v'->s.run P v'= .ok y.1 y.2.1/\nx y.1=some y.2.2/\Iv P mn Fin y.2.2 y.2.1:=fun v'=>by
  by_cases i:Itf v v'
  ·obtain⟨a,v2,g2,h1,h2,h3⟩:=h v' i
   exact⟨(a,v2,g2),fun _=>⟨h1,h2,h3⟩⟩
  exact⟨(a0,v,g),fun x=>absurd x i⟩
 obtain⟨f,hf⟩:=Classical.skolem.1 h'
 exact .step s ok nx (fun v'=>(f v').1) (fun v'=>(f v').2.1) (fun v'=>(f v').2.2) hg aL hs dI (fun v' i=>⟨(hf v' i).1,(hf v' i).2.1⟩) fun v' i=>(hf v' i).2.2
theorem Iv.quiet{g':Goroutine}(hg:g.status= .running/\g.offers=none/\g.dying=none)(hr:g'.status= .running)(h: ∀w,stepG P mn g w= .go g' w #[])(k:Iv P mn Fin g' v):Iv P mn Fin g v:=
 Iv.EB (pure ():Sem Unit) (fun _=>False) (fun _=>some g') hg (fun _ hb=>hb.elim) trivial
  (fun w a w' g2 e1 e2=>by
   cases e2
   have:w'=w:=by
    have e:(pure ():Sem Unit).run P w= .ok () w:=rfl
    rw[e]at e1;cases e1;rfl
   subst this
   exact⟨hr,#[],h w',fun e he=>by simp at he⟩)
  fun v' i=>⟨(),v',g',rfl,rfl,k.lj i⟩
theorem aX(fr:Frame)(cs:List Frame):(G fr cs).status= .running/\(G fr cs).offers=none/\(G fr cs).dying=none:=⟨rfl,rfl,rfl⟩
theorem Iv.q{fr rM:Frame}{cs wi:List Frame}(h: ∀w,stepG P mn (G fr cs) w= .go (G rM wi) w #[])(k:Iv P mn Fin (G rM wi) v):Iv P mn Fin (G fr cs) v:=Iv.quiet (aX _ _) rfl h k
end
theorem MV{P:Program}{fn:FuncId}{es:Array Event}{e:Event}(h:e∈seen P fn es): ∀f,e.loc≠ .mark (.extern f):=by
 rw[seen_def]at h
 have key: ∀ (l:List Event) (q:Bool) (kept:Array Event),(∀x∈kept,∀f,x.loc≠ .mark (.extern f))->∀x∈(l.foldl (seenStep fun f=>(P.funcs[f]?).any (·.norace)) (q,kept)).2,∀f,x.loc≠ .mark (.extern f):=by
  intro l
  induction l with
  |nil=>exact fun _ _ h=>h
  |cons y l ih=>
   intro q kept hk
   simp only[List.foldl_cons,seenStep]
   split
   ·exact ih _ _ hk
   rename_i cb
   refine ih _ _ fun x hx=>?_
   split at hx
   ·exact hk x hx
   rcases Array.mem_push.1 hx with hx|rfl
   ·exact hk x hx
   exact fun f e=>cb f e
 exact key _ _ #[] (by simp) e h
theorem gV{P:Program}{fn:FuncId}{es:Array Event}: ∀e∈seen P fn es,e∈es/\∀f,e.loc≠ .mark (.extern f):=fun _ he=>⟨mem_seen he,MV he⟩
section
variable(P:Program)(mn:Bool)(Fin:Goroutine->World->Prop)(b:Frame)(k:List Item)(cs:List Frame)
def Lv:Exit->Act->World->Prop
 |.normal,a,v=>Iv P mn Fin (G (b.atR a k) cs) v
 |.exit i,a,v=>∀k2,exitTo i k2=exitTo i k->Iv P mn Fin (G (b.atR a (.code (.exit i)::k2)) cs) v
 |.goto l,a,v=>∀k2,gotoIn l k2=gotoIn l k->Iv P mn Fin (G (b.atR a (.code (.goto l)::k2)) cs) v
 |.ret,a,v=>∀k2,Iv P mn Fin (G (b.atR a (.code .ret::k2)) cs) v
 |_,_,_=>False
end
def _root_.Go.Code.lT(ro:Option Nat)(P:Program)(c:Code)(Q:Exit->Act->World->Prop)(a:Act)(v:World):Prop:=
 ∀ (mn:Bool) (Fin:Goroutine->World->Prop) (b:Frame) (k:List Item) (cs:List Frame),b.roundOf=ro->b.kind≠ .early->(∀e a' v',Q e a' v'->Lv P mn Fin b k cs e a' v')->Iv P mn Fin (G (b.atR a (.code c::k)) cs) v
section
variable{ro:Option Nat}{P:Program}{Q:Exit->Act->World->Prop}{a:Act}{v:World}
theorem fp{c:Code}{Q':Exit->Act->World->Prop}(h:c.lT ro P Q a v)(hq: ∀e a v,Q e a v->Q' e a v):c.lT ro P Q' a v:=fun mn Fin b k cs h1 h2 h3=>h mn Fin b k cs h1 h2 fun e a v hh=>h3 e a v (hq e a v hh)
section
variable{mn:Bool}{Fin:Goroutine->World->Prop}{b:Frame}{k k':List Item}{cs:List Frame}
theorem Lv.up{e:Exit}(he:e≠ .normal)(hx: ∀i,exitTo i k'=exitTo i k)(hg: ∀l,gotoIn l k'=gotoIn l k)(h:Lv P mn Fin b k cs e a v):Lv P mn Fin b k' cs e a v:=by
 cases e with
 |normal=>exact absurd rfl he
 |exit i=>exact fun k2 e2=>h k2 (e2.trans (hx i))
 |goto l=>exact fun k2 e2=>h k2 (e2.trans (hg l))
 |ret=>exact h
 |panic ch=>exact h
 |outgrown=>exact h
end
theorem Mz(h:Q .normal a v):Code.skip.lT ro P Q a v:=fun _ _ _ _ _ _ _ hk=>Iv.q (fun w=>by simp[G,stepG,stepG.exec,Frame.atR]) (hk _ _ _ h)
theorem I5{l:Nat}(h:Q .normal a v):(Code.label l).lT ro P Q a v:=fun _ _ _ _ _ _ _ hk=>Iv.q (fun w=>by simp[G,stepG,stepG.exec,Frame.atR]) (hk _ _ _ h)
theorem MB{i:Nat}(h:Q (.exit i) a v):(Code.exit i).lT ro P Q a v:=fun _ _ _ k _ _ _ hk=>hk _ _ _ h k rfl
theorem MA{l:Nat}(h:Q (.goto l) a v):(Code.goto l).lT ro P Q a v:=fun _ _ _ k _ _ _ hk=>hk _ _ _ h k rfl
theorem OP(h:Q .ret a v):Code.ret.lT ro P Q a v:=fun _ _ _ k _ _ _ hk=>hk _ _ _ h k
theorem OO{x y:Code}(h:x.lT ro P (Exit.then (y.lT ro P Q) Q) a v):(Code.seq x y).lT ro P Q a v:=by
 intro mn Fin b k cs iP uN hk
 refine Iv.q (fun w=>by simp only[G,stepG,stepG.exec,Frame.atR]) (h mn Fin b (.code y::k) cs iP uN fun e a' v' hq=>?_)
 cases e with
 |normal=>exact hq mn Fin b k cs iP uN hk
 |exit i=>exact(hk _ _ _ hq).up (by simp) (fun i=>by simp[exitTo]) (fun l=>by simp[gotoIn])
 |goto l=>exact(hk _ _ _ hq).up (by simp) (fun i=>by simp[exitTo]) (fun l=>by simp[gotoIn])
 |ret=>exact(hk _ _ _ hq).up (by simp) (fun i=>by simp[exitTo]) (fun l=>by simp[gotoIn])
 |panic ch=>exact hk _ _ _ hq
 |outgrown=>exact hk _ _ _ hq
theorem Dj{c:Operand}{x y:Code}{t:Bool}(hc:a.eval c= .bool t)(h:(if t then x else y).lT ro P Q a v):(Code.cond c x y).lT ro P Q a v:=by
 intro mn Fin b k cs iP uN hk
 have gk: ∀todo,(b.atR a todo).eval c= .bool t:=fun todo=>by rw[Frame.eval_atR];exact hc
 refine Iv.q (fun w=>?_) (h mn Fin b k cs iP uN hk)
 have:=gk (.code (.cond c x y)::k)
 simp only[Frame.atR]at this
 simp[G,stepG,stepG.exec,Frame.atR,this]
theorem qH{c:Operand}{x y:Code}(hc:a.eval c= .bool true)(h:x.lT ro P Q a v):(Code.cond c x y).lT ro P Q a v:=Dj hc h
theorem pJ{c:Operand}{x y:Code}(hc:a.eval c= .bool false)(h:y.lT ro P Q a v):(Code.cond c x y).lT ro P Q a v:=Dj hc h
theorem I6{id:Nat}{c:Code}(h:c.lT ro P (Exit.inBlock id Q) a v):(Code.block id c).lT ro P Q a v:=by
 intro mn Fin b k cs iP uN hk
 have back: ∀a v,Iv P mn Fin (G (b.atR a k) cs) v->Iv P mn Fin (G (b.atR a (.inBlock id::k)) cs) v:=fun a v hh=>Iv.q (fun w=>by simp[G,stepG,stepG.exec,Frame.atR]) hh
 refine Iv.q (fun w=>by simp only[G,stepG,stepG.exec,Frame.atR]) (h mn Fin b (.inBlock id::k) cs iP uN fun e a' v' hq=>?_)
 cases e with
 |normal=>exact back _ _ (hk _ _ _ hq)
 |exit i=>
  by_cases hi:i=id
  ·subst hi
   simp only[Exit.inBlock,if_true]at hq
   have hn:=hk _ _ _ hq
   refine fun k2 e2=>Iv.q (fun w=>?_) hn
   have e3:exitTo i k2=some k:=by rw[e2];simp[exitTo]
   simp[G,stepG,stepG.exec,Frame.atR,e3]
  simp only[Exit.inBlock,hi,if_false]at hq
  have cb:(id==i)=false:=by simp;exact fun h=>hi h.symm
  refine fun k2 e2=>hk _ _ _ hq k2 (e2.trans (by simp[exitTo,cb]))
 |goto l=>exact fun k2 e2=>hk _ _ _ hq k2 (e2.trans (by simp[gotoIn]))
 |ret=>exact hk _ _ _ hq
 |panic ch=>exact hk _ _ _ hq
 |outgrown=>exact hk _ _ _ hq
def rv(ro:Option Nat)(P:Program)(c:Code)(Q:Exit->Act->World->Prop)(a:Act)(v:World):Prop:=
 ∀ (mn:Bool) (Fin:Goroutine->World->Prop) (b:Frame) (k:List Item) (cs:List Frame),b.roundOf=ro->b.kind≠ .early->(∀e a' v',Q e a' v'->Lv P mn Fin b k cs e a' v')->Iv P mn Fin (G (b.atR a (.inLoop c::k)) cs) v
theorem pF{c:Code}{Q':Exit->Act->World->Prop}(h:rv ro P c Q a v)(hq: ∀e a v,Q e a v->Q' e a v):rv ro P c Q' a v:=fun mn Fin b k cs h1 h2 h3=>h mn Fin b k cs h1 h2 fun e a v hh=>h3 e a v (hq e a v hh)
theorem Dw{c:Code}(h:c.lT ro P (Exit.then (rv ro P c Q) Q) a v){mn:Bool}{Fin:Goroutine->World->Prop}{b:Frame}{k:List Item}{cs:List Frame}(iP:b.roundOf=ro)(uN:b.kind≠ .early)(hk: ∀e a' v',Q e a' v'->Lv P mn Fin b k cs e a' v'):
  Iv P mn Fin (G (b.atR a (.code c:: .inLoop c::k)) cs) v:=by
 refine h mn Fin b (.inLoop c::k) cs iP uN fun e a' v' hq=>?_
 cases e with
 |normal=>exact hq mn Fin b k cs iP uN hk
 |exit i=>exact(hk _ _ _ hq).up (by simp) (fun i=>by simp[exitTo]) (fun l=>by simp[gotoIn])
 |goto l=>exact(hk _ _ _ hq).up (by simp) (fun i=>by simp[exitTo]) (fun l=>by simp[gotoIn])
 |ret=>exact(hk _ _ _ hq).up (by simp) (fun i=>by simp[exitTo]) (fun l=>by simp[gotoIn])
 |panic ch=>exact hk _ _ _ hq
 |outgrown=>exact hk _ _ _ hq
theorem Ce{c:Code}(h:c.lT ro P (Exit.then (rv ro P c Q) Q) a v):(Code.loop c).lT ro P Q a v:=fun _ _ _ _ _ iP uN hk=>Iv.q (fun w=>by simp only[G,stepG,stepG.exec,Frame.atR]) (Dw h iP uN hk)
theorem pN{c:Code}(h:c.lT ro P (Exit.then (rv ro P c Q) Q) a v):rv ro P c Q a v:=fun _ _ _ _ _ iP uN hk=>Iv.q (fun w=>by simp only[G,stepG,stepG.exec,Frame.atR]) (Dw h iP uN hk)
def Ir(ro:Option Nat)(P:Program)(c r:Code)(Q:Exit->Act->World->Prop)(a:Act)(v:World):Prop:=
 ∀ (mn:Bool) (Fin:Goroutine->World->Prop) (b:Frame) (k:List Item) (cs:List Frame),b.roundOf=ro->b.kind≠ .early->(∀e a' v',Q e a' v'->Lv P mn Fin b k cs e a' v')->Iv P mn Fin (G (b.atR a (.code r:: .inScope c::k)) cs) v
theorem Ee{c:Code}(h:Ir ro P c c Q a v):(Code.scope c).lT ro P Q a v:=fun mn Fin b k cs iP uN hk=>Iv.q (fun w=>by simp only[G,stepG,stepG.exec,Frame.atR]) (h mn Fin b k cs iP uN hk)
end
end Go.SE
