/- HashMany returns true for every slice of tuples, in whatever order its goroutines run, and its argument reads as before. No condition. -/
import Derived.Test.YtahoihfbjlgpgaaCoD
import Derived.OrdersIn
import Derived.OpenShut
set_option linter.all false
namespace Go.SE
open Go Go.RowKit
variable [aG]
variable{P:Program}{o:Oper}{env:Env}{m:M}
theorem jF{r:Nat}{es:Array MapEntry}{c:Nat}{w:World}(h:w.heap[r]?=some (.map es c)):(getObj r).run P w= .ok (.map es c) w:=by simp[getObj,Sem.run,h]
theorem v7{r:Nat}{es:Array MapEntry}{c:Nat}{w:World}(o:Obj)(h:w.heap[r]?=some (.map es c)):(setObj r o).run P w= .ok () (w.putObj r o):=by simp[setObj,Sem.run,h,World.putObj]
theorem tm{t e:TypeId}(h:mapElem P t=some e): ∃k,P.underlying t=some (.map k e)/\P.underlying k=some (.int .u8):=by
 unfold mapElem at h
 split at h
 ·rename_i k e' hu
  split at h
  ·rename_i hk;cases h;exact⟨k,hu,hk⟩
  cases h
 cases h
theorem iO{b:Bool}{t:TypeId}{q:IntKind}{k:IntKind}{i:Int}(h:P.underlying t=some (.int q))(w:World):(Instr.checkKey b 10000 t (.int k i)).run P w= .ok () w:=by
 have e:(10000:Nat)=9999+1:=rfl
 rw[e]
 generalize 9999=n
 simp[Instr.checkKey,run_underlying h]
theorem jX{q:IntKind}{i:Int}: ∀ {es:List MapEntry} (n:Nat),p7 es->(∀j:Nat,1<=j->j<=7->i=(j:Int)->eN j es=none)->Instr.findNow (.int q) (.int .u8 i) es n=some none
 | [],n,_,_=>rfl
 |e::es,n,hk,hi=>by
  obtain⟨j,h1,h2,h3⟩:=hk e (by simp)
  have cb:i≠(j:Int):=fun q=>by
   have:=hi j h1 h2 q
   simp[eN,uT,h3]at this
  simp only[Instr.findNow,Instr.sameNow,h3,if_true]
  rw[show(i==(j:Int))=false by simp[cb]]
  refine jX (n+1) (fun x hx=>hk x (by simp[hx])) fun j' g1 g2 g3=>?_
  have:=hi j' g1 g2 g3
  simp only[eN,cond_eq_ite]at this
  split at this
  ·cases this
  exact this
theorem tv{q:IntKind}{j:Nat}{y:Value}: ∀ {es:List MapEntry} (n:Nat),p7 es->eN j es=some y->∃k,Instr.findNow (.int q) (.int .u8 (j:Int)) es n=some (some (k,y))
 | [],n,_,h=>by cases h
 |e::es,n,hk,h=>by
  obtain⟨j',h1,h2,h3⟩:=hk e (by simp)
  simp only[eN,cond_eq_ite,h3,uT,beq_iff_eq]at h
  simp only[Instr.findNow,Instr.sameNow,h3,if_true]
  split at h
  ·rename_i he
   cases h
   rw[show((j:Int)==(j':Int))=true by simp[he]]
   exact⟨n,rfl⟩
  rename_i he
  rw[show((j:Int)==(j':Int))=false by simp;omega]
  exact tv (n+1) (fun x hx=>hk x (by simp[hx])) h
theorem jG{kt:TypeId}{q:IntKind}{k:Value}{es:List MapEntry}{r:Option (Nat×Value)}(h:P.underlying kt=some (.int q))(hf:Instr.findNow (.int q) k es 0=some r)(w:World):(Instr.findKey kt k es).run P w= .ok r w:=by
 simp[Instr.findKey,run_underlying h,hf]
theorem jY{j:Nat}{e:MapEntry}: ∀ (es:List MapEntry),eN j (es++ [e])=(eN j es).or (bif uT j e.key then some e.val else none)
 | []=>by simp only[List.nil_append,eN,Option.none_or]
 |x::es=>by
  simp only[List.cons_append,eN,jY es]
  cases uT j x.key<;>simp
def Ov(res:Option (Nat×Value))(z:Value):Value:=match res with|some p=>p.2|none=>z
theorem Gn{w:World}{t e kt:TypeId}{r:Nat}{es:Array MapEntry}{c:Nat}{i:Int}{res:Option (Nat×Value)}{z:Value}(hm:P.underlying t=some (.map kt e))(hk:P.underlying kt=some (.int .u8))(hr:w.heap[r]?=some (.map es c))
  (hf:Instr.findNow (.int .u8) (.int .u8 i) es.toList 0=some res) (hz:res=none->(zeroValue e).run P w= .ok z w):(Instr.lookup t (.map (some r)) (.int .u8 i) false).run P w= .ok (Ov res z) w:=by
 cases res with
 |none=>simp[Instr.lookup,run_underlying hm,jF hr,iO hk,jG hk hf,hz rfl,Ov]
 |some p=>simp[Instr.lookup,run_underlying hm,jF hr,iO hk,jG hk hf,Ov]
theorem qb{t e:TypeId}{mp k:Operand}{h:Nat}{s:S}{i:Int}{kn:Bool}{j:Option Nat}{x:T}(ho:o.op= .lookup t mp k false)(EO:mapElem P t=some e)(Kh:cJ env mp=some (.mp h))(hk:cJ env k=some s)(hs:s.int?=some (.u8,i,kn))
  (hj:so i j) (hl:iA P m e h j=some x):dj P o env m {val:=.t x,aj:= [],nh:=m.nh}:=by
 obtain⟨kt,h1,h2⟩:=tm EO
 refine aH fun B w0 ρ a w he hm=>?_
 have g1:a.eval mp= .map (some (ρ h).blk):=aA he Kh
 have g2:=S.bV hs (aA he hk)
 have fin: ∀ {es:Array MapEntry} {c:Nat} {res:Option (Nat×Value)} {z:Value},w.heap[(ρ h).blk]?=some (.map es c)->Instr.findNow (.int .u8) (.int .u8 i) es.toList 0=some res->(res=none->(zeroValue e).run P w= .ok z w)->
   x.Rel ρ (Ov res z)->∃y,(execOp a.eval o).run P w= .ok (.value y) w/\X.Rel ρ (.t x) y:=by
  intro es c res z q1 q2 q3 q4
  have:=Gn h1 h2 q1 q2 q3
  exact⟨_,by simp[execOp,ho,g1,g2,this],q4⟩
 cases j with
 |some j=>
  obtain⟨rfl,j1,j2⟩:=hj
  simp only[iA]at hl
  split at hl
  ·rename_i mh j' s' hr
   simp only[cond_eq_ite,Bool.and_eq_true]at hl
   split at hl
   ·rename_i hb
    have b1:=Nat.eq_of_beq_eq_true hb.1
    have b2:=Nat.eq_of_beq_eq_true hb.2
    subst b1;subst b2
    cases hl
    obtain⟨r1,r2,es,c,r3,r4,y,r5,r6⟩:=hm.aj _ _ hr
    obtain⟨k',hf⟩:=tv (q:=.u8) 0 r4 r5
    rw[r2]at r3
    exact fin (z:=y) r3 hf (fun q=>by cases q) r6
   cases hl
  ·rename_i mh j' hr
   simp only[cond_eq_ite,Bool.and_eq_true]at hl
   split at hl
   ·rename_i hb
    have b1:=Nat.eq_of_beq_eq_true hb.1
    have b2:=Nat.eq_of_beq_eq_true hb.2
    subst b1;subst b2
    obtain⟨r1,r2,es,c,r3,r4,r5⟩:=hm.aj _ _ hr
    obtain⟨z,hz,hv⟩:=iH hl
    rw[r2]at r3
    refine fin (z:=z) r3 (jX 0 r4 fun jj _ _ q=>?_) (fun _=>hz w) (eG hv)
    have:jj=j':=by omega
    rw[this];exact r5
   cases hl
  cases hl
 |none=>
  simp only[iA]at hl
  split at hl
  ·rename_i mh hr
   simp only[cond_eq_ite]at hl
   split at hl
   ·rename_i hb
    have b1:=Nat.eq_of_beq_eq_true hb
    subst b1
    obtain⟨r1,r2,es,c,r3,r4,r5⟩:=hm.aj _ _ hr
    obtain⟨z,hz,hv⟩:=iH hl
    refine fin (z:=z) r3 (jX 0 r4 fun jj j1 j2 q=>?_) (fun _=>hz w) (eG hv)
    simp only[so]at hj
    omega
   cases hl
  cases hl
theorem GH{t:TypeId}{mp k:Operand}{c:Bool}(ho:o.op= .lookup t mp k c):(wF P env m t mp k c).Ok P o env m:=by
 unfold wF
 refine Comes.Ok.tY (fun hc=>by subst hc;exact Ew ho) fun hc=>?_
 subst hc
 split
 ·rename_i e h s EO Kh hk
  split
  ·rename_i i hs
   split
   ·rename_i n
    refine Comes.Ok.tY (fun hb=>?_) fun hb=>?_
    ·have hb:n<7:=Nat.le_of_ble_eq_true hb
     split
     ·rename_i x hx;exact qb ho EO Kh hk hs (j:=some (n+1)) ⟨rfl,by omega,by omega⟩ hx
     trivial
    have hb: ¬n<7:=fun q=>by rw[show Nat.blt n 7=true from Nat.ble_eq_true_of_le q]at hb;cases hb
    split
    ·rename_i x hx;exact qb ho EO Kh hk hs (j:=none) (.inr (by simp only[Int.ofNat_eq_natCast];omega)) hx
    trivial
   rename_i cb
   split
   ·rename_i x hx
    refine qb ho EO Kh hk hs (j:=none) (.inl ?_) hx
    cases i with
    |ofNat n=>
     cases n with
     |zero=>decide
     |succ n=>exact absurd rfl (cb n)
    |negSucc n=>omega
   trivial
  ·rename_i i hs
   rintro⟨j,ef⟩ ⟨h1,h2⟩
   simp only[sn]at h2
   split at h2
   ·rename_i x hx
    simp only[Option.some.injEq]at h2
    simp only
    rw[<-h2]
    exact qb ho EO Kh hk hs h1 hx
   cases h2
  trivial
 trivial
theorem GJ{t:TypeId}{mp k v:Operand}(ho:o.op= .insert t mp k v):(wG P env m t mp k v).Ok P o env m:=by
 unfold wG
 split
 ·rename_i e h j s EO Kh hk hv
  split
  ·rename_i mh j' hr
   refine Comes.Ok.bif fun hb=>?_
   rw[Bool.and_eq_true]at hb
   have b1:=Nat.eq_of_beq_eq_true hb.1
   have b2:=Nat.eq_of_beq_eq_true hb.2
   subst b1;subst b2
   obtain⟨kt,h1,h2⟩:=tm EO
   have ZL: ∃s',cJ env k=some s'/\s'.int?=some (.u8,(j':Int),true)/\1<=j'/\j'<=7:=by
    unfold rk at hk
    split at hk
    ·rename_i s' AS
     split at hk
     ·rename_i n hn
      simp only[cond_eq_ite]at hk
      split at hk
      ·rename_i hb
       have hb:n<7:=Nat.le_of_ble_eq_true hb
       cases hk
       exact⟨s',AS,hn,by omega,by omega⟩
      cases hk
     cases hk
    cases hk
   obtain⟨s',Xt,Ye,j1,j2⟩:=ZL
   refine⟨Nat.le_refl _,fun nt B w0 D ρ a w _ aL=>?_⟩
   have step: ∀ρ,an D ρ ρ->∀_:cq ρ env a,∀hm:kh P B w0 ρ m w,∃w',(execOp a.eval o).run P w= .ok .skip w'/\kh P B w0 ρ (m.app {val:=.uL,aj:= [(mh+j',.slot mh (some j') (some s))],nh:=m.nh}) w':=by
    intro ρ _ he hm
    obtain⟨r1,r2,es,c,r3,r4,r5⟩:=hm.aj _ _ hr
    have g1:a.eval mp= .map (some (ρ mh).blk):=aA he Kh
    have g2:=S.bV Ye (aA he Xt)
    have g3:=aA he hv
    have hf:Instr.findNow (.int .u8) (.int .u8 (j':Int)) es.toList 0=some none:=jX 0 r4 fun jj _ _ q=>by
     have:jj=j':=by omega
     rw[this];exact r5
    have Xj:w.heap[(ρ mh).blk]?=some (.map es c):=by rw[<-r2];exact r3
    let zb:MapEntry:={key:=.int .u8 (j':Int),val:=a.eval v,born:=c}
    refine⟨w.putObj (ρ mh).blk (.map (es.push zb) (c+1)),?_,?_⟩
    ·have:(Instr.mapUpdate t (.map (some (ρ mh).blk)) (.int .u8 (j':Int)) (a.eval v)).run P w= .ok () (w.putObj (ρ mh).blk (.map (es.push zb) (c+1))):=by
      simp[Instr.mapUpdate,run_underlying h1,jF Xj,iO h2,jG h2 hf,v7 _ Xj];rfl
     simp[execOp,ho,g1,g2,this]
    have bA:(ρ mh).blk<w.heap.size:=(Array.getElem?_eq_some_iff.1 Xj).1
    have oN:dc (ρ mh).blk w (w.putObj (ρ mh).blk (.map (es.push zb) (c+1))):=⟨rfl,rfl,rfl,by simp,fun _ hk=>World.putObj_heap_other (by first|exact hk|exact Ne.symm hk)⟩
    have jh:(w.putObj (ρ mh).blk (.map (es.push zb) (c+1))).heap[(ρ mh).blk]?=some (.map (es.push zb) (c+1)):=World.putObj_heap_same bA
    have Mm:p7 (es.push zb).toList:=by
     intro x hx
     rw[Array.toList_push]at hx
     rcases List.mem_append.1 hx with hx|hx
     ·exact r4 x hx
     rw[List.mem_singleton]at hx;subst hx;exact⟨j',j1,j2,rfl⟩
    have bn: ∀h2 r2,(m.app {val:=.uL,aj:= [(mh+j',.slot mh (some j') (some s))],nh:=m.nh}).reg h2=some r2->(h2=mh+j'/\r2= .slot mh (some j') (some s))\/(h2≠mh+j'/\m.reg h2=some r2):=by
     intro h2 r2 hh
     rw[lD]at hh
     simp only[aK,cond_eq_ite]at hh
     split at hh
     ·rename_i he
      have:=Nat.eq_of_beq_eq_true he
      simp at hh
      exact .inl ⟨this.symm,hh.symm⟩
     rename_i he
     simp at hh
     exact .inr ⟨fun e=>he (by rw[e];exact Nat.beq_refl _),hh⟩
    have E5: ∀ (z:bd) (x:Option S),gR (.slot mh (some j') x) z=gR (.slot mh (some j') none) z:=fun z x=>by cases z<;>rfl
    refine⟨fun k' z hz=>?_,fun k1 k2 z1 z2 e1 e2 cb ht aN hl n1 n2=>?_,fun k' z hz aN hn=>?_,hm.below.trans (oN.below ?_),hm.hB⟩
    ·rcases bn _ _ hz with⟨rfl,rfl⟩|⟨cb,hz⟩
     ·refine⟨r1,r2,es.push zb,c+1,by rw[r2];exact jh,Mm,a.eval v,?_,g3⟩
      rw[Array.toList_push,jY]
      have r5:eN j' es.toList=none:=r5
      simp only[r5,Option.none_or]
      simp[zb,uT]
     by_cases ht:gR (.slot mh (some j') none) z=true
     ·obtain⟨mh2,RG,YV,rfl⟩: ∃a b c,z= .slot a b c:=by cases z<;>first|(cases ht;done)|exact⟨_,_,_,rfl⟩
      simp only[gR,Bool.not_eq_true',beq_eq_false_iff_ne]at ht
      obtain⟨q1,q2,es2,c2,q3,q4,q5⟩:=hm.aj _ _ hz
      by_cases hb:(ρ k').blk=(ρ mh).blk
      ·rw[hb,Xj]at q3
       simp only[Option.some.injEq,Obj.map.injEq]at q3
       obtain⟨rfl,rfl⟩:=q3
       refine⟨q1,q2,es.push zb,c+1,by rw[hb];exact jh,Mm,?_⟩
       rw[Array.toList_push]
       cases RG with
       |none=>trivial
       |some j2=>
        have oA:uT j2 zb.key=false:=by
         simp only[zb,uT,beq_eq_false_iff_ne,ne_eq]
         intro q
         exact ht (by rw[show j'=j2 by omega])
        cases YV with
        |none=>
         have q5:eN j2 es.toList=none:=q5
         show eN j2 (es.toList++ [zb])=none
         rw[jY,q5,oA];rfl
        |some s2=>
         obtain⟨y2,q5,q6⟩:=q5
         exact⟨y2,by rw[jY,q5,oA];rfl,q6⟩
      exact⟨q1,q2,es2,c2,(oN.block _ hb).trans q3,q4,q5⟩
     refine(hm.aj _ _ hz).same (fun n2 l2=>oN.block _ fun e=>?_) (Nat.le_of_eq oN.size.symm)
     have:=hm.fG _ _ _ _ hr hz (Ne.symm cb) (by simpa using ht) rfl l2 r1 n2
     rw[r2]at this
     exact this e.symm
    ·rcases bn _ _ e1 with⟨rfl,rfl⟩|⟨c1,f1⟩<;>rcases bn _ _ e2 with⟨rfl,rfl⟩|⟨c2,f2⟩
     ·exact absurd rfl cb
     ·exact hm.fG _ _ _ _ hr f2 cb (by rw[E5]at ht;exact ht) rfl hl n1 n2
     ·exact hm.fG _ _ _ _ f1 hr cb (by have:=uq ht;rw[E5]at this;exact uq this) aN rfl n1 n2
     exact hm.fG _ _ _ _ f1 f2 cb ht aN hl n1 n2
    ·rcases bn _ _ hz with⟨rfl,rfl⟩|⟨_,hz⟩
     ·exact hm.base _ _ hr rfl hn
     exact hm.base _ _ hz aN hn
    rw[<-r2];exact hm.base _ _ hr rfl r1
   obtain⟨w',hw,_⟩:=step ρ (an.refl _ _) (aL.env ρ (an.refl _ _)) (aL.mem ρ (an.refl _ _))
   refine⟨undef,w',ρ,.inr ⟨rfl,hw⟩,an.refl _ _,fun ρ'' aU=>?_⟩
   have cW:an D ρ ρ'':=aU.mono fun h hd=>.inl hd
   obtain⟨GL,P0,Ki⟩:=step ρ'' (an.refl _ _) (aL.env ρ'' cW) (aL.mem ρ'' cW)
   rw[hw]at P0
   cases P0
   exact⟨Ki,trivial⟩
  trivial
 trivial
def BI(i:Nat):Option Nat:=if i=0 then none else some i
theorem Ev{t:TypeId}{r:Option Operand}(ho:o.op= .makeMap t r):(sV P m t r).Ok P o env m:=by
 unfold sV
 split
 ·exact Cq ho
 ·rw[eY]
  refine⟨Nat.le_add_right _ _,fun nt B w0 D ρ a w hD aL=>?_⟩
  have aS:(execOp a.eval o).run P w= .ok (.value (.map (some w.heap.size))) (w.alloc (.map #[] 0)):=by simp[execOp,ho,Instr.makeMap]
  let L:Loc:=⟨w.heap.size,0,0,0,false⟩
  let ρ':aZ:=fun k=>if m.nh<=k/\k<m.nh+8 then L else ρ k
  refine⟨_,_,ρ',.inl aS,fun k hk=>?_,fun ρ'' aU=>?_⟩
  ·show(if m.nh<=k/\k<m.nh+8 then L else ρ k)=ρ k
   rw[if_neg (show ¬(m.nh<=k/\k<m.nh+8)from fun hh=>hD k hh hk)]
  have hL: ∀k,m.nh<=k->k<m.nh+8->ρ'' k=L:=fun k h1 h2=>(aU k (.inr ⟨h1,h2⟩)).trans (if_pos ⟨h1,h2⟩)
  have cW:an D ρ ρ'':=fun k hk=>(aU k (.inl hk)).trans (if_neg (show ¬(m.nh<=k/\k<m.nh+8)from fun hh=>hD k hh hk))
  have hm:=aL.mem ρ'' cW
  refine⟨?_,by show Value.map _=Value.map _;rw[hL m.nh (Nat.le_refl _) (by omega)]⟩
  have fZ: ∀k z,(m.app {val:=.t (.one (.mp m.nh)),aj:= [(m.nh,.slot m.nh none none),(m.nh+1,.slot m.nh (some 1) none),(m.nh+2,.slot m.nh (some 2) none),(m.nh+3,.slot m.nh (some 3) none),(m.nh+4,.slot m.nh (some 4) none),(m.nh+5,.slot m.nh (some 5) none),(m.nh+6,.slot m.nh (some 6) none),(m.nh+7,.slot m.nh (some 7) none)],nh:=m.nh+8}).reg k=some z->
    (∃i,i<8/\k=m.nh+i/\z= .slot m.nh (BI i) none)\/((k<m.nh\/m.nh+8<=k)/\m.reg k=some z):=by
   intro k z hz
   rw[lD]at hz
   have hb: ∀i,Nat.beq (m.nh+i) k=true↔k=m.nh+i:=fun i=>⟨fun q=>(Nat.eq_of_beq_eq_true q).symm,fun q=>by rw[q];exact Nat.beq_refl _⟩
   have Q9:Nat.beq m.nh k=true↔k=m.nh:=⟨fun q=>(Nat.eq_of_beq_eq_true q).symm,fun q=>by rw[q];exact Nat.beq_refl _⟩
   simp only[aK,cond_eq_ite,hb,Q9]at hz
   by_cases h:m.nh<=k/\k<m.nh+8
   ·obtain⟨i,rfl⟩:=Nat.exists_eq_add_of_le h.1
    refine .inl ⟨i,by omega,rfl,?_⟩
    have hi:i<8:=by omega
    match i,hi with
    |0,_=>simp at hz;rw[<-hz];rfl
    |1,_=>simp at hz;rw[<-hz];rfl
    |2,_=>simp at hz;rw[<-hz];rfl
    |3,_=>simp at hz;rw[<-hz];rfl
    |4,_=>simp at hz;rw[<-hz];rfl
    |5,_=>simp at hz;rw[<-hz];rfl
    |6,_=>simp at hz;rw[<-hz];rfl
    |7,_=>simp at hz;rw[<-hz];rfl
   refine .inr ⟨by omega,?_⟩
   rw[if_neg (by omega),if_neg (by omega),if_neg (by omega),if_neg (by omega),if_neg (by omega),if_neg (by omega),if_neg (by omega),if_neg (by omega)]at hz
   simpa using hz
  have IF:B<=w.heap.size:=Nat.le_trans hm.hB hm.below.size
  refine⟨fun k z hz=>?_,fun k1 k2 z1 z2 e1 e2 cb ht aN hl n1 n2=>?_,fun k z hz aN hn=>?_,hm.below.alloc IF _,hm.hB⟩
  ·rcases fZ k z hz with⟨i,hi,rfl,rfl⟩|⟨_,hz⟩
   ·have e1:=hL (m.nh+i) (by omega) (by omega)
    have e0:=hL m.nh (Nat.le_refl _) (by omega)
    refine⟨by rw[e1],by rw[e1,e0],#[],0,by rw[e1];exact alloc_heap_new _ _,fun x hx=>by simp at hx,?_⟩
    unfold BI
    split
    ·trivial
    rfl
   exact(hm.aj _ _ hz).alloc _
  ·rcases fZ _ _ e1 with⟨i,hi,rfl,rfl⟩|⟨_,f1⟩<;>rcases fZ _ _ e2 with⟨i',yY,rfl,rfl⟩|⟨_,f2⟩
   ·exfalso
    simp only[gR,Bool.not_eq_false',beq_iff_eq]at ht
    unfold BI at ht
    split at ht<;>split at ht<;>first
     |(cases ht;done)
     |(simp only[Option.some.injEq]at ht;omega)
     |omega
   ·have:=(hm.aj _ _ f2).lt n2 hl
    rw[hL (m.nh+i) (by omega) (by omega)];show w.heap.size≠_;omega
   ·have:=(hm.aj _ _ f1).lt n1 (bd.dp aN)
    rw[hL (m.nh+i') (by omega) (by omega)];show _≠w.heap.size;omega
   exact hm.fG _ _ _ _ f1 f2 cb ht aN hl n1 n2
  rcases fZ _ _ hz with⟨i,hi,rfl,rfl⟩|⟨_,hz⟩
  ·rw[hL (m.nh+i) (by omega) (by omega)];exact IF
  exact hm.base _ _ hz aN hn
 trivial
theorem Ah{ρ:aZ}{w:World}{h:Nat}{cells:List S}{sz:Nat}{e:TypeId}(hb:bz ρ w h (.fR cells sz e)):
  (ρ h).base=0/\∃zs:List Value,bt ρ cells zs/\∀i y,zs[i]?=some y->w.cell? ⟨(ρ h).blk,i,none⟩=some y:=by
 obtain⟨_,h2,_,ys,zs,h3,_,⟨us,rfl⟩,h5⟩:=hb
 refine⟨h2,zs,h5,fun i y hy=>?_⟩
 have hi:i<zs.length:=(List.getElem?_eq_some_iff.1 hy).1
 simp[World.cell?,h3,List.getElem?_append_left hi,hy]
theorem zx{t:TypeId}{x:Operand}{h k:Nat}{cells:List S}{sz:Nat}{e:TypeId}{s:S}
  (ho:o.op= .load t x) (hx:cJ env x=some (.ptr h k)) (hr:m.reg h=some (.fR cells sz e)) (ha:bW P t=some false) (hs:nth cells k=some s):
  dj P o env m {val:=.t (.one s),aj:= [],nh:=m.nh}:=by
 refine aH fun B w0 ρ a w he hm=>?_
 have h1:a.eval x=aB ρ h k:=aA he hx
 obtain⟨h2,zs,h4,h5⟩:=Ah (hm.aj _ _ hr)
 obtain⟨y,hy,aJ⟩:=h4.nth hs
 refine⟨y,?_,aJ⟩
 simp[execOp,ho,h1,aB,Instr.loadAt,Instr.sureAddr,loadVar,bX ha,h2,h5 k y hy]
theorem zy{t:TypeId}{x:Operand}{h k:Nat}{cells:List S}{sz:Nat}{e:TypeId}
  (ho:o.op= .load t x) (hx:cJ env x=some (.ptr h k)) (hr:m.reg h=some (.fR cells sz e)) (ha:bW P t=some true) (hs:k+P.cellsOf t<=cells.length):
  dj P o env m {val:=.t (.agg (cut cells k (P.cellsOf t))),aj:= [],nh:=m.nh}:=by
 refine aH fun B w0 ρ a w he hm=>?_
 have h1:a.eval x=aB ρ h k:=aA he hx
 obtain⟨h2,zs,h4,h5⟩:=Ah (hm.aj _ _ hr)
 refine⟨.agg ((zs.drop k).take (P.cellsOf t)).toArray,?_,_,rfl,h4.cut _ _⟩
 have hd: ∃d,P.underlying t=some d:=by
  unfold bW at ha
  cases hu:P.underlying t with
  |none=>simp[hu]at ha
  |some d=>exact⟨d,rfl⟩
 obtain⟨d,hd⟩:=hd
 have hl:=h4.length
 have zK:=run_loadCells_list (P:=P) (w:=w) ⟨(ρ h).blk,k,none⟩ ((zs.drop k).take (P.cellsOf t)) (by
  intro j v hv
  rw[cN]
  rw[List.getElem?_take]at hv
  split at hv
  ·rw[List.getElem?_drop]at hv;exact h5 _ _ hv
  cases hv)
 have hlen:((zs.drop k).take (P.cellsOf t)).length=P.cellsOf t:=by simp;omega
 rw[hlen]at zK
 simp[execOp,ho,h1,aB,Instr.loadAt,Instr.sureAddr,loadVar,bX ha,h2,eF hd,zK]
end Go.SE

namespace Go.SE
open Go Go.RowKit
variable [aG]
variable{P:Program}{o:Oper}{env:Env}{m:M}
theorem DZ{x:Operand}(ho:o.op= .move x\/o.op= .assign x):(zX env m x).Ok P o env m:=by
 unfold zX;split
 ·rename_i t ht;exact Po ho (by unfold nU;rw[ht])
 ·rename_i l ht
  refine aH fun B w0 ρ a w he hm=>?_
  refine⟨a.eval x,?_,lN he ht⟩
  rcases ho with ho|ho<;>simp[execOp,ho]
 trivial
theorem Ny{c a b:Operand}(ho:o.op= .pick c a b):(Ho env m c a b).Ok P o env m:=by
 unfold Ho;split
 ·rename_i hc;split
  ·rename_i t ht;exact HW (b:=true) ho hc ht
  trivial
 ·rename_i hc;split
  ·rename_i t ht;exact HW (b:=false) ho hc ht
  trivial
 trivial
theorem PN{e:TypeId}{x:Operand}(ho:o.op= .box e x):(OG env m e x).Ok P o env m:=by
 unfold OG;split
 ·rename_i t ht;unfold ug;refine Comes.Ok.bif fun hb=>?_;rw[eY];exact TH ho ht (Nat.le_of_ble_eq_true hb)
 trivial
theorem J8{e:TypeId}(ho:o.op= .alloc e):(BA P m e).Ok P o env m:=by
 unfold BA;split
 ·rename_i t ht;unfold ug;refine Comes.Ok.bif fun hb=>?_;rw[eY];exact NF ho ht (Nat.le_of_ble_eq_true hb)
 trivial
theorem J7{t:TypeId}{parts:Array (Nat×Operand)}(ho:o.op= .build t parts):(Bz P env m t parts).Ok P o env m:=by
 unfold Bz;split
 ·rename_i h1 h2 h3
  refine Comes.Ok.bif fun hf=>?_
  split
  ·rename_i cs hc;exact v8 ho h1 h2 h3 hf hc
  trivial
 ·rename_i h1 h2 h3
  refine Comes.Ok.bif fun hf=>?_
  split
  ·rename_i cs hc;exact yU ho h1 h2 h3 hf hc
  trivial
 trivial
theorem yS{t:TypeId}{len:Nat}{parts:Array (Nat×Operand)}(ho:o.op= .buildSlice t len parts):(lR P env m t len parts).Ok P o env m:=by
 unfold lR;split
 ·rename_i h1 h2
  split
  ·rename_i z hz
   refine Comes.Ok.bif fun hf=>?_
   rw[Bool.and_eq_true]at hf
   split
   ·rename_i cs hc;rw[eY];exact zJ ho (ia h1) hz h2 (Nat.eq_of_beq_eq_true hf.1) (Nat.le_of_ble_eq_true hf.2) hc
   trivial
  trivial
 trivial
theorem Nz{t:TypeId}{a:Operand}(ho:o.op= .load t a):(Hp P env m t a).Ok P o env m:=by
 unfold Hp;split
 ·rename_i hx
  split
  ·rename_i hr
   split
   ·rename_i ha
    exact Comes.Ok.bif fun hf=>AB ho hx (.inl rfl) hr ha (Nat.le_of_ble_eq_true hf)
   ·rename_i ha
    split
    ·rename_i s hs;exact AA ho hx (.inl rfl) hr ha hs
    trivial
   trivial
  ·rename_i hr
   split
   ·rename_i ha
    exact Comes.Ok.bif fun hf=>zy ho hx hr ha (Nat.le_of_ble_eq_true hf)
   ·rename_i ha
    split
    ·rename_i s hs;exact zx ho hx hr ha hs
    trivial
   trivial
  trivial
 ·rename_i hx
  split
  ·rename_i hr
   split
   ·rename_i ha
    rintro l ⟨rfl,hl⟩;exact AB ho hx (.inr rfl) hr ha hl
   ·rename_i ha
    intro s hs;exact AA ho hx (.inr rfl) hr ha hs
   trivial
  ·rename_i hr
   split
   ·rename_i ha
    rintro l ⟨rfl,hl⟩;exact Cg ho hx hr ha hl
   ·rename_i ha
    intro s hs;exact Cf ho hx hr ha hs
   trivial
  trivial
 trivial
theorem J3{t:TypeId}{a x:Operand}(ho:o.op= .store t a x):(Bu P env m t a x).Ok P o env m:=by
 unfold Bu;split
 ·rename_i hx hy hd
  split
  ·rename_i hr
   refine Comes.Ok.bif fun hf=>?_
   rw[Bool.and_eq_true]at hf
   exact Ma ho hx (.inl rfl) hy hr hd (Nat.eq_of_beq_eq_true hf.1) (Nat.le_of_ble_eq_true hf.2)
  trivial
 ·rename_i hx hy hd
  split
  ·rename_i hr
   refine Comes.Ok.bif fun hf=>?_
   rintro l ⟨rfl,hl⟩
   exact Ma ho hx (.inr rfl) hy hr hd (Nat.eq_of_beq_eq_true hf) hl
  ·rename_i hr
   split
   ·rename_i vs Ke
    refine Comes.Ok.bif fun hf=>?_
    rw[Bool.and_eq_true]at hf
    rintro l ⟨rfl,hl⟩
    exact B6 ho hx hy hr hd (Nat.eq_of_beq_eq_true hf.1) Ke (Nat.le_of_ble_eq_true hf.2) hl
   trivial
  trivial
 trivial
theorem zI{t:TypeId}{x:Operand}{i:Nat}(ho:o.op= .fieldAddr t x i):(kU P env m t x i).Ok P o env m:=by
 unfold kU;split
 ·rename_i hu
  split
  ·rename_i f hf
   refine Comes.Ok.tY (fun _=>trivial) fun hz=>?_
   have rL:P.cellsOf f.type≠0:=fun e=>by rw[e]at hz;cases hz
   split
   ·rename_i hx;exact yx ho hx (.inl rfl) hu hf rL (.inl rfl)
   ·rename_i hx;exact yx ho hx (.inr rfl) hu hf rL (.inr rfl)
   trivial
  trivial
 trivial
theorem zH{t:TypeId}{x i:Operand}(ho:o.op= .indexAddr t x i):(nJ P env m t x i).Ok P o env m:=by
 unfold nJ;split
 ·rename_i si hi
  split
  ·rename_i hs hu
   refine Comes.Ok.bif fun hd=>?_
   split
   ·rename_i hx
    refine Comes.Ok.tY (fun _=>Comes.Ok.ite fun wh=>nP ho hx (.inl rfl) hi hs hu hd wh (.inl rfl)) (fun _ _ wh=>nP ho hx (.inl rfl) hi hs hu hd wh (.inr rfl))
   ·rename_i hx
    exact fun _ wh=>nP ho hx (.inr rfl) hi hs hu hd wh (.inr rfl)
   trivial
  ·rename_i hs hu
   refine Comes.Ok.bif fun hd=>?_
   split
   ·rename_i hx
    split
    ·rename_i hr
     refine Comes.Ok.bif fun hz=>?_
     have rL:=Nat.eq_of_beq_eq_true hz
     refine Comes.Ok.tY (fun _=>Comes.Ok.ite fun wh=>lM ho hx hi hs hu hd hr (fun ρ w h=>h.2.2.1.1) rL wh (.inl rfl)) (fun _ _ wh=>lM ho hx hi hs hu hd hr (fun ρ w h=>h.2.2.1.1) rL wh (.inr rfl))
    ·rename_i ai hr
     refine Comes.Ok.bif fun hz=>?_
     have rL:=Nat.eq_of_beq_eq_true hz
     exact fun _ wh=>lM ho hx hi hs hu hd hr (fun ρ w h=>by cases ai<;>exact h.1) rL wh (.inr rfl)
    ·rename_i hr
     refine Comes.Ok.bif fun hz=>?_
     rw[Bool.and_eq_true]at hz
     have rL:=Nat.eq_of_beq_eq_true hz.1
     exact Comes.Ok.ite fun wh=>lM ho hx hi hs hu hd hr (fun ρ w h=>h.2.2.1.1) rL wh (.inl rfl)
    trivial
   trivial
  trivial
 trivial
theorem TG{op:UnOp}{t:TypeId}{x:Operand}(ho:o.op= .unOp op t x):(XL env m op x).Ok P o env m:=by
 unfold XL;split
 ·rename_i hx;exact Fx ho hx (.inr rfl) (.inr rfl)
 ·rename_i hx;exact Fx ho hx (.inr rfl) (.inr rfl)
 ·rename_i hx;exact Fx ho hx (.inl rfl) (.inl rfl)
 trivial
theorem Ey{s d:TypeId}{x:Operand}(ho:o.op= .convert s d x):(pw P env m s d x).Ok P o env m:=by
 unfold pw;split
 ·rename_i h1 h2 hx
  split
  ·rename_i hs
   refine Comes.Ok.tY (fun _=>by rw[cG];exact Ik ho hx hs h1 h2 rfl (.inl rfl)) fun _=>?_
   rintro r hr;exact Ik ho hx hs h1 h2 hr (.inr rfl)
  trivial
 trivial
theorem Cr{fn:Fn}{first cz:Array Operand}(ho:o.op= .makeFunc fn first cz):(qj env m fn first cz).Ok P o env m:=by
 unfold qj;split
 ·rename_i h1 h2
  have:first= #[]:=by rw[<-Array.toArray_toList (xs:=first),h1]
  subst this
  exact Er ho h2
 ·rename_i f x h1 h2
  split
  ·rename_i h k hx
   have e1:first= #[x]:=by rw[<-Array.toArray_toList (xs:=first),h1]
   refine aH fun B w0 ρ a w he hm=>?_
   have g1:=aA he hx
   simp only[S.Rel]at g1
   have g2:=xL he h2
   have g3:cz.map a.eval= #[]:=by
    rw[<-Array.toArray_toList (xs:=cz.map a.eval),Array.toList_map,g2];rfl
   refine⟨.func (.func f) #[aB ρ h k] #[],?_,rfl⟩
   simp[execOp,ho,Instr.makeFunc,e1,g1,g3]
  trivial
 trivial
theorem Cp{x:Operand}(ho:o.op= .nilCheck x):(mN env m x).Ok P o env m:=by
 unfold mN;split
 ·rename_i hx
  refine aH fun B w0 ρ a w he hm=>?_
  have h1:a.eval x=aB ρ _ _:=aA he hx
  exact⟨_,by simp[execOp,ho,h1,aB],rfl⟩
 ·rename_i hx
  refine aH fun B w0 ρ a w he hm=>?_
  have h1:a.eval x=aB ρ _ _:=aA he hx
  exact⟨_,by simp[execOp,ho,h1,aB],rfl⟩
 ·rename_i f l hx
  refine aH fun B w0 ρ a w he hm=>?_
  have h1:a.eval x= .func (.func f) #[] (l.map fun p=>aB ρ p.1 p.2).toArray:=aA he hx
  exact⟨_,by simp[execOp,ho,h1],rfl⟩
 trivial
theorem Ex{t:Operand}{i:Nat}(ho:o.op= .extract t i):(sX env m t i).Ok P o env m:=by
 unfold sX;split
 ·rename_i hx
  split
  ·rename_i hl;exact GA ho hx hl
  trivial
 trivial
theorem Gu{c:Call}{x:Operand}{t e:TypeId}
  (ho:o.op= .call c) (hc:c.callee= .builtin .len) (ha:c.args.toList= [x]) (hx:cJ env x=some (.v (.slice none 0 0))) (ht:c.argTypes[0]?=some t) (hu:P.underlying t=some (.slice e)):
  dj P o env m {val:=.t (.one (.n .i64 0)),aj:= [],nh:=m.nh}:=by
 refine aH fun B w0 ρ a w he hm=>?_
 have h1:=aA he hx
 have yZ:c.args= #[x]:=by rw[<-Array.toArray_toList (xs:=c.args),ha]
 refine⟨.int .i64 0,?_,rfl⟩
 simp[execOp,ho,resolve,hc,invoke,builtin,Builtin.len_,yZ,ht,h1.1,run_underlying hu,goInt]
theorem Gt{c:Call}{x:Operand}{t e:TypeId}{b:Addr}{n cap:Nat}
  (ho:o.op= .call c) (hc:c.callee= .builtin .len) (ha:c.args.toList= [x]) (hx:cJ env x=some (.v (.slice (some b) n cap))) (ht:c.argTypes[0]?=some t) (hu:P.underlying t=some (.slice e)):
  dj P o env m {val:=.t (.one (.v (.int .i64 n))),aj:= [],nh:=m.nh}:=by
 refine aH fun B w0 ρ a w he hm=>?_
 have h1:=aA he hx
 have yZ:c.args= #[x]:=by rw[<-Array.toArray_toList (xs:=c.args),ha]
 refine⟨.int .i64 n,?_,⟨rfl,rfl⟩⟩
 simp[execOp,ho,resolve,hc,invoke,builtin,Builtin.len_,yZ,ht,h1.1,run_underlying hu,goInt]
theorem NC{c:Call}(ho:o.op= .call c):(Dh P env m c).Ok P o env m:=by
 unfold Dh;split
 ·rename_i hc
  split
  ·rename_i hf hl;exact PJ ho hc hf hl
  ·rename_i hf hl;exact Mw ho hc hf hl
  ·rename_i hf hl;exact Nw ho hc hf hl
  trivial
 ·rename_i hc
  unfold Sk;split
  ·rename_i ha hu
   obtain⟨t,ht,hu⟩:=Option.bind_eq_some_iff.1 hu
   split
   ·rename_i hx
    split
    ·exact uE ho hc ha hx ht hu (.inl rfl)
    ·exact uE ho hc ha hx ht hu (.inr rfl)
    ·exact uE ho hc ha hx ht hu (.inl rfl)
    trivial
   ·rename_i hx;exact Gu ho hc ha hx ht hu
   ·rename_i hx;exact Gt ho hc ha hx ht hu
   trivial
  trivial
 ·rename_i hc;exact GK ho hc
 ·rename_i hc;exact NA ho hc
 ·rename_i hc;exact yG (b:=true) ho hc
 ·rename_i hc;exact yG (b:=false) ho hc
 trivial
theorem NB{s d:TypeId}{x:Operand}(ho:o.op= .convert s d x):(Dg P env m s d x).Ok P o env m:=by
 unfold Dg;split
 ·rename_i hd;exact Cn ho hd
 exact Ey ho
theorem lQ(P:Program)(o:Oper)(env:Env)(m:M):(classify P o env m).Ok P o env m:=by
 unfold classify
 split
 ·rename_i ho;exact DZ (.inl ho)
 ·rename_i ho;exact DZ (.inr ho)
 ·rename_i ho;exact Ny ho
 ·rename_i ho;exact PN ho
 ·rename_i ho;exact J8 ho
 ·rename_i ho;exact J7 ho
 ·rename_i ho;exact yS ho
 ·rename_i ho;exact Nz ho
 ·rename_i ho;exact J3 ho
 ·rename_i ho;exact zI ho
 ·rename_i ho;exact J6 ho
 ·rename_i ho;exact zH ho
 ·rename_i ho;unfold kC;exact Comes.Ok.bif fun _=>PO ho
 ·rename_i ho
  split
  ·exact PL ho
  ·exact PM ho
  exact TG ho
 ·rename_i ho;exact zG ho
 ·rename_i ho;exact J5 ho
 ·rename_i ho;exact NB ho
 ·rename_i ho;exact J4 ho
 ·rename_i ho;exact Cr ho
 ·rename_i ho;exact Cp ho
 ·rename_i ho;exact Ex ho
 ·rename_i ho;exact Ev ho
 ·rename_i ho;unfold kC;exact Comes.Ok.bif fun _=>GJ ho
 ·rename_i ho;unfold kC;exact Comes.Ok.bif fun _=>zF ho
 ·rename_i ho;unfold kC;exact Comes.Ok.bif fun _=>GH ho
 ·rename_i ho;exact NC ho
 trivial
end Go.SE

set_option linter.unusedVariables false
namespace Go.SE
open Go Go.RowKit
variable [aG]
section
variable{P:Program}{ok:Nat->Prop}{α β:Type}
theorem HN{x:Sem α}{f:α->β}(h:bB P ok (fun _=>True) x):bB P ok (fun _=>True) (f<$>x):=sJ h fun _ _=>trivial
theorem bS{t:TypeId}:bB P ok (fun n=>n=P.cellsOf t) (sizeOf t):=ag fq fun i hi=>by
 show i.size=P.cellsOf t
 simp only[Program.cellsOf,hi,Option.map_some,Option.getD_some]
theorem dW{t:TypeId}:bB P ok (fun _=>True) (zeroValue t):=ag fq fun i _=>by
 split
 ·exact trivial
 exact aE
theorem Ak{t:TypeId}:bB P ok (fun _=>True) (isAgg t):=ag aC fun d _=>by split<;>exact trivial
theorem lS: ∀ (n:Nat) (a:Addr) (i:Nat) (acc:Array Value),bB P ok (fun _=>True) (loadCellsFrom a i n acc)
 |0,_,_,_=>trivial
 |n+1,a,i,acc=>fun _=>lS n a (i+1) _
theorem mb{a:Addr}{n:Nat}:bB P ok (fun _=>True) (loadCells a n):=lS n a 0 #[]
theorem hJ: ∀ (vs:List Value) (a:Addr) (i:Nat),bB P ok (fun _=>True) (storeCells a vs i)
 | [],_,_=>trivial
 |v::vs,a,i=>hJ vs a (i+1)
theorem vh{t:TypeId}{a:Addr}:bB P ok (fun _=>True) (loadVar t a):=by
 unfold loadVar
 refine ag Ak fun b _=>?_
 split
 ·exact ag (bH bS) fun _ _=>ag mb fun _ _=>trivial
 exact fun _=>trivial
theorem tb{t:TypeId}{a:Addr}{v:Value}:bB P ok (fun _=>True) (storeVar t a v):=by
 unfold storeVar
 refine ag (bH bS) fun n _=>?_
 split
 ·exact aE
 exact hJ _ _ _
theorem eZ{t:TypeId}{cs:Array Value}{off:Nat}:bB P ok (fun v=>(∃n,v= .agg (cs.extract off n))\/cs[off]?=some v) (part t cs off):=by
 unfold part
 refine ag Ak fun b _=>?_
 split
 ·exact ag (bH bS) fun n _=>.inl ⟨_,rfl⟩
 split
 ·rename_i v hv;exact .inr hv
 exact aE
theorem lJ{v:Value}:bB P ok (fun _=>True) (asIntOf v):=by unfold asIntOf;split<;>exact trivial
theorem j7{v:Value}:bB P ok (fun _=>True) (asInt v):=ag lJ fun _ _=>trivial
theorem F9{v:Value}:bB P ok (fun _=>True) (asBool v):=by unfold asBool;split<;>exact trivial
theorem Jn{v:Value}:bB P ok (fun _=>True) (asAgg v):=by unfold asAgg;split<;>exact trivial
theorem kP{v:Value}:bB P ok (fun _=>True) (asAddr v):=by unfold asAddr;split<;>exact trivial
theorem gZ{v:Value}:bB P ok (fun _=>True) (Instr.sureAddr v):=by unfold Instr.sureAddr;split<;>exact trivial
theorem e7{R:α->Prop}{k:IntKind}{x y:Int}{c:BoundsCode}:bB P ok R (boundsPanic k x y c:Sem α):=by
 unfold boundsPanic
 simp only
 split
 ·exact ag (R:=fun _=>True) (HN fun _=>trivial) fun _ _=>aV
 exact ag (R:=fun _=>True) trivial fun _ _=>aV
theorem vm{n:Nat}:bB P ok (fun _=>True) (askRoom n):=by
 unfold askRoom
 split
 ·exact .inl ⟨.inr (.inl rfl),trivial⟩
 exact trivial
theorem hZ{x:Value}{y:Nat}{c:BoundsCode}:bB P ok (fun _=>True) (Instr.sliceBound x y c):=by
 unfold Instr.sliceBound
 refine ag lJ fun r _=>?_
 split
 split
 ·exact trivial
 exact e7
theorem gv{b:Bool}{len cap:Nat}{lo hi mx:Option Value}:bB P ok (fun _=>True) (Instr.sliceBounds b len cap lo hi mx):=by
 have hl: ∀ (m h:Nat),bB P ok (fun _=>True) (do
   let l <-match lo with
    |some v=>Instr.sliceBound v h (if mx.isSome then .slice3C else .sliceB)
    |none=>pure 0
   pure (l,h,m):Sem (Nat×Nat×Nat)):=fun m h=>by
  cases lo with
  |some v=>exact ag hZ fun _ _=>trivial
  |none=>exact trivial
 have hh: ∀m:Nat,bB P ok (fun _=>True) (do
   let h <-match hi,mx with
    |some v,some _=>Instr.sliceBound v m .slice3B
    |some v,none=>Instr.sliceBound v m (if b then .sliceAcap else .sliceAlen)
    |none,none=>pure len
    |none,some _=>stuck "Slice: max without high"
   let l <-match lo with
    |some v=>Instr.sliceBound v h (if mx.isSome then .slice3C else .sliceB)
    |none=>pure 0
   pure (l,h,m):Sem (Nat×Nat×Nat)):=fun m=>by
  cases hi<;>cases mx
  ·exact hl m len
  ·exact trivial
  ·exact ag hZ fun h _=>hl m h
  exact ag hZ fun h _=>hl m h
 unfold Instr.sliceBounds
 cases mx with
 |some v=>exact ag hZ fun m _=>hh m
 |none=>exact hh cap
theorem Dq{γ:Type}{f:γ->Sem α}(hf: ∀x,bB P ok (fun _=>True) (f x)): ∀ (l:List γ),bB P ok (fun _=>True) (l.mapM f)
 | []=>trivial
 |x::l=>by
  rw[List.mapM_cons]
  exact ag (hf x) fun _ _=>ag (Dq hf l) fun _ _=>trivial
theorem Dr{γ:Type}{f:γ->Sem α}(hf: ∀x,bB P ok (fun _=>True) (f x))(l:Array γ):bB P ok (fun _=>True) (l.mapM f):=by
 rw[Array.mapM_eq_mapM_toList]
 exact HN (Dq hf _)
theorem xG{γ:Type}{R:β->Prop}{f:γ->β->Sem (ForInStep β)}(hf: ∀x b,R b->bB P ok (fun s=>match s with|.done b=>R b|.yield b=>R b) (f x b)): ∀ (l:List γ) (b:β),R b->bB P ok R (forIn l b f)
 | [],b,hb=>by simpa using jl hb
 |x::l,b,hb=>by
  rw[List.forIn_cons]
  refine ag (hf x b hb) fun s hs=>?_
  cases s with
  |done b=>exact jl hs
  |yield b=>exact xG hf l b hs
theorem sI{γ:Type}{R:β->Prop}{f:γ->β->Sem (ForInStep β)}(hf: ∀x b,R b->bB P ok (fun s=>match s with|.done b=>R b|.yield b=>R b) (f x b))(l:Array γ)(b:β)(hb:R b):bB P ok R (forIn l b f):=by
 rw[<-Array.forIn_toList]
 exact xG hf _ b hb
theorem xF{R:β->Prop}{f:Nat->β->Sem (ForInStep β)}(hf: ∀x b,R b->bB P ok (fun s=>match s with|.done b=>R b|.yield b=>R b) (f x b))(n:Nat)(b:β)(hb:R b):bB P ok R (forIn [0:n] b f):=by
 rw[Std.Legacy.Range.forIn_eq_forIn_range']
 exact xG hf _ b hb
theorem Jp{e:TypeId}{b:Bool}{x:Value}:bB P ok (fun _=>True) (Instr.alloc e b x):=by
 unfold Instr.alloc
 refine ag dW fun z _=>?_
 split
 ·exact ag tb fun _ _=>trivial
 exact ag nB fun _ _=>trivial
theorem O6{e:TypeId}{x:Value}:bB P ok (fun _=>True) (Instr.box e x):=ag nB fun _ _=>trivial
theorem Jm{t:TypeId}{ps:Array (Nat×Value)}:bB P ok (fun _=>True) (Instr.build t ps):=by
 unfold Instr.build
 refine ag dW fun z _=>ag aC fun d _=>?_
 split
 ·rename_i fields _
  refine ag (Dr (f:=fun(f:Field)=>do pure (f.offset,<-sizeOf f.type)) (fun f=>ag (bH bS) fun _ _=>trivial) fields) fun pl _=>?_
  split
  ·exact trivial
  exact aE
 ·refine ag (bH bS) fun n _=>?_
  split
  ·exact trivial
  exact aE
 exact aE
theorem yO{t:TypeId}{n:Nat}{ps:Array (Nat×Value)}:bB P ok (fun _=>True) (Instr.buildSlice t n ps):=by
 unfold Instr.buildSlice
 refine ag aC fun d _=>?_
 split
 ·rename_i elem _
  refine ag (bH bS) fun sz _=>?_
  have rest: ∀zero:Array Value,bB P ok (fun _=>True) (do
    let some cells:=Instr.fill (fun i=>some (i*sz,sz)) ((Array.range (n*sz)).map (zero[·%zero.size]!)) ps.toList
     |stuck "buildSlice: a part of the wrong size"
    pure (.slice (some (<-newRow elem cells)) n n):Sem Value):=fun zero=>by
   split
   ·exact ag ry fun _ _=>trivial
   exact aE
  simp only[]
  split
  ·exact aE
  split
  ·exact rest #[]
  exact ag dW fun z _=>rest z.cells
 exact aE
theorem nC{t:TypeId}{a:Value}:bB P ok (fun _=>True) (Instr.loadAt t a):=ag gZ fun _ _=>vh
theorem D5{t:TypeId}{a v:Value}:bB P ok (fun _=>True) (Instr.storeAt t a v):=ag gZ fun _ _=>tb
theorem vk{t:TypeId}{x:Value}{i:Nat}{fields:Array Field}{f:Field}(hu:P.underlying t=some (.struct fields))(hf:fields[i]?=some f)(hz:P.cellsOf f.type≠0):bB P ok (fun _=>True) (Instr.fieldAt t x i):=by
 unfold Instr.fieldAt
 refine ag aC fun d hd=>?_
 rw[hu]at hd
 cases hd
 simp only[hf]
 refine ag gZ fun a _=>?_
 refine ag (R:=fun _=>True) ?_ fun _ _=>trivial
 unfold fieldPlace
 refine ag bS fun n hn=>?_
 rw[if_neg (by rw[hn];exact hz)]
 exact trivial
theorem Jl{t:TypeId}{x:Value}{i:Nat}:bB P ok (fun _=>True) (Instr.field t x i):=by
 unfold Instr.field
 refine ag aC fun d _=>?_
 split
 ·split
  ·exact ag Jn fun _ _=>bH eZ
  exact aE
 exact aE
theorem D8{t:TypeId}{x i:Value}:bB P ok (fun _=>True) (Instr.indexAt t x i):=by
 unfold Instr.indexAt
 refine ag lJ fun ki _=>?_
 obtain⟨k,j⟩:=ki
 simp only[]
 refine ag aC fun d hd=>?_
 have rest: ∀ (q:Option Addr×Nat×TypeId),bB P ok (fun _=>True) (do
   let Ot:=q.2.1<=1&&(match <-underlying t with|.array .. =>true|_=>false)
   match q.1 with
   |some a=>
    if 0<=j/\j<q.2.1 then pure (.pointer (some (a.add (j.toNat*(<-sizeOf q.2.2)))))
    else if Ot then unsupported (.noEntry "op/indexAddr.an index out of range at an array of length 0 or 1 (ledger 616)")
    else boundsPanic k j q.2.1 .index
   |none=>boundsPanic k j 0 .index:Sem Value):=fun q=>by
  have CX: ∀Ot:Bool,bB P ok (fun _=>True) (match q.1 with
   |some a=>
    if 0<=j/\j<q.2.1 then(do pure (.pointer (some (a.add (j.toNat*(<-sizeOf q.2.2))))))
    else if Ot then unsupported (.noEntry "op/indexAddr.an index out of range at an array of length 0 or 1 (ledger 616)")
    else boundsPanic k j q.2.1 .index
   |none=>boundsPanic k j 0 .index:Sem Value):=fun Ot=>by
   split
   ·split
    ·exact ag (bH bS) fun _ _=>jl trivial
    split
    ·exact aE
    exact e7
   exact e7
  refine ag aC fun d' _=>?_
  split
  ·exact CX _
  exact CX _
 split
 ·exact ag gZ fun a _=>rest (some a,_,_)
 ·exact rest (_,_,_)
 exact aE
theorem Jk{t:TypeId}{x i:Value}:bB P ok (fun _=>True) (Instr.index t x i):=by
 unfold Instr.index
 refine ag lJ fun ki _=>ag aC fun d _=>?_
 obtain⟨k,j⟩:=ki
 simp only[]
 split
 ·split
  ·exact ag (bH bS) fun _ _=>bH eZ
  exact e7
 ·split
  ·exact trivial
  exact e7
 exact aE
theorem Jj{t:TypeId}{x:Value}{lo hi mx:Option Value}:bB P ok (fun _=>True) (Instr.slice t x lo hi mx):=by
 unfold Instr.slice
 refine ag aC fun d _=>?_
 split
 ·simp only[]
  split
  ·exact aE
  exact ag gv fun _ _=>trivial
 ·exact ag gv fun _ _=>ag (bH bS) fun _ _=>trivial
 ·refine ag kP fun a _=>ag aC fun d _=>?_
  split
  ·exact ag gv fun _ _=>ag (bH bS) fun _ _=>trivial
  exact aE
 exact aE
theorem vg{t:TypeId}{x:Value}{lo hi mx:Option Value}:bB P ok (fun _=>True) (Instr.sliceAt t x lo hi mx):=by
 unfold Instr.sliceAt
 refine ag aC fun d _=>?_
 split
 ·exact ag gZ fun a _=>ag gv fun _ _=>ag (bH bS) fun _ _=>trivial
 exact Jj
theorem zn{t:TypeId}{l c:Value}:bB P ok (fun _=>True) (Instr.makeSlice t l c):=by
 unfold Instr.makeSlice
 refine ag aC fun d _=>?_
 split
 ·rename_i elem _
  refine ag j7 fun len _=>ag j7 fun cap _=>ag (bH fq) fun i _=>?_
  simp only[]
  have CX: ∀zero:Array Value,∀n:Nat,bB P ok (fun _=>True) (do
   let a <-newRow elem ((Array.range n).map (zero[·%zero.size]!))
   pure (.slice (some a) (IntKind.i64.wrap len).toNat (IntKind.i64.wrap cap).toNat):Sem Value):=fun z n=>ag ry fun _ _=>trivial
  have rest:bB P ok (fun _=>True) (do
   askRoom ((IntKind.i64.wrap cap).toNat*i.bytes)
   let n:=(IntKind.i64.wrap cap).toNat*(<-sizeOf elem)
   let zero <-if n=0 then pure #[]else do pure (<-zeroValue elem).cells
   let a <-newRow elem ((Array.range n).map (zero[·%zero.size]!))
   pure (.slice (some a) (IntKind.i64.wrap len).toNat (IntKind.i64.wrap cap).toNat):Sem Value):=by
   refine ag vm fun _ _=>ag (bH bS) fun n _=>?_
   simp only[]
   split
   ·exact CX #[] _
   exact ag dW fun z _=>CX z.cells _
  split
  ·split
   ·exact ag (R:=fun _=>True) aV fun _ _=>rest
   split
   ·exact ag (R:=fun _=>True) aV fun _ _=>rest
   refine ag (R:=fun _=>True) (x:=choose (.extern "makeslice.lenOrCap" 2)) (fun _=>trivial) fun _ _=>?_
   exact ag (R:=fun _=>True) aV fun _ _=>rest
  exact rest
 exact aE
theorem vl{t:Value}{i:Nat}:bB P ok (fun _=>True) (Instr.extract t i):=by
 unfold Instr.extract
 split
 ·split
  ·exact trivial
  exact aE
 exact aE
theorem D7{t:TypeId}{r:Option Value}:bB P ok (fun _=>True) (Instr.makeMap t r):=by
 unfold Instr.makeMap
 have rest:bB P ok (fun _=>True) (do pure (.map (some (<-newObj (.map #[] 0)))):Sem Value):=.inl ⟨rfl,fun _=>trivial⟩
 cases r with
 |none=>exact rest
 |some hint=>
  simp only[]
  refine ag aC fun d _=>?_
  split
  ·exact ag j7 fun _ _=>rest
  exact aE
end
section
variable{P:Program}{ok:Nat->Prop}{α β:Type}
def Le:Value->Prop
 |.int _ _=>True
 |.bool _=>True
 |.string _=>True
 |_=>False
def xf(v:Value):Prop:=Le v\/∃cs:Array Value,v= .agg cs/\∀c∈cs,Le c
theorem yb{cs:Array Value}{off:Nat}{v:Value}(h: ∀c∈cs,Le c)(hv:(∃n,v= .agg (cs.extract off n))\/cs[off]?=some v):xf v:=by
 rcases hv with⟨n,rfl⟩|hv
 ·exact .inr ⟨_,rfl,fun c hc=>by
   obtain⟨i,hi,e⟩:=Array.mem_iff_getElem.1 hc
   rw[Array.getElem_extract]at e
   exact h c (e▸Array.getElem_mem _)⟩
 obtain⟨hi,e⟩:=Array.getElem?_eq_some_iff.1 hv
 exact .inl (h v (e▸Array.getElem_mem _))
theorem lI: ∀ (d:Nat) (t:TypeId) (x y:Value),xf x->bB P ok (fun _=>True) (Op.equalIn d t x y)
 |0,_,_,_,_=>aE
 |d+1,t,x,y,hx=>by
  have ih:=lI d
  unfold Op.equalIn
  refine ag aC fun ds _=>?_
  rcases hx with hx|⟨cs,rfl,NV⟩
  ·cases x<;>first|exact hx.elim|skip
   all_goals(split<;>first|exact trivial|(rename_i heq _;cases heq;done)|skip)
   split
   ·exact trivial
   exact aE
  split<;>first|exact trivial|(rename_i heq _;cases heq;done)|skip
  ·rename_i fields xs ys heq _
   cases heq
   refine ag (R:=fun _=>True) (x:=program) trivial fun p _=>?_
   simp only[]
   split
   ·exact aE
   refine ag (R:=fun _=>True) (sI (R:=fun _=>True) (fun f b _=>?_) _ _ trivial) fun s _=>?_
   ·split
    ·refine ag eZ fun u hu=>ag eZ fun v _=>ag (ih _ _ _ (yb NV hu)) fun r _=>?_
     split<;>exact trivial
    exact trivial
   split<;>exact trivial
  rename_i len elem xs ys heq _
  cases heq
  refine ag (bH bS) fun n _=>?_
  refine ag (R:=fun _=>True) (xF (R:=fun _=>True) (fun i b _=>?_) _ _ trivial) fun s _=>?_
  ·refine ag eZ fun u hu=>ag eZ fun v _=>ag (ih _ _ _ (yb NV hu)) fun r _=>?_
   split<;>exact trivial
  simp only[];split<;>exact trivial
theorem qL: ∀ (d:Nat) (t:TypeId) (x y:Value),bB P ok (fun _=>True) (Op.eqGuardIn d t x y)
 |0,_,_,_=>aE
 |d+1,t,x,y=>by
  have ih:=qL d
  unfold Op.eqGuardIn
  refine ag aC fun ds _=>?_
  split
  ·exact trivial
  ·refine ag (R:=fun _=>True) (sI (R:=fun _=>True) (fun f b _=>?_) _ _ trivial) fun s _=>?_
   ·split
    ·refine ag eZ fun u hu=>ag eZ fun v _=>ag (ih _ _ _) fun r _=>?_
     split<;>exact trivial
    exact trivial
   simp only[];split<;>exact trivial
  ·refine ag (bH bS) fun n _=>?_
   refine ag (R:=fun _=>True) (xF (R:=fun _=>True) (fun i b _=>?_) _ _ trivial) fun s _=>?_
   ·refine ag eZ fun u hu=>ag eZ fun v _=>ag (ih _ _ _) fun r _=>?_
    split<;>exact trivial
   simp only[];split<;>exact trivial
  exact trivial
theorem D9{op:BinOp}{t:TypeId}{x y:Operand}{a b:Value}:bB P ok (fun _=>True) (eqGuard op t x y a b):=by
 unfold eqGuard
 repeat' (first|exact trivial|(refine ag (qL _ _ _ _) fun r _=>?_)|(refine ag (R:=fun _=>True) (x:=program) trivial fun p _=>?_)|split)
def V3:Value->Prop
 |.pointer none=>True
 |.slice none _ _=>True
 |.nilFunc=>True
 |_=>False
theorem zo{d:Nat}{t:TypeId}{x y:Value}(h:V3 y):bB P ok (fun _=>True) (Op.equalIn (d+1) t x y):=by
 unfold Op.equalIn
 refine ag aC fun ds _=>?_
 cases y<;>first|exact h.elim|skip
 case pointer q=>
  cases q with
  |some a=>exact h.elim
  |none=>
   split<;>first|exact trivial|(rename_i heq _;cases heq;done)|skip
   rename_i a b heq _
   cases heq
   cases a<;>exact trivial
 all_goals(split<;>first|exact trivial|(rename_i heq _;cases heq;done))
theorem F6{op:BinOp}{t:TypeId}{k k':IntKind}{a b:Int}:bB P ok (fun _=>True) (binOp op t (.int k a) (.int k' b)):=by
 cases op<;>simp only[binOp,Op.shift,Op.intArith,Op.intDiv,Op.intBits,Op.intCmp]<;>repeat' (first|exact trivial|split)
theorem F3{op:BinOp}{t:TypeId}{a b:ByteArray}:bB P ok (fun _=>True) (binOp op t (.string a) (.string b)):=by
 cases op<;>simp only[binOp,Op.stringOp]<;>repeat' (first|exact trivial|split)
theorem xH{op:BinOp}{t:TypeId}{x y:Value}(ho:op= .eql\/op= .neq)(h:bB P ok (fun _=>True) (Op.equal t x y))(hn:(∀k a k' b,¬(x= .int k a/\y= .int k' b))/\(∀a b,¬(x= .string a/\y= .string b))/\(∀k a k' b,¬(x= .float k a/\y= .float k' b))/\(∀k a b k' c d,¬(x= .complex k a b/\y= .complex k' c d))):bB P ok (fun _=>True) (binOp op t x y):=by
 obtain⟨h1,h2,h3,h4⟩:=hn
 rcases ho with rfl|rfl
 all_goals(
  unfold binOp
  split<;>first|exact(h1 _ _ _ _ ⟨rfl,rfl⟩).elim|exact(h2 _ _ ⟨rfl,rfl⟩).elim|exact(h3 _ _ _ _ ⟨rfl,rfl⟩).elim|exact(h4 _ _ _ _ _ _ ⟨rfl,rfl⟩).elim|exact ag h fun _ _=>trivial|exact aE|(rename_i heq;cases heq;done))
theorem Ji{op:UnOp}{x:Value}:bB P ok (fun _=>True) (Op.unary op x):=by
 unfold Op.unary
 split<;>exact trivial
theorem nO: ∀ (n:Nat) (b:Bool) (t:TypeId) (v:Value),bB P ok (fun _=>True) (Instr.checkKey b n t v)
 |0,_,_,_=>aE
 |n+1,b,t,v=>by
  have ih:=nO n
  unfold Instr.checkKey
  refine ag aC fun ds _=>?_
  split
  ·refine ag (bH fq) fun i _=>?_
   simp only[]
   split
   ·split
    ·exact ag (R:=fun _=>True) aV fun _ _=>ag (R:=fun _=>True) (ag (bH fq) fun i _=>by simp only[];split<;>first|exact aE|exact trivial) fun _ _=>ag (R:=fun _=>True) aV fun _ _=>ih _ _ _
    exact ag (R:=fun _=>True) (ag (bH fq) fun i _=>by simp only[];split<;>first|exact aE|exact trivial) fun _ _=>ag (R:=fun _=>True) aV fun _ _=>ih _ _ _
   exact ih _ _ _
  ·refine ag (xF (R:=fun _=>True) (fun i _ _=>?_) _ _ trivial) fun _ _=>trivial
   exact ag (bH bS) fun _ _=>ag (bH eZ) fun _ _=>ag (ih _ _ _) fun _ _=>trivial
  ·refine ag (sI (R:=fun _=>True) (fun f _ _=>?_) _ _ trivial) fun _ _=>trivial
   split
   ·exact ag (bH eZ) fun _ _=>ag (ih _ _ _) fun _ _=>trivial
   exact trivial
  ·exact trivial
  ·exact aE
  ·exact aE
  ·exact aE
  exact trivial
theorem pM{t:TypeId}{k:Value}(hk:xf k): ∀ (es:List MapEntry) (i:Nat),bB P ok (fun _=>True) (Instr.findAsking t k es i)
 | [],_=>trivial
 |e::es,i=>by
  unfold Instr.findAsking
  refine ag (lI _ _ _ _ hk) fun b _=>?_
  split
  ·exact trivial
  exact pM hk es (i+1)
theorem vj{t:TypeId}{k:Value}(hk:xf k)(es:List MapEntry):bB P ok (fun _=>True) (Instr.findKey t k es):=by
 unfold Instr.findKey
 refine ag aC fun ds _=>?_
 split
 ·exact trivial
 exact pM hk es 0
theorem uK{a b:Value}:bB P ok (fun _=>True) (Instr.keyThatStays a b):=by
 unfold Instr.keyThatStays
 split
 ·exact trivial
 exact fun _=>trivial
theorem qK{t:TypeId}{mp k v:Value}(hk:xf k):bB P ok (fun _=>True) (Instr.mapUpdate t mp k v):=by
 unfold Instr.mapUpdate
 refine ag aC fun ds _=>?_
 split
 ·split
  ·exact aV
  ·refine pV (fun o=>?_) fun _ _=>trivial
   split
   ·refine ag (nO _ _ _ _) fun _ _=>ag (vj hk _) fun r _=>?_
    split
    ·exact ag uK fun _ _=>gy (.inr rfl) rfl trivial
    exact gy (.inr rfl) rfl trivial
   exact aE
  exact aE
 exact aE
theorem F5{t:TypeId}{mp k:Value}{c:Bool}(hk:xf k):bB P ok (fun _=>True) (Instr.lookup t mp k c):=by
 unfold Instr.lookup
 refine ag aC fun ds _=>?_
 split
 ·rename_i kt et _
  have rest: ∀es:Array MapEntry,bB P ok (fun _=>True) (do
    Instr.checkKey es.isEmpty 10000 kt k
    let(v,ok)<-match <-Instr.findKey kt k es.toList with
     |some (_,v)=>pure (v,true)
     |none=>pure (<-zeroValue et,false)
    pure (if c then .tuple #[v,.bool ok]else v):Sem Value):=fun es=>by
   refine ag (nO _ _ _ _) fun _ _=>ag (vj hk _) fun r _=>?_
   cases r with
   |some q=>exact jl (R:=fun _=>True) trivial
   |none=>exact ag dW fun _ _=>jl (R:=fun _=>True) trivial
  cases mp with
  |map q=>
   cases q with
   |none=>exact rest #[]
   |some r=>
    refine pV (fun o=>?_) fun _ _=>trivial
    cases o with
    |map es n=>exact Dp (rest es) fun _=>.inl
    |_=>exact aE
  |_=>exact aE
 exact aE
theorem Aj{x:Value}:bB P ok (fun _=>True) (Builtin.lenOf x):=by unfold Builtin.lenOf;split<;>exact trivial
theorem kY{a n:Nat}{x:Value}:bB P ok (fun _=>True) (Builtin.firstCells a n x):=by unfold Builtin.firstCells;split<;>first|exact trivial|exact mb
theorem HO{ts:Array TypeId}{t:TypeId}{xs:Array Value}:bB P ok (fun _=>True) (Builtin.len_ ts t xs):=by
 unfold Builtin.len_
 split
 ·refine ag aC fun ds _=>?_
  split<;>first|exact trivial|skip
  ·refine ag aC fun ds _=>?_
   split<;>exact trivial
  ·refine pV (fun o=>?_) fun _ _=>trivial
   split<;>exact trivial
  refine pV (fun o=>?_) fun _ _=>trivial
  split<;>exact trivial
 exact aE
theorem MS{ts:Array TypeId}{t:TypeId}{xs:Array Value}:bB P ok (fun _=>True) (Builtin.copy_ ts t xs):=by
 unfold Builtin.copy_
 split
 ·refine ag aC fun ds _=>?_
  split
  ·split
   ·rename_i base _ _ _
    refine ag Aj fun n _=>ag (bH bS) fun sz _=>ag kY fun cs _=>?_
    cases base with
    |none=>exact trivial
    |some a=>exact ag (hJ _ _ _) fun _ _=>trivial
   exact aE
  exact aE
 exact aE
theorem MR{x y:Value}:bB P ok (fun _=>True) (Builtin.max2 x y):=by
 unfold Builtin.max2
 split<;>first|exact trivial|skip
 split<;>first|exact trivial|exact fun _=>trivial
theorem MQ{x y:Value}:bB P ok (fun _=>True) (Builtin.min2 x y):=by
 unfold Builtin.min2
 split<;>first|exact trivial|skip
 split<;>first|exact trivial|exact fun _=>trivial
theorem uw{γ:Type}{f:α->γ->Sem α}(hf: ∀x y,bB P ok (fun _=>True) (f x y)): ∀ (l:List γ) (x:α),bB P ok (fun _=>True) (l.foldlM f x)
 | [],_=>trivial
 |y::l,x=>by
  rw[List.foldlM_cons]
  exact ag (hf x y) fun z _=>uw hf l z
theorem O5{ts:Array TypeId}{t:TypeId}{xs:Array Value}:bB P ok (fun _=>True) (Builtin.max_ ts t xs):=by
 unfold Builtin.max_
 split
 ·exact aE
 exact uw (fun _ _=>MR) _ _
theorem HM{ts:Array TypeId}{t:TypeId}{xs:Array Value}:bB P ok (fun _=>True) (Builtin.min_ ts t xs):=by
 unfold Builtin.min_
 split
 ·exact aE
 exact uw (fun _ _=>MQ) _ _
theorem BK{R:α->Prop}{c:Prop}[Decidable c]{x y:Sem α}(h:bB P ok R x)(h':bB P ok R y):bB P ok R (if c then x else y):=by split<;>assumption
theorem Nu{x:Sem α}{f:α->Sem β}(h: ∀a,gP (f a)):gP (x>>=f):=by
 show gP (x.bind f)
 induction x with
 |pure a=>exact h a
 |load m a k ih=>exact fun v=>ih v
 |store m a v k ih=>exact ih
 |new o k ih=>exact fun r=>ih r
 |shape r k ih=>exact fun s=>ih s
 |freeze a n k ih=>exact ih
 |frozen a k ih=>exact fun b=>ih b
 |getObj r k ih=>exact fun o=>ih o
 |setObj r o k ih=>exact ih
 |choose q k ih=>exact fun n=>ih n
 |sys c k ih=>exact fun r=>ih r
 |program k ih=>exact fun p=>ih p
 |mark m k ih=>exact ih
 |halt h=>exact trivial
theorem Nt{R:α->Prop}{x:Sem α}: ∀ {ok:Nat->Prop},gP x->bB P ok R x:=by
 induction x with
 |pure a=>exact fun h=>h.elim
 |load m a k ih=>exact fun h v=>ih v (h v)
 |store m a v k ih=>exact fun h=>ih h
 |new o k ih=>exact fun h=>.inr h
 |shape r k ih=>exact fun h=>.inr h
 |freeze a n k ih=>exact fun h=>.inr h
 |frozen a k ih=>exact fun h=>.inr h
 |getObj r k ih=>exact fun h=>⟨fun o=>ih o (h o),fun c e=>h _⟩
 |setObj r o k ih=>exact fun h=>.inr h
 |choose q k ih=>exact fun h n=>ih n (h n)
 |sys c k ih=>exact fun h=>h
 |program k ih=>exact fun h=>ih P (h P)
 |mark m k ih=>exact fun h=>.inr h
 |halt h=>exact fun _=>trivial
theorem Ga{ts:Array TypeId}{t:TypeId}{xs:Array Value}:bB P ok (fun _=>True) (Builtin.append_ ts t xs):=by
 unfold Builtin.append_
 split
 ·rename_i sT sv xv _
  refine ag aC fun ds _=>?_
  split
  ·rename_i elem _
   cases sv with
   |slice base km qW=>
    refine ag (bH bS) fun size _=>?_
    have dead: ∀n:Nat,gP (do
     if !(<-Builtin.mayShare size km n base xv)then mark .noRoom
     unsupported (.resourceLimit "append: a slice or a string whose bytes no memory bears"):Sem Unit):=fun n=>Nu fun b=>by
      cases b<;>exact trivial
    have rest: ∀ (kz:Bool) (n:Nat),bB P ok (fun _=>True) (do
     let appended:Sem (Array Value):=
      if !kz then Builtin.firstCells size n xv
      else if n*size=0 then pure #[]
      else do pure (Builtin.zeroCells (<-zeroValue elem).cells n)
     let dg:=km+n
     if dg<=qW then
      let new <-appended
      if let some a:=base then storeCells (a.add (km*size)) new.toList
      pure (.slice base dg qW)
     else
      if(dg:Int)>IntKind.i64.max/\(kz\/(<-typeInfo elem).bytes=0)then runtimePanic (.error "growslice: len out of range")
      if Builtin.nextslicecap dg qW*(<-typeInfo elem).bytes>2^48 then(if kz then runtimePanic (.error "growslice: len out of range")else do
       if !(<-Builtin.mayShare size km n base xv)then mark .noRoom
       unsupported (.resourceLimit "append: a slice or a string whose bytes no memory bears"))
      let gx <-choose (.appendCap dg qW elem)
      askRoom (gx*(<-typeInfo elem).bytes)
      let old <-Builtin.firstCells size km (.slice base km qW)
      let new <-appended
      let rest:=Builtin.zeroCells (<-zeroValue elem).cells (gx-dg)
      pure (.slice (some (<-newRow elem (old++new++rest))) dg gx):Sem Value):=fun kz n=>by
     have fF:bB P ok (fun _=>True) (if !kz then Builtin.firstCells size n xv else if n*size=0 then pure #[]else do pure (Builtin.zeroCells (<-zeroValue elem).cells n):Sem (Array Value)):=by
      split
      ·exact kY
      split
      ·exact trivial
      exact ag dW fun _ _=>trivial
     simp only[]
     split
     ·refine ag fF fun new _=>?_
      cases base with
      |none=>exact trivial
      |some a=>exact ag (hJ _ _ _) fun _ _=>trivial
     have r3:bB P ok (fun _=>True) (do
       let gx <-choose (.appendCap (km+n) qW elem)
       askRoom (gx*(<-typeInfo elem).bytes)
       let old <-Builtin.firstCells size km (.slice base km qW)
       let new <-(if !kz then Builtin.firstCells size n xv else if n*size=0 then pure #[]else do pure (Builtin.zeroCells (<-zeroValue elem).cells n):Sem (Array Value))
       let rest:=Builtin.zeroCells (<-zeroValue elem).cells (gx- (km+n))
       pure (.slice (some (<-newRow elem (old++new++rest))) (km+n) gx):Sem Value):=by
      refine ag (R:=fun _=>True) (x:=choose _) (fun _=>trivial) fun nc _=>ag (bH fq) fun i _=>ag vm fun _ _=>ag kY fun old _=>ag fF fun new _=>ag dW fun z _=>ag ry fun _ _=>trivial
     have r2:bB P ok (fun _=>True) (do
       if Builtin.nextslicecap (km+n) qW*(<-typeInfo elem).bytes>2^48 then(if kz then runtimePanic (.error "growslice: len out of range")else do
        if !(<-Builtin.mayShare size km n base xv)then mark .noRoom
        unsupported (.resourceLimit "append: a slice or a string whose bytes no memory bears"))
       let gx <-choose (.appendCap (km+n) qW elem)
       askRoom (gx*(<-typeInfo elem).bytes)
       let old <-Builtin.firstCells size km (.slice base km qW)
       let new <-(if !kz then Builtin.firstCells size n xv else if n*size=0 then pure #[]else do pure (Builtin.zeroCells (<-zeroValue elem).cells n):Sem (Array Value))
       let rest:=Builtin.zeroCells (<-zeroValue elem).cells (gx- (km+n))
       pure (.slice (some (<-newRow elem (old++new++rest))) (km+n) gx):Sem Value):=by
      refine ag (bH fq) fun i _=>?_
      simp only[]
      split
      ·refine ag (R:=fun _=>True) ?_ fun _ _=>r3
       split
       ·exact aV
       exact Nt (dead n)
      exact r3
     refine ag (bH fq) fun i _=>?_
     split
     ·exact ag (R:=fun _=>True) aV fun _ _=>r2
     exact r2
    have Lm: ∀kz:Bool,bB P ok (fun _=>True) (do
     let n <-if kz then do
       let l:=IntKind.i64.wrap (<-asInt xv)
       if l<0 then runtimePanic (.error "makeslice: len out of range")
       if l*(<-typeInfo elem).bytes>2^48 then
        let made <-choose (.extern "append.ofMake.carriedOut" 2)
        runtimePanic (.error (if made==1 then "makeslice: len out of range" else "growslice: len out of range"))
       pure l.toNat
      else Builtin.lenOf xv
     let appended:Sem (Array Value):=
      if !kz then Builtin.firstCells size n xv
      else if n*size=0 then pure #[]
      else do pure (Builtin.zeroCells (<-zeroValue elem).cells n)
     let dg:=km+n
     if dg<=qW then
      let new <-appended
      if let some a:=base then storeCells (a.add (km*size)) new.toList
      pure (.slice base dg qW)
     else
      if(dg:Int)>IntKind.i64.max/\(kz\/(<-typeInfo elem).bytes=0)then runtimePanic (.error "growslice: len out of range")
      if Builtin.nextslicecap dg qW*(<-typeInfo elem).bytes>2^48 then(if kz then runtimePanic (.error "growslice: len out of range")else do
       if !(<-Builtin.mayShare size km n base xv)then mark .noRoom
       unsupported (.resourceLimit "append: a slice or a string whose bytes no memory bears"))
      let gx <-choose (.appendCap dg qW elem)
      askRoom (gx*(<-typeInfo elem).bytes)
      let old <-Builtin.firstCells size km (.slice base km qW)
      let new <-appended
      let rest:=Builtin.zeroCells (<-zeroValue elem).cells (gx-dg)
      pure (.slice (some (<-newRow elem (old++new++rest))) dg gx):Sem Value):=fun kz=>by
     cases kz with
     |false=>exact ag Aj fun n _=>rest false n
     |true=>
      exact ag j7 fun j _=>BK (ag (R:=fun _=>True) aV fun _ _=>ag (bH fq) fun i _=>BK (ag (R:=fun _=>True) (x:=choose (.extern "append.ofMake.carriedOut" 2)) (fun _=>trivial) fun _ _=>ag (R:=fun _=>True) aV fun _ _=>rest true _) (rest true _))
       (ag (bH fq) fun i _=>BK (ag (R:=fun _=>True) (x:=choose (.extern "append.ofMake.carriedOut" 2)) (fun _=>trivial) fun _ _=>ag (R:=fun _=>True) aV fun _ _=>rest true _) (rest true _))
    generalize ts[1]?=q
    cases q with
    |none=>exact Lm false
    |some xt=>
     refine ag aC fun d _=>?_
     cases d<;>first|exact Lm true|exact Lm false
   |_=>exact aE
  exact aE
 exact aE
theorem tH{x:Value}:bB P ok (fun _=>True) (Conv.bytesToString x):=by
 unfold Conv.bytesToString
 split
 ·exact trivial
 ·refine ag mb fun cs _=>ag (sI (R:=fun _=>True) (fun c b _=>?_) _ _ trivial) fun _ _=>trivial
  split
  ·exact trivial
  exact aE
 exact aE
theorem Ec{s d:TypeId}{k k' j:IntKind}{n:Int}(hs:P.underlying s=some (.int k))(hd:P.underlying d=some (.int k')):bB P ok (fun _=>True) (convert s d (.int j n)):=by
 unfold convert
 refine ag aC fun d1 h1=>ag aC fun d2 h2=>?_
 rw[hs]at h1
 rw[hd]at h2
 cases h1
 cases h2
 exact trivial
theorem Eb{s d e:TypeId}{x:Value}(hs:P.underlying s=some (.slice e))(he:P.underlying e=some (.int .u8))(hd:P.underlying d=some .string)(hx: ∃a n c,x= .slice a n c):bB P ok (fun _=>True) (convert s d x):=by
 unfold convert
 refine ag aC fun d1 h1=>ag aC fun d2 h2=>?_
 rw[hs]at h1
 rw[hd]at h2
 cases h1
 cases h2
 obtain⟨a,n,c,rfl⟩:=hx
 refine ag aC fun d3 h3=>?_
 rw[he]at h3
 cases h3
 exact tH
theorem F4{tmps:Array Value}{r:ResultVar}:bB P ok (fun _=>True) (match r with
  |.tmp t=>pure (tmps.getD t undef)
  |.cell a t=>do loadVar t (<-asAddr (tmps.getD a undef)):Sem Value):=by
 cases r with
 |tmp t=>exact trivial
 |cell a t=>exact ag kP fun _ _=>vh
theorem D6{fn:Func}{tmps:Array Value}:bB P ok (fun _=>True) (results fn tmps):=by
 unfold results
 exact ag (Dr (fun r=>F4) _) fun _ _=>trivial
end
section
variable{P:Program}{o:Oper}{env:Env}{m:M}
theorem Ao{ρ:aZ}{s:S}{y:Value}(h:G6 s=true)(hr:s.Rel ρ y):Le y:=by
 unfold G6 at h
 split at h
 ·rename_i q hq
  obtain⟨k,i,kn⟩:=q
  rw[S.bV hq hr];exact trivial
 split at h
 ·rename_i q hq
  obtain⟨c,kn⟩:=q
  rw[S.iG hq hr];exact trivial
 obtain⟨x,hx⟩:=Option.isSome_iff_exists.1 h
 rw[S.kH hx hr];exact trivial
theorem uy{ρ:aZ}: ∀ {l:List S} {ys:List Value},zO l=true->bt ρ l ys->∀y∈ys,Le y
 | [],[],_,_=>by simp
 |x::l,y::ys,h,hr=>by
  simp only[zO,cond_eq_ite]at h
  split at h
  ·rename_i h1
   intro z hz
   rcases List.mem_cons.1 hz with rfl|hz
   ·exact Ao h1 hr.1
   exact uy h hr.2 z hz
  cases h
theorem uz{ρ:aZ}{a:Act}{k:Operand}(h:oJ env k=true)(he:cq ρ env a):xf (a.eval k):=by
 unfold oJ at h
 split at h
 ·rename_i s hs;exact .inl (Ao h (cM he hs))
 ·rename_i l hs
  obtain⟨ys,h1,h2⟩:=cM he hs
  exact .inr ⟨_,h1,fun c hc=>uy h h2 c (by simpa using hc)⟩
 cases h
def Comes.Lx:Comes->Bool
 |.EJ _|.ask _ _=>true
 |_=>false
end
end Go.SE

namespace Go.SE
open Go Go.RowKit
variable [aG]
variable{P:Program}{o:Oper}{env:Env}{m:M}
theorem bL{ok:Nat->Prop}{s:Sem Value}(h:bB P ok (fun _=>True) s):bB P ok (fun _=>True) (do pure (Next.value (<-s)):Sem Next):=ag h fun _ _=>trivial
theorem xE{ok:Nat->Prop}{s:Sem Unit}(h:bB P ok (fun _=>True) s):bB P ok (fun _=>True) (do s;pure Next.skip:Sem Next):=ag h fun _ _=>trivial
theorem JZ{op:BinOp}{t:TypeId}{x y:S}{ρ:aZ}{a b:Value}{ok:Nat->Prop}(h:(xe P op m t x y).Lx=true)(hx:x.Rel ρ a)(hy:y.Rel ρ b):bB P ok (fun _=>True) (binOp op t a b):=by
 unfold xe at h
 split at h
 ·rename_i k i ka k' j kb h1 h2
  rw[S.bV h1 hx,S.bV h2 hy]
  exact F6
 split at h
 ·rename_i c kc d kd h1 h2
  rw[S.iG h1 hx,S.iG h2 hy]
  have ho:op= .eql\/op= .neq:=by
   split at h
   ·unfold xy at h
    split at h
    ·exact .inl rfl
    ·exact .inr rfl
    cases h
   cases h
  exact xH ho (lI _ _ _ _ (.inl trivial)) (by simp)
 split at h
 ·rename_i c d h1 h2
  rw[S.kH h1 hx,S.kH h2 hy]
  exact F3
 unfold xd at h
 split at h
 ·cases h
 rename_i c hc
 have ho:op= .eql\/op= .neq:=by
  unfold uf at hc
  split at hc
  ·exact .inl rfl
  ·exact .inr rfl
  cases hc
 have hn:V3 b:=by
  split at h<;>first|(cases h;done)|(rw[hy.1];exact trivial)
 exact xH ho (zo (d:=9999) hn) (by cases b<;>first|exact hn.elim|simp)
theorem nS(h:(classify P o env m).Lx=true):xB P o env:=by
 intro ρ a he
 unfold classify at h
 split at h
 ·rename_i ho;simp only[execOp,ho];exact trivial
 ·rename_i ho;simp only[execOp,ho];exact trivial
 ·rename_i ho;simp only[execOp,ho];exact ag F9 fun _ _=>trivial
 ·rename_i ho;simp only[execOp,ho];exact bL O6
 ·rename_i ho;simp only[execOp,ho];exact bL Jp
 ·rename_i ho;simp only[execOp,ho];exact bL Jm
 ·rename_i ho;simp only[execOp,ho];exact bL yO
 ·rename_i ho;simp only[execOp,ho];exact bL nC
 ·rename_i ho;simp only[execOp,ho];exact xE D5
 ·rename_i t x i ho
  simp only[execOp,ho]
  unfold kU at h
  split at h
  ·rename_i fields hu
   split at h
   ·rename_i f hf
    cases hz:Nat.beq (P.cellsOf f.type) 0 with
    |true=>simp[hz,Comes.Lx]at h
    |false=>exact bL (vk hu hf (fun e=>by rw[e]at hz;cases hz))
   cases h
  cases h
 ·rename_i ho;simp only[execOp,ho];exact bL Jl
 ·rename_i ho;simp only[execOp,ho];exact bL D8
 ·rename_i op t x y u ho
  simp only[execOp,ho]
  refine bL (ag D9 fun _ _=>?_)
  cases hb:zP env x with
  |false=>rw[hb]at h;cases h
  |true=>
   rw[hb]at h
   simp only[kC,cond_true]at h
   unfold Ld at h
   split at h
   ·rename_i s1 s2 h1 h2
    exact JZ h (cM he h1) (cM he h2)
   ·rename_i l1 l2 h1 h2
    have ho2:op= .eql\/op= .neq:=by
     unfold Fg at h
     split at h
     ·exact .inl rfl
     ·exact .inr rfl
     cases h
    obtain⟨ys,e1,r1⟩:=cM he h1
    have gQ:zO l1=true:=by simpa only[zP,h1]using hb
    refine xH ho2 (lI _ _ _ _ (.inr ⟨_,e1,fun c hc=>uy gQ r1 c (by simpa using hc)⟩)) (by rw[e1];simp)
   cases h
 ·rename_i ho;simp only[execOp,ho];exact bL Ji
 ·rename_i ho;simp only[execOp,ho];exact bL zn
 ·rename_i ho;simp only[execOp,ho];exact bL Jk
 ·rename_i s d x ho
  simp only[execOp,ho]
  refine bL ?_
  unfold Dg at h
  split at h
  ·rename_i hd
   unfold mM at h
   cases hb:wv P s with
   |false=>rw[hb]at h;cases h
   |true=>
    rw[hb,cond_true]at h
    unfold wv at hb
    split at hb
    ·rename_i e hs
     split at hb
     ·rename_i Xs
      split at h
      ·rename_i vx Oc
       split at h
       ·rename_i xs k hg
        refine Eb hs Xs hd ?_
        have hr:=aA he Oc
        unfold jR at hg
        split at hg
        ·rw[hr.1];exact⟨_,_,_,rfl⟩
        ·rw[hr.1];exact⟨_,_,_,rfl⟩
        ·rcases hr with⟨_,_,_,_,hr⟩|⟨_,_,q,hr,_⟩<;>rw[hr]<;>exact⟨_,_,_,rfl⟩
        cases hg
       cases h
      cases h
     cases hb
    cases hb
  unfold pw at h
  split at h
  ·rename_i k k' sx hs hd hx
   split at h
   ·rename_i q i kn hi
    rw[S.bV hi (aA he hx)]
    exact Ec hs hd
   cases h
  cases h
 ·rename_i ho;simp only[execOp,ho];exact bL vg
 ·rename_i ho;simp only[execOp,ho];exact bL (s:=Instr.makeFunc _ _ _) trivial
 ·rename_i x ho
  unfold mN at h
  have key: ∀y,a.eval x=y->(∃q,y= .pointer (some q))\/(∃f p q,y= .func (.func f) p q)->bB P od (fun _=>True) (execOp a.eval o):=by
   rintro y hy (⟨q,rfl⟩|⟨f,p,q,rfl⟩)<;>(simp only[execOp,ho,hy];exact trivial)
  split at h
  ·rename_i hx;exact key _ (aA he hx) (.inl ⟨_,rfl⟩)
  ·rename_i hx;exact key _ (aA he hx) (.inl ⟨_,rfl⟩)
  ·rename_i hx;exact key _ (aA he hx) (.inr ⟨_,_,_,rfl⟩)
  cases h
 ·rename_i ho;simp only[execOp,ho];exact bL vl
 ·rename_i ho;simp only[execOp,ho];exact bL D7
 ·rename_i t mp k v ho
  simp only[execOp,ho]
  cases hb:oJ env k with
  |false=>rw[hb]at h;cases h
  |true=>exact xE (qK (uz hb he))
 ·rename_i t mp k v ho
  simp only[execOp,ho]
  cases hb:oJ env k with
  |false=>rw[hb]at h;cases h
  |true=>exact xE (qK (uz hb he))
 ·rename_i t mp k v ho
  simp only[execOp,ho]
  cases hb:oJ env k with
  |false=>rw[hb]at h;cases h
  |true=>exact bL (F5 (uz hb he))
 ·rename_i c ho
  have key: ∀b,c.callee= .builtin b->execOp a.eval o=builtin b c.argTypes o.type (c.args.map fun|.const _=>true|_=>false) (c.args.map a.eval):=fun b hb=>by
   simp only[execOp,ho,resolve,hb]
   rfl
  unfold Dh at h
  split at h
  ·split at h<;>cases h
  ·rename_i hc;rw[key _ hc];exact bL HO
  ·rename_i hc;rw[key _ hc];exact bL Ga
  ·rename_i hc;rw[key _ hc];exact bL MS
  ·rename_i hc;rw[key _ hc];exact bL O5
  ·rename_i hc;rw[key _ hc];exact bL HM
  cases h
 cases h
end Go.SE

namespace Go.SE
open Go Go.RowKit
variable [aG]
theorem mm.mem{P:Program}{nt B:Nat}{w0:World}{ρ:aZ}{env:Env}{m:M}{a:Act}{w:World}(h:mm P nt B w0 ρ env m a w):iw P B w0 ρ m w:=h.ok.mem
theorem mm.after{P:Program}{nt B:Nat}{w0:World}{ρ ρ':aZ}{env:Env}{m m':M}{a:Act}{w w':World}{d:Option Nat}{x:X}{y:Value}(h:mm P nt B w0 ρ env m a w)
  (aU:an (Lex m) ρ ρ') (dY:m.nh<=m'.nh) (hm:iw P B w0 ρ' m' w') (hx: ∀ρ'',an (Lex m') ρ' ρ''->x.Rel ρ'' y) (hd: ∀k,d=some k->k<nt):
  mm P nt B w0 ρ' (eL env d x) {m' with ds:=m.ds} (a.put d y) w':=by
 have key: ∀ρ'',an (Lex m') ρ' ρ''->an (Lex m) ρ ρ'':=fun ρ'' h2 k hk=>(h2 k (Nat.lt_of_lt_of_le hk dY)).trans (aU k hk)
 refine⟨⟨fun ρ'' h2=>?_,fun ρ'' h2=>?_,?_⟩,fun ρ'' h2=>?_⟩
 ·exact(h.ok.env ρ'' (key ρ'' h2)).put h.ok.size hd (hx ρ'' h2)
 ·exact⟨(hm ρ'' h2).aj,(hm ρ'' h2).fG,(hm ρ'' h2).base,(hm ρ'' h2).below,(hm ρ'' h2).hB⟩
 ·rw[gb];exact h.ok.size
 rw[put_defers];exact h.ds ρ'' (key ρ'' h2)
theorem jw{C:Ctx}{o:Oper}{K:Env->M->Prop}{env:Env}{m:M}(hd:gD C o.dst=true)(hg:C.qY)(h:uQ C o K env m):L2 C o K env m:=by
 have hc:=lQ C.P o env m
 unfold uQ at h
 split at h
 ·rename_i e he
  rw[he]at hc
  simp only[Eff.cy,M.cy,ny,Env.go_eq,gK,gz,aQ]at h
  exact tf hd hc (nS (by rw[he];rfl)) h
 ·rename_i p f he
  rw[he]at hc
  simp only[Ctx.wW,Eff.cy,M.cy,ny,Env.go_eq]at h
  obtain⟨x,hp,hK⟩:=(h ()).out
  exact tf hd (hc x hp) (nS (by rw[he];rfl)) hK
 ·rename_i f args he
  rw[he]at hc
  simp only[Ctx.wW,Eff.cy,M.cy,ny,Env.go_eq]at h
  intro B w0 ρ a w aL hp
  obtain⟨ys,lW⟩:=hc a
  obtain⟨_,aS,my⟩:=lW ρ (aL.ok.env ρ (an.refl _ _))
  rcases(h ()).out with⟨qo,uX⟩|⟨_,ZH⟩
  case inr=>
   obtain⟨⟨okb,WO,Zx⟩,v,x,ρ',m',w',h0,h1,h2,h3,h4,h5⟩:=ZH B w0 ρ w ys aL.mem fun ρ' aU=>(lW ρ' (aL.ok.env ρ' aU)).1
   refine⟨⟨okb,WO,by rw[Oper.semAt_eq _ _ _ my,aS];exact Zx⟩,?_⟩
   rw[eM (by rw[Oper.semAt_eq _ _ _ my,aS];exact h0)]
   exact⟨ρ',_,{m' with ds:=m.ds},h1.mono fun k (hk:k<C.p)=>(show k<m.nh by omega),Nat.le_trans hp h2,aL.after h1 h2 h3 h4 (di hd),h5⟩
  refine⟨⟨od,fun _ h=>h.elim,?_⟩,?_⟩
  ·rw[Oper.semAt_eq _ _ _ my,aS];exact qo.QX _
  rw[eM (by rw[Oper.semAt_eq _ _ _ my,aS];exact(qo _).1 w)]
  simp only[oG]
  refine(uX B w0 ρ w ys aL.mem fun ρ' aU=>(lW ρ' (aL.ok.env ρ' aU)).1).mono ?_
  rintro e w' ⟨v,x,ρ',m',rfl,h1,h2,h3,h4,h5⟩
  exact⟨ρ',_,{m' with ds:=m.ds},h1.mono fun k (hk:k<C.p)=>(show k<m.nh by omega),Nat.le_trans hp h2,aL.after h1 h2 h3 h4 (di hd),h5⟩
 ·rename_i hh args he
  rw[he]at hc
  simp only[Ctx.wW,Eff.cy,M.cy,ny,Env.go_eq]at h
  have hy:=(h ()).out
  intro B w0 ρ a w aL hp
  obtain⟨ys,lW⟩:=hc a
  obtain⟨_,aS,my⟩:=lW ρ (aL.ok.env ρ (an.refl _ _))
  obtain⟨fn,tmps,assign,body,X7,hR⟩:=hy B w0 ρ w ys aL.mem (fun ρ' aU=>(lW ρ' (aL.ok.env ρ' aU)).1)
  refine⟨⟨od,fun _ h=>h.elim,?_⟩,?_⟩
  ·rw[Oper.semAt_eq _ _ _ my,aS];exact Jh
  rw[eM (by rw[Oper.semAt_eq _ _ _ my,aS];exact X7)]
  simp only[oG]
  refine hR.mono ?_
  rintro e w' ⟨v,x,ρ',m',rfl,h1,h2,h3,h4,h5⟩
  exact⟨ρ',_,{m' with ds:=m.ds},h1.mono fun k (hk:k<C.p)=>(show k<m.nh by omega),Nat.le_trans hp h2,aL.after h1 h2 h3 h4 (di hd),h5⟩
 exact(h ()).out hg
theorem mm.xT{P:Program}{nt B:Nat}{w0:World}{ρ:aZ}{env:Env}{m:M}{a:Act}{w:World}{d:Nat}{b:Bool}(h:mm P nt B w0 ρ env m a w)(hg:env.get d=some (.t (.one (.b b)))):
  mm P nt B w0 ρ ((d,known b)::env) m a w:=by
 refine⟨⟨fun ρ' aU k x hk=>?_,h.ok.mem,h.ok.size⟩,h.ds⟩
 have cC:Env.get (eL env (some d) (known b)) k=some x:=hk
 rw[fy]at cC
 split at cC
 ·rename_i e;cases e;cases cC
  obtain⟨y,h1,h2⟩:=h.ok.env ρ' aU d _ hg
  exact⟨y,h1,h2,rfl⟩
 exact h.ok.env ρ' aU k x cC
theorem um(ρ:aZ):X.Rel ρ (.lv []) undef:=⟨[],rfl,trivial⟩
theorem mm.skip{P:Program}{nt B:Nat}{w0:World}{ρ:aZ}{env:Env}{m:M}{a:Act}{w:World}{d:Option Nat}(h:mm P nt B w0 ρ env m a w)(hd: ∀k,d=some k->k<nt):
  mm P nt B w0 ρ (eL env d (.lv [])) m (a.put d undef) w:=
 ⟨⟨fun ρ' aU=>(h.ok.env ρ' aU).put h.ok.size hd (um ρ'),h.ok.mem,by rw[gb];exact h.ok.size⟩,fun ρ' aU=>by rw[put_defers];exact h.ds ρ' aU⟩
theorem ta{ρ:aZ}{ops:Array Oper}{env:Env}{a:Act}{o:Oper}{j d:Nat}{want:Bool}(he:cq ρ env a)(hg:o.guard=some (j,want))(hd:(ops[j]?).bind (·.dst)=some d)
  (hv:env.get d=some (.lv [])):Region.wanted o (yielded ops a.tmps)=false:=by
 obtain⟨y,h1,ys,rfl,h2⟩:=he d _ hv
 cases ys with
 |nil=>simp[Region.wanted,hg,yielded,hd,h1]
 |cons z zs=>exact h2.elim
theorem dT{ρ:aZ}{ops:Array Oper}{env:Env}{a:Act}{o:Oper}{j d:Nat}{want b:Bool}(he:cq ρ env a)(hg:o.guard=some (j,want))(hd:(ops[j]?).bind (·.dst)=some d)
  (hv:env.get d=some (.t (.one (.v (.bool b))))\/env.get d=some (.t (.one (.b b)))):Region.wanted o (yielded ops a.tmps)=(b==want):=by
 have:a.tmps[d]?=some (.bool b):=by
  rcases hv with hv|hv
  ·obtain⟨y,h1,h2,_⟩:=he d _ hv;rw[h1,h2]
  obtain⟨y,h1,h2⟩:=he d _ hv;rw[h1];exact congrArg some h2
 simp only[Region.wanted,hg,yielded,hd,Option.bind_some,this]
 cases b<;>cases want<;>rfl
theorem nM{ro:Option Nat}{P:Program}{ops:Array Oper}{Q Q':Exit->Act->World->Prop}(hq: ∀a w,Q .normal a w->Q' .normal a w): ∀ (l:List Oper) (a:Act) (w:World),iS ro P ops Q l a w->iS ro P ops Q' l a w
 | [],a,w,h=>hq a w h
 |o::l,a,w,h=>fun v' iv=>by
  have h':=h v' iv
  split at h'
  ·rename_i hw;rw[if_pos hw];exact mD (fun a v hh=>nM hq l a v hh) h'
  rename_i hw;rw[if_neg hw];exact nM hq l _ _ h'
theorem vo{C:Ctx}{ops:Array Oper}{Q:Exit->Env->M->Prop}(hg:C.qY): ∀ (l:List Oper) {env:Env} {m:M},gC C ops l (Q .normal) env m->
  ∀ (B:Nat) (w0:World) (ρ:aZ) (a:Act) (w:World),mm C.P C.nt B w0 ρ env m a w->C.p<=m.nh->iS (C.ro ρ) C.P ops (fun e a' w'=>After C B w0 ρ (Q e) a' w') l a w
 | [],env,m,h=>fun B w0 ρ a w aL hp=>⟨ρ,env,m,an.refl _ _,hp,aL,h⟩
 |o::rest,env,m,h=>fun B w0 ρ a w aL hp=>by
  have ih:=fun(env:Env) (m:M) (h:gC C ops rest (Q .normal) env m)=>vo (Q:=Q) hg rest h
  have run: ∀env',(∀v',Itf w v'->mm C.P C.nt B w0 ρ env' m a v')->gD C o.dst=true->uQ C o (gC C ops rest (Q .normal)) env' m->Region.wanted o (yielded ops a.tmps)=true->
    iS (C.ro ρ) C.P ops (fun e a' w'=>After C B w0 ρ (Q e) a' w') (o::rest) a w:=by
   intro env' oh hd hr hw v' iv
   rw[if_pos hw]
   refine mD ?_ (jw hd hg hr B w0 ρ a v' (oh v' iv) hp)
   rintro a' w' ⟨ρ',eJ,m2,h3,h4,h5,h6⟩
   have:=ih eJ m2 h6 B w0 ρ' a' w' h5 h4
   rw[Ctx.nW hg h3]at this
   exact nM (fun a w h=>After.from h3 h) _ _ _ this
  have skip: ∀env',mm C.P C.nt B w0 ρ env' m a w->gD C o.dst=true->gC C ops rest (Q .normal) (eL env' o.dst (.lv [])) m->Region.wanted o (yielded ops a.tmps)=false->
    iS (C.ro ρ) C.P ops (fun e a' w'=>After C B w0 ρ (Q e) a' w') (o::rest) a w:=by
   intro env' oh hd hr hw v' iv
   rw[if_neg (by rw[hw];simp)]
   exact ih _ _ hr B w0 ρ _ v' ((oh.skip (di hd)).lj iv) hp
  have run: ∀env',mm C.P C.nt B w0 ρ env' m a w->gD C o.dst=true->uQ C o (gC C ops rest (Q .normal)) env' m->Region.wanted o (yielded ops a.tmps)=true->
    iS (C.ro ρ) C.P ops (fun e a' w'=>After C B w0 ρ (Q e) a' w') (o::rest) a w:=fun env' oh=>run env' fun v' iv=>oh.lj iv
  simp only[gC,cond_eq_ite,Env.go_eq]at h
  split at h
  ·rename_i hd
   have hE:=aL.ok.env ρ (an.refl _ _)
   split at h
   ·rename_i hgo
    refine run env aL hd h ?_
    unfold guardOf at hgo
    split at hgo
    ·rename_i hn;simp[Region.wanted,hn]
    rename_i j want hn
    split at hgo
    ·rename_i d ln
     split at hgo
     ·rename_i hv;rw[dT hE hn ln (.inl hv)];cases want<;>simp_all
     ·rename_i hv;rw[dT hE hn ln (.inl hv)];cases want<;>simp_all
     ·cases hgo
     ·cases hgo
     cases hgo
    cases hgo
   ·rename_i hgo
    refine skip env aL hd h ?_
    unfold guardOf at hgo
    split at hgo
    ·cases hgo
    rename_i j want hn
    split at hgo
    ·rename_i d ln
     split at hgo
     ·rename_i hv;rw[dT hE hn ln (.inl hv)];cases want<;>simp_all
     ·rename_i hv;rw[dT hE hn ln (.inl hv)];cases want<;>simp_all
     ·cases hgo
     ·rename_i hv;exact ta hE hn ln hv
     cases hgo
    cases hgo
   ·rename_i d c hgo
    unfold guardOf at hgo
    split at hgo
    ·cases hgo
    rename_i j want hn
    split at hgo
    ·rename_i d' ln
     split at hgo
     ·rename_i hv;cases want<;>simp at hgo
     ·rename_i hv;cases want<;>simp at hgo
     ·rename_i c' hv
      cases hgo
      have hw:=dT hE hn ln (.inr hv)
      have rY:=aL.xT hv
      split at h
      ·rename_i j' oz
       rw[hn]at oz;cases oz
       have hs:=h ()
       cases c
       ·exact skip _ rY hd (hs.no rfl) (by rw[hw];rfl)
       exact run _ rY hd (hs.yes rfl) (by rw[hw];rfl)
      ·rename_i j' oz
       rw[hn]at oz;cases oz
       have hs:=h ()
       cases c
       ·exact run _ rY hd (hs.no rfl) (by rw[hw];rfl)
       exact skip _ rY hd (hs.yes rfl) (by rw[hw];rfl)
      exact h.elim
     ·cases hgo
     cases hgo
    cases hgo
   exact h.elim
  exact h.elim
end Go.SE

namespace Go.SE
open Go Go.RowKit
variable [aG]
theorem sR{ρ:aZ}{env:Env}{a:Act}{c:Operand}{b:Bool}(he:cq ρ env a)(h:cJ env c=some (.v (.bool b))\/cJ env c=some (.b b)):a.eval c= .bool b:=by
 rcases h with h|h
 ·exact(aA he h).1
 exact aA he h
theorem mm.cond{P:Program}{nt B:Nat}{w0:World}{ρ:aZ}{env:Env}{m:M}{a:Act}{w:World}{c:Operand}{b:Bool}(h:mm P nt B w0 ρ env m a w)(hg:cJ env c=some (.b b)):
  mm P nt B w0 ρ (BX env c b) m a w:=by
 cases c with
 |tmp d=>
  refine h.xT ?_
  simp only[cJ,ev]at hg
  split at hg
  ·rename_i hh;cases hg;exact hh
  cases hg
 |const v=>exact h
 |global g=>exact h
 |func f=>exact h
theorem kI{C:Ctx}(hg:C.qY): ∀ (c:Code) {Q:Exit->Env->M->Prop} {env:Env} {m:M},se C c Q env m->It C c Q env m:=by
 intro c
 induction c with
 |skip=>intro Q env m h B w0 ρ a w aL hp;exact Mz ⟨ρ,env,m,an.refl _ _,hp,aL,h⟩
 |region id ops draw=>
  intro Q env m h B w0 ρ a w aL hp
  cases draw with
  |true=>exact(h ()).out hg B w0 ρ a w aL hp
  |false=>exact vU (vo (Q:=Q) hg _ h B w0 ρ a w aL hp)
 |seq x y ihx ihy=>
  intro Q env m h B w0 ρ a w aL hp
  have h1:=ihx h B w0 ρ a w aL hp
  refine OO (fp h1 ?_)
  rintro e a' w' ⟨ρ',env',m',h3,h4,h5,h6⟩
  cases e with
  |normal=>
   have:=ihy h6 B w0 ρ' a' w' h5 h4
   rw[Ctx.nW hg h3]at this
   exact fp this fun e a w h=>After.from h3 h
  |exit id=>exact⟨ρ',env',m',h3,h4,h5,h6⟩
  |goto l=>exact⟨ρ',env',m',h3,h4,h5,h6⟩
  |ret=>exact⟨ρ',env',m',h3,h4,h5,h6⟩
  |panic ch=>exact⟨ρ',env',m',h3,h4,h5,h6⟩
  |outgrown=>exact⟨ρ',env',m',h3,h4,h5,h6⟩
 |cond c x y ihx ihy=>
  intro Q env m h B w0 ρ a w aL hp
  have hE:=aL.ok.env ρ (an.refl _ _)
  simp only[se]at h
  split at h
  ·rename_i hc;exact qH (sR hE (.inl hc)) (ihx h B w0 ρ a w aL hp)
  ·rename_i hc;exact pJ (sR hE (.inl hc)) (ihy h B w0 ρ a w aL hp)
  ·rename_i t hc
   have hs:=h ()
   cases t
   ·exact pJ (sR hE (.inr hc)) (ihy (hs.no rfl) B w0 ρ a w (aL.cond hc) hp)
   exact qH (sR hE (.inr hc)) (ihx (hs.yes rfl) B w0 ρ a w (aL.cond hc) hp)
  exact h.elim
 |block id c ih=>
  intro Q env m h B w0 ρ a w aL hp
  refine I6 (fp (ih h B w0 ρ a w aL hp) ?_)
  rintro e a' w' ⟨ρ',env',m',h3,h4,h5,h6⟩
  cases e with
  |exit i=>
   simp only[cond_eq_ite]at h6
   simp only[Exit.inBlock]
   split at h6
   ·rename_i he;rw[if_pos (Nat.eq_of_beq_eq_true he)];exact⟨ρ',env',m',h3,h4,h5,h6⟩
   rename_i he;rw[if_neg (fun e=>he (by rw[e];exact Nat.beq_refl _))];exact⟨ρ',env',m',h3,h4,h5,h6⟩
  |normal=>exact⟨ρ',env',m',h3,h4,h5,h6⟩
  |goto l=>exact⟨ρ',env',m',h3,h4,h5,h6⟩
  |ret=>exact⟨ρ',env',m',h3,h4,h5,h6⟩
  |panic ch=>exact⟨ρ',env',m',h3,h4,h5,h6⟩
  |outgrown=>exact⟨ρ',env',m',h3,h4,h5,h6⟩
 |exit id=>intro Q env m h B w0 ρ a w aL hp;exact MB ⟨ρ,env,m,an.refl _ _,hp,aL,h⟩
 |loop c _=>intro Q env m h B w0 ρ a w aL hp;exact Ce ((h ()).out hg B w0 ρ a w aL hp)
 |rangeFunc f ps x y _ _=>intro Q env m h;exact(h ()).out hg
 |scope c _=>intro Q env m h B w0 ρ a w aL hp;exact Ee ((h ()).out hg B w0 ρ a w aL hp)
 |label l=>intro Q env m h B w0 ρ a w aL hp;exact I5 ⟨ρ,env,m,an.refl _ _,hp,aL,h⟩
 |goto l=>intro Q env m h B w0 ρ a w aL hp;exact MA ⟨ρ,env,m,an.refl _ _,hp,aL,h⟩
 |ret=>intro Q env m h B w0 ρ a w aL hp;exact OP ⟨ρ,env,m,an.refl _ _,hp,aL,h⟩
 |refuse why=>intro Q env m h;exact h.elim
theorem uC{C:Ctx}{c:Code}{Q:Exit->Env->M->Prop}{env:Env}{m:M}(h:se C c (fun e env m=>match e with|.normal=>Unit->nZ C c Q env m|e=>Q e env m) env m):nZ C c Q env m:=by
 refine⟨fun hg B w0 ρ a w aL hp=>fp (kI hg c h B w0 ρ a w aL hp) ?_⟩
 rintro e a' w' ⟨ρ',env',m',h3,h4,h5,h6⟩
 cases e with
 |normal=>
  have:=(h6 ()).out hg B w0 ρ' a' w' h5 h4
  rw[Ctx.nW hg h3]at this
  exact pF (pN this) fun e a w h=>After.from h3 h
 |exit id=>exact⟨ρ',env',m',h3,h4,h5,h6⟩
 |goto l=>exact⟨ρ',env',m',h3,h4,h5,h6⟩
 |ret=>exact⟨ρ',env',m',h3,h4,h5,h6⟩
 |panic ch=>exact⟨ρ',env',m',h3,h4,h5,h6⟩
 |outgrown=>exact⟨ρ',env',m',h3,h4,h5,h6⟩
end Go.SE

namespace Go.SE
open Go Go.RowKit
variable [aG]
def rp:List T->Nat->Env
 | [],_=> []
 |x::l,i=>(i,.t x)::rp l (i+1)
theorem yH: ∀ (l:List T) (i k:Nat) (x:X),(rp l i).get k=some x->∃j t,k=i+j/\l[j]?=some t/\x= .t t
 | [],_,_,_,h=>by simp[rp,Env.get]at h
 |t::l,i,k,x,h=>by
  simp only[rp,Env.get,cond_eq_ite]at h
  split at h
  ·rename_i he
   cases h
   exact⟨0,t,(Nat.eq_of_beq_eq_true he).symm,rfl,rfl⟩
  obtain⟨j,t',h1,h2,h3⟩:=yH l (i+1) k x h
  exact⟨j+1,t',by omega,by simpa using h2,h3⟩
def Bs(P:Program)(env:Env)(m:M):ResultVar->Option T
 |.tmp t=>match env.get t with
  |some (.t x)=>some x
  |_=>none
 |.cell a t=>match env.get a with
  |some (.t (.one (.ptr h k)))=>(match m.reg h with
   |some (.box cells _ _)=>(match bW P t with
    |some true=>bif Nat.ble (k+P.cellsOf t) cells.length then some (.agg (cut cells k (P.cellsOf t)))else none
    |some false=>(match nth cells k with|some s=>some (.one s)|none=>none)
    |none=>none)
   |_=>none)
  |_=>none
def pZ(P:Program)(env:Env)(m:M):List ResultVar->Option (List T)
 | []=>some []
 |r::l=>match Bs P env m r,pZ P env m l with
  |some x,some xs=>some (x::xs)
  |_,_=>none
def Se(P:Program)(env:Env)(m:M)(rs:List ResultVar):Option X:=
 match pZ P env m rs with
 |some [x]=>some (.t x)
 |some l=>some (.lv l)
 |none=>none
def NJ(P:Program)(f:FuncId)(args:List T)(m:M)(K:X->M->Prop):Prop:=
 kF P f/\
 ∀ (B:Nat) (w0:World) (ρ:aZ) (w:World) (ys:List Value),iw P B w0 ρ m w->(∀ρ',an (Lex m) ρ ρ'->cD ρ' args ys)->
  uk P f ys.toArray w fun w'=>∃x ρ' m',an (Lex m) ρ ρ'/\m.nh<=m'.nh/\iw P B w0 ρ' m' w'/\K x m'
structure ng(P:Program)(f:FuncId)(args:List T)(m:M)(K:X->M->Prop):Prop where
 out:NJ P f args m K
def zW(h o:Nat)(xs:List Bool):List T:=.one (.ptr h o)::xs.map fun c=>.one (.v (.bool c))
theorem J1{ρ ρ':aZ}{h o:Nat}{xs:List Bool}(e:ρ' h=ρ h):cD ρ' (zW h o xs) (aB ρ h o::xs.map Value.bool):=by
 refine⟨by show aB ρ h o=aB ρ' h o;unfold aB;rw[e],?_⟩
 induction xs with
 |nil=>trivial
 |cons x xs ih=>exact⟨⟨rfl,rfl⟩,ih⟩
def rZ(P:Program):List lp->(M->Prop)->M->Prop
 | [],K,m=>K m
 |.Ku h::l,K,m=>match m.reg h with
  |some (.obj (.deferred (some [])))=>m.cs fun r n d=>rZ P l K ⟨(h,.obj (.deferred none))::r,n,d⟩
  |_=>False
 |.call f h o xs::l,K,m=>Unit->ng P f (zW h o xs) m fun _ m'=>rZ P l K m'
def Fb(P:Program)(rs:List ResultVar)(K:X->M->Prop)(env:Env)(m:M):Prop:=
 match Se P env m rs with
  |some x=>l8 x fun x=>m.cs fun r n d=>aY n fun n=>K x ⟨r,n,d⟩
  |none=>False
structure IZ(P:Program)(ds:List lp)(rs:List ResultVar)(K:X->M->Prop)(env:Env)(m:M):Prop where
 out:rZ P ds (Fb P rs K env) m
def WY(P:Program)(d:List lp)(rs:List ResultVar)(K:X->M->Prop)(env:Env)(m:M):Prop:=
 match d with
 | []=>Fb P rs K env m
 |.Ku h::l=>rZ P (.Ku h::l) (Fb P rs K env) m
 |.call f h o xs::l=>Unit->IZ P (.call f h o xs::l) rs K env m
def Dd(P:Program)(rs:List ResultVar)(K:X->M->Prop)(env:Env)(m:M):Prop:=
 m.cs fun r n d=>WY P d rs K env ⟨r,n,d⟩
theorem DT{P:Program}{rs:List ResultVar}{K:X->M->Prop}{env:Env}{m:M}(h:Dd P rs K env m):rZ P m.ds (Fb P rs K env) m:=by
 obtain⟨r,n,d⟩:=m
 cases d with
 |nil=>exact h
 |cons x l=>cases x with
  |Ku k=>exact h
  |call f k o xs=>exact(h ()).out
theorem ng.mono{P:Program}{f:FuncId}{args:List T}{m:M}{K K':X->M->Prop}(h:ng P f args m K)(hk: ∀x m,K x m->K' x m):ng P f args m K':=by
 obtain⟨h1,h2⟩:=h.out
 refine⟨h1,fun B w0 ρ w ys hm lW=>(h2 B w0 ρ w ys hm lW).mono ?_⟩
 rintro w' ⟨x,ρ',m',g1,g2,g3,g4⟩
 exact⟨x,ρ',m',g1,g2,g3,hk _ _ g4⟩
theorem Nn{P:Program}{f:FuncId}{h o:Nat}{xs:List Bool}{l:List lp}{rs:List ResultVar}{K:X->M->Prop}{env:Env}{m:M}(hS:ng P f (zW h o xs) m fun _ m'=>Unit->IZ P l rs K env m'):IZ P (.call f h o xs::l) rs K env m:=
 ⟨fun _=>hS.mono fun _ _ hh=>(hh ()).out⟩
theorem Tz{P:Program}{l:List lp}{rs:List ResultVar}{K:X->M->Prop}{env:Env}{m:M}(h:rZ P l (Fb P rs K env) m):IZ P l rs K env m:=⟨h⟩
theorem Ml{P:Program}{l:List lp}{rs:List ResultVar}{K:X->M->Prop}{env:Env}{m:M}(h:IZ P l rs K env m):IZ P l rs K env m:=h
def fin(P:Program)(rs:List ResultVar)(K:X->M->Prop):Exit->Env->M->Prop
 |.normal,env,m=>Dd P rs K env m
 |.ret,env,m=>Dd P rs K env m
 |_,_,_=>False
def Bf(tmps:Array Value):ResultVar->Sem Value
 |.tmp t=>pure (tmps.getD t undef)
 |.cell a t=>do loadVar t (<-asAddr (tmps.getD a undef))
theorem Gc(fn:Func)(tmps:Array Value):results fn tmps=(do
  let vs <-fn.results.mapM (Bf tmps)
  pure (if h:vs.size=1 then vs[0]else .tuple vs)):=by
 unfold results
 congr 1
theorem Gz{P:Program}{B:Nat}{w0:World}{ρ:aZ}{env:Env}{m:M}{a:Act}{w:World}{r:ResultVar}{x:T}(he:cq ρ env a)(hm:kh P B w0 ρ m w)(h:Bs P env m r=some x):
  ∃y,(Bf a.tmps r).run P w= .ok y w/\x.Rel ρ y:=by
 unfold Bf
 cases r with
 |tmp t=>
  simp only[Bs]at h
  split at h
  ·rename_i x' hx
   cases h
   obtain⟨y,h1,h2⟩:=he t _ hx
   exact⟨y,by simp[Array.getD_eq_getD_getElem?,h1],h2⟩
  cases h
 |cell c t=>
  simp only[Bs]at h
  split at h
  ·rename_i hh k hx
   obtain⟨y,h1,h2⟩:=he c _ hx
   simp only[X.Rel,T.Rel,S.Rel]at h2
   subst h2
   have h3:a.tmps.getD c undef=aB ρ hh k:=by simp[Array.getD_eq_getD_getElem?,h1]
   split at h
   ·rename_i cells sz e hr
    obtain⟨g2,ys,g3,g4,g5⟩:=px (hm.aj _ _ hr)
    split at h
    ·rename_i ha
     simp only[cond_eq_ite]at h
     split at h
     ·rename_i hle
      cases h
      have zaL:=Nat.le_of_ble_eq_true hle
      have hd: ∃d,P.underlying t=some d:=by
       unfold bW at ha
       cases hu:P.underlying t with
       |none=>simp[hu]at ha
       |some d=>exact⟨d,rfl⟩
      obtain⟨d,hd⟩:=hd
      have hl:=g4.length
      have zK:=run_loadCells_list (P:=P) (w:=w) ⟨(ρ hh).blk,k,none⟩ ((ys.drop k).take (P.cellsOf t)) (by
       intro j v hv
       rw[cN,g5]
       rw[List.getElem?_take]at hv
       split at hv
       ·rw[List.getElem?_drop]at hv;exact hv
       cases hv)
      have hlen:((ys.drop k).take (P.cellsOf t)).length=P.cellsOf t:=by simp;omega
      rw[hlen]at zK
      refine⟨.agg ((ys.drop k).take (P.cellsOf t)).toArray,?_,_,rfl,g4.cut _ _⟩
      simp only[h3]
      simp[aB,asAddr,loadVar,bX ha,g2,eF hd,zK]
     cases h
    ·rename_i ha
     split at h
     ·rename_i s hs
      cases h
      obtain⟨y,hy,aJ⟩:=g4.nth hs
      refine⟨y,?_,aJ⟩
      simp only[h3]
      simp[aB,asAddr,loadVar,bX ha,g2,g5,hy]
     cases h
    cases h
   cases h
  cases h
theorem vA{P:Program}{B:Nat}{w0:World}{ρ:aZ}{env:Env}{m:M}{a:Act}{w:World}(he:cq ρ env a)(hm:kh P B w0 ρ m w): ∀ {rs:List ResultVar} {xs:List T},pZ P env m rs=some xs->
  ∃ys,(rs.mapM (Bf a.tmps)).run P w= .ok ys w/\cD ρ xs ys
 | [],xs,h=>by simp[pZ]at h;subst h;exact⟨[],rfl,trivial⟩
 |r::rs,xs,h=>by
  simp only[pZ]at h
  split at h
  ·rename_i x NK h1 h2
   cases h
   obtain⟨y,g1,g2⟩:=Gz he hm h1
   obtain⟨ys,g3,g4⟩:=vA he hm h2
   refine⟨y::ys,?_,g2,g4⟩
   rw[List.mapM_cons]
   simp only[Sem.run_bind,Sem.run_pure,g1,Result.andThen_ok,g3]
  cases h
theorem xS{P:Program}{B:Nat}{w0:World}{ρ:aZ}{env:Env}{m:M}{a:Act}{w:World}{fn:Func}{x:X}(he:cq ρ env a)(hm:kh P B w0 ρ m w)(h:Se P env m fn.results.toList=some x):
  ∃v,(results fn a.tmps).run P w= .ok v w/\x.Rel ρ v:=by
 have key: ∀xs,pZ P env m fn.results.toList=some xs->∃ys:List Value,cD ρ xs ys/\(results fn a.tmps).run P w= .ok (if h:ys.toArray.size=1 then ys.toArray[0]else .tuple ys.toArray) w:=by
  intro xs Ky
  obtain⟨ys,g1,g2⟩:=vA he hm Ky
  refine⟨ys,g2,?_⟩
  rw[Gc,Array.mapM_eq_mapM_toList]
  simp only[Sem.run_bind,Sem.run_map,g1,Result.andThen_ok,Sem.run_pure]
 unfold Se at h
 split at h
 ·rename_i y Ky
  cases h
  obtain⟨ys,g2,g3⟩:=key _ Ky
  match ys,g2 with
  | [v],g2=>exact⟨v,by simpa using g3,g2.1⟩
  | [],g2=>exact g2.elim
  |_::_::_,g2=>exact g2.2.elim
 ·rename_i l cb Ky
  cases h
  obtain⟨ys,g2,g3⟩:=key _ Ky
  refine⟨.tuple ys.toArray,?_,ys,rfl,g2⟩
  rw[g3,dif_neg]
  intro h1
  have hl:=g2.length
  simp at h1
  match l,hl with
  | [],hl=>simp at hl;omega
  | [x],hl=>exact cb x rfl
  |_::_::_,hl=>simp at hl;omega
 cases h
theorem kh.O9{P:Program}{B:Nat}{w0:World}{ρ:aZ}{m:M}{w:World}{h:Nat}{o o':Obj}{r':bd}{k:Nat}(hm:kh P B w0 ρ m w)(hr:m.reg h=some (.obj o))(ho:(bd.obj o).ai=true)
  (lX:bz ρ (w.putObj (ρ h).blk o') h r') (x:X) (Of: ∀z,gR r' z=false):kh P B w0 ρ (m.app {val:=x,aj:= [(h,r')],nh:=k}) (w.putObj (ρ h).blk o'):=
 hm.write (r:=.obj o) (r':=r') (k:=k) (w':=w.putObj (ρ h).blk o') hr ho (hm.aj _ _ hr).1 ⟨rfl,rfl,rfl,by simp,fun _ hk=>World.putObj_heap_other hk⟩ lX x ⟨fun _=>rfl,Of⟩
theorem zt{ρ ρ':aZ}{h o:Nat}(e:ρ' h=ρ h):aB ρ' h o=aB ρ h o:=by unfold aB;rw[e]
theorem vY{P:Program}{f:FuncId}{args:Array Value}(h:kF P f):bB P od (fun n=>n= .enter f args) (invoke (.fn (.func f) #[]) args):=by
 have:=(h args).2
 simpa only[invoke,Array.append_empty]using this
theorem qc{P:Program}{B:Nat}{w0:World}{fn:Func}{tmps:Array Value}{R:Ending->World->Prop}{K:M->Prop}: ∀ (ds:List lp) (m1:M) (ρ:aZ) (w1:World),rZ P ds K m1->iw P B w0 ρ m1 w1->(∀d∈ds,d.hd<m1.nh)->
  (∀m2 ρ2 w2,an (Lex m1) ρ ρ2->iw P B w0 ρ2 m2 w2->m1.nh<=m2.nh->K m2->∃v,(results fn tmps).run P w2= .ok v w2/\R (.returned v) w2)->
  lF P fn tmps R (ds.map (lp.den ρ)) w1
 | [],m1,ρ,w1,h,hm,_,hR=>⟨D6,fun v' iv=>hR m1 ρ v' (an.refl _ _) (hm.lj iv) (Nat.le_refl _) h⟩
 |.Ku h::ds,m1,ρ,w1,hh,hm,bA,hR=>by
  simp only[rZ]at hh
  split at hh
  ·rename_i hr
   rw[M.cy]at hh
   refine .inl ⟨_,rfl,fun v' iv=>?_⟩
   have hm:=hm.lj iv
   have P6:=hm ρ (an.refl _ _)
   have hb:=(P6.aj _ _ hr).2.1
   refine⟨_,run_takeDeferred hb,?_⟩
   refine qc ds _ ρ _ hh (fun ρ' aU=>?_) (fun k hk=>bA k (by simp[hk])) hR
   have hl:h<m1.nh:=bA (.Ku h) (by simp)
   have e1:(ρ h).blk=(ρ' h).blk:=by rw[aU h hl]
   rw[e1]
   have Ki:=hm ρ' aU
   refine Ki.O9 (k:=m1.nh) hr rfl (r':=.obj (.deferred none)) ⟨(Ki.aj _ _ hr).1,?_,fun _ _ h=>by cases h⟩ .uL (fun _=>rfl)
   exact World.putObj_heap_same (Array.getElem?_eq_some_iff.1 (Ki.aj _ _ hr).2.1).1
  exact hh.elim
 |.call f h o xs::ds,m1,ρ,w1,hh,hm,bA,hR=>by
  have hh:ng P f (zW h o xs) m1 fun _ m'=>rZ P ds K m':=hh ()
  obtain⟨qo,hgo⟩:=hh.out
  have hl:h<m1.nh:=bA (.call f h o xs) (by simp)
  refine .inr ⟨.func f,#[],f,(aB ρ h o::xs.map Value.bool).toArray,rfl,vY qo,fun v' iv=>⟨?_,?_⟩⟩
  ·have:=(qo (aB ρ h o::xs.map Value.bool).toArray).1 v'
   simpa [lp.den,invoke]using this
  refine(hgo B w0 ρ v' (aB ρ h o::xs.map Value.bool) (hm.lj iv) (fun ρ' aU=>J1 (aU h hl))).mono ?_
  rintro w2 ⟨x,ρ2,m2,h1,h2,h3,h5⟩
  have dm:ds.map (lp.den ρ)=ds.map (lp.den ρ2):=List.map_congr_left fun d hd=>(lp.AM (h1 d.hd (bA d (by simp[hd]))) rfl).symm
  rw[dm]
  exact qc ds m2 ρ2 w2 h5 h3 (fun d hd=>Nat.lt_of_lt_of_le (bA d (by simp[hd])) h2) fun m3 ρ3 w3 g1 g2 g3 g4=>hR m3 ρ3 w3 (h1.trans g1 fun k hk=>Nat.lt_of_lt_of_le hk h2) g2 (Nat.le_trans h2 g3) g4
end Go.SE

namespace Go.SE
open Go Go.RowKit
variable [aG]
theorem enters{P:Program}{f:FuncId}{fn:Func}{c:Code}(hf:P.funcs[f]?=some fn)(hb:fn.body=some c)(hn:(fn.name== "runtime.NumGoroutine")=false):kF P f:=fun ys=>by
 have e1:(program:Sem Program)= .program .pure:=rfl
 have e2:callFunc f ys= .program fun p=>(match p.funcs[f]? with
  |none=>stuck "call: no such function"
  |some fn=>if fn.name== "runtime.NumGoroutine" then pure .numGoroutine else if fn.body.isNone then(do
   mark (.extern f)
   if let some e:=Extern.findNext fn then return <-e ys
   match Extern.find fn with
   |some e=>pure (.value (<-e ys))
   |none=>
    if fn.name.endsWith ".init" &&!fn.name.startsWith "(" &&!fn.name.startsWith "gosem." then pure (.value (.tuple #[]))
    else unsupported (.extern fn.name))else pure (.enter f ys)):=rfl
 constructor
 ·intro w
  have e1:(program:Sem Program).run P w= .ok P w:=rfl
  simp only[callFunc,Sem.run_bind,e1,Result.andThen_ok,hf,hn,hb]
  rfl
 rw[e2]
 show bB P od _ _
 simp only[bB,qp,hf,hn,hb,Option.isNone_some,Bool.false_eq_true,if_false]
 exact jl rfl
theorem Aw{P:Program}{B nt:Nat}{w0:World}{ρ:aZ}{m:M}{w:World}{args:List T}{ys:List Value}(hm:iw P B w0 ρ m w)(lW: ∀ρ',an (Lex m) ρ ρ'->cD ρ' args ys):
  mm P nt B w0 ρ (rp args 0) {m with ds:= []} {tmps:=ys.toArray++Array.replicate (nt-ys.toArray.size) undef,defers:= []} w:=by
 refine⟨⟨fun ρ' aU k x hk=>?_,fun ρ' aU=>?_,?_⟩,fun _ _=>rfl⟩
 ·obtain⟨j,t,h1,h2,rfl⟩:=yH args 0 k x hk
  obtain⟨y,h3,h4⟩:=(lW ρ' aU).get h2
  have hj:j<ys.length:=(List.getElem?_eq_some_iff.1 h3).1
  refine⟨y,?_,h4⟩
  rw[h1,Nat.zero_add,Array.getElem?_append_left (by simpa using hj)]
  simpa using h3
 ·have:=hm ρ' aU
  exact⟨this.aj,this.fG,this.base,this.below,this.hB⟩
 simp;omega
theorem az{P:Program}{f:FuncId}{args:List T}{m:M}{K:X->M->Prop}{rP:Bool}{fn:Func}{c:Code}(hf:P.funcs[f]?=some fn)(hb:fn.body=some c)(hn:(fn.name== "runtime.NumGoroutine")=false)
  (h:aY fn.ntmps fun nt=>m.cs fun rs nh _=>aY nh fun nh=>Env.force (rp args 0) fun env=>se ⟨P,nt,nh,none⟩ c (fin P fn.results.toList K) env ⟨rs,nh,[]⟩):dS P f args m K rP:=by
 rw[aQ,M.cy,aQ,Env.force_eq]at h
 refine dS.of ⟨enters hf hb hn,fun B w0 ρ w ys hm lW=>?_⟩
 refine zE hf hb ?_
 have aL:=Aw (nt:=fn.ntmps) hm lW
 have h1:=kI (C:=⟨P,fn.ntmps,m.nh,none⟩) (fun _ hh=>by cases hh) c h B w0 ρ _ w aL (Nat.le_refl _)
 refine fp h1 ?_
 rintro e a' w' ⟨ρ',env',m',h3,h4,h5,h6⟩
 have dw:(e= .normal\/e= .ret)/\Dd P fn.results.toList K env' m':=by
  cases e<;>first|exact⟨.inl rfl,h6⟩|exact⟨.inr rfl,h6⟩|exact h6.elim
 have LN:lF P fn a'.tmps (fun e w'=>∃v x ρ' m',e= .returned v/\an (Lex m) ρ ρ'/\m.nh<=m'.nh/\iw P B w0 ρ' m' w'/\(∀ρ'',an (Lex m') ρ' ρ''->x.Rel ρ'' v)/\K x m') a'.defers w':=by
  obtain⟨_,hgo⟩:=dw
  have hgo:=DT hgo
  rw[h5.ds ρ' (an.refl _ _)]
  have LO: ∀d∈m'.ds,d.hd<m'.nh:=by
   intro d hd
   refine Classical.byContradiction fun Yq=>?_
   have h8:=h5.ds ρ' (an.refl _ _)
   have h9:=h5.ds (upd ρ' d.hd ⟨(ρ' d.hd).blk+1,0,0,0,false⟩) (dN ρ' _ (by unfold Lex;omega))
   rw[h8]at h9
   have EU:=(List.map_inj_left.1 h9) d hd
   cases d with
   |Ku k=>
    simp only[lp.den,lp.hd,upd_same]at EU
    simp at EU
   |call f k o xs=>
    simp only[lp.den,lp.hd,aB,upd_same]at EU
    simp at EU
  refine qc m'.ds m' ρ' w' hgo h5.mem LO fun m2 ρ2 w2 jP tM dY hK=>?_
  unfold Fb at hK
  split at hK
  ·rename_i x hx
   rw[gK,M.cy,aQ]at hK
   have hE: ∀ρ'',an (Lex m2) ρ2 ρ''->cq ρ'' env' a':=fun ρ'' aU=>h5.ok.env ρ'' fun k hk=>(aU k (Nat.lt_of_lt_of_le hk dY)).trans (jP k hk)
   obtain⟨v,hv,_⟩:=xS (hE ρ2 (an.refl _ _)) (tM ρ2 (an.refl _ _)) hx
   refine⟨v,hv,v,x,ρ2,m2,rfl,h3.trans jP (fun k hk=>Nat.lt_of_lt_of_le hk h4),Nat.le_trans h4 dY,tM,fun ρ'' aU=>?_,hK⟩
   obtain⟨v',dG,lX⟩:=xS (hE ρ'' aU) (tM ρ'' aU) hx
   rw[hv]at dG
   cases dG
   exact lX
  exact hK.elim
 rcases dw.1 with rfl|rfl<;>exact LN
def CZ:List Tmp->List T->Env->Env
 |p::ps,x::xs,env=>CZ ps xs ((p,.t x)::env)
 |_,_,env=>env
def sY(nt:Nat):List Tmp->Bool
 | []=>true
 |p::ps=>bif Nat.blt p nt then sY nt ps else false
theorem xK{ρ:aZ}{nt:Nat}: ∀ (ps:List Tmp) (xs:List T) (ys:List Value) (env:Env) (tmps:Array Value),cD ρ xs ys->nf ρ env tmps->nt<=tmps.size->sY nt ps=true->
  nf ρ (CZ ps xs env) ((ps.zip ys).foldl (fun t (p,v)=>t.setIfInBounds p v) tmps)/\nt<=((ps.zip ys).foldl (fun t (p,v)=>t.setIfInBounds p v) tmps).size
 | [],_,_,_,_,_,h,hs,_=>⟨h,hs⟩
 |p::ps,[],[],env,tmps,_,h,hs,_=>⟨h,hs⟩
 |p::ps,x::xs,y::ys,env,tmps,hr,h,hs,hb=>by
  simp only[sY,cond_eq_ite]at hb
  split at hb
  ·rename_i bA
   have RU:p<nt:=Nat.le_of_ble_eq_true bA
   simp only[CZ,List.zip_cons_cons,List.foldl_cons]
   refine xK ps xs ys _ _ hr.2 ?_ (by simpa using hs) hb
   have:=cq.put (ρ:=ρ) (env:=env) (a:={tmps,defers:= []}) (nt:=nt) (d:=some p) (x:=.t x) (y:=y) h hs (fun k hk=>by cases hk;exact RU) hr.1
   exact this
  cases hb
def xm(m:M)(h:Nat)(r:bd):M:={aj:=(h,r)::m.aj,nh:=m.nh,ds:=m.ds}
def Dx(h:Nat)(K:X->M->Prop):Exit->Env->M->Prop:=fun e _ m=>
 match m.reg h with
 |some (.loop nt env ps a b .busy none hd)=>
  m.cs fun rs n ds=>(match e with
  |.normal=>K (known true) ⟨(h,.loop nt env ps a b .ready none hd)::rs,n,ds⟩
  |.ret=>K (known false) ⟨(h,.loop nt env ps a b .done (some .ret) hd)::rs,n,ds⟩
  |.exit i=>K (known false) ⟨(h,.loop nt env ps a b .done (some (.exit i)) hd)::rs,n,ds⟩
  |.goto l=>K (known false) ⟨(h,.loop nt env ps a b .done (some (.goto l)) hd)::rs,n,ds⟩
  |_=>False)
 |_=>False
def Aq(P:Program)(nt p h:Nat)(body:Code)(K:X->M->Prop):Exit->Env->M->Prop:=fun e IU m1=>
 match e with
 |.normal=>match m1.reg h with
  |some (.loop TX env' ps a b .ready none hd)=>m1.cs fun rs n ds=>se ⟨P,nt,p,some h⟩ body (Dx h K) IU ⟨(h,.loop TX env' ps a b .busy none hd)::rs,n,ds⟩
  |_=>False
 |_=>False
theorem kh.loop{P:Program}{B:Nat}{w0:World}{ρ:aZ}{m:M}{w:World}{h nt hd:Nat}{env:Env}{ps:Array Tmp}{a b:Code}{st st':LoopState}{pe Cw:Option Code}
  (hm:kh P B w0 ρ m w) (hr:m.reg h=some (.loop nt env ps a b st pe hd)): ∃r:Loop,w.heap[(ρ h).blk]?=some (.loop r)/\r.state=st/\r.pending=pe/\r.params=ps/\r.assign=a/\r.body=b/\
   r.defers=(ρ hd).blk/\nt<=r.tmps.size/\nf ρ env r.tmps/\kh P B w0 ρ (xm m h (.loop nt env ps a b st' Cw hd)) (w.putObj (ρ h).blk (.loop {r with state:=st',pending:=Cw})):=by
 obtain⟨h1,r,h2,h3,h4,h5,h6,h7,h8,h9,EU⟩:=hm.aj _ _ hr
 refine⟨r,h2,h6,h7,h3,h4,h5,h8,h9,EU,?_⟩
 have bA:(ρ h).blk<w.heap.size:=(Array.getElem?_eq_some_iff.1 h2).1
 have lX:bz ρ (w.putObj (ρ h).blk (.loop {r with state:=st',pending:=Cw})) h (.loop nt env ps a b st' Cw hd):=
  ⟨h1,_,World.putObj_heap_same bA,h3,h4,h5,rfl,rfl,h8,h9,EU⟩
 exact hm.write (r:=.loop nt env ps a b st pe hd) (k:=m.nh) (w':=w.putObj (ρ h).blk (.loop {r with state:=st',pending:=Cw})) hr rfl h1 ⟨rfl,rfl,rfl,by simp,fun k hk=>World.putObj_heap_other hk⟩ lX .uL ⟨fun _=>rfl,fun _=>rfl⟩
theorem nz{P:Program}{h:Nat}{args:List T}{m:M}{K:X->M->Prop}{nt hd:Nat}{KW:Env}{ps:Array Tmp}{assign body:Code}
  (hr:m.reg h=some (.loop nt KW ps assign body .ready none hd)) (bA:Nat.blt h m.nh=true) (e8:args.length=ps.size) (rS:sY nt ps.toList=true)
  (Xs:m.cs fun rs nh _=>aY nh fun nh=>Env.force (CZ ps.toList args KW) fun env=>se ⟨P,nt,nh,some h⟩ assign (Aq P nt nh h body K) env ⟨rs,nh,[]⟩):BC P h args m K:=by
 rw[M.cy,aQ,Env.force_eq]at Xs
 replace bA:h<m.nh:=Nat.le_of_ble_eq_true bA
 refine⟨fun B w0 ρ w ys hm lW=>?_⟩
 have hg:Ctx.qY ⟨P,nt,m.nh,some h⟩:=fun k hk=>by cases hk;exact bA
 have P6:=hm ρ (an.refl _ _)
 obtain⟨r,g1,g2,g3,g4,g5,g6,g7,g8,g9,_⟩:=P6.loop (st':=.ready) (Cw:=none) hr
 have PZ:=lW ρ (an.refl _ _)
 have hlen:=PZ.length
 have X7:=run_yield (P:=P) (args:=ys.toArray) g1 (by rw[g4];simp;omega)
 refine⟨r.fn,_,r.assign,r.body,X7,zq ?_⟩
 have QL:((r.params.zip ys.toArray).foldl (fun tmps (x:Tmp×Value)=>tmps.setIfInBounds x.1 x.2) r.tmps)=((ps.toList.zip ys).foldl (fun t (p,v)=>t.setIfInBounds p v) r.tmps):=by
  rw[g4,<-Array.foldl_toList]
  simp
 have aL:mm P nt B w0 ρ (CZ ps.toList args KW) {m with ds:= []} {tmps:=(r.params.zip ys.toArray).foldl (fun tmps (x:Tmp×Value)=>tmps.setIfInBounds x.1 x.2) r.tmps,defers:= []} w:=by
  refine⟨⟨fun ρ' aU=>?_,fun ρ' aU=>?_,?_⟩,fun _ _=>rfl⟩
  ·obtain⟨r',k1,_,_,_,_,_,_,k8,k9,_⟩:=(hm ρ' aU).loop (st':=.ready) (Cw:=none) hr
   have e1:(ρ' h).blk=(ρ h).blk:=by rw[aU h bA]
   rw[e1,g1]at k1
   cases k1
   show nf ρ' _ _
   simp only[QL]
   exact(xK ps.toList args ys KW r.tmps (lW ρ' aU) k9 k8 rS).1
  ·have:=hm ρ' aU
   exact⟨this.aj,this.fG,this.base,this.below,this.hB⟩
  simp only[QL]
  exact(xK ps.toList args ys KW r.tmps PZ g9 g8 rS).2
 have h1:=kI hg assign Xs B w0 ρ _ w aL (Nat.le_refl _)
 rw[g5]
 refine fp h1 ?_
 rintro e a' w0' ⟨ρ1,IU,m1,h3,h4,h5',h6⟩
 unfold Aq at h6
 cases e with
 |normal=>
  intro w' iv
  have h5:=h5'.lj iv
  simp only at h6
  split at h6
  ·rename_i nt1 Wy ps1 tQ bd1 Yw hr1
   have P5:=h5.mem ρ1 (an.refl _ _)
   have Lc:(ρ1 h).blk=(ρ h).blk:=by rw[h3 h bA]
   obtain⟨r1,q1,q2,q3,q4,q5,q6,q7,q8,q9,q10⟩:=P5.loop (st':=.busy) (Cw:=none) hr1
   rw[Lc]at q1
   refine⟨_,run_beginRound q1 q2,?_⟩
   have e2:({r1 with state:=.busy}:Loop)={r1 with state:=.busy,pending:=none}:=by cases r1;simp_all
   have lr:mm P nt B w0 ρ1 IU (xm m1 h (.loop nt1 Wy ps1 tQ bd1 .busy none Yw)) a' (w'.putObj (ρ h).blk (.loop {r1 with state:=.busy})):=by
    refine⟨⟨h5.ok.env,fun ρ' aU=>?_,h5.ok.size⟩,h5.ds⟩
    obtain⟨r2,k1,_,k3,_,_,_,_,_,_,k10⟩:=(h5.mem ρ' aU).loop (st':=.busy) (Cw:=none) hr1
    have e3:(ρ' h).blk=(ρ h).blk:=by rw[aU h (Nat.lt_of_lt_of_le bA h4),Lc]
    rw[e3]at k1 k10
    rw[q1]at k1
    cases k1
    rw[e2];exact k10
   have h7:=kI hg body h6 B w0 ρ1 a' _ lr h4
   rw[Ctx.nW hg h3]at h7
   rw[g6]
   have OD: ∀ (jump:Option Code) (a2:Act) (w2:World) (ρ2:aZ) (eJ:Env) (m2:M) (Uq:Nat) (C2:Env) (Un:Array Tmp) (Va U9:Code) (Q7:Nat),an (fun h=>h<m.nh) ρ1 ρ2->m.nh<=m2.nh->mm P nt B w0 ρ2 eJ m2 a2 w2->
     m2.reg h=some (.loop Uq C2 Un Va U9 .busy none Q7)->K (known jump.isNone) (xm m2 h (.loop Uq C2 Un Va U9 (if jump.isNone then .ready else .done) jump Q7))->
     ∀w2',Itf w2 w2'->∃v w3,(Instr.endRound (ρ h).blk jump).run P w2'= .ok v w3/\∃v' x ρ' m',Ending.returned v=Ending.returned v'/\an (Lex m) ρ ρ'/\m.nh<=m'.nh/\iw P B w0 ρ' m' w3/\(∀ρ'',an (Lex m') ρ' ρ''->x.Rel ρ'' v')/\K x m':=by
    intro jump a2 zaB ρ2 eJ m2 Uq C2 Un Va U9 Q7 k1 k2 k3 k4 k5 w2 iv2
    replace k3:=k3.lj iv2
    have ES:(ρ2 h).blk=(ρ h).blk:=by rw[k1 h bA,Lc]
    obtain⟨r2,p1,p2,p3,_,_,_,_,_,_,p10⟩:=(k3.mem ρ2 (an.refl _ _)).loop (st':=if jump.isNone then .ready else .done) (Cw:=jump) k4
    rw[ES]at p1
    refine⟨_,_,run_endRound jump p1,_,known jump.isNone,ρ2,xm m2 h (.loop Uq C2 Un Va U9 (if jump.isNone then .ready else .done) jump Q7),rfl,h3.trans k1 (fun _ h=>h),k2,?_,fun ρ'' _=>⟨rfl,rfl⟩,k5⟩
    intro ρ' aU
    obtain⟨r3,t1,_,_,_,_,_,_,_,_,t10⟩:=(k3.mem ρ' aU).loop (st':=if jump.isNone then .ready else .done) (Cw:=jump) k4
    have e3:(ρ' h).blk=(ρ h).blk:=by rw[aU h (Nat.lt_of_lt_of_le bA k2),ES]
    rw[e3]at t1 t10
    rw[p1]at t1
    cases t1
    exact t10
   refine fp h7 ?_
   rintro e2 a2 w2 ⟨ρ2,eJ,m2,k1,k2,k3,k4⟩
   unfold Dx at k4
   split at k4
   ·rename_i Uq C2 Un Va U9 Q7 EF
    cases e2 with
    |normal=>exact OD none a2 w2 ρ2 eJ m2 _ _ _ _ _ _ k1 k2 k3 EF k4
    |ret=>exact OD (some .ret) a2 w2 ρ2 eJ m2 _ _ _ _ _ _ k1 k2 k3 EF k4
    |exit i=>exact OD (some (.exit i)) a2 w2 ρ2 eJ m2 _ _ _ _ _ _ k1 k2 k3 EF k4
    |goto i=>exact OD (some (.goto i)) a2 w2 ρ2 eJ m2 _ _ _ _ _ _ k1 k2 k3 EF k4
    |panic ch=>exact k4.elim
    |outgrown=>exact k4.elim
   exact k4.elim
  exact h6.elim
 |_=>exact h6.elim
end Go.SE

namespace Go.SE
open Go Go.RowKit
variable [aG]
theorem kh.Np{P:Program}{B:Nat}{w0:World}{ρ:aZ}{m:M}{w:World}{h nt hd:Nat}{env:Env}{ps:Array Tmp}{a b:Code}{st:LoopState}{pe:Option Code}(o:Obj)
  (hm:kh P B w0 ρ m w) (hr:m.reg h=some (.loop nt env ps a b st pe hd)):kh P B w0 ρ (xm m h .gone) (w.putObj (ρ h).blk o):=
 hm.write (r:=.loop nt env ps a b st pe hd) (r':=.gone) (k:=m.nh) (w':=w.putObj (ρ h).blk o) hr rfl (hm.aj _ _ hr).1 ⟨rfl,rfl,rfl,by simp,fun _ hk=>World.putObj_heap_other hk⟩ trivial .uL ⟨fun _=>rfl,fun _=>rfl⟩
def Ft(C:Ctx)(h:Nat)(ds:List lp)(Q:Exit->Env->M->Prop)(env:Env):X->M->Prop:=fun _ m=>
 match m.reg h with
 |some (.loop _ _ _ _ _ .ready none _)=>m.cs fun rs n _=>Q .normal env {aj:=(h,.gone)::rs,nh:=n,ds:=ds}
 |some (.loop _ _ _ _ _ .done (some j) _)=>m.cs fun rs n _=>se C j Q env {aj:=(h,.gone)::rs,nh:=n,ds:=ds}
 |_=>False
theorem xR{ρ:aZ}{env:Env}{a:Act}{f:Operand}{g:FuncId}{cz:List (Nat×Nat)}(he:cq ρ env a)(hf:cJ env f=some (.fn g cz)):
  a.eval f= .func (.func g) #[] (cz.map fun p=>aB ρ p.1 p.2).toArray:=aA he hf
theorem B9{P:Program}{ro:Option Nat}{fn:FuncId}{f:Operand}{ps:Array Tmp}{x y:Code}{a:Act}{g:FuncId}{cz:Array Value}(XC:a.eval f= .func (.func g) #[] cz)(qo:kF P g):bB P od (fun _=>True) (jm ro fn f ps x y a):=by
 unfold jm
 refine ag zp fun p _=>?_
 have e:resolve a.eval (rangeCall f p.1) 0=pure {target:=.fn (.func g) cz,args:= #[.func (.yield p.1) #[] #[]]}:=by
  simp only[resolve,XC,Deferred.ofValue]
  simp[Act.eval]
 show bB P od _ (resolve a.eval (rangeCall f p.1) 0>>=_)
 rw[e]
 exact(ag (qo.QX (#[.func (.yield p.1) #[] #[]]++cz)) fun _ _=>trivial:bB P od (fun _=>True) (callFunc g (#[.func (.yield p.1) #[] #[]]++cz)>>=fun n=>pure (p.1,p.2,n)))
theorem Jt{C:Ctx}(hg:C.qY){Q:Exit->Env->M->Prop}{env:Env}{m m2:M}{B:Nat}{w0:World}{ρ ρ1 ρ2:aZ}{a:Act}{w w3:World}{l h:Nat}{ds:List lp}{mark:List Deferred}{x:X}
  (aL:mm C.P C.nt B w0 ρ env m a w) (hp:C.p<=m.nh) (aU:an (Lex m) ρ ρ1) (jP:an (fun k=>k<m.nh\/k=h) ρ1 ρ2) (dY:m.nh<=m2.nh) (hh:h<m2.nh) (hl:(ρ1 h).blk=l)
  (tM:iw C.P B w0 ρ2 m2 w3) (dm: ∀ρ',an (Lex m2) ρ2 ρ'->mark++a.defers=ds.map (lp.den ρ'))
  (hK:Ft C h ds Q env x m2):yc (C.ro ρ) C.P l (fun e a' w'=>After C B w0 ρ (Q e) a' w') {a with defers:=mark++a.defers} (.returned (.tuple #[])) w3:=by
 intro w3' iv
 replace tM:=tM.lj iv
 clear iv
 revert tM
 generalize w3'=w3
 intro tM
 have rS:(ρ2 h).blk=l:=by rw[jP h (.inr rfl)];exact hl
 have VI:an (Lex m) ρ ρ2:=fun k hk=>(jP k (.inl hk)).trans (aU k hk)
 have Sb:an (fun h=>h<C.p) ρ ρ2:=VI.mono fun k (hk:k<C.p)=>(show k<m.nh by omega)
 have Qo: ∀ (TX ln:Nat) (env':Env) (Xk:Array Tmp) (a' b':Code) (st':LoopState) (Cw:Option Code) (o:Obj),m2.reg h=some (.loop TX env' Xk a' b' st' Cw ln)->
   mm C.P C.nt B w0 ρ2 env {aj:=(h,.gone)::m2.aj,nh:=m2.nh,ds:=ds} {a with defers:=mark++a.defers} (w3.putObj l o):=by
  intro TX ln env' Xk a' b' st' Cw o hr
  refine⟨⟨fun ρ' cW=>?_,fun ρ' cW=>?_,aL.ok.size⟩,fun ρ' cW=>dm ρ' cW⟩
  ·exact aL.ok.env ρ' fun k hk=>(cW k (Nat.lt_of_lt_of_le hk dY)).trans (VI k hk)
  have:=(tM ρ' cW).Np o hr
  rw[show(ρ' h).blk=l from by rw[cW h hh];exact rS]at this
  exact⟨this.aj,this.fG,this.base,this.below,this.hB⟩
 unfold Ft at hK
 have P6:=tM ρ2 (an.refl _ _)
 split at hK
 ·rename_i hr
  obtain⟨r,q1,q2,q3,_⟩:=P6.loop (st':=.ready) (Cw:=none) hr
  rw[rS]at q1
  have oF:=run_endLoop (P:=C.P) q1 (by rw[q2];simp)
  rw[q3]at oF
  exact⟨none,_,oF,ρ2,env,{aj:=(h,.gone)::m2.aj,nh:=m2.nh,ds:=ds},Sb,Nat.le_trans hp dY,Qo _ _ _ _ _ _ _ _ _ hr,hK⟩
 ·rename_i j _ hr
  obtain⟨r,q1,q2,q3,_⟩:=P6.loop (st':=.ready) (Cw:=none) hr
  rw[rS]at q1
  have oF:=run_endLoop (P:=C.P) q1 (by rw[q2];simp)
  rw[q3]at oF
  refine⟨some j,w3.putObj l (.loop {r with state:=.exhausted}),by rw[oF];simp[q3],?_⟩
  have:=kI hg j hK B w0 ρ2 _ _ (Qo _ _ _ _ _ _ _ _ (.loop {r with state:=.exhausted}) hr) (Nat.le_trans hp dY)
  rw[Ctx.nW hg Sb]at this
  exact fp this fun e a w h=>After.from Sb h
 exact hK.elim
theorem nD{C:Ctx}{f:Operand}{ps:Array Tmp}{x y:Code}{Q:Exit->Env->M->Prop}{env:Env}{m:M}{g:FuncId}{cz:List (Nat×Nat)}(Yg:C.rd=none)(hf:cJ env f=some (.fn g cz))
  (uX:m.cs fun rs nh ds=>aY nh fun nh=>aY (nh+1) fun n1=>aY (nh+1+1) fun n2=>C.pr fun P=>Unit->dS P g (.one (.Cu n1)::cz.map fun p=>.one (.ptr p.1 p.2))
   {aj:=(n1,.loop C.nt env ps x y .ready none nh)::(nh,.obj (.deferred (some [])))::rs,nh:=n2,ds:= []} (Ft C n1 (.Ku nh::ds) Q env) false):
  qF C (.rangeFunc f ps x y) Q env m:=by
 rw[M.cy,aQ,aQ,aQ,Ctx.wW]at uX
 replace uX:=uX ()
 obtain⟨qo,uX⟩:=uX.EB
 refine⟨fun hg B w0 ρ a zaH Mq hp=>zi (fun fn'=>B9 (xR (Mq.ok.env ρ (an.refl _ _)) hf) qo) fun fn' w iv=>?_⟩
 have aL:=Mq.lj iv
 have iP:C.ro ρ=none:=by simp[Ctx.ro,Yg]
 have XC:=xR (aL.ok.env ρ (an.refl _ _)) hf
 let KR:Loop:={state:=.ready,pending:=none,fn:=fn',tmps:=a.tmps,params:=ps,assign:=x,body:=y,defers:=w.heap.size}
 let W1:=(w.alloc (.deferred (some []))).alloc (.loop KR)
 let L0:Loc:=⟨w.heap.size,0,0,0,false⟩
 let L1:Loc:=⟨w.heap.size+1,0,0,0,false⟩
 let ρ1:aZ:=upd (upd ρ m.nh L0) (m.nh+1) L1
 have e0:ρ1 m.nh=L0:=by simp[ρ1,upd]
 have e1:ρ1 (m.nh+1)=L1:=by simp[ρ1,upd]
 have aU:an (Lex m) ρ ρ1:=fun k (hk:k<m.nh)=>by simp[ρ1,upd,show k≠m.nh+1 by omega,show k≠m.nh by omega]
 have CR:iw C.P B w0 ρ1 {aj:=(m.nh+1,.loop C.nt env ps x y .ready none m.nh)::(m.nh,.obj (.deferred (some [])))::m.aj,nh:=m.nh+1+1,ds:= []} W1:=by
  intro ρ' cW
  have f0:ρ' m.nh=L0:=(cW m.nh (by unfold Lex;show m.nh<m.nh+1+1;omega)).trans e0
  have f1:ρ' (m.nh+1)=L1:=(cW (m.nh+1) (by unfold Lex;show m.nh+1<m.nh+1+1;omega)).trans e1
  have f2:an (Lex m) ρ ρ':=fun k (hk:k<m.nh)=>(cW k (by unfold Lex;show k<m.nh+1+1;omega)).trans (aU k hk)
  have hm:=aL.ok.mem ρ' f2
  have P5:=hm.new (o:=.deferred (some [])) (r:=.obj (.deferred (some []))) (k:=m.nh+1) (by rw[f0]) ⟨by rw[f0],by rw[f0];exact World.alloc_heap_new w _,fun _ _ h=>by cases h⟩
  have Xt:(w.alloc (.deferred (some []))).heap.size=w.heap.size+1:=by simp
  have tM:=P5.new (o:=.loop KR) (r:=.loop C.nt env ps x y .ready none m.nh) (k:=m.nh+1+1) (by
    show(ρ' (m.nh+1)).blk=_;rw[f1,Xt]) ⟨by show(ρ' (m.nh+1)).nil=false;rw[f1],KR,by
     show((w.alloc (.deferred (some []))).alloc (.loop KR)).heap[(ρ' (m.nh+1)).blk]?=_
     rw[f1];have:=World.alloc_heap_new (w.alloc (.deferred (some []))) (.loop KR);rwa [Xt]at this,rfl,rfl,rfl,rfl,rfl,by rw[f0],aL.ok.size,aL.ok.env ρ' f2⟩
  exact⟨tM.aj,tM.fG,tM.base,tM.below,tM.hB⟩
 refine⟨w.heap.size+1,[{target:=.collected w.heap.size,args:= #[]}],W1,{target:=.fn (.func g) (cz.map fun p=>aB ρ p.1 p.2).toArray,args:= #[.func (.yield (w.heap.size+1)) #[] #[]]},W1,g,
  (.func (.yield (w.heap.size+1)) #[] #[]::cz.map fun p=>aB ρ p.1 p.2).toArray,W1,?_,?_,?_,?_⟩
 ·rw[iP];exact run_enterLoop_outer _ _ _ _ _
 ·simp only[resolve,XC]
  simp[Deferred.ofValue,Act.eval]
 ·have:(#[Value.func (.yield (w.heap.size+1)) #[] #[]]:Array Value)++(cz.map fun p=>aB ρ p.1 p.2).toArray=(.func (.yield (w.heap.size+1)) #[] #[]::cz.map fun p=>aB ρ p.1 p.2).toArray:=by simp
  simp only[invoke,this]
  exact(qo _).1 _
 have lW: ∀ρ',an (Lex {aj:=(m.nh+1,.loop C.nt env ps x y .ready none m.nh)::(m.nh,.obj (.deferred (some [])))::m.aj,nh:=m.nh+1+1,ds:= []}) ρ1 ρ'->
   cD ρ' (.one (.Cu (m.nh+1))::cz.map fun p=>.one (.ptr p.1 p.2)) (.func (.yield (w.heap.size+1)) #[] #[]::cz.map fun p=>aB ρ p.1 p.2):=by
  intro ρ' cW
  have f1:ρ' (m.nh+1)=L1:=(cW (m.nh+1) (by unfold Lex;show m.nh+1<m.nh+1+1;omega)).trans e1
  have f2:an (Lex m) ρ ρ':=fun k (hk:k<m.nh)=>(cW k (by unfold Lex;show k<m.nh+1+1;omega)).trans (aU k hk)
  have R5:=xR (aL.ok.env ρ' f2) hf
  rw[XC]at R5
  simp only[Value.func.injEq,true_and,Array.mk.injEq,List.toArray_inj]at R5
  have hc:=xW (ρ:=ρ') cz
  rw[<-R5]at hc
  refine And.intro ?_ hc
  show Value.func (.yield (w.heap.size+1)) #[] #[]=Value.func (.yield (ρ' (m.nh+1)).blk) #[] #[]
  rw[f1]
 refine(uX B w0 ρ1 W1 _ CR lW).mono ?_
 rintro e w3 ⟨v,xx,ρ2,m2,rfl,h1,h2,h3,_,h5⟩
 have zaI:m.nh+1+1<=m2.nh:=h2
 refine Jt hg (m2:=m2) (ρ1:=ρ1) (ρ2:=ρ2) (h:=m.nh+1) (x:=xx) aL hp aU (fun k hk=>h1 k (by unfold Lex;show k<m.nh+1+1;rcases hk with hk|hk<;>omega)) (by omega) (by omega) (by rw[e1]) h3 ?_ h5
 intro ρ' cW
 have f0:ρ' m.nh=L0:=(cW m.nh (by unfold Lex;omega)).trans ((h1 m.nh (by unfold Lex;show m.nh<m.nh+1+1;omega)).trans e0)
 have f2:an (Lex m) ρ ρ':=fun k (hk:k<m.nh)=>(cW k (by unfold Lex;omega)).trans ((h1 k (by unfold Lex;show k<m.nh+1+1;omega)).trans (aU k hk))
 rw[aL.ds ρ' f2]
 simp[f0,L0,lp.den]
end Go.SE

namespace Go.SE
open Go Go.RowKit
variable [aG]
def S.lU(θ:Nat->Nat):S->S
 |.ptr h o=>.ptr (θ h) o
 |.lV h o=>.lV (θ h) o
 |.sl h off len=>.sl (θ h) off len
 |.fn f cz=>.fn f (cz.map fun p=>(θ p.1,p.2))
 |.bm f h o=>.bm f (θ h) o
 |.Cu h=>.Cu (θ h)
 |.mp h=>.mp (θ h)
 |x=>x
def Bt(n:Nat):List (Nat×Nat)->Bool
 | []=>true
 |p::l=>bif Nat.blt p.1 n then Bt n l else false
def S.sc(n:Nat):S->Bool
 |.ptr h _=>Nat.blt h n
 |.lV h _=>Nat.blt h n
 |.sl h _ _=>Nat.blt h n
 |.fn _ cz=>Bt n cz
 |.bm _ h _=>Nat.blt h n
 |.Cu h=>Nat.blt h n
 |.mp h=>Nat.blt h n
 |_=>true
def CN(θ:Nat->Nat):List S->List S
 | []=> []
 |x::l=>x.lU θ::CN θ l
def TV(n:Nat):List S->Bool
 | []=>true
 |x::l=>bif x.sc n then TV n l else false
def T.lU(θ:Nat->Nat):T->T
 |.one s=>.one (s.lU θ)
 |.agg l=>.agg (CN θ l)
def T.sc(n:Nat):T->Bool
 |.one s=>s.sc n
 |.agg l=>TV n l
def ly(θ:Nat->Nat):List T->List T
 | []=> []
 |x::l=>x.lU θ::ly θ l
def KP(n:Nat):List T->Bool
 | []=>true
 |x::l=>bif x.sc n then KP n l else false
def X.lU(θ:Nat->Nat):X->X
 |.t x=>.t (x.lU θ)
 |.lv l=>.lv (ly θ l)
 |.uL=>.uL
def X.sc(n:Nat):X->Bool
 |.t x=>x.sc n
 |.lv l=>KP n l
 |.uL=>true
def Env.lU(θ:Nat->Nat):Env->Env
 | []=> []
 |(k,x)::l=>(k,x.lU θ)::Env.lU θ l
def Env.sc(n:Nat):Env->Bool
 | []=>true
 |(_,x)::l=>bif x.sc n then Env.sc n l else false
def Y5(θ:Nat->Nat):Option S->Option S
 |none=>none
 |some s=>some (s.lU θ)
def scO(n:Nat):Option S->Bool
 |none=>true
 |some s=>s.sc n
def bd.lU(θ:Nat->Nat):bd->bd
 |.box cells sz e=>.box (CN θ cells) sz e
 |.fR cells sz e=>.fR (CN θ cells) sz e
 |.slot mh key val=>.slot (θ mh) key (Y5 θ val)
 |.iter mh a b c=>.iter (θ mh) a b c
 |.loop nt env ps a b st pe hd=>.loop nt (env.lU θ) ps a b st pe (θ hd)
 |r=>r
def bd.sc(n:Nat):bd->Bool
 |.box cells _ _=>TV n cells
 |.fR cells _ _=>TV n cells
 |.slot mh _ val=>bif Nat.blt mh n then scO n val else false
 |.iter mh _ _ _=>Nat.blt mh n
 |.loop _ env _ _ _ _ _ hd=>bif Nat.blt hd n then env.sc n else false
 |_=>true
theorem fo{a b:Nat}(h:Nat.blt a b=true):a<b:=Nat.le_of_ble_eq_true h
theorem dU{ρ ρ':aZ}{h o:Nat}(e:ρ' h=ρ h):aB ρ' h o=aB ρ h o:=by unfold aB;rw[e]
theorem vD{n:Nat}: ∀ {l:List (Nat×Nat)},Bt n l=true->∀p∈l,p.1<n
 | [],_=>by simp
 |q::l,h=>by
  simp only[Bt,cond_eq_ite]at h
  split at h
  ·rename_i h1
   intro p hp
   rcases List.mem_cons.1 hp with rfl|hp
   ·exact fo h1
   exact vD h p hp
  cases h
theorem S.bY{ρ ρ':aZ}{n:Nat}{s:S}{y:Value}(hs:s.sc n=true)(aU: ∀h,h<n->ρ' h=ρ h)(h:s.Rel ρ y):s.Rel ρ' y:=by
 cases s with
 |ptr k o=>simp only[S.Rel]at h ⊢;rw[h,dU (aU k (fo hs))]
 |lV k o=>simp only[S.Rel]at h ⊢;rw[h,dU (aU k (fo hs))]
 |sl k off len=>simp only[S.Rel]at h ⊢;rw[aU k (fo hs)];exact h
 |bm f k o=>simp only[S.Rel]at h ⊢;rw[h,dU (aU k (fo hs))]
 |Cu k=>simp only[S.Rel]at h ⊢;rw[aU k (fo hs)];exact h
 |mp k=>simp only[S.Rel]at h ⊢;rw[aU k (fo hs)];exact h
 |fn f cz=>
  simp only[S.Rel]at h ⊢
  rw[h]
  have:cz.map (fun p=>aB ρ p.1 p.2)=cz.map (fun p=>aB ρ' p.1 p.2):=List.map_congr_left fun p hp=>(dU (aU p.1 (vD hs p hp))).symm
  rw[this]
 |v x=>exact h
 |b c=>exact h
 |n k i=>exact h
 |any=>exact h
theorem S.gm{ρ:aZ}{θ:Nat->Nat}{s:S}{y:Value}(h:(s.lU θ).Rel ρ y):s.Rel (fun k=>ρ (θ k)) y:=by
 cases s with
 |fn f cz=>simp only[S.lU,S.Rel,List.map_map]at h ⊢;exact h
 |_=>exact h
theorem L.bY{ρ ρ':aZ}{n:Nat}(aU: ∀h,h<n->ρ' h=ρ h): ∀ {l:List S} {ys:List Value},TV n l=true->bt ρ l ys->bt ρ' l ys
 | [],[],_,_=>trivial
 |x::l,y::ys,hs,h=>by
  simp only[TV,cond_eq_ite]at hs
  split at hs
  ·rename_i h1;exact⟨S.bY h1 aU h.1,L.bY aU hs h.2⟩
  cases hs
theorem L.gm{ρ:aZ}{θ:Nat->Nat}: ∀ {l:List S} {ys:List Value},bt ρ (CN θ l) ys->bt (fun k=>ρ (θ k)) l ys
 | [],[],_=>trivial
 |x::l,y::ys,h=>⟨S.gm h.1,L.gm h.2⟩
theorem T.bY{ρ ρ':aZ}{n:Nat}{t:T}{y:Value}(hs:t.sc n=true)(aU: ∀h,h<n->ρ' h=ρ h)(h:t.Rel ρ y):t.Rel ρ' y:=by
 cases t with
 |one s=>exact S.bY hs aU h
 |agg l=>obtain⟨ys,rfl,hl⟩:=h;exact⟨ys,rfl,L.bY aU hs hl⟩
theorem T.gm{ρ:aZ}{θ:Nat->Nat}{t:T}{y:Value}(h:(t.lU θ).Rel ρ y):t.Rel (fun k=>ρ (θ k)) y:=by
 cases t with
 |one s=>exact S.gm h
 |agg l=>obtain⟨ys,rfl,hl⟩:=h;exact⟨ys,rfl,L.gm hl⟩
theorem Ts.bY{ρ ρ':aZ}{n:Nat}(aU: ∀h,h<n->ρ' h=ρ h): ∀ {l:List T} {ys:List Value},KP n l=true->cD ρ l ys->cD ρ' l ys
 | [],[],_,_=>trivial
 |x::l,y::ys,hs,h=>by
  simp only[KP,cond_eq_ite]at hs
  split at hs
  ·rename_i h1;exact⟨T.bY h1 aU h.1,Ts.bY aU hs h.2⟩
  cases hs
theorem Ts.gm{ρ:aZ}{θ:Nat->Nat}: ∀ {l:List T} {ys:List Value},cD ρ (ly θ l) ys->cD (fun k=>ρ (θ k)) l ys
 | [],[],_=>trivial
 |x::l,y::ys,h=>⟨T.gm h.1,Ts.gm h.2⟩
theorem X.bY{ρ ρ':aZ}{n:Nat}{x:X}{y:Value}(hs:x.sc n=true)(aU: ∀h,h<n->ρ' h=ρ h)(h:x.Rel ρ y):x.Rel ρ' y:=by
 cases x with
 |t t=>exact T.bY hs aU h
 |lv l=>obtain⟨ys,rfl,hl⟩:=h;exact⟨ys,rfl,Ts.bY aU hs hl⟩
 |uL=>trivial
theorem Env.Fp{n:Nat}: ∀ {env:Env} {k:Nat} {x:X},Env.sc n env=true->env.get k=some x->x.sc n=true
 | [],_,_,_,h=>by simp[Env.get]at h
 |(j,y)::env,k,x,hs,h=>by
  simp only[Env.sc,cond_eq_ite]at hs
  split at hs
  ·rename_i h1
   simp only[Env.get,cond_eq_ite]at h
   split at h
   ·cases h;exact h1
   exact Env.Fp hs h
  cases hs
theorem FW{ρ ρ':aZ}{n:Nat}{env:Env}{tmps:Array Value}(hs:Env.sc n env=true)(aU: ∀h,h<n->ρ' h=ρ h)(h:nf ρ env tmps):nf ρ' env tmps:=fun k x hk=>by
 obtain⟨y,h1,h2⟩:=h k x hk
 exact⟨y,h1,X.bY (Env.Fp hs hk) aU h2⟩
theorem vq(θ:Nat->Nat): ∀l:List S,(CN θ l).length=l.length
 | []=>rfl
 |_::l=>by simp[CN,vq θ l]
theorem mH{ρ ρ':aZ}{n:Nat}{w:World}{h:Nat}{r:bd}(hs:r.sc n=true)(aU: ∀k,k<n->ρ' k=ρ k)(hh:h<n)(hr:bz ρ w h r):bz ρ' w h r:=by
 have e:=aU h hh
 cases r with
 |box cells sz et=>
  obtain⟨h1,h2,h3,ys,h4,h5⟩:=hr
  exact⟨by rw[e];exact h1,by rw[e];exact h2,by rw[e];exact h3,ys,by rw[e];exact h4,L.bY aU hs h5⟩
 |row xs sz et ai=>cases ai<;>(simp only[bz]at hr ⊢;rw[e];exact hr)
 |obj o=>exact⟨by rw[e];exact hr.1,by rw[e];exact hr.2⟩
 |loop nt env ps a b st pe hd=>
  simp only[bd.sc,cond_eq_ite]at hs
  split at hs
  ·rename_i h1
   obtain⟨g1,r,g2,g3,g4,g5,g6,g7,g8,g9,IG⟩:=hr
   exact⟨by rw[e];exact g1,r,by rw[e];exact g2,g3,g4,g5,g6,g7,by rw[aU hd (fo h1)];exact g8,g9,FW hs aU IG⟩
  cases hs
 |fR cells sz et=>
  obtain⟨h1,h2,h3,ys,zs,h4,h5,h6,h7⟩:=hr
  exact⟨by rw[e];exact h1,by rw[e];exact h2,by rw[e];exact h3,ys,zs,by rw[e];exact h4,by rw[e];exact h5,h6,L.bY aU hs h7⟩
 |slot mh key val=>
  simp only[bd.sc,cond_eq_ite]at hs
  split at hs
  ·rename_i hb
   obtain⟨h1,h2,es,c,h3,h4,h5⟩:=hr
   refine⟨by rw[e];exact h1,by rw[e,aU mh (fo hb)];exact h2,es,c,by rw[e];exact h3,h4,?_⟩
   cases key with
   |none=>trivial
   |some j=>
    cases val with
    |none=>exact h5
    |some s=>obtain⟨y,h6,h7⟩:=h5;exact⟨y,h6,S.bY hs aU h7⟩
  cases hs
 |iter mh a b c=>exact⟨by rw[e];exact hr.1,by rw[e,aU mh (fo hs)];exact hr.2⟩
 |gone=>trivial
def CL:S->S->Prop
 |.v (.bool c),.b d=>c=d
 |.b c,.b d=>c=d
 |.v (.bool c),.v (.bool d)=>c=d
 |.n k i,.v (.int k' j)=>k=k'/\i=j
 |.v (.int k i),.v (.int k' j)=>k=k'/\i=j
 |.n k i,.n k' j=>k=k'/\i=j
 |.sl h off len,.sl h' off' Vp=>h=h'/\off=off'/\len=Vp
 |.lV h o,.lV h' o'=>h=h'/\o=o'
 |.ptr h o,.lV h' o'=>h=h'/\o=o'
 |x,y=>x=y
theorem CL.rel{ρ:aZ}{x y:S}{v:Value}(h:CL x y)(hr:x.Rel ρ v):y.Rel ρ v:=by
 unfold CL at h
 split at h
 ·subst h;exact hr.1
 ·subst h;exact hr
 ·subst h;exact hr
 ·obtain⟨rfl,rfl⟩:=h;exact⟨hr,rfl⟩
 ·obtain⟨rfl,rfl⟩:=h;exact hr
 ·obtain⟨rfl,rfl⟩:=h;exact hr
 ·obtain⟨rfl,rfl,rfl⟩:=h;exact hr
 ·obtain⟨rfl,rfl⟩:=h;exact hr
 ·obtain⟨rfl,rfl⟩:=h;exact hr
 subst h;exact hr
def N1:List S->List S->Prop
 | [],[]=>True
 |x::xs,y::ys=>CL x y/\N1 xs ys
 |_,_=>False
theorem N1.rel{ρ:aZ}: ∀ {l l':List S} {v:List Value},N1 l l'->bt ρ l v->bt ρ l' v
 | [],[],[],_,_=>trivial
 |_::_,_::_,_::_,h,hr=>⟨h.1.rel hr.1,N1.rel h.2 hr.2⟩
def Ui:T->T->Prop
 |.one x,.one y=>CL x y
 |.agg l,.agg l'=>N1 l l'
 |_,_=>False
theorem Ui.rel{ρ:aZ}{x y:T}{v:Value}(h:Ui x y)(hr:x.Rel ρ v):y.Rel ρ v:=by
 cases x<;>cases y<;>first|exact h.elim|exact CL.rel h hr|(obtain⟨ys,rfl,hl⟩:=hr;exact⟨ys,rfl,N1.rel h hl⟩)
def lZ:List T->List T->Prop
 | [],[]=>True
 |x::xs,y::ys=>Ui x y/\lZ xs ys
 |_,_=>False
theorem lZ.rel{ρ:aZ}: ∀ {l l':List T} {v:List Value},lZ l l'->cD ρ l v->cD ρ l' v
 | [],[],[],_,_=>trivial
 |_::_,_::_,_::_,h,hr=>⟨h.1.rel hr.1,lZ.rel h.2 hr.2⟩
theorem CL.refl(x:S):CL x x:=by
 cases x with
 |v a=>cases a<;>first|exact rfl|exact⟨rfl,rfl⟩
 |b c=>exact rfl
 |n k i=>exact⟨rfl,rfl⟩
 |sl h o l=>exact⟨rfl,rfl,rfl⟩
 |lV h o=>exact⟨rfl,rfl⟩
 |ptr h o=>exact rfl
 |fn f c=>exact rfl
 |bm f h o=>exact rfl
 |Cu h=>exact rfl
 |mp h=>exact rfl
 |any=>exact rfl
theorem N1.refl: ∀l,N1 l l
 | []=>trivial
 |x::l=>⟨CL.refl x,N1.refl l⟩
theorem Ui.refl(x:T):Ui x x:=by
 cases x with
 |one s=>exact CL.refl s
 |agg l=>exact N1.refl l
theorem lZ.refl: ∀l,lZ l l
 | []=>trivial
 |x::l=>⟨Ui.refl x,lZ.refl l⟩
theorem cZ{l r:List T}(h:l=r):lZ l r:=by subst h;exact lZ.refl l
def lq:List (Nat×Nat)->Nat->Nat
 | [],h=>h
 |(a,b)::l,h=>bif Nat.beq a h then b else lq l h
def xi(p:Nat):List (Nat×Nat)->Bool
 | []=>true
 |(a,_)::l=>bif Nat.ble p a then xi p l else false
def G9(x:Nat):List Nat->Bool
 | []=>true
 |y::l=>bif Nat.beq x y then false else G9 x l
theorem yj: ∀ {l:List Nat} {x:Nat},G9 x l=true->x∉l
 | [],_,_=>by simp
 |y::l,x,h=>by
  simp only[G9,cond_eq_ite]at h
  split at h
  ·cases h
  rename_i cb
  simp only[List.mem_cons,not_or]
  exact⟨fun e=>cb (by rw[e];exact Nat.beq_refl _),yj h⟩
theorem Dm{p:Nat}: ∀ {th:List (Nat×Nat)} {h:Nat},xi p th=true->h<p->lq th h=h
 | [],_,_,_=>rfl
 |(a,b)::l,h,hf,hh=>by
  simp only[xi,cond_eq_ite]at hf
  split at hf
  ·rename_i h1
   simp only[lq,cond_eq_ite]
   rw[if_neg,Dm hf hh]
   intro e
   have:=Nat.eq_of_beq_eq_true e
   have:=Nat.le_of_ble_eq_true h1
   omega
  cases hf
end Go.SE

namespace Go.SE
open Go Go.RowKit
variable [aG]
def pick(hs:List Nat)(i:Nat):Nat:=hs.getD i 0
structure bo(P:Program)(f:FuncId)(args:List T)(pre:List bd)(res:X)(post:List bd):Prop where
 zb:kF P f
 go: ∀ (ρ:aZ) (w:World) (ys:List Value),(∀i r,pre[i]?=some r->bz ρ w i r)->cD ρ args ys->
  jD P f ys.toArray w fun e w'=>∃v ρ',e= .returned v/\res.Rel ρ' v/\(∀i r,post[i]?=some r->bz ρ' w' i r/\r.ai=true/\((ρ' i).nil=false->w.heap.size<=(ρ' i).blk))/\
   (∀i j,i<post.length->j<post.length->i≠j->(ρ' i).nil=false->(ρ' j).nil=false->(ρ' i).blk≠(ρ' j).blk)/\Below w.heap.size w w'
def fI:List bd->Nat->List (Nat×bd)
 | [],_=> []
 |r::l,i=>(i,r)::fI l (i+1)
theorem vt: ∀ (l:List bd) (i h:Nat) (r:bd),aK (fI l i) h=some r->∃j,h=i+j/\l[j]?=some r
 | [],_,_,_,e=>by simp[fI,aK]at e
 |x::l,i,h,r,e=>by
  simp only[fI,aK,cond_eq_ite]at e
  split at e
  ·rename_i he;cases e;exact⟨0,(Nat.eq_of_beq_eq_true he).symm,rfl⟩
  obtain⟨j,h1,h2⟩:=vt l (i+1) h r e;exact⟨j+1,by omega,by simpa using h2⟩
def Reads:bd->bd->Prop
 |.row xs sz _ _,.row NK jN _ false=>xs=NK/\sz=jN
 |.box cells sz _,.row NK jN _ false=>fi cells=some NK/\sz=jN
 |_,_=>False
theorem Reads.ok{ρ:aZ}{w:World}{h:Nat}{r r':bd}(hr:Reads r' r)(hk:bz ρ w h r')(i:Nat)(ρ2:aZ)(he:ρ2 i=ρ h):bz ρ2 w i r:=by
 cases r with
 |row xs sz e ai=>
  cases ai with
  |true=>cases r'<;>exact hr.elim
  |false=>
   cases r' with
   |row NK jN e' bQ=>
    obtain⟨rfl,rfl⟩:=hr
    obtain⟨q1,q2⟩:=o6 hk
    cases bQ with
    |true=>
     obtain⟨h1,h2,h3|⟨h3,h4,ys,h5,h6⟩⟩:=hk
     ·exact⟨by rw[he];exact h1,h2,.inl (by rw[he];exact h3)⟩
     exact⟨by rw[he];exact h1,h2,.inr ⟨by rw[he];exact h3,fun j x hx=>by rw[he];exact q2 j x hx⟩⟩
    |false=>
     obtain⟨h1,h2,h3|⟨h3,h5⟩⟩:=hk
     ·exact⟨by rw[he];exact h1,h2,.inl (by rw[he];exact h3)⟩
     exact⟨by rw[he];exact h1,h2,.inr ⟨by rw[he];exact h3,fun j x hx=>by rw[he];exact h5 j x hx⟩⟩
   |box cells jN e'=>
    obtain⟨hv,rfl⟩:=hr
    obtain⟨h1,h2,h3,ys,h4,h5⟩:=hk
    have:=dA hv h5
    subst this
    refine⟨by rw[he];exact h3.1,bt.one h5,.inr ⟨by rw[he];exact h1,fun j x hx=>?_⟩⟩
    rw[he]
    simp[World.cell?,h4,h2,hx]
   |obj o=>exact hr.elim
   |loop=>exact hr.elim
   |fR=>exact hr.elim
   |slot=>exact hr.elim
   |iter=>exact hr.elim
   |gone=>exact hr.elim
 |box=>cases r'<;>exact hr.elim
 |fR=>cases r'<;>exact hr.elim
 |slot=>cases r'<;>exact hr.elim
 |iter=>cases r'<;>exact hr.elim
 |obj=>cases r'<;>exact hr.elim
 |loop=>cases r'<;>exact hr.elim
 |gone=>cases r'<;>exact hr.elim
def im(m:M):List Nat->List bd->Prop
 | [],[]=>True
 |h::hs,r::rs=>(∃r',m.reg h=some r'/\Reads r' r)/\im m hs rs
 |_,_=>False
theorem im.get{m:M}: ∀ {hs:List Nat} {rs:List bd},im m hs rs->∀ (i:Nat) (r:bd),rs[i]?=some r->∃h r',hs[i]?=some h/\m.reg h=some r'/\Reads r' r
 | [],[],_,i,r,hr=>by simp at hr
 |h::hs,r::rs,e,i,r0,hr=>by
  cases i with
  |zero=>simp at hr;subst hr;obtain⟨r',h1,h2⟩:=e.1;exact⟨h,r',rfl,h1,h2⟩
  |succ i=>obtain⟨k,r',g1,g2⟩:=im.get e.2 i r0 (by simpa using hr);exact⟨k,r',by simpa using g1,g2⟩
def cO(nh:Nat):List bd->Nat->List (Nat×bd)
 | [],_=> []
 |r::l,i=>(nh+i,r.lU fun h=>nh+h)::cO nh l (i+1)
theorem mc(nh:Nat): ∀ (l:List bd) (i h:Nat) (r:bd),aK (cO nh l i) h=some r->∃j r0,h=nh+(i+j)/\l[j]?=some r0/\r=r0.lU fun h=>nh+h
 | [],_,_,_,e=>by simp[cO,aK]at e
 |x::l,i,h,r,e=>by
  simp only[cO,aK,cond_eq_ite]at e
  split at e
  ·rename_i he;cases e;exact⟨0,x,(Nat.eq_of_beq_eq_true he).symm,rfl,rfl⟩
  obtain⟨j,r0,h1,h2,h3⟩:=mc nh l (i+1) h r e;exact⟨j+1,r0,by omega,by simpa using h2,h3⟩
theorem S.cu{ρ:aZ}{θ:Nat->Nat}{s:S}{y:Value}(h:s.Rel (fun k=>ρ (θ k)) y):(s.lU θ).Rel ρ y:=by
 cases s with
 |fn f cz=>simp only[S.lU,S.Rel,List.map_map]at h ⊢;exact h
 |_=>exact h
theorem L.cu{ρ:aZ}{θ:Nat->Nat}: ∀ {l:List S} {ys:List Value},bt (fun k=>ρ (θ k)) l ys->bt ρ (CN θ l) ys
 | [],[],_=>trivial
 |x::l,y::ys,h=>⟨S.cu h.1,L.cu h.2⟩
theorem T.cu{ρ:aZ}{θ:Nat->Nat}{t:T}{y:Value}(h:t.Rel (fun k=>ρ (θ k)) y):(t.lU θ).Rel ρ y:=by
 cases t with
 |one s=>exact S.cu h
 |agg l=>obtain⟨ys,rfl,hl⟩:=h;exact⟨ys,rfl,L.cu hl⟩
theorem Ts.cu{ρ:aZ}{θ:Nat->Nat}: ∀ {l:List T} {ys:List Value},cD (fun k=>ρ (θ k)) l ys->cD ρ (ly θ l) ys
 | [],[],_=>trivial
 |x::l,y::ys,h=>⟨T.cu h.1,Ts.cu h.2⟩
theorem X.cu{ρ:aZ}{θ:Nat->Nat}{x:X}{y:Value}(h:x.Rel (fun k=>ρ (θ k)) y):(x.lU θ).Rel ρ y:=by
 cases x with
 |t t=>exact T.cu h
 |lv l=>obtain⟨ys,rfl,hl⟩:=h;exact⟨ys,rfl,Ts.cu hl⟩
 |uL=>trivial
theorem Env.AG{θ:Nat->Nat}: ∀ {env:Env} {k:Nat} {x:X},(env.lU θ).get k=some x->∃x',env.get k=some x'/\x=x'.lU θ
 | [],_,_,h=>by simp[Env.lU,Env.get]at h
 |(j,y)::env,k,x,h=>by
  simp only[Env.get,Env.lU,cond_eq_ite]at h ⊢
  split at h
  ·rename_i he;rw[if_pos he];cases h;exact⟨y,rfl,rfl⟩
  rename_i he;rw[if_neg he];exact Env.AG h
theorem Ar{ρ:aZ}{θ:Nat->Nat}{w:World}{h:Nat}{r:bd}(hr:bz (fun k=>ρ (θ k)) w h r):bz ρ w (θ h) (r.lU θ):=by
 cases r with
 |box cells sz et=>
  obtain⟨h1,h2,h3,ys,h4,h5⟩:=hr
  exact⟨h1,h2,by rw[vq];exact h3,ys,h4,L.cu h5⟩
 |row xs sz et ai=>cases ai<;>exact hr
 |obj o=>exact hr
 |loop nt env ps a b st pe hd=>
  obtain⟨g1,r,g2,g3,g4,g5,g6,g7,g8,g9,IG⟩:=hr
  refine⟨g1,r,g2,g3,g4,g5,g6,g7,g8,g9,fun k x hk=>?_⟩
  obtain⟨x',h1,rfl⟩:=Env.AG hk
  obtain⟨y,h2,h3⟩:=IG k x' h1
  exact⟨y,h2,X.cu h3⟩
 |fR cells sz et=>
  obtain⟨h1,h2,h3,ys,zs,h4,h5,h6,h7⟩:=hr
  exact⟨h1,h2,h3,ys,zs,h4,h5,h6,L.cu h7⟩
 |slot mh key val=>
  obtain⟨h1,h2,es,c,h3,h4,h5⟩:=hr
  refine⟨h1,h2,es,c,h3,h4,?_⟩
  cases key with
  |none=>trivial
  |some j=>
   cases val with
   |none=>exact h5
   |some s=>obtain⟨y,h6,h7⟩:=h5;exact⟨y,h6,S.cu h7⟩
 |iter mh a b c=>exact hr
 |gone=>trivial
def gw(n:Nat):List bd->Bool
 | []=>true
 |r::l=>bif r.sc n then gw n l else false
theorem ju{n:Nat}: ∀ {l:List bd},gw n l=true->∀r∈l,r.sc n=true
 | [],_=>by simp
 |r::l,h=>by
  simp only[gw,cond_eq_ite]at h
  split at h
  ·rename_i h1
   intro x hx
   rcases List.mem_cons.1 hx with rfl|hx
   ·exact h1
   exact ju h x hx
  cases h
theorem bo.use{P:Program}{f:FuncId}{args eE:List T}{pre:List bd}{res:X}{post:List bd}{m:M}{K:X->M->Prop}{rP:Bool}(h:bo P f args pre res post)(hs:List Nat)
  (dh:lZ eE (ly (pick hs) args)) (mU:im m hs pre) (gQ:(res.sc post.length&&gw post.length post)=true)
  (hK:l8 (res.lU fun k=>m.nh+k) fun x=>ja (cO m.nh post 0) fun rs=>aY (m.nh+post.length) fun nh=>m.cs fun aj _ ds=>zg rs aj fun l=>K x {aj:=l,nh:=nh,ds:=ds}):dS P f eE m K rP:=by
 rw[gK,gz,aQ,M.cy,ny]at hK
 rw[Bool.and_eq_true]at gQ
 refine dS.of ⟨h.zb,fun B w0 ρ w ys hm lW=>?_⟩
 have hM:=hm ρ (an.refl _ _)
 refine(h.go (fun k=>ρ (pick hs k)) w ys (fun i r hr=>?_) (Ts.gm (lZ.rel dh (lW ρ (an.refl _ _))))).mono ?_
 ·obtain⟨k,r',g1,g2,g3⟩:=mU.get i r hr
  exact g3.ok (hM.aj _ _ g2) i _ (by simp[pick,g1])
 rintro e w' ⟨v,ρ',rfl,h1,h2,h3,h4⟩
 let ρc:aZ:=fun k=>if k<m.nh then ρ k else ρ' (k-m.nh)
 have IB: ∀k,k<m.nh->ρc k=ρ k:=fun k hk=>by simp[ρc,hk]
 have Ua: ∀k,ρc (m.nh+k)=ρ' k:=fun k=>by
  show(if m.nh+k<m.nh then ρ (m.nh+k)else ρ' (m.nh+k-m.nh))=ρ' k
  rw[if_neg (by omega),Nat.add_sub_cancel_left]
 refine⟨v,_,ρc,_,rfl,fun k hk=>IB k hk,Nat.le_add_right _ post.length,fun ρ'' aU=>?_,fun ρ'' aU=>?_,hK⟩
 ·have a1: ∀k,k<m.nh->ρ'' k=ρ k:=fun k hk=>(aU k (by unfold Lex;show k<m.nh+post.length;omega)).trans (IB k hk)
  have a2: ∀k,k<post.length->ρ'' (m.nh+k)=ρ' k:=fun k hk=>(aU (m.nh+k) (by unfold Lex;show m.nh+k<m.nh+post.length;omega)).trans (Ua k)
  have ET:=hm ρ'' fun k hk=>a1 k hk
  have bn: ∀k r,M.reg {aj:=cO m.nh post 0++m.aj,nh:=m.nh+post.length,ds:=m.ds} k=some r->
    (∃j r0,k=m.nh+j/\j<post.length/\post[j]?=some r0/\r=r0.lU fun h=>m.nh+h)\/m.reg k=some r:=by
   intro k r hr
   simp only[M.reg,cA]at hr
   rcases Option.or_eq_some_iff.1 hr with hr|⟨_,hr⟩
   ·obtain⟨j,r0,g1,g2,g3⟩:=mc _ _ _ _ _ hr
    exact .inl ⟨j,r0,by omega,(List.getElem?_eq_some_iff.1 g2).1,g2,g3⟩
   exact .inr hr
  have hold: ∀k r,m.reg k=some r->bz ρ'' w' k r:=fun k r hr=>(ET.aj _ _ hr).same (fun hn hl=>h4.block _ ((ET.aj _ _ hr).lt hn hl)) h4.size
  have jh: ∀j r0,j<post.length->post[j]?=some r0->bz ρ'' w' (m.nh+j) (r0.lU fun h=>m.nh+h):=fun j r0 hj hr=>
   Ar (θ:=fun h=>m.nh+h) (mH (n:=post.length) (ju gQ.2 r0 (List.mem_of_getElem? hr)) (fun k hk=>a2 k hk) hj (h2 j r0 hr).1)
  have IF:B<=w.heap.size:=Nat.le_trans hM.hB hM.below.size
  refine⟨fun k r hr=>?_,fun k k' r r' hr lX cb ht ho hl n1 n2=>?_,fun k r hr ho hn=>?_,hM.below.trans (h4.mono IF),hM.hB⟩
  ·rcases bn k r hr with⟨j,r0,rfl,hj,g1,rfl⟩|hr
   ·exact jh j r0 hj g1
   exact hold k r hr
  ·rcases bn k r hr with⟨j,r0,rfl,hj,g1,rfl⟩|hr<;>rcases bn k' r' lX with⟨j',X1,rfl,kg,YI,rfl⟩|lX
   ·rw[a2 j hj]at n1 ⊢
    rw[a2 j' kg]at n2 ⊢
    exact h3 j j' hj kg (by omega) n1 n2
   ·have:=(h2 j r0 g1).2.2
    rw[a2 j hj]at n1 ⊢
    have h5:=this n1
    have h6:=(ET.aj _ _ lX).lt n2 hl
    omega
   ·have:=(h2 j' X1 YI).2.2
    rw[a2 j' kg]at n2 ⊢
    have h5:=this n2
    have h6:=(ET.aj _ _ hr).lt n1 (bd.dp ho)
    omega
   exact ET.fG _ _ _ _ hr lX cb ht ho hl n1 n2
  rcases bn k r hr with⟨j,r0,rfl,hj,g1,rfl⟩|hr
  ·rw[a2 j hj]at hn ⊢
   exact Nat.le_trans IF ((h2 j r0 g1).2.2 hn)
  exact ET.base _ _ hr ho hn
 refine X.cu (θ:=fun k=>m.nh+k) (X.bY (n:=post.length) gQ.1 (fun k hk=>?_) h1)
 show ρ'' (m.nh+k)=ρ' k
 exact(aU (m.nh+k) (by unfold Lex;show m.nh+k<m.nh+post.length;omega)).trans (Ua k)
end Go.SE

namespace Go.SE
open Go Go.RowKit Go.Conc Go.Co
variable [aG]
open Classical
def Rw:bd->Bool
 |.obj (.cells ..)=>false
 |_=>true
section
variable{E:Geo}{N i:Nat}{l:Lo}{O:Nat->Prop}{w v:World}
theorem VL.real(h:VL E l O w v){b:Nat}{o:Obj}(hb:v.heap[b]?=some o)(hn:o≠poison)(hp: ∀c e,o≠ .pending c e):O b/\w.heap[b]?=some o:=by
 have ho:O b:=Classical.byContradiction fun wc=>by
  rcases h.uM b o wc hb with e|⟨c,e,e',_⟩
  ·exact hn e
  exact hp c e e'
 exact⟨ho,by rw[<-h.ai b ho];exact hb⟩
theorem xV{ys:Array Value}{e:TypeId}:(Obj.cells ys e (0,0))≠poison:=fun h=>by
 unfold poison at h
 injection h with _ _ h
 cases h
theorem bz.real(h:VL E l O w v){ρ:aZ}{k:Nat}{r:bd}(ho:r.ai=true)(hz:Rw r=true)(hr:bz ρ v k r):bz ρ w k r/\((ρ k).nil=false->O (ρ k).blk):=by
 cases r with
 |box cells sz e=>
  obtain⟨h1,h2,h3,ys,h4,h5⟩:=hr
  obtain⟨q1,q2⟩:=h.real h4 xV (by simp)
  exact⟨⟨h1,h2,h3,ys,q2,h5⟩,fun _=>q1⟩
 |row xs sz e ai=>
  cases ai with
  |false=>cases ho
  |true=>
   obtain⟨h1,h2,h3⟩:=hr
   rcases h3 with h3|⟨g1,g2,ys,g3,g4⟩
   ·exact⟨⟨h1,h2,.inl h3⟩,fun hn=>by rw[h3.1]at hn;cases hn⟩
   obtain⟨q1,q2⟩:=h.real g3 xV (by simp)
   exact⟨⟨h1,h2,.inr ⟨g1,g2,ys,q2,g4⟩⟩,fun _=>q1⟩
 |obj o=>
  obtain⟨h1,h2,h3⟩:=hr
  obtain⟨q1,q2⟩:=h.real h2 (fun e=>by subst e;cases hz) (fun c e e'=>by subst e';cases ho)
  exact⟨⟨h1,q2,h3⟩,fun _=>q1⟩
 |loop nt env ps a b st pe hd=>
  obtain⟨h1,r,h2,h3⟩:=hr
  obtain⟨q1,q2⟩:=h.real h2 (by simp[poison]) (by simp)
  exact⟨⟨h1,r,q2,h3⟩,fun _=>q1⟩
 |fR cells sz e=>
  obtain⟨h1,h2,h3,ys,zs,h4,h5⟩:=hr
  obtain⟨q1,q2⟩:=h.real h4 xV (by simp)
  exact⟨⟨h1,h2,h3,ys,zs,q2,h5⟩,fun _=>q1⟩
 |slot mh key val=>
  obtain⟨h1,h2,es,c,h3,h4⟩:=hr
  obtain⟨q1,q2⟩:=h.real h3 (by simp[poison]) (by simp)
  exact⟨⟨h1,h2,es,c,q2,h4⟩,fun _=>q1⟩
 |iter mh since seen BF=>
  obtain⟨h1,h2⟩:=hr
  obtain⟨q1,q2⟩:=h.real h2 (by simp[poison]) (by simp)
  exact⟨⟨h1,q2⟩,fun _=>q1⟩
 |gone=>cases ho
noncomputable def lx(O:Nat->Prop)(sh:Nat->Option (Array Value×TypeId))(w:World)(tape:Nat->Question->Nat):World:=
 {w with heap:=w.heap.mapIdx fun b o=>if O b then o else match sh b with|some (c,e)=>.pending c e|none=>poison,tape:=tape}
theorem mG{sh:Nat->Option (Array Value×TypeId)}{tape:Nat->Question->Nat}{b:Nat}(hb:O b):(lx O sh w tape).heap[b]?=w.heap[b]?:=by
 simp only[lx,Array.getElem?_mapIdx,hb,if_true]
 cases w.heap[b]?<;>rfl
theorem MM{sh:Nat->Option (Array Value×TypeId)}{tape:Nat->Question->Nat}{b:Nat}{c:Array Value}{e:TypeId}(hb: ¬O b)(hs:sh b=some (c,e))(bA:b<w.heap.size):(lx O sh w tape).heap[b]?=some (.pending c e):=by
 simp only[lx,Array.getElem?_mapIdx,hb,if_false,hs,Array.getElem?_eq_getElem bA,Option.map_some]
theorem MN{sh:Nat->Option (Array Value×TypeId)}(hO: ∀b,O b->l.ai b/\∃o,w.heap[b]?=some o/\plainO o=true)
  (za: ∀b c e,sh b=some (c,e)->∀off x,c[off]?=some x->x.oneCell'=true->l.kn ⟨b,off,none⟩=some x):VL E l O w (lx O sh w E.w0.tape):=by
 refine⟨by simp[lx],fun b hb=>mG hb,fun b o hb he=>?_,fun b o hb he=>?_,fun b hb=>(hO b hb).1,fun b hb=>?_,rfl⟩
 ·rw[mG hb]at he
  obtain⟨_,o',h1,h2⟩:=hO b hb
  rw[h1]at he;cases he;exact h2
 ·simp only[lx,Array.getElem?_mapIdx,hb,if_false]at he
  cases hw:w.heap[b]? with
  |none=>rw[hw]at he;cases he
  |some o'=>
   rw[hw]at he
   cases hs:sh b with
   |none=>simp only[hs,Option.map_some,Option.some.injEq]at he;exact .inl he.symm
   |some p=>
    obtain⟨c,e⟩:=p
    simp only[hs,Option.map_some,Option.some.injEq]at he
    exact .inr ⟨c,e,he.symm,za b c e hs⟩
 obtain⟨_,o',h1,_⟩:=hO b hb
 exact(Array.getElem?_eq_some_iff.1 h1).1
theorem JX{P:Program}{f f':FuncId}{a a':Array Value}{kd kd':CallKind}(h:Frame.enter P f a kd=Frame.enter P f' a' kd'):f=f'/\kd=kd':=by
 have h1:=congrArg Frame.fn h
 have h2:=congrArg Frame.kind h
 unfold Frame.enter at h1 h2
 simp only at h1 h2
 exact⟨h1,h2⟩
theorem Tr.con{P:Program}(hP:E.P=P)(hX:ExtOk E N i l){f:FuncId}(hnx: ∀args v R,¬aG.x P (i==0) .normal f args v R){args:List T}{pre:List bd}{res:X}{post:List bd}(E8:bo P f args pre res post)(hz: ∀r∈post,Rw r=true){fr:Frame}{cs:List Frame}{ys:List Value}(bP:l.ch= .no)(aJ:l.rel=none)
  (h: ∀G ae t,GI E G ae t->(G.th i).af=true->G.th i=l->View l.ai w ae->∃ (O:Nat->Prop) (sh:Nat->Option (Array Value×TypeId)) (ρ:aZ),
   (∀b,O b->l.ai b/\∃o,ae.heap[b]?=some o/\plainO o=true)/\(∀b c e,sh b=some (c,e)->∀off x,c[off]?=some x->x.oneCell'=true->l.kn ⟨b,off,none⟩=some x)/\
   (∀k r,pre[k]?=some r->bz ρ (lx O sh ae E.w0.tape) k r)/\cD ρ args ys/\
   ∀l' du x ρ',res.Rel ρ' x->(∀k r,post[k]?=some r->bz ρ' du k r/\((ρ' k).nil=false->ae.heap.size<=(ρ' k).blk/\l'.ai (ρ' k).blk))->
    (∀k j,k<post.length->j<post.length->k≠j->(ρ' k).nil=false->(ρ' j).nil=false->(ρ' k).blk≠(ρ' j).blk)->
    l'={l with ai:=l'.ai}->(∀b,l.ai b->l'.ai b)->(∀b,l'.ai b->l.ai b\/ae.heap.size<=b)->ae.heap.size<=du.heap.size->(∀b,l.ai b->b<ae.heap.size->du.heap[b]?=ae.heap[b]?)->
    Tr E N i l' (Conc.G (fr.finish x) cs) du):Tr E N i l (Conc.G (Frame.enter P f ys.toArray .normal) (fr::cs)) w:=by
 refine WC hX (fun kd f' eE c' wi e v R hx=>?_) (aX _ _) bP aJ fun G ae t fP au ax hv=>?_
 ·have e1:Frame.enter P f ys.toArray .normal=Frame.enter E.P f' eE kd:=congrArg Goroutine.frame e
  rw[hP]at e1 hx
  obtain⟨rfl,rfl⟩:=JX e1
  exact hnx _ _ _ hx
 obtain⟨O,sh,ρ,hO,za,mU,dh,k⟩:=h G ae t fP au ax hv
 subst hP
 have hVL:=MN (E:=E) hO za
 have hgo:=E8.go ρ _ ys mU dh
 refine⟨O,_,fun g' v'=>∃x IH,g'=Conc.G (fr.finish x) cs/\Itf IH v'/\∃v ρ',(Ending.returned x)= .returned v/\res.Rel ρ' v/\(∀i r,post[i]?=some r->bz ρ' IH i r/\r.ai=true/\((ρ' i).nil=false->(lx O sh ae E.w0.tape).heap.size<=(ρ' i).blk))/\
   (∀i j,i<post.length->j<post.length->i≠j->(ρ' i).nil=false->(ρ' j).nil=false->(ρ' i).blk≠(ρ' j).blk)/\Below (lx O sh ae E.w0.tape).heap.size (lx O sh ae E.w0.tape) IH,?_,hVL,fun v'=>?_,fun g' v' l' O' w' hf IE hW=>?_⟩
 ·exact hgo _ _ fr cs fun x v' hx=>.fin fun u hu=>⟨x,v',rfl,hu,hx⟩
 ·rintro⟨x,IH,e,_⟩
  have:=congrArg (fun g=>g.callers.length) e
  simp[Conc.G]at this
 obtain⟨x,IH,rfl,iv,y,ρ',e,h1,h2,h3,h4⟩:=hf
 cases e
 have e8:(lx O sh ae E.w0.tape).heap.size=ae.heap.size:=hVL.size
 refine k l' w' x ρ' h1 (fun j r hr=>?_) h3 hW.eq hW.sub (fun b hb=>(hW.new b hb).imp id And.left) hW.size (fun b hb bA=>?_)
 ·obtain⟨g1,g2,g3⟩:=h2 j r hr
  obtain⟨g4,g5⟩:=bz.real IE g2 (hz r (List.mem_of_getElem? hr)) (g1.lj iv)
  exact⟨g4,fun hn=>⟨by rw[<-e8];exact g3 hn,IE.sub _ (g5 hn)⟩⟩
 by_cases ho:O b
 ·have a1:=IE.ai b (hW.Ox b ho)
  have a2:v'.heap[b]?=(lx O sh ae E.w0.tape).heap[b]?:=by
   have ES:b<IH.heap.size:=Nat.lt_of_lt_of_le (by rw[e8];exact bA) h4.size
   rw[iv.lt ES]
   exact h4.block b (by rw[e8];exact bA)
  rw[<-a1,a2,mG ho]
 exact hW.keep b hb ho bA
end
end Go.SE

namespace Go.SE
open Go Go.RowKit
variable [aG]
variable{P:Program}
def bJ:S->List Nat
 |.ptr h _=> [h]
 |.lV h _=> [h]
 |.sl h _ _=> [h]
 |_=> []
def cU(op:Op):List Operand:=
 match op with
 |.load _ a=> [a]
 |.store _ a _=> [a]
 |.indexAddr _ x _=> [x]
 |.slice _ x _ _ _=> [x]
 |.binOp _ _ x _ _=> [x]
 |.convert _ _ x=> [x]
 |.call c=>c.args.toList
 |_=> []
def Hb(env:Env):List Operand->List Nat
 | []=> []
 |x::l=>(match cJ env x with|some s=>bJ s|none=> [])++Hb env l
def iW(env:Env)(op:Op):List Nat:=
 match op with
 |.insert _ mp k _=>(match cJ env mp,rk env k with|some (.mp h),some j=> [h+j]|_,_=> [])
 |.lookup _ mp _ _=>(match cJ env mp with|some (.mp h)=> [h,h+1,h+2,h+3,h+4,h+5,h+6,h+7]|_=> [])
 |.mapUpdate _ mp _ _=>(match cJ env mp with|some (.mp h)=> [h]|_=> [])
 |op=>Hb env (cU op)
theorem JB{env:Env}{l:List Operand}{x:Operand}{s:S}{h:Nat}(hx:x∈l)(hs:cJ env x=some s)(hh:h∈bJ s):h∈Hb env l:=by
 induction l with
 |nil=>cases hx
 |cons y l ih=>
  simp only[Hb,List.mem_append]
  rcases List.mem_cons.1 hx with rfl|hx
  ·left;rw[hs];exact hh
  exact .inr (ih hx)
section
variable{env env':Env}{m m':M}
theorem aR{x:Operand}(h:ev env x=ev env' x):cJ env x=cJ env' x:=by unfold cJ;rw[h]
theorem de{x:Operand}(h:ev env x=ev env' x):nU env x=nU env' x:=by unfold nU;rw[h]
theorem mi: ∀ {l:List (Nat×Operand)},(∀p∈l,ev env p.2=ev env' p.2)->gp env l=gp env' l
 | [],_=>rfl
 |(i,o)::l,h=>by
  unfold gp
  rw[de (h (i,o) (by simp)),mi fun p hp=>h p (by simp[hp])]
theorem tA: ∀ {l:List Operand},(∀p∈l,ev env p=ev env' p)->kD env l=kD env' l
 | [],_=>rfl
 |o::l,h=>by
  unfold kD
  rw[de (h o (by simp)),tA fun p hp=>h p (by simp[hp])]
theorem yd: ∀ {l:List Operand},(∀p∈l,ev env p=ev env' p)->AZ l env=AZ l env'
 | [],_=>rfl
 |o::l,h=>by
  unfold AZ
  rw[aR (h o (by simp)),yd fun p hp=>h p (by simp[hp])]
theorem Eu(dY:m.nh=m'.nh)(op:BinOp)(t:TypeId)(x y:S)(hr: ∀h∈bJ x,m.reg h=m'.reg h):xe P op m t x y=xe P op m' t x y:=by
 have hn:xd P op m t x y=xd P op m' t x y:=by
  unfold xd
  split
  ·rfl
  split
  ·rename_i h _ _ _;rw[hr h (by simp[bJ])];simp only[ed,aI,dY]
  all_goals simp only[ed,aI,dY]
 simp only[xe,Df,xy,Hm,hn,ed,cG,aI,dY]
theorem GD(dY:m.nh=m'.nh)(op:BinOp)(t:TypeId)(x y:List S):Fg P op m t x y=Fg P op m' t x y:=by
 simp only[Fg,sE,dY]
theorem zw{sz:Nat}{e:TypeId}{s:S}(h: ∀h∈bJ s,m.reg h=m'.reg h):np m sz e s=np m' sz e s:=by
 unfold np
 split
 ·rfl
 ·rename_i hh len;rw[h hh (by simp[bJ])]
 rfl
theorem mg{sz:Nat}{s:S}(h: ∀h∈bJ s,m.reg h=m'.reg h):jR m sz s=jR m' sz s:=by
 unfold jR
 split
 ·rfl
 ·rfl
 ·rename_i hh off len;rw[h hh (by simp[bJ])]
 rfl
theorem En{op:Op}{x:Operand}{s:S}{h:Nat}(hx:x∈cU op)(hs:cJ env x=some s)(hh:h∈bJ s):h∈iW env op:=by
 cases op<;>first|exact JB hx hs hh|(simp[cU]at hx)
theorem yT{e sz by_:Nat}{vs vx:S}(dY:m.nh=m'.nh)(h1: ∀h∈bJ vs,m.reg h=m'.reg h)(h2: ∀h∈bJ vx,m.reg h=m'.reg h):mF m e sz by_ vs vx=mF m' e sz by_ vs vx:=by
 unfold mF
 split
 ·rename_i h n
  rw[h1 h (by simp[bJ])]
  split
  ·congr 1
   split
   ·simp only[aI,dY]
   ·rename_i Kt k
    rw[h2 Kt (by simp[bJ]),dY]
   rfl
  ·congr 1
   split
   ·rename_i Kt k
    rw[h2 Kt (by simp[bJ]),dY]
   rfl
  rfl
 ·split
  ·rename_i Kt k
   rw[h2 Kt (by simp[bJ]),dY]
  rfl
 rfl
theorem jU{e h:Nat}(hr: ∀i,i<=7->m.reg (h+i)=m'.reg (h+i))(j:Option Nat)(hj: ∀i,j=some i->i<=7):iA P m e h j=iA P m' e h j:=by
 cases j with
 |none=>simp only[iA];rw[show m.reg h=m'.reg h from hr 0 (by omega)]
 |some i=>simp only[iA];rw[hr i (hj i rfl)]
theorem jW{b b':Bool}{c c':Comes}(hb:b=b')(hc:c=c'):kC b c=kC b' c':=by rw[hb,hc]
theorem pC{env env':Env}{k:Operand}(h:ev env k=ev env' k):oJ env k=oJ env' k:=by unfold oJ;rw[de h]
theorem Ef{env env':Env}{k:Operand}(h:ev env k=ev env' k):zP env k=zP env' k:=by unfold zP;rw[de h]
theorem pO{o:Oper}(gk: ∀x∈o.op.operands,ev env x=ev env' x)(bn: ∀h∈iW env' o.op,m.reg h=m'.reg h)(dY:m.nh=m'.nh):classify P o env m=classify P o env' m':=by
 have hr: ∀ {x:Operand} {s:S},x∈cU o.op->cJ env' x=some s->∀h∈bJ s,m.reg h=m'.reg h:=fun hx hs h hh=>bn h (En hx hs hh)
 unfold classify
 cases ho:o.op<;>rw[ho]at gk hr<;>simp only[Op.operands,List.mem_toArray]at gk<;>simp only
 case move x=>simp only[zX,gk x (by simp),aI,dY]
 case assign x=>simp only[zX,gk x (by simp),aI,dY]
 case pick c a b=>simp only[Ho,aR (gk c (by simp)),de (gk a (by simp)),de (gk b (by simp)),cG,aI,dY]
 case box e x=>simp only[OG,ug,de (gk x (by simp)),dY]
 case alloc e=>simp only[BA,ug,dY]
 case build t ps=>simp only[Bz,mi (fun p hp=>gk p.2 (by simp only[List.mem_map];exact⟨p,hp,rfl⟩)),cG,aI,dY]
 case buildSlice t len ps=>simp only[lR,mi (fun p hp=>gk p.2 (by simp only[List.mem_map];exact⟨p,hp,rfl⟩)),dY]
 case load t a=>
  have h1:=aR (gk a (by simp))
  unfold Hp
  rw[h1]
  split
  ·rename_i h k hs;rw[hr (x:=a) (by simp[cU]) hs h (by simp[bJ])];simp only[cG,aI,dY]
  ·rename_i h k hs;rw[hr (x:=a) (by simp[cU]) hs h (by simp[bJ])];simp only[cG,aI,dY]
  rfl
 case store t a x=>
  have h1:=aR (gk a (by simp))
  unfold Bu
  rw[h1,de (gk x (by simp))]
  split
  ·rename_i h k v d hs hv hd;rw[hr (x:=a) (by simp[cU]) hs h (by simp[bJ]),dY]
  ·rename_i h k v d hs hv hd;rw[hr (x:=a) (by simp[cU]) hs h (by simp[bJ]),dY]
  rfl
 case fieldAddr t x i=>simp only[kU,aR (gk x (by simp)),cG,aI,dY]
 case indexAddr t x i=>
  have h1:=aR (gk x (by simp))
  have key: ∀h off len,cJ env' x=some (.sl h off len)->m.reg h=m'.reg h:=fun h off len hs=>hr (x:=x) (by simp[cU]) hs h (by simp[bJ])
  unfold nJ
  rw[h1,aR (gk i (by simp))]
  cases hx:cJ env' x with
  |none=>simp only[cG,aI,dY]
  |some s=>
   cases s with
   |sl h off len=>simp only[key h off len hx,cG,aI,dY]
   |_=>simp only[cG,aI,dY]
 case binOp op t x y t2=>
  refine jW (Ef (gk x (by simp))) ?_
  unfold Ld
  rw[de (gk x (by simp)),de (gk y (by simp))]
  split
  ·rename_i a b ha hb
   refine Eu dY _ _ _ _ (hr (x:=x) (by simp[cU]) ?_)
   unfold cJ;unfold nU at ha
   split at ha
   ·rename_i hq;cases ha;rw[hq]
   cases ha
  ·exact GD dY _ _ _ _
  rfl
 case unOp op t x=>simp only[XL,OE,OF,aR (gk x (by simp)),cG,aI,dY]
 case makeSlice t l c=>simp only[nI,aR (gk l (by simp)),aR (gk c (by simp)),wx,dY]
 case index t x i=>simp only[Bw,de (gk x (by simp)),aR (gk i (by simp)),cG,aI,dY]
 case convert s d x=>
  have h1:=aR (gk x (by simp))
  unfold Dg mM pw
  rw[h1]
  cases hx:cJ env' x with
  |none=>simp only[cG,aI,dY]
  |some v=>
   simp only[mg (hr (x:=x) (by simp[cU]) hx),cG,aI,dY]
 case slice t x lo hi mx=>
  have h1:=aR (gk x (by simp))
  have ax: ∀d,bound env d lo=bound env' d lo:=by
   intro d
   cases lo with
   |none=>rfl
   |some y=>simp only[bound,aR (gk y (by simp))]
  have hhi: ∀d,bound env d hi=bound env' d hi:=by
   intro d
   cases hi with
   |none=>rfl
   |some y=>simp only[bound,aR (gk y (by simp))]
  unfold Bv
  cases mx with
  |some c=>
   simp only[h1]
   cases wM:iF P t with
   |none=>rfl
   |some e=>
    cases hx:cJ env' x with
    |none=>rfl
    |some s=>
     cases lo with
     |some _=>
      cases s<;>first
       |rfl
       |(rename_i h off len;cases off<;>rfl)
     |none=>
      cases hi with
      |none=>
       cases s<;>first
        |rfl
        |(rename_i h off len;cases off<;>rfl)
      |some y=>
       cases s with
       |sl h off len=>
        cases off with
        |zero=>simp only[aR (gk y (by simp)),aR (gk c (by simp)),hr (x:=x) (by simp[cU]) hx h (by simp[bJ]),aI,dY]
        |succ _=>rfl
       |_=>rfl
  |none=>
   simp only[h1,ax,hhi]
   cases wM:iF P t with
   |none=>
    cases hx:cJ env' x with
    |none=>rfl
    |some s=>
     cases s with
     |ptr h k=>simp only[hr (x:=x) (by simp[cU]) hx h (by simp[bJ]),dY]
     |_=>rfl
   |some e=>
    cases hx:cJ env' x with
    |none=>rfl
    |some s=>
     cases s with
     |sl h off len=>
      have:IJ m h=IJ m' h:=by unfold IJ;rw[hr (x:=x) (by simp[cU]) hx h (by simp[bJ])]
      simp only[this,dY]
     |v y=>
      split
      ·rename_i heq;cases heq
      ·simp only[dY]
      ·first
       |(rename_i heq _;cases heq;done)
       |(rename_i heq;cases heq;done)
      rfl
     |_=>rfl
 case field t x i=>simp only[By,de (gk x (by simp)),aI,dY]
 case makeFunc fn first cz=>
  have ZO: ∀p∈first.toList,cJ env p=cJ env' p:=fun p hp=>aR (gk p (by simp;exact .inl (by simpa using hp)))
  unfold qj
  rw[yd (l:=cz.toList) (fun p hp=>gk p (by simp;exact .inr (by simpa using hp)))]
  split
  ·simp only[aI,dY]
  ·rename_i f x h1 h2
   rw[ZO x (by rw[h1];simp)]
   simp only[aI,dY]
  rfl
 case nilCheck x=>simp only[mN,aR (gk x (by simp)),aI,dY]
 case extract t i=>simp only[sX,gk t (by simp),cG,aI,dY]
 case makeMap t r=>simp only[sV,qi,dY]
 case mapUpdate t mp k v=>
  refine jW (pC (gk k (by simp))) ?_
  have e1:=aR (gk mp (by simp))
  have zS: ∀h,cJ env' mp=some (.mp h)->m.reg h=m'.reg h:=fun h q1=>bn _ (by
   rw[ho]
   simp only[iW,q1,List.mem_cons]
   simp)
  unfold nH
  rw[e1,aR (gk v (by simp)),de (gk k (by simp))]
  split
  ·rename_i h xs s h1 h2 h3 h4
   rw[zS h h2,dY]
  rfl
 case insert t mp k v=>
  refine jW (pC (gk k (by simp))) ?_
  have e1:=aR (gk mp (by simp))
  have e2:=aR (gk k (by simp))
  have e3:rk env k=rk env' k:=by unfold rk;rw[e2]
  have zS: ∀h j,cJ env' mp=some (.mp h)->rk env' k=some j->m.reg (h+j)=m'.reg (h+j):=fun h j q1 q2=>bn _ (by rw[ho];simp[iW,q1,q2])
  unfold wG
  rw[e1,e3,aR (gk v (by simp))]
  split
  ·rename_i h j s h1 h2 h3 h4
   rw[zS h j h2 h3,dY]
  rfl
 case lookup t mp k c=>
  refine jW (pC (gk k (by simp))) ?_
  have e1:=aR (gk mp (by simp))
  have zS: ∀h,cJ env' mp=some (.mp h)->∀i,i<=7->m.reg (h+i)=m'.reg (h+i):=fun h q1 i hi=>bn _ (by
   rw[ho]
   simp only[iW,q1,List.mem_cons]
   omega)
  unfold wF
  rw[e1,aR (gk k (by simp))]
  congr 1
  ·unfold sW
   rw[e1,de (gk k (by simp))]
   split
   ·rename_i h xs h1 h2 h3
    rw[show m.reg h=m'.reg h from zS h h2 0 (by omega),dY]
   rfl
  split
  ·rename_i e h s h1 h2 h3
   have hh:=zS h h2
   split
   ·split
    ·rename_i n hn
     cases hb:Nat.blt n 7 with
     |true=>
      have hb:n<7:=Nat.le_of_ble_eq_true hb
      simp only[cond_true,jU hh (some (n+1)) (fun i q=>by cases q;omega),aI,dY]
     |false=>simp only[cond_false,jU hh none (fun i q=>by cases q),aI,dY]
    simp only[jU hh none (fun i q=>by cases q),aI,dY]
   ·rename_i i hs
    have:(fun p:Option Nat×Eff=>so i p.1/\sn P m e h p.1=some p.2)=fun p:Option Nat×Eff=>so i p.1/\sn P m' e h p.1=some p.2:=by
     funext p
     refine propext (and_congr_right fun hk=>?_)
     have:iA P m e h p.1=iA P m' e h p.1:=jU hh _ fun i' q=>by
      rw[q]at hk;exact hk.2.2
     unfold sn
     rw[this,dY]
    rw[this]
   rfl
  rfl
 case call c=>
  have ha: ∀x∈c.args.toList,ev env x=ev env' x:=fun x hx=>gk x (by simp only[Call.operands,Array.mem_append];exact .inr (Array.mem_toList_iff.1 hx))
  unfold Dh
  split
  ·rename_i f hf
   rw[aR (gk f (by simp[Call.operands,hf])),tA ha]
  ·unfold Sk
   split
   ·rename_i x e hx he
    have GN:x∈c.args.toList:=by rw[hx];simp
    rw[aR (ha x GN)]
    split
    ·rename_i h off len hs
     rw[hr (x:=x) (by simpa [cU]using GN) hs h (by simp[bJ])]
     simp only[cG,aI,dY]
    ·simp only[cG,aI,dY]
    ·simp only[cG,aI,dY]
    rfl
   rfl
  ·unfold wH
   split
   ·rename_i s x t t' hx ht
    have AS:s∈c.args.toList:=by rw[hx];simp
    have GN:x∈c.args.toList:=by rw[hx];simp
    rw[aR (ha s AS),aR (ha x GN)]
    cases hb:Nat.beq t t' with
    |false=>rfl
    |true=>
     simp only[cond_true]
     cases gX P t with
     |none=>rfl
     |some el=>
      obtain⟨e,sz,by_⟩:=el
      cases h1:cJ env' s with
      |none=>rfl
      |some vs=>
       cases h2:cJ env' x with
       |none=>rfl
       |some vx=>
        simp only[zw (hr (x:=s) (by simpa [cU]using AS) h1),mg (hr (x:=x) (by simpa [cU]using GN) h2),yT dY (hr (x:=s) (by simpa [cU]using AS) h1) (hr (x:=x) (by simpa [cU]using GN) h2),wx,dY]
   rfl
  ·unfold Hq
   split
   ·rename_i d s t t' hx ht
    have ln:d∈c.args.toList:=by rw[hx];simp
    have AS:s∈c.args.toList:=by rw[hx];simp
    rw[aR (ha d ln),aR (ha s AS)]
    cases gX P t with
    |none=>rfl
    |some el=>
     obtain⟨e,sz,by_⟩:=el
     cases h1:cJ env' d with
     |none=>rfl
     |some vd=>
      cases h2:cJ env' s with
      |none=>cases vd<;>rfl
      |some vs=>
       have e1: ∀h off len,vd= .sl h off len->rowOf m h=rowOf m' h:=fun h off len e=>by
        unfold rowOf
        rw[hr (x:=d) (by simpa [cU]using ln) h1 h (by rw[e];simp[bJ])]
       cases vd with
       |sl h off len=>simp only[e1 h off len rfl,mg (hr (x:=s) (by simpa [cU]using AS) h2),dY]
       |_=>rfl
   rfl
  ·unfold p5
   split
   ·rename_i x y hx
    rw[aR (ha x (by rw[hx];simp)),aR (ha y (by rw[hx];simp))]
    simp only[cG,aI,dY]
   rfl
  ·unfold p5
   split
   ·rename_i x y hx
    rw[aR (ha x (by rw[hx];simp)),aR (ha y (by rw[hx];simp))]
    simp only[cG,aI,dY]
   rfl
  rfl
end
end Go.SE

namespace Go.SE
open Go Go.RowKit
variable [aG]
structure Fs where
 e:Nat->Option X
 r:Nat->Option bd
structure Rec where
 idx:Nat
 o:Oper
 looks:List Nat
 dg:List Nat
 val:X
 aj:List (Nat×bd)
 lo:Nat
 hi:Nat
def Rec.app(r:Rec)(σ:Fs):Fs:=⟨fun k=>if r.o.dst=some k then some r.val else σ.e k,fun h=>(aK r.aj h).or (σ.r h)⟩
def Rec.uU(r:Rec)(h:Nat):Prop:=r.lo<=h/\h<r.hi
structure TS(r:Rec)(σ:Fs)(env:Env)(m:M):Prop where
 ce: ∀k∈r.looks,env.get k=σ.e k
 cr: ∀h∈r.dg,m.reg h=σ.r h
 nh:m.nh=r.lo
def OK(C:Ctx)(ops:Array Oper)(o:Oper)(env:Env)(m:M)(val:X)(aj:List (Nat×bd))(hi:Nat):Prop:=
 m.nh<=hi/\∀ (ro:Option Nat) (_: ∃ρ,ro=C.ro ρ) (B:Nat) (w0:World) (D:Nat->Prop) (ρ:aZ) (a:Act) (w:World) (K:Act->World->Prop),
  (∀h,m.nh<=h/\h<hi->¬D h)->Ok C.P C.nt B w0 D ρ env m a w->
  (∀ρ' a' w',an D ρ ρ'->a'.defers=a.defers->Ok C.P C.nt B w0 (fun h=>D h\/(m.nh<=h/\h<hi)) ρ' (eL env o.dst val) ⟨aj++m.aj,hi,m.ds⟩ a' w'->K a' w')->
  if Region.wanted o (yielded ops a.tmps)=true then o.lT ro C.P a w K else K (a.put o.dst undef) w
def Rec.Valid(C:Ctx)(ops:Array Oper)(r:Rec)(σ:Fs):Prop:=∀env m,TS r σ env m->OK C ops r.o env m r.val r.aj r.hi
variable{C:Ctx}{ops:Array Oper}
theorem Rec.Valid.congr{r:Rec}{σ σ':Fs}(h:r.Valid C ops σ)(he: ∀k∈r.looks,σ'.e k=σ.e k)(hr: ∀k∈r.dg,σ'.r k=σ.r k):r.Valid C ops σ':=
 fun env m aU=>h env m ⟨fun k hk=>(aU.ce k hk).trans (he k hk),fun k hk=>(aU.cr k hk).trans (hr k hk),aU.nh⟩
def z8(C:Ctx)(ops:Array Oper):Fs->List Rec->Prop
 |_,[]=>True
 |σ,r::l=>r.Valid C ops σ/\z8 C ops (r.app σ) l
def uY:Fs->List Rec->Fs
 |σ,[]=>σ
 |σ,r::l=>uY (r.app σ) l
structure lz(x y:Rec):Prop where
 d1: ∀k,x.o.dst=some k->k∉y.looks
 d2: ∀k,y.o.dst=some k->k∉x.looks
 d3: ∀k,x.o.dst=some k->y.o.dst=some k->False
 w1: ∀h,(aK x.aj h).isSome=true->h∉y.dg
 w2: ∀h,(aK y.aj h).isSome=true->h∉x.dg
 w3: ∀h,(aK x.aj h).isSome=true->(aK y.aj h).isSome=true->False
theorem lz.swap{x y:Rec}(h:lz x y)(σ:Fs):x.app (y.app σ)=y.app (x.app σ):=by
 unfold Rec.app
 congr 1
 ·funext k
  simp only
  by_cases h1:x.o.dst=some k<;>by_cases h2:y.o.dst=some k
  ·exact(h.d3 k h1 h2).elim
  ·simp[h1,h2]
  ·simp[h1,h2]
  simp[h1,h2]
 funext k
 simp only
 cases h1:aK x.aj k with
 |none=>simp
 |some z=>
  cases h2:aK y.aj k with
  |none=>simp
  |some z'=>exact(h.w3 k (by simp[h1]) (by simp[h2])).elim
theorem lz.e1{x y:Rec}(h:lz x y)(σ:Fs):(∀k∈y.looks,(x.app σ).e k=σ.e k)/\∀k∈y.dg,(x.app σ).r k=σ.r k:=by
 refine⟨fun k hk=>?_,fun k hk=>?_⟩
 ·simp only[Rec.app]
  rw[if_neg fun e=>h.d1 k e hk]
 simp only[Rec.app]
 cases h1:aK x.aj k with
 |none=>simp
 |some z=>exact(h.w1 k (by simp[h1]) hk).elim
theorem lz.symm{x y:Rec}(h:lz x y):lz y x:=⟨h.d2,h.d1,fun k a b=>h.d3 k b a,h.w2,h.w1,fun k a b=>h.w3 k b a⟩
theorem FN{r:Rec}{l2:List Rec}: ∀ (l1:List Rec) {σ:Fs},z8 C ops σ (l1++r::l2)->(∀x∈l1,lz x r)->
  r.Valid C ops σ/\z8 C ops (r.app σ) (l1++l2)/\uY (r.app σ) (l1++l2)=uY σ (l1++r::l2)
 | [],σ,h,_=>⟨h.1,h.2,rfl⟩
 |x::l1,σ,h,hi=>by
  obtain⟨h1,h2⟩:=h
  obtain⟨h3,h4,h5⟩:=FN l1 h2 fun y hy=>hi y (by simp[hy])
  have hx:=hi x (by simp)
  have e1:=hx.e1 σ
  have e2:=hx.symm.e1 σ
  refine⟨h3.congr (fun k hk=>(e1.1 k hk).symm) (fun k hk=>(e1.2 k hk).symm),⟨h1.congr e2.1 e2.2,?_⟩,?_⟩
  ·rw[hx.swap];exact h4
  simp only[List.cons_append,uY]
  rw[hx.swap];exact h5
def Rt(C:Ctx)(B:Nat)(w0:World)(D:Nat->Prop)(ρ:aZ)(σ:Fs)(a:Act)(w:World):Prop:=
 ∃env aj,env.get=σ.e/\aK aj=σ.r/\∀k ds,Ok C.P C.nt B w0 D ρ env ⟨aj,k,ds⟩ a w
theorem Ok.nh{P:Program}{nt B:Nat}{w0:World}{D:Nat->Prop}{ρ:aZ}{env:Env}{aj:List (Nat×bd)}{k k':Nat}{ds On:List lp}{a:Act}{w:World}(h:Ok P nt B w0 D ρ env ⟨aj,k,ds⟩ a w):Ok P nt B w0 D ρ env ⟨aj,k',On⟩ a w:=
 ⟨h.env,fun ρ' aU=>⟨(h.mem ρ' aU).aj,(h.mem ρ' aU).fG,(h.mem ρ' aU).base,(h.mem ρ' aU).below,(h.mem ρ' aU).hB⟩,h.size⟩
theorem Ok.YL{P:Program}{nt B:Nat}{w0:World}{D D':Nat->Prop}{ρ:aZ}{env:Env}{m:M}{a:Act}{w:World}(h:Ok P nt B w0 D ρ env m a w)(hd: ∀k,D k->D' k):Ok P nt B w0 D' ρ env m a w:=
 ⟨fun ρ' aU=>h.env ρ' (aU.mono hd),fun ρ' aU=>h.mem ρ' (aU.mono hd),h.size⟩
def Edge(x y:Rec):Prop:=∃e∈y.o.after,Region.binds .any e=true/\e.on=x.idx
structure Rp(ops:Array Oper)(l:List Rec):Prop where
 op: ∀r∈l,ops[r.idx]?=some r.o
 up:l.Pairwise fun x y=>x.idx<y.idx
 pair:l.Pairwise fun x y=>lz x y\/Edge x y
 new:l.Pairwise fun x y=>∀h,x.uU h->¬y.uU h
 back: ∀r∈l,∀e∈r.o.after,Region.binds .any e=true->e.on<r.idx
theorem Rp.drop{l1 l2:List Rec}{r:Rec}(h:Rp ops (l1++r::l2)):Rp ops (l1++l2):=by
 have hs:List.Sublist (l1++l2) (l1++r::l2):=List.Sublist.append_left (List.sublist_cons_self _ _) _
 exact⟨fun x hx=>h.op x (hs.subset hx),h.up.sublist hs,h.pair.sublist hs,h.new.sublist hs,fun x hx=>h.back x (hs.subset hx)⟩
theorem Rt.lj{C:Ctx}{B:Nat}{w0:World}{D:Nat->Prop}{ρ:aZ}{σ:Fs}{a:Act}{w w':World}(h:Rt C B w0 D ρ σ a w)(i:Itf w w'):Rt C B w0 D ρ σ a w':=
 let⟨env,aj,h1,h2,h3⟩:=h;⟨env,aj,h1,h2,fun k ds=>(h3 k ds).lj i⟩
theorem DW{ro:Option Nat}(hF: ∃ρ,ro=C.ro ρ){B:Nat}{w0:World}{Q:Exit->Act->World->Prop}: ∀ (k:Nat) (l:List Rec) (listed:Array Bool) (σ:Fs) (D:Nat->Prop) (ρ:aZ) (a:Act) (w:World),l.length=k->Rp ops l->z8 C ops σ l->
  listed.size=ops.size->(∀i,i<ops.size->(listed.getD i true=false↔∃r∈l,r.idx=i))->(∀r∈l,∀h,r.uU h->¬D h)->Rt C B w0 D ρ σ a w->
  (∀ (D':Nat->Prop) ρ' a' w',(∀h,D' h↔D h\/∃r∈l,r.uU h)->an D ρ ρ'->a'.defers=a.defers->Rt C B w0 D' ρ' (uY σ l) a' w'->Q .normal a' w')->
  fh ro C.P .any ops Q k listed a w:=by
 intro k
 induction k with
 |zero=>
  intro l listed σ D ρ a w hk hl La e8 gF jh aL hQ
  obtain rfl:=List.eq_nil_of_length_eq_zero hk
  refine⟨?_,fun w' iv=>hQ D ρ a w' (fun h=>by simp) (an.refl _ _) rfl (aL.lj iv)⟩
  refine List.eq_nil_iff_forall_not_mem.2 fun i hi=>?_
  obtain⟨h1,o,ho,_⟩:=mem_ready.1 hi
  have:=(gF i (Array.getElem?_eq_some_iff.1 ho).1).1 h1
  simp at this
 |succ k ih=>
  intro l listed σ D ρ a w hk hl La e8 gF jh aL hQ
  have vP: ∀i,i<ops.size->listed.getD i true=listed.getD i false:=fun i hi=>by
   have:i<listed.size:=by omega
   simp[Array.getD,this]
  refine⟨fun hr=>?_,fun i hi ae iv=>?_⟩
  ·exfalso
   cases l with
   |nil=>simp at hk
   |cons r l=>
    have K6:=hl.op r (by simp)
    have K7:=(Array.getElem?_eq_some_iff.1 K6).1
    have:r.idx∈Region.ready .any ops listed:=by
     refine mem_ready.2 ⟨(gF _ K7).2 ⟨r,by simp,rfl⟩,r.o,K6,fun e he hb=>?_⟩
     have bA:=hl.back r (by simp) e he hb
     refine Classical.byContradiction fun cb=>?_
     have h0:listed.getD e.on true=false:=by rw[vP _ (by omega)];simpa using cb
     obtain⟨x,hx,Kz⟩:=(gF _ (by omega)).1 h0
     rcases List.mem_cons.1 hx with rfl|hx
     ·omega
     have:=(List.pairwise_cons.1 hl.up).1 x hx;omega
    rw[hr]at this;cases this
  obtain⟨h1,o,ho,dK⟩:=mem_ready.1 hi
  have E7:=(Array.getElem?_eq_some_iff.1 ho).1
  obtain⟨r,hr,Yf⟩:=(gF i E7).1 h1
  obtain⟨l1,l2,rfl⟩:=List.append_of_mem hr
  have iP:ops[i]?=some r.o:=by rw[<-Yf];exact hl.op r hr
  have RX: ∀x∈l1,lz x r:=by
   intro x hx
   have GM:x∈l1++r::l2:=by simp[hx]
   rcases(List.pairwise_append.1 hl.pair).2.2 x hx r (by simp)with h|⟨e,he,hb,Yt⟩
   ·exact h
   exfalso
   rw[ho]at iP;cases iP
   have h2:=dK e he hb
   have K0:=(Array.getElem?_eq_some_iff.1 (hl.op x GM)).1
   have h3:=(gF _ K0).2 ⟨x,GM,rfl⟩
   rw[vP _ K0,<-Yt,h2]at h3
   cases h3
  obtain⟨hv,LK,oF⟩:=FN l1 La RX
  obtain⟨env,aj,he,C9,aL⟩:=aL.lj iv
  obtain⟨hle,Yv⟩:=hv env ⟨aj,r.lo,[]⟩ ⟨fun k _=>by rw[he],fun k _=>by show aK aj k=_;rw[C9],rfl⟩
  unfold dH
  rw[iP]
  refine Yv ro hF B w0 D ρ a ae _ (fun h hh=>jh r hr h hh) (aL r.lo []) fun ρ' a' w' aU my oh=>?_
  refine ih (l1++l2) (listed.setIfInBounds i true) (r.app σ) (fun h=>D h\/r.uU h) ρ' a' w' ?_ hl.drop LK (by simpa using e8) ?_ ?_ ?_ ?_
  ·simp at hk ⊢;omega
  ·intro j hj
   by_cases tP:i=j
   ·subst tP
    constructor
    ·intro h
     have:i<listed.size:=by omega
     simp[Array.getD,this]at h
    rintro⟨x,hx,Kz⟩
    exfalso
    rcases List.mem_append.1 hx with hx|hx
    ·have:=(List.pairwise_append.1 hl.up).2.2 x hx r (by simp);omega
    have:=(List.pairwise_cons.1 (List.pairwise_append.1 hl.up).2.1).1 x hx;omega
   have:(listed.setIfInBounds i true).getD j true=listed.getD j true:=getD_set_ne true tP
   rw[this,gF j hj]
   constructor
   ·rintro⟨x,hx,Kz⟩
    refine⟨x,?_,Kz⟩
    rcases List.mem_append.1 hx with hx|hx
    ·simp[hx]
    rcases List.mem_cons.1 hx with rfl|hx
    ·omega
    simp[hx]
   rintro⟨x,hx,Kz⟩
   refine⟨x,?_,Kz⟩
   rcases List.mem_append.1 hx with hx|hx<;>simp[hx]
  ·intro x hx h hh hD
   have GM:x∈l1++r::l2:=by
    rcases List.mem_append.1 hx with hx|hx<;>simp[hx]
   rcases hD with hD|hD
   ·exact jh x GM h hh hD
   rcases List.mem_append.1 hx with hx|hx
   ·exact(List.pairwise_append.1 hl.new).2.2 x hx r (by simp) h hh hD
   exact(List.pairwise_cons.1 (List.pairwise_append.1 hl.new).2.1).1 x hx h hD hh
  ·refine⟨_,_,?_,?_,fun k ds=>oh.nh⟩
   ·funext k;rw[fy,he];rfl
   funext h;rw[cA,C9];rfl
  intro D' ρ'' YS GL Om cW LQ LI
  refine hQ D' ρ'' YS GL (fun h=>?_) (fun h hh=>(cW h (.inl hh)).trans (aU h hh)) (LQ.trans my) (by rw[<-oF];exact LI)
  rw[Om]
  constructor
  ·rintro((h1|h1)|⟨x,hx,h1⟩)
   ·exact .inl h1
   ·exact .inr ⟨r,hr,h1⟩
   refine .inr ⟨x,?_,h1⟩
   rcases List.mem_append.1 hx with hx|hx<;>simp[hx]
  rintro(h1|⟨x,hx,h1⟩)
  ·exact .inl (.inl h1)
  rcases List.mem_append.1 hx with hx|hx
  ·exact .inr ⟨x,by simp[hx],h1⟩
  rcases List.mem_cons.1 hx with rfl|hx
  ·exact .inl (.inr h1)
  exact .inr ⟨x,by simp[hx],h1⟩
end Go.SE

namespace Go.SE
open Go Go.RowKit
variable [aG]
variable{C:Ctx}{ops:Array Oper}
theorem DU{o:Oper}{env env':Env}(h: ∀k∈o.looksAt ops,env.get k=env'.get k): ∀x∈o.op.operands,ev env x=ev env' x:=by
 intro x hx
 cases x with
 |tmp t=>
  refine h t ?_
  unfold Oper.looksAt
  exact List.mem_append_left _ (List.mem_filterMap.2 ⟨.tmp t,by simpa using hx,rfl⟩)
 |const v=>rfl
 |global g=>rfl
 |func f=>rfl
theorem pG{o:Oper}{env env':Env}(h: ∀k∈o.looksAt ops,env.get k=env'.get k):guardOf ops env o=guardOf ops env' o:=by
 unfold guardOf
 split
 ·rfl
 rename_i j want hg
 split
 ·rename_i d hd
  rw[h d (by unfold Oper.looksAt;rw[hg];exact List.mem_append_right _ (by simp[hd]))]
 rfl
theorem jV{ρ:aZ}{env:Env}{a:Act}{o:Oper}(he:cq ρ env a):(guardOf ops env o= .run->Region.wanted o (yielded ops a.tmps)=true)/\(guardOf ops env o= .skip->Region.wanted o (yielded ops a.tmps)=false):=by
 unfold guardOf
 split
 ·rename_i hn;exact⟨fun _=>by simp[Region.wanted,hn],fun h=>by cases h⟩
 rename_i j want hn
 split
 ·rename_i d hd
  split
  ·rename_i hv
   rw[dT he hn hd (.inl hv)]
   cases want<;>simp
  ·rename_i hv
   rw[dT he hn hd (.inl hv)]
   cases want<;>simp
  ·simp
  ·rename_i hv
   exact⟨fun h=>(by cases h),fun _=>ta he hn hd hv⟩
  simp
 simp
theorem M6{o:Oper}{env:Env}{m:M}{e:Eff}{v:X}(hd:gD C o.dst=true)(hg:guardOf ops env o= .run)(h:dj C.P o env m e)(za:xB C.P o env)(hv: ∀ρ y,e.val.Rel ρ y->v.Rel ρ y):OK C ops o env m v e.aj e.nh:=by
 obtain⟨dY,h⟩:=h
 refine⟨dY,fun ro hF B w0 D ρ a w K jh aL hK=>?_⟩
 obtain⟨ρF,rfl⟩:=hF
 rw[if_pos ((jV (aL.env ρ (an.refl _ _))).1 hg)]
 obtain⟨y,w',ρ',hex,aU,hm⟩:=h C.nt B w0 D ρ a w jh aL
 have tV:=yz hex (C.ro ρF)
 refine⟨za.op (aL.env ρ (an.refl _ _)) tV w,?_⟩
 have xc:K (a.put o.dst y) w':=by
  refine hK ρ' _ _ aU (put_defers _ _ _) ⟨fun ρ'' jP=>?_,fun ρ'' jP=>?_,by rw[gb];exact aL.size⟩
  ·have Fa:an D ρ ρ'':=fun k hk=>(jP k (.inl hk)).trans (aU k hk)
   exact(aL.env ρ'' Fa).put aL.size (di hd) (hv _ _ (hm ρ'' jP).2)
  exact(hm ρ'' jP).1
 rcases hex with hex|⟨rfl,hex⟩
 ·rw[eM (tV▸hex)];exact xc
 rw[eM (tV▸hex)];exact xc
theorem Jz{o:Oper}{env:Env}{m:M}(hd:gD C o.dst=true)(hg:guardOf ops env o= .skip):OK C ops o env m (.lv []) [] m.nh:=by
 refine⟨Nat.le_refl _,fun ro hF B w0 D ρ a w K jh aL hK=>?_⟩
 obtain⟨ρF,rfl⟩:=hF
 rw[if_neg (by rw[(jV (aL.env ρ (an.refl _ _))).2 hg];simp)]
 refine hK ρ _ _ (an.refl _ _) (put_defers _ _ _) ⟨fun ρ'' jP=>?_,fun ρ'' jP=>?_,by rw[gb];exact aL.size⟩
 ·have Fa:an D ρ ρ'':=fun k hk=>jP k (.inl hk)
  exact(aL.env ρ'' Fa).put aL.size (di hd) (um ρ'')
 have Fa:an D ρ ρ'':=fun k hk=>jP k (.inl hk)
 have:=aL.mem ρ'' Fa
 exact⟨this.aj,this.fG,this.base,this.below,this.hB⟩
def Fs.of(env:Env)(m:M):Fs:=⟨env.get,m.reg⟩
theorem Ae{o:Oper}{i:Nat}{env:Env}{m:M}{e:Eff}{v:X}(hd:gD C o.dst=true)(hg:guardOf ops env o= .run)
  (hc:classify C.P o env m= .EJ e\/∃ (α:Type) (p:α->Prop) (f:α->Eff) (x:α),classify C.P o env m= .ask p f/\p x/\f x=e) (hv: ∀ρ y,e.val.Rel ρ y->v.Rel ρ y):
  Rec.Valid C ops ⟨i,o,o.looksAt ops,iW env o.op,v,e.aj,m.nh,e.nh⟩ (Fs.of env m):=by
 intro env' m' aU
 have dt:classify C.P o env' m'=classify C.P o env m:=pO (DU aU.ce) aU.cr aU.nh
 have aL:=lQ C.P o env' m'
 rw[dt]at aL
 refine M6 hd ((pG aU.ce).trans hg) ?_ (nS (m:=m') ?_) hv
 rotate_left
 ·rw[dt];rcases hc with hc|⟨α,p,f,x,hc,hp,rfl⟩<;>rw[hc]<;>rfl
 rcases hc with hc|⟨α,p,f,x,hc,hp,rfl⟩
 ·rw[hc]at aL;exact aL
 rw[hc]at aL;exact aL x hp
theorem FR{o:Oper}{i:Nat}{env:Env}{m:M}(hd:gD C o.dst=true)(hg:guardOf ops env o= .skip)(dg:List Nat):Rec.Valid C ops ⟨i,o,o.looksAt ops,dg,.lv [],[],m.nh,m.nh⟩ (Fs.of env m):=by
 intro env' m' aU
 have:=Jz (m:=m') hd ((pG aU.ce).trans hg)
 rw[aU.nh]at this
 exact this
end Go.SE

namespace Go.SE
open Go Go.RowKit
variable [aG]
variable{C:Ctx}{ops:Array Oper}
theorem im.congr{m m':M}: ∀ {hs:List Nat} {pre:List bd},im m hs pre->(∀h∈hs,m'.reg h=m.reg h)->im m' hs pre
 | [],[],_,_=>trivial
 |h::hs,r::rs,hp,hr=>by
  obtain⟨⟨r',h1,h2⟩,h3⟩:=hp
  exact⟨⟨r',(hr h (by simp)).trans h1,h2⟩,im.congr h3 fun k hk=>hr k (by simp[hk])⟩
theorem JA{o:Oper}{env:Env}{m:M}{f:FuncId}{args eE:List T}{pre:List bd}{res v:X}{post:List bd}{hs:List Nat}(hd:gD C o.dst=true)(hg:guardOf ops env o= .run)(dt:classify C.P o env m= .call f eE)
  (h:bo C.P f args pre res post) (dh:lZ eE (ly (pick hs) args)) (mU:im m hs pre) (gQ:(res.sc post.length&&gw post.length post)=true) (hv: ∀ρ y,(res.lU fun k=>m.nh+k).Rel ρ y->v.Rel ρ y):
  OK C ops o env m v (cO m.nh post 0) (m.nh+post.length):=by
 rw[Bool.and_eq_true]at gQ
 refine⟨Nat.le_add_right _ _,fun ro hF B w0 D ρ a w K WM aL hK=>?_⟩
 obtain⟨ρF,rfl⟩:=hF
 have hE:=aL.env ρ (an.refl _ _)
 rw[if_pos ((jV hE).1 hg)]
 have hc:=lQ C.P o env m
 rw[dt]at hc
 obtain⟨ys,lW⟩:=hc a
 obtain⟨aJ,aS,my⟩:=lW ρ hE
 refine⟨⟨od,fun _ h=>h.elim,by rw[Oper.semAt_eq _ _ _ my,aS];exact h.zb.QX _⟩,?_⟩
 rw[eM (by rw[Oper.semAt_eq _ _ _ my,aS];exact(h.zb _).1 w)]
 simp only[oG]
 have hM:=aL.mem ρ (an.refl _ _)
 refine(h.go (fun k=>ρ (pick hs k)) w ys (fun i r hr=>?_) (Ts.gm (lZ.rel dh aJ))).mono ?_
 ·obtain⟨k,r',g1,g2,g3⟩:=mU.get i r hr
  exact g3.ok (hM.aj _ _ g2) i _ (by simp[pick,g1])
 rintro e w' ⟨y,ρ',rfl,h1,h2,h3,h4⟩
 let ρc:aZ:=fun k=>if m.nh<=k/\k<m.nh+post.length then ρ' (k-m.nh)else ρ k
 have IB:an D ρ ρc:=fun k hk=>by
  show(if m.nh<=k/\k<m.nh+post.length then ρ' (k-m.nh)else ρ k)=ρ k
  rw[if_neg fun hh=>WM k hh hk]
 have Ua: ∀k,k<post.length->ρc (m.nh+k)=ρ' k:=fun k hk=>by
  show(if m.nh<=m.nh+k/\m.nh+k<m.nh+post.length then ρ' (m.nh+k-m.nh)else ρ (m.nh+k))=ρ' k
  rw[if_pos ⟨by omega,by omega⟩,Nat.add_sub_cancel_left]
 refine hK ρc _ _ IB (put_defers _ _ _) ?_
 have b1: ∀ {ρ''},an (fun h=>D h\/(m.nh<=h/\h<m.nh+post.length)) ρc ρ''->an D ρ ρ'':=fun aU k hk=>(aU k (.inl hk)).trans (IB k hk)
 have b2: ∀ {ρ''},an (fun h=>D h\/(m.nh<=h/\h<m.nh+post.length)) ρc ρ''->∀k,k<post.length->ρ'' (m.nh+k)=ρ' k:=fun aU k hk=>(aU (m.nh+k) (.inr ⟨by omega,by omega⟩)).trans (Ua k hk)
 refine⟨fun ρ'' aU=>?_,fun ρ'' aU=>?_,by rw[gb];exact aL.size⟩
 ·refine(aL.env ρ'' (b1 aU)).put aL.size (di hd) (hv _ _ ?_)
  exact X.cu (θ:=fun k=>m.nh+k) (X.bY (n:=post.length) gQ.1 (fun k hk=>b2 aU k hk) h1)
 have a2:=b2 aU
 have ET:=aL.mem ρ'' (b1 aU)
 have bn: ∀k r,M.reg {aj:=cO m.nh post 0++m.aj,nh:=m.nh+post.length,ds:=m.ds} k=some r->
   (∃j r0,k=m.nh+j/\j<post.length/\post[j]?=some r0/\r=r0.lU fun h=>m.nh+h)\/m.reg k=some r:=by
  intro k r hr
  simp only[M.reg,cA]at hr
  rcases Option.or_eq_some_iff.1 hr with hr|⟨_,hr⟩
  ·obtain⟨j,r0,g1,g2,g3⟩:=mc _ _ _ _ _ hr
   exact .inl ⟨j,r0,by omega,(List.getElem?_eq_some_iff.1 g2).1,g2,g3⟩
  exact .inr hr
 have hold: ∀k r,m.reg k=some r->bz ρ'' w' k r:=fun k r hr=>(ET.aj _ _ hr).same (fun hn hl=>h4.block _ ((ET.aj _ _ hr).lt hn hl)) h4.size
 have jh: ∀j r0,j<post.length->post[j]?=some r0->bz ρ'' w' (m.nh+j) (r0.lU fun h=>m.nh+h):=fun j r0 hj hr=>
  Ar (θ:=fun h=>m.nh+h) (mH (n:=post.length) (ju gQ.2 r0 (List.mem_of_getElem? hr)) (fun k hk=>a2 k hk) hj (h2 j r0 hr).1)
 have IF:B<=w.heap.size:=Nat.le_trans hM.hB hM.below.size
 refine⟨fun k r hr=>?_,fun k k' r r' hr lX cb ht ho hl n1 n2=>?_,fun k r hr ho hn=>?_,hM.below.trans (h4.mono IF),hM.hB⟩
 ·rcases bn k r hr with⟨j,r0,rfl,hj,g1,rfl⟩|hr
  ·exact jh j r0 hj g1
  exact hold k r hr
 ·rcases bn k r hr with⟨j,r0,rfl,hj,g1,rfl⟩|hr<;>rcases bn k' r' lX with⟨j',X1,rfl,kg,YI,rfl⟩|lX
  ·rw[a2 j hj]at n1 ⊢
   rw[a2 j' kg]at n2 ⊢
   exact h3 j j' hj kg (by omega) n1 n2
  ·have:=(h2 j r0 g1).2.2
   rw[a2 j hj]at n1 ⊢
   have h5:=this n1
   have h6:=(ET.aj _ _ lX).lt n2 hl
   omega
  ·have:=(h2 j' X1 YI).2.2
   rw[a2 j' kg]at n2 ⊢
   have h5:=this n2
   have h6:=(ET.aj _ _ hr).lt n1 (bd.dp ho)
   omega
  exact ET.fG _ _ _ _ hr lX cb ht ho hl n1 n2
 rcases bn k r hr with⟨j,r0,rfl,hj,g1,rfl⟩|hr
 ·rw[a2 j hj]at hn ⊢
  exact Nat.le_trans IF ((h2 j r0 g1).2.2 hn)
 exact ET.base _ _ hr ho hn
theorem FT{o:Oper}{i:Nat}{env:Env}{m:M}{f:FuncId}{args eE:List T}{pre:List bd}{res v:X}{post:List bd}{hs:List Nat}(hd:gD C o.dst=true)(hg:guardOf ops env o= .run)(dt:classify C.P o env m= .call f eE)
  (h:bo C.P f args pre res post) (dh:lZ eE (ly (pick hs) args)) (mU:im m hs pre) (gQ:(res.sc post.length&&gw post.length post)=true) (hv: ∀ρ y,(res.lU fun k=>m.nh+k).Rel ρ y->v.Rel ρ y):
  Rec.Valid C ops ⟨i,o,o.looksAt ops,hs++iW env o.op,v,cO m.nh post 0,m.nh,m.nh+post.length⟩ (Fs.of env m):=by
 intro env' m' aU
 have hc:classify C.P o env' m'=classify C.P o env m:=pO (DU aU.ce) (fun k hk=>aU.cr k (List.mem_append_right _ hk)) aU.nh
 have dY:m'.nh=m.nh:=aU.nh
 have:=JA (m:=m') hd ((pG aU.ce).trans hg) (hc.trans dt) h dh (mU.congr fun k hk=>aU.cr k (List.mem_append_left _ hk)) gQ (v:=v) (by rw[dY];exact hv)
 rw[dY]at this
 exact this
def Oz(k:Nat):List Nat->Bool
 | []=>false
 |x::l=>bif Nat.beq x k then true else Oz k l
def r9:List Nat->List Nat->Bool
 | [],_=>true
 |x::l,r=>bif Oz x r then false else r9 l r
def ga(i:Nat):List Go.Edge->Bool
 | []=>false
 |e::l=>bif Nat.beq e.on i&&Region.binds .any e then true else ga i l
theorem Ay{k:Nat}: ∀ {l:List Nat},Oz k l=false->k∉l
 | [],_=>by simp
 |x::l,h=>by
  simp only[Oz,cond_eq_ite]at h
  split at h
  ·cases h
  rename_i hb
  intro hk
  rcases List.mem_cons.1 hk with rfl|hk
  ·exact hb (Nat.beq_refl _)
  exact Ay h hk
theorem gA: ∀ {l r:List Nat},r9 l r=true->∀k∈l,k∉r
 | [],_,_=>by simp
 |x::l,r,h=>by
  simp only[r9,cond_eq_ite]at h
  split at h
  ·cases h
  rename_i hb
  intro k hk
  rcases List.mem_cons.1 hk with rfl|hk
  ·exact Ay (by simpa using hb)
  exact gA h k hk
theorem yE{i:Nat}: ∀ {l:List Go.Edge},ga i l=true->∃e∈l,Region.binds .any e=true/\e.on=i
 | [],h=>by cases h
 |e::l,h=>by
  simp only[ga,cond_eq_ite]at h
  split at h
  ·rename_i hb
   rw[Bool.and_eq_true]at hb
   exact⟨e,by simp,hb.2,Nat.eq_of_beq_eq_true hb.1⟩
  obtain⟨e',h1,h2⟩:=yE h;exact⟨e',by simp[h1],h2⟩
end Go.SE

namespace Go.SE
open Go Go.RowKit
variable [aG]
def kB(ops:Array Oper)(x y:Oper):Bool:=r9 x.dst.toList (y.looksAt ops)&&r9 y.dst.toList (x.looksAt ops)&&r9 x.dst.toList y.dst.toList
def sG(ops:Array Oper)(i:Nat)(x:Oper):List (Nat×Oper)->Bool
 | []=>true
 |(_,y)::l=>bif ga i y.after.toList||kB ops x y then sG ops i x l else false
def sH(ops:Array Oper):List (Nat×Oper)->Bool
 | []=>true
 |(i,x)::l=>bif sG ops i x l then sH ops l else false
def wI(i:Nat):List Go.Edge->Bool
 | []=>true
 |e::l=>bif !Region.binds .any e||Nat.blt e.on i then wI i l else false
def wJ:List (Nat×Oper)->Bool
 | []=>true
 |(i,x)::l=>bif wI i x.after.toList then wJ l else false
def number:Nat->List Oper->List (Nat×Oper)
 |_,[]=> []
 |i,o::l=>(i,o)::number (i+1) l
def rn(ops:Array Oper):Bool:=sH ops (number 0 ops.toList)&&wJ (number 0 ops.toList)
def qm:List (Nat×bd)->List Nat
 | []=> []
 |(h,_)::l=>h::qm l
def wD(o:Oper)(dg wr:List Nat):List (Nat×List Nat)->Bool
 | []=>true
 |(i,w)::l=>bif ga i o.after.toList||(r9 w dg&&r9 w wr)then wD o dg wr l else false
def wE(o:Oper)(wr:List Nat):List (Nat×List Nat)->Bool
 | []=>true
 |(i,nd)::l=>bif ga i o.after.toList||r9 wr nd then wE o wr l else false
def sU(o:Oper)(dg wr:List Nat)(ns ws:List (Nat×List Nat)):Bool:=
 bif wD o dg wr ws then(match wr with| []=>true|x::l=>wE o (x::l) ns)else false
def IW(i:Nat)(wr:List Nat)(ws:List (Nat×List Nat)):List (Nat×List Nat):=
 match wr with
 | []=>ws
 |x::l=>(i,x::l)::ws
def FO(v:X)(k:X->Prop):Prop:=
 match v with
 |.t (.one (.b c))=>Unit->Split c (k (known true)) (k (known false))
 |v=>k v
def Io(gd:Bool)(v:X)(k:X->Prop):Prop:=bif gd then FO v k else k v
def sB(i:Nat)(d:Option Nat):List Oper->Bool
 | []=>false
 |o::l=>bif (match o.guard with|some (j,_)=>Nat.beq j i|none=>false)then true else
  bif (match o.op,d with|.pick (.tmp c) _ _,some d=>Nat.beq c d|_,_=>false)then true else sB i d l
structure Aa(P:Program)(f:FuncId)(args:List T)(m:M)(K:List Nat->X->List (Nat×bd)->Nat->Prop):Prop where
 out:(∃gG pre res post hs,bo P f gG pre res post/\lZ args (ly (pick hs) gG)/\im m hs pre/\(res.sc post.length&&gw post.length post)=true/\K hs (res.lU fun k=>m.nh+k) (cO m.nh post 0) (m.nh+post.length))
def IV(gd:Bool)(o:Oper)(i:Nat)(ns ws:List (Nat×List Nat))(next:List (Nat×List Nat)->List (Nat×List Nat)->Env->M->Prop)(env:Env)(m:M)(dg:List Nat)(v:X)(rs:List (Nat×bd))(nh:Nat):Prop:=
 bif sU o dg (qm rs) ns ws then Io gd v fun v=>env.go o.dst v fun env=>m.cs fun aj _ ds=>zg rs aj fun l=>next ((i,dg)::ns) (IW i (qm rs) ws) env ⟨l,nh,ds⟩else False
def dr(C:Ctx)(ops:Array Oper):List Oper->Nat->List (Nat×List Nat)->List (Nat×List Nat)->(Env->M->Prop)->Env->M->Prop
 | [],_,_,_,K,env,m=>K env m
 |o::rest,i,ns,ws,K,env,m=>
  bif gD C o.dst then
   match guardOf ops env o with
   |.skip=>IV (sB i o.dst ops.toList) o i ns ws (fun ns ws env m=>dr C ops rest (i+1) ns ws K env m) env m [] (.lv []) [] m.nh
   |.run=>match classify C.P o env m with
    |.EJ e=>e.cs fun v rs nh=>l8 v fun v=>ja rs fun rs=>aY nh fun nh=>IV (sB i o.dst ops.toList) o i ns ws (fun ns ws env m=>dr C ops rest (i+1) ns ws K env m) env m (iW env o.op) v rs nh
    |.ask p f=>Unit->oU p fun x=>(f x).cs fun v rs nh=>IV (sB i o.dst ops.toList) o i ns ws (fun ns ws env m=>dr C ops rest (i+1) ns ws K env m) env m (iW env o.op) v rs nh
    |.call f args=>C.pr fun P=>Unit->Aa P f args m fun hs v rs nh=>l8 v fun v=>ja rs fun rs=>aY nh fun nh=>IV (sB i o.dst ops.toList) o i ns ws (fun ns ws env m=>dr C ops rest (i+1) ns ws K env m) env m (hs++iW env o.op) v rs nh
    |_=>False
   |_=>False
  else False
variable{C:Ctx}{ops:Array Oper}
structure sZ(x y:Rec):Prop where
 w1: ∀h∈qm x.aj,h∉y.dg
 w2: ∀h∈qm y.aj,h∉x.dg
 w3: ∀h∈qm x.aj,h∉qm y.aj
structure Trace(C:Ctx)(ops:Array Oper)(l:List Oper)(i:Nat)(ns ws:List (Nat×List Nat))(env:Env)(m:M)(env':Env)(m':M)(dv:List Rec):Prop where
 num:dv.map (fun r=>(r.idx,r.o))=number i l
 looks: ∀r∈dv,r.looks=r.o.looksAt ops
 lex:z8 C ops (Fs.of env m) dv
 fin:uY (Fs.of env m) dv=Fs.of env' m'
 ds:m'.ds=m.ds
 nh:m.nh<=m'.nh
 lo: ∀r∈dv,m.nh<=r.lo/\r.lo<=r.hi/\r.hi<=m'.nh
 new:dv.Pairwise fun x y=>x.hi<=y.lo
 mem:dv.Pairwise fun x y=>Edge x y\/sZ x y
 Vg: ∀y∈dv,∀j w,(j,w)∈ws->ga j y.o.after.toList=true\/(∀h∈w,h∉y.dg/\h∉qm y.aj)
 Vh: ∀y∈dv,∀j nd,(j,nd)∈ns->ga j y.o.after.toList=true\/(∀h∈qm y.aj,h∉nd)
theorem tD{o:Oper}{dg wr:List Nat}: ∀ {ws:List (Nat×List Nat)},wD o dg wr ws=true->∀j w,(j,w)∈ws->ga j o.after.toList=true\/(∀h∈w,h∉dg/\h∉wr)
 | [],_=>by simp
 |(i,w)::l,h=>by
  simp only[wD,cond_eq_ite]at h
  split at h
  ·rename_i hb
   intro j w' hj
   rcases List.mem_cons.1 hj with hj|hj
   ·cases hj
    rw[Bool.or_eq_true,Bool.and_eq_true]at hb
    rcases hb with hb|⟨h1,h2⟩
    ·exact .inl hb
    exact .inr fun h hh=>⟨gA h1 h hh,gA h2 h hh⟩
   exact tD h j w' hj
  cases h
theorem tE{o:Oper}{wr:List Nat}: ∀ {ns:List (Nat×List Nat)},wE o wr ns=true->∀j nd,(j,nd)∈ns->ga j o.after.toList=true\/(∀h∈wr,h∉nd)
 | [],_=>by simp
 |(i,w)::l,h=>by
  simp only[wE,cond_eq_ite]at h
  split at h
  ·rename_i hb
   intro j w' hj
   rcases List.mem_cons.1 hj with hj|hj
   ·cases hj
    rw[Bool.or_eq_true]at hb
    rcases hb with hb|h1
    ·exact .inl hb
    exact .inr fun h hh=>gA h1 h hh
   exact tE h j w' hj
  cases h
theorem zD{o:Oper}{dg wr:List Nat}{ns ws:List (Nat×List Nat)}(h:sU o dg wr ns ws=true):
  (∀j w,(j,w)∈ws->ga j o.after.toList=true\/(∀h∈w,h∉dg/\h∉wr))/\(∀j nd,(j,nd)∈ns->ga j o.after.toList=true\/(∀h∈wr,h∉nd)):=by
 simp only[sU,cond_eq_ite]at h
 split at h
 ·rename_i hw
  refine⟨tD hw,?_⟩
  cases wr with
  |nil=>intro j nd _;exact .inr (by simp)
  |cons x l=>exact tE h
 cases h
theorem Dz{i:Nat}{wr:List Nat}{ws:List (Nat×List Nat)}:(∀j w,(j,w)∈ws->(j,w)∈IW i wr ws)/\(wr≠ []->(i,wr)∈IW i wr ws):=by
 cases wr with
 |nil=>exact⟨fun j w h=>h,fun h=>absurd rfl h⟩
 |cons x l=>exact⟨fun j w h=>by simp[IW,h],fun _=>by simp[IW]⟩
theorem wA{x y:Rec}(h:ga x.idx y.o.after.toList=true):Edge x y:=by
 obtain⟨e,h1,h2,h3⟩:=yE h
 exact⟨e,by simpa using h1,h2,h3⟩
theorem Trace.cons{o:Oper}{l:List Oper}{i:Nat}{ns ws:List (Nat×List Nat)}{env env':Env}{m m':M}{dv:List Rec}{dg:List Nat}{v:X}{rs:List (Nat×bd)}{nh:Nat}
  (hc:sU o dg (qm rs) ns ws=true) (hle:m.nh<=nh) (hv:Rec.Valid C ops ⟨i,o,o.looksAt ops,dg,v,rs,m.nh,nh⟩ (Fs.of env m))
  (h:Trace C ops l (i+1) ((i,dg)::ns) (IW i (qm rs) ws) (eL env o.dst v) ⟨rs++m.aj,nh,m.ds⟩ env' m' dv):
  Trace C ops (o::l) i ns ws env m env' m' (⟨i,o,o.looksAt ops,dg,v,rs,m.nh,nh⟩::dv):=by
 obtain⟨c1,c2⟩:=zD hc
 have fF:Rec.app ⟨i,o,o.looksAt ops,dg,v,rs,m.nh,nh⟩ (Fs.of env m)=Fs.of (eL env o.dst v) ⟨rs++m.aj,nh,m.ds⟩:=by
  unfold Rec.app Fs.of
  congr 1
  ·funext k;simp only;rw[fy]
  funext k;simp only[M.reg];rw[cA]
 refine⟨?_,?_,⟨hv,by rw[fF];exact h.lex⟩,by simp only[uY];rw[fF];exact h.fin,h.ds,Nat.le_trans hle h.nh,?_,?_,?_,?_,?_⟩
 ·simp only[List.map_cons,number,h.num]
 ·intro r hr
  rcases List.mem_cons.1 hr with rfl|hr
  ·rfl
  exact h.looks r hr
 ·intro r hr
  rcases List.mem_cons.1 hr with rfl|hr
  ·exact⟨Nat.le_refl _,hle,h.nh⟩
  have:=h.lo r hr
  exact⟨Nat.le_trans hle this.1,this.2⟩
 ·exact List.pairwise_cons.2 ⟨fun r hr=>(h.lo r hr).1,h.new⟩
 ·refine List.pairwise_cons.2 ⟨fun y hy=>?_,h.mem⟩
  rcases h.Vh y hy i dg (by simp)with h1|h1
  ·exact .inl (wA h1)
  by_cases hw:qm rs= []
  ·exact .inr ⟨by simp[hw],h1,by simp[hw]⟩
  rcases h.Vg y hy i (qm rs) (Dz.2 hw)with h2|h2
  ·exact .inl (wA h2)
  exact .inr ⟨fun k hk=>(h2 k hk).1,h1,fun k hk=>(h2 k hk).2⟩
 ·intro y hy j w hj
  rcases List.mem_cons.1 hy with rfl|hy
  ·exact c1 j w hj
  exact h.Vg y hy j w (Dz.1 j w hj)
 intro y hy j nd hj
 rcases List.mem_cons.1 hy with rfl|hy
 ·exact c2 j nd hj
 exact h.Vh y hy j nd (by simp[hj])
theorem EA{v:X}{k:X->Prop}(h:FO v k): ∃v',(∀ρ y,v.Rel ρ y->v'.Rel ρ y)/\k v':=by
 unfold FO at h
 split at h
 ·rename_i c
  have hs:=h ()
  cases c
  ·exact⟨known false,fun ρ y hy=>⟨hy,rfl⟩,hs.no rfl⟩
  exact⟨known true,fun ρ y hy=>⟨hy,rfl⟩,hs.yes rfl⟩
 exact⟨v,fun _ _ h=>h,h⟩
theorem Cs{gd:Bool}{v:X}{k:X->Prop}(h:Io gd v k): ∃v',(∀ρ y,v.Rel ρ y->v'.Rel ρ y)/\k v':=by
 cases gd
 ·exact⟨v,fun _ _ h=>h,h⟩
 exact EA h
theorem qh{o:Oper}{l:List Oper}{i:Nat}{ns ws:List (Nat×List Nat)}{K:Env->M->Prop}{env:Env}{m:M}{dg:List Nat}{v:X}{rs:List (Nat×bd)}{nh:Nat}{next:List (Nat×List Nat)->List (Nat×List Nat)->Env->M->Prop}
  {gd:Bool} (h:IV gd o i ns ws next env m dg v rs nh) (xc: ∀ns ws env m,next ns ws env m->∃dv env' m',Trace C ops l (i+1) ns ws env m env' m' dv/\K env' m')
  (hle:m.nh<=nh) (hv: ∀v',(∀ρ y,v.Rel ρ y->v'.Rel ρ y)->Rec.Valid C ops ⟨i,o,o.looksAt ops,dg,v',rs,m.nh,nh⟩ (Fs.of env m)):
  ∃dv env' m',Trace C ops (o::l) i ns ws env m env' m' dv/\K env' m':=by
 simp only[IV,cond_eq_ite,Env.go_eq,M.cy,ny]at h
 split at h
 ·rename_i hc
  obtain⟨v',h1,h2⟩:=Cs h
  obtain⟨dv,env',m',h3,h4⟩:=xc _ _ _ _ h2
  exact⟨_,env',m',Trace.cons hc hle (hv v' h1) h3,h4⟩
 exact h.elim
theorem sS: ∀ (l:List Oper) (i:Nat) (ns ws:List (Nat×List Nat)) (K:Env->M->Prop) (env:Env) (m:M),dr C ops l i ns ws K env m->∃dv env' m',Trace C ops l i ns ws env m env' m' dv/\K env' m'
 | [],i,ns,ws,K,env,m,h=>⟨[],env,m,⟨rfl,by simp,trivial,rfl,rfl,Nat.le_refl _,by simp,List.Pairwise.nil,List.Pairwise.nil,by simp,by simp⟩,h⟩
 |o::rest,i,ns,ws,K,env,m,h=>by
  have ih:=fun ns ws env m h=>sS rest (i+1) ns ws K env m h
  simp only[dr,cond_eq_ite]at h
  split at h
  ·rename_i hd
   split at h
   ·rename_i hg
    exact qh h ih (Nat.le_refl _) fun v' hv=>by
     have:=FR (C:=C) (ops:=ops) (i:=i) (env:=env) (m:=m) hd hg []
     intro eJ m2 aU
     have h2:=this eJ m2 ⟨aU.ce,aU.cr,aU.nh⟩
     obtain⟨q1,q2⟩:=h2
     refine⟨q1,fun F hF B w0 D ρ a w KK hn aL hK=>q2 F hF B w0 D ρ a w KK hn aL fun ρ' a' w' g1 g2 g3=>hK ρ' a' w' g1 g2 ⟨fun ρ'' hh=>?_,g3.mem,g3.size⟩⟩
     intro k x hk
     have g4:=g3.env ρ'' hh
     rw[fy]at hk
     split at hk
     ·rename_i UO
      cases hk
      obtain⟨y,h5,h6⟩:=g4 k (.lv []) (by rw[fy,if_pos UO])
      exact⟨y,h5,hv ρ'' y h6⟩
     rename_i UO
     exact g4 k x (by rw[fy,if_neg UO];exact hk)
   ·rename_i hg
    have aL:=lQ C.P o env m
    split at h
    ·rename_i e he
     rw[he]at aL
     simp only[Eff.cy,gK,gz,aQ]at h
     exact qh h ih aL.1 fun v' hv=>Ae hd hg (.inl he) hv
    ·rename_i p f he
     rw[he]at aL
     obtain⟨x,hp,h⟩:=(h ()).out
     simp only[Eff.cy]at h
     exact qh h ih (aL x hp).1 fun v' hv=>Ae hd hg (.inr ⟨_,p,f,x,he,hp,rfl⟩) hv
    ·rename_i f args he
     rw[Ctx.wW]at h
     rcases(h ()).out with⟨gG,pre,res,post,hs,E8,dh,mU,gQ,h⟩
     simp only[gK,gz,aQ]at h
     exact qh h ih (Nat.le_add_right _ _) fun v' hv=>FT hd hg he E8 dh mU gQ hv
    exact h.elim
   exact h.elim
  exact h.elim
end Go.SE

namespace Go.SE
open Go Go.RowKit
variable [aG]
variable{C:Ctx}{ops:Array Oper}
theorem dC: ∀ (l:List Oper) (i:Nat) (p:Nat×Oper),p∈number i l↔i<=p.1/\l[p.1-i]?=some p.2
 | [],i,p=>by simp[number]
 |o::l,i,(j,x)=>by
  simp only[number,List.mem_cons,dC l (i+1) (j,x)]
  constructor
  ·rintro(h|⟨h1,h2⟩)
   ·cases h;simp
   refine⟨by omega,?_⟩
   rw[show j-i=(j- (i+1))+1 by omega]
   simpa using h2
  rintro⟨h1,h2⟩
  by_cases h:j=i
  ·subst h;simp at h2;left;rw[h2]
  right
  have oD:i<=j:=h1
  refine⟨by omega,?_⟩
  have Kt:(o::l)[j-i]?=some x:=h2
  rw[show j-i=(j- (i+1))+1 by omega]at Kt
  simpa using Kt
theorem mf: ∀ (l:List Oper) (i:Nat),(number i l).length=l.length
 | [],_=>rfl
 |_::l,i=>by simp[number,mf l]
theorem uB: ∀ (l:List Oper) (i:Nat),(number i l).Pairwise fun p q=>p.1<q.1
 | [],_=>List.Pairwise.nil
 |o::l,i=>List.pairwise_cons.2 ⟨fun q hq=>by have:=((dC l (i+1) q).1 hq).1;show i<q.1;omega,uB l (i+1)⟩
theorem qJ{i:Nat}{x:Oper}: ∀ {l:List (Nat×Oper)},sG ops i x l=true->∀q∈l,ga i q.2.after.toList=true\/kB ops x q.2=true
 | [],_=>by simp
 |(j,y)::l,h=>by
  simp only[sG,cond_eq_ite]at h
  split at h
  ·rename_i hb
   intro q hq
   rcases List.mem_cons.1 hq with rfl|hq
   ·simpa using hb
   exact qJ h q hq
  cases h
theorem ma: ∀ {l:List (Nat×Oper)},sH ops l=true->l.Pairwise fun p q=>ga p.1 q.2.after.toList=true\/kB ops p.2 q.2=true
 | [],_=>List.Pairwise.nil
 |(i,x)::l,h=>by
  simp only[sH,cond_eq_ite]at h
  split at h
  ·rename_i hb;exact List.pairwise_cons.2 ⟨qJ hb,ma h⟩
  cases h
theorem tF{i:Nat}: ∀ {l:List Go.Edge},wI i l=true->∀e∈l,Region.binds .any e=true->e.on<i
 | [],_=>by simp
 |e::l,h=>by
  simp only[wI,cond_eq_ite]at h
  split at h
  ·rename_i hb
   intro e' he KD
   rcases List.mem_cons.1 he with rfl|he
   ·rw[KD]at hb;exact Nat.le_of_ble_eq_true hb
   exact tF h e' he KD
  cases h
theorem jZ: ∀ {l:List (Nat×Oper)},wJ l=true->∀p∈l,∀e∈p.2.after,Region.binds .any e=true->e.on<p.1
 | [],_=>by simp
 |(i,x)::l,h=>by
  simp only[wJ,cond_eq_ite]at h
  split at h
  ·rename_i hb
   intro p hp
   rcases List.mem_cons.1 hp with rfl|hp
   ·intro e he;exact tF hb e (by simpa using he)
   exact jZ h p hp
  cases h
theorem jr: ∀ {l:List (Nat×bd)} {h:Nat},(aK l h).isSome=true->h∈qm l
 | [],h,e=>by simp[aK]at e
 |(k,r)::l,h,e=>by
  simp only[aK,cond_eq_ite]at e
  split at e
  ·rename_i hb;simp[qm,Nat.eq_of_beq_eq_true hb]
  simp[qm,jr e]
theorem DL{x y:Rec}(hx:x.looks=x.o.looksAt ops)(hy:y.looks=y.o.looksAt ops)(hs:kB ops x.o y.o=true)(hm:sZ x y):lz x y:=by
 unfold kB at hs
 rw[Bool.and_eq_true,Bool.and_eq_true]at hs
 obtain⟨⟨h1,h2⟩,h3⟩:=hs
 refine⟨fun k hk=>?_,fun k hk=>?_,fun k hk cC=>?_,fun h hh=>hm.w1 h (jr hh),fun h hh=>hm.w2 h (jr hh),fun h hh hh'=>hm.w3 h (jr hh) (jr hh')⟩
 ·rw[hy];exact gA h1 k (by simp[hk])
 ·rw[hx];exact gA h2 k (by simp[hk])
 exact gA h3 k (by simp[hk]) (by simp[cC])
theorem kh.drew{P:Program}{B:Nat}{w0:World}{ρ:aZ}{m:M}{w:World}(h:kh P B w0 ρ m w):kh P B w0 ρ m w.drew:=
 ⟨fun k r hr=>(h.aj k r hr).same (fun _ _=>rfl) (Nat.le_refl _),h.fG,h.base,h.below.drew,h.hB⟩
theorem qg{id:Nat}{Q:Exit->Env->M->Prop}{env:Env}{m:M}(hm:C.P.follows .mixedOrders=true)(dI:rn ops=true)(h:dr C ops ops.toList 0 [] [] (Q .normal) env m):qF C (.region id ops true) Q env m:=by
 refine⟨fun hg B w0 ρ a w aL hp=>?_⟩
 obtain⟨dv,env',m',ht,hK⟩:=sS _ _ _ _ _ _ _ h
 unfold rn at dI
 rw[Bool.and_eq_true]at dI
 have CR: ∀r∈dv,(r.idx,r.o)∈number 0 ops.toList:=fun r hr=>by rw[<-ht.num];exact List.mem_map.2 ⟨r,hr,rfl⟩
 have aF: ∀r∈dv,ops[r.idx]?=some r.o:=fun r hr=>by
  have:=((dC _ _ _).1 (CR r hr)).2
  simpa using this
 have Kf:dv.Pairwise fun x y=>x.idx<y.idx:=by
  have:=uB ops.toList 0
  rw[<-ht.num,List.pairwise_map]at this
  exact this
 have FF:dv.Pairwise fun x y=>ga x.idx y.o.after.toList=true\/kB ops x.o y.o=true:=by
  have:=ma dI.1
  rw[<-ht.num,List.pairwise_map]at this
  exact this
 have LF:dv.Pairwise fun x y=>lz x y\/Edge x y:=by
  refine List.Pairwise.imp_of_mem (R:=fun x y=>(ga x.idx y.o.after.toList=true\/kB ops x.o y.o=true)/\(Edge x y\/sZ x y)) (fun{x y} hx hy hh=>?_) (FF.and ht.mem)
  obtain⟨h1,h2⟩:=hh
  rcases h1 with h1|h1
  ·exact .inr (wA h1)
  rcases h2 with h2|h2
  ·exact .inr h2
  exact .inl (DL (ht.looks x hx) (ht.looks y hy) h1 h2)
 have K9:Rp ops dv:=by
  refine⟨aF,Kf,LF,ht.new.imp fun{x y} hh k hk cC=>?_,fun r hr=>jZ dI.2 _ (CR r hr)⟩
  have:=hk.2;have:=cC.1;omega
 have hlen:dv.length=ops.size:=by
  have:=congrArg List.length ht.num
  simpa [mf]using this
 refine kX hm fun ae iv=>?_
 replace aL:=aL.lj iv
 refine DW (C:=C) (B:=B) (w0:=w0) ⟨ρ,rfl⟩ ops.size dv _ (Fs.of env m) (Lex m) ρ a _ hlen K9 ht.lex (by simp) (fun i hi=>?_) (fun r hr k hk hl=>?_) ?_ (fun D' ρ' a' w' Om aU my oh=>?_)
 ·constructor
  ·intro _
   have:(i,ops[i])∈number 0 ops.toList:=(dC _ _ _).2 ⟨Nat.zero_le _,by simp[hi]⟩
   rw[<-ht.num]at this
   obtain⟨r,hr,he⟩:=List.mem_map.1 this
   exact⟨r,hr,congrArg Prod.fst he⟩
  intro _;simp[Array.getD,hi]
 ·have:=(ht.lo r hr).1;have:=hk.1;unfold Lex at hl;omega
 ·refine⟨env,m.aj,rfl,rfl,fun k ds=>?_⟩
  refine Ok.nh (k:=m.nh) (ds:=m.ds) ⟨aL.ok.env,fun ρ' aU=>(aL.ok.mem ρ' aU).drew,aL.ok.size⟩
 rw[ht.fin]at oh
 obtain⟨eJ,CY,he,hr,lr⟩:=oh
 have U0: ∀k,D' k->Lex m' k:=fun k hk=>by
  rcases(Om k).1 hk with h1|⟨r,hr,h1⟩
  ·exact Nat.lt_of_lt_of_le h1 ht.nh
  have:=(ht.lo r hr).2.2;have:=h1.2;unfold Lex;omega
 have bn: ∀k,m'.reg k=aK CY k:=fun k=>by rw[hr];rfl
 have wT:=(lr 0 []).YL U0
 refine⟨ρ',env',m',fun k hk=>aU k (by unfold Lex;omega),Nat.le_trans hp ht.nh,⟨⟨fun ρ'' hh k x hx=>?_,fun ρ'' hh=>?_,wT.size⟩,fun ρ'' hh=>?_⟩,hK⟩
 ·have:eJ.get k=some x:=by rw[he];exact hx
  exact wT.env ρ'' hh k x this
 ·have h5:=wT.mem ρ'' hh
  exact⟨fun k r hk=>h5.aj k r ((bn k).symm.trans hk),fun k k' r r' hk cC=>h5.fG k k' r r' ((bn k).symm.trans hk) ((bn k').symm.trans cC),fun k r hk=>h5.base k r ((bn k).symm.trans hk),h5.below,h5.hB⟩
 rw[my,ht.ds]
 refine aL.ds ρ'' fun k hk=>(hh k (Nat.lt_of_lt_of_le hk ht.nh)).trans (aU k hk)
end Go.SE

namespace Go.SE
open Go Go.RowKit
variable [aG]
variable{P:Program}
def intsOf:List IntKind->List Int->List Value
 |k::ks,n::ns=>.int k n::intsOf ks ns
 |_,_=> []
def HasAll:List IntKind->List Int->Prop
 |k::ks,n::ns=>k.has n/\HasAll ks ns
 | [],[]=>True
 |_,_=>False
end Go.SE

namespace Go.SE
open Go Go.RowKit
variable [aG]
theorem wrap_i64{x:Int}(h1: -9223372036854775808<=x)(h2:x<=9223372036854775807):IntKind.i64.wrap x=x:=by
 show(if(true&&decide (x%18446744073709551616>=9223372036854775808))=true then x%18446744073709551616-18446744073709551616 else x%18446744073709551616)=x
 simp only[Bool.true_and,decide_eq_true_eq]
 split<;>omega
theorem wrap_i32{x:Int}(h1: -2147483648<=x)(h2:x<=2147483647):IntKind.i32.wrap x=x:=by
 show(if(true&&decide (x%4294967296>=2147483648))=true then x%4294967296-4294967296 else x%4294967296)=x
 simp only[Bool.true_and,decide_eq_true_eq]
 split<;>omega
theorem My{x:Int}(h1: -32768<=x)(h2:x<=32767):IntKind.i16.wrap x=x:=by
 show(if(true&&decide (x%65536>=32768))=true then x%65536-65536 else x%65536)=x
 simp only[Bool.true_and,decide_eq_true_eq]
 split<;>omega
theorem ON{x:Int}(h1: -128<=x)(h2:x<=127):IntKind.i8.wrap x=x:=by
 show(if(true&&decide (x%256>=128))=true then x%256-256 else x%256)=x
 simp only[Bool.true_and,decide_eq_true_eq]
 split<;>omega
theorem wrap_u8{x:Int}(h1:0<=x)(h2:x<=255):IntKind.u8.wrap x=x:=by
 show x%256=x;omega
theorem wrap_u16{x:Int}(h1:0<=x)(h2:x<=65535):IntKind.u16.wrap x=x:=by
 show x%65536=x;omega
theorem wrap_u32{x:Int}(h1:0<=x)(h2:x<=4294967295):IntKind.u32.wrap x=x:=by
 show x%4294967296=x;omega
theorem wrap_u64{x:Int}(h1:0<=x)(h2:x<=18446744073709551615):IntKind.u64.wrap x=x:=by
 show x%18446744073709551616=x;omega
theorem wrap_u8'(x:Int):IntKind.u8.wrap x=x%256:=rfl
def lo:IntKind->Int
 |.i8=> -128|.i16=> -32768|.i32=> -2147483648|.i64=> -9223372036854775808
 |_=>0
def hi:IntKind->Int
 |.i8=>127|.i16=>32767|.i32=>2147483647|.i64=>9223372036854775807
 |.u8=>255|.u16=>65535|.u32=>4294967295|.u64=>18446744073709551615
theorem dM{k:IntKind}{x:Int}(h1:lo k<=x)(h2:x<=hi k):k.wrap x=x:=by
 cases k<;>simp only[lo,hi]at h1 h2
 ·exact ON h1 h2
 ·exact My h1 h2
 ·exact wrap_i32 h1 h2
 ·exact wrap_i64 h1 h2
 ·exact wrap_u8 h1 h2
 ·exact wrap_u16 h1 h2
 ·exact wrap_u32 h1 h2
 exact wrap_u64 h1 h2
theorem xj{k:IntKind}{a b:Int}(h1:lo k<=a+b)(h2:a+b<=hi k):dx .add k a b (a+b):=dM h1 h2
theorem SU{k:IntKind}{a:Int}(n:Nat)(hn:n<=k.bits):dx .shr k a (n:Int) (a/2^n):=by
 refine⟨Int.natCast_nonneg n,?_⟩
 rw[Int.toNat_natCast,Nat.min_eq_left hn,Int.fdiv_eq_ediv_of_nonneg]
 exact Int.le_of_lt (Int.pow_pos (by decide))
theorem iT{k:IntKind}{a b:Int}(n:Nat)(c:Int)(hc:(2:Int)^n=c)(hb:b=(n:Int))(hn:n<=k.bits):dx .shr k a b (a/c):=by subst hb;subst hc;exact SU n hn
theorem jy{k:IntKind}{a:Int}(h0:0<=a)(h1:a<=hi k):(BitVec.ofInt k.bits a).toNat=a.toNat:=by
 rw[BitVec.toNat_ofInt]
 congr 1
 apply Int.emod_eq_of_lt h0
 cases k<;>simp only[hi,IntKind.bits]at* <;>omega
theorem ML{k:IntKind}{a b:Int}(n:Nat)(hn:n<=k.bits)(hb:b=2^n-1)(h3:b<=hi k):dx .and k a b (a%2^n):=by
 have hp:(0:Int)<2^n:=Int.pow_pos (by decide)
 have h2:0<=b:=by omega
 have LR:((2:Int)^n)=((2^n:Nat):Int):=by simp
 show k.wrap _=_
 rw[BitVec.toNat_and,jy h2 h3]
 have e1:b.toNat=2^n-1:=by
  rw[hb,LR]
  have:=Nat.two_pow_pos n
  omega
 rw[e1,Nat.and_two_pow_sub_one_eq_mod,BitVec.toNat_ofInt]
 have e3:(((a%((2^k.bits:Nat):Int)).toNat%2^n:Nat):Int)=a%2^n:=by
  have h5:0<=a%((2^k.bits:Nat):Int):=Int.emod_nonneg _ (by have:=Nat.two_pow_pos k.bits;omega)
  rw[Int.natCast_emod,Int.toNat_of_nonneg h5,<-LR]
  apply Int.emod_emod_of_dvd
  rw[LR]
  exact Int.natCast_dvd_natCast.2 (Nat.pow_dvd_pow 2 hn)
 rw[e3]
 have h6:0<=a%2^n:=Int.emod_nonneg _ (by omega)
 have h7:a%2^n<2^n:=Int.emod_lt_of_pos _ hp
 refine dM ?_ (by omega)
 have:lo k<=0:=by cases k<;>simp[lo]
 omega
theorem Dn{k:IntKind}{a b:Int}(n:Nat)(c:Int)(hc:(2:Int)^n=c)(hn:n<=k.bits)(hb:b=c-1)(h3:b<=hi k):dx .and k a b (a%c):=by subst hc;exact ML n hn hb h3
theorem Bc{k:IntKind}{a b:Int}(hs:k.signed=false)(h0:0<=a)(h1:a<=hi k)(h2:0<=b)(h3:b<=hi k):dx .xor k a b ((a.toNat^^^b.toNat:Nat):Int):=by
 show k.wrap _=_
 rw[BitVec.toNat_xor,jy h0 h1,jy h2 h3]
 have bA:(a.toNat^^^b.toNat)<2^k.bits:=by
  refine Nat.xor_lt_two_pow ?_ ?_
  ·cases k<;>simp only[hi,IntKind.bits]at* <;>omega
  cases k<;>simp only[hi,IntKind.bits]at* <;>omega
 refine dM ?_ ?_
 ·cases k<;>simp only[lo,IntKind.signed]at* <;>omega
 cases k<;>simp only[hi,IntKind.bits,IntKind.signed]at* <;>first|omega|(cases hs;done)
theorem Fl{c:Bool}{A B:Prop}(h:c=true)(hA:A):Split c A B:=⟨fun _=>hA,fun g=>by rw[h]at g;cases g⟩
theorem Qf{c:Bool}{A B:Prop}(h:c=false)(hB:B):Split c A B:=⟨fun g=>(by rw[h]at g;cases g),fun _=>hB⟩
theorem asked{α:Type}{p K:α->Prop}(x:α)(h:p x)(k:K x):oU p K:=⟨⟨x,h,k⟩⟩
theorem Fo{p:Prop}[Decidable p]{A B:Prop}(h1:p->A)(h2: ¬p->B):Split (decide p) A B:=⟨fun g=>h1 (of_decide_eq_true g),fun g=>h2 (of_decide_eq_false g)⟩
theorem nL{xs news:List Value}{n k sz by_:Nat}(h1:xs.length=n*sz)(h2:news.length=k*sz)(h3:n+k<=maxLen)(h4:(n+k)*by_<=140737488355328):
  xs++news=xs++news/\xs.length=n*sz/\news.length=k*sz/\n+k<=maxLen/\(n+k)*by_<=140737488355328:=⟨rfl,h1,h2,h3,h4⟩
def ints(k:IntKind):List Int->List Value
 | []=> []
 |x::l=>.int k x::ints k l
theorem vw(k:IntKind): ∀l,(ints k l).length=l.length
 | []=>rfl
 |_::l=>by simp[ints,vw k l]
theorem xP{k:IntKind}: ∀ {l:List Int} {i:Nat},i<l.length->(ints k l)[i]?=some (.int k (l.getD i 0))
 | [],i,h=>by simp at h
 |x::l,0,_=>by simp[ints]
 |x::l,i+1,h=>by simpa [ints]using xP (k:=k) (l:=l) (i:=i) (by simpa using h)
theorem PC{kd:IntKind}{l:List Int}{k:Nat}(h:k<l.length):(ints kd l)[(0+Int.toNat (k:Int))*1]?=some (.int kd (l.getD k 0)):=by
 rw[Int.toNat_natCast,Nat.zero_add,Nat.mul_one];exact xP h
theorem Qv{kd:IntKind}{l:List Int}{p:Nat}(q:Nat)(h:p=q)(hq:q<l.length):(ints kd l)[p]?=some (.int kd (l.getD q 0)):=by
 subst h;exact xP hq
theorem QQ{p:Prop}[Decidable p](h:p):decide p=true:=decide_eq_true h
end Go.SE

namespace Go.SE
open Go Go.RowKit
variable [aG]
abbrev dV:=List (Nat×Nat)
def gE:dV->Nat->Option Nat
 | [],_=>none
 |(k,s)::l,h=>bif Nat.beq k h then some s else gE l h
def jf(ρ:aZ)(th:List (Nat×Nat))(ns:dV):aZ:=fun h=>match gE ns h with
 |some s=>⟨0,0,0,s,true⟩
 |none=>ρ (lq th h)
def notNil(ns:dV)(h:Nat):Bool:=match gE ns h with
 |some _=>false
 |none=>true
def S.all(p:Nat->Bool):S->Bool
 |.ptr h _=>p h
 |.lV h _=>p h
 |.sl h _ _=>p h
 |.fn _ cz=>cz.all fun q=>p q.1
 |.bm _ h _=>p h
 |.Cu h=>p h
 |.mp h=>p h
 |_=>true
theorem S.Pd{p:Nat->Bool}{ρ ρ':aZ}{s:S}{y:Value}(hs:s.all p=true)(aU: ∀h,p h=true->ρ' h=ρ h)(h:s.Rel ρ y):s.Rel ρ' y:=by
 cases s with
 |ptr k o=>simp only[S.Rel]at h ⊢;rw[h,dU (aU k hs)]
 |lV k o=>simp only[S.Rel]at h ⊢;rw[h,dU (aU k hs)]
 |sl k off len=>simp only[S.Rel]at h ⊢;rw[aU k hs];exact h
 |bm f k o=>simp only[S.Rel]at h ⊢;rw[h,dU (aU k hs)]
 |Cu k=>simp only[S.Rel]at h ⊢;rw[aU k hs];exact h
 |mp k=>simp only[S.Rel]at h ⊢;rw[aU k hs];exact h
 |fn f cz=>
  simp only[S.Rel]at h ⊢
  rw[h]
  have hc: ∀q∈cz,p q.1=true:=by simpa [S.all,List.all_eq_true]using hs
  have:cz.map (fun p=>aB ρ p.1 p.2)=cz.map (fun p=>aB ρ' p.1 p.2):=List.map_congr_left fun q hq=>(dU (aU q.1 (hc q hq))).symm
  rw[this]
 |v x=>exact h
 |b c=>exact h
 |n k i=>exact h
 |any=>exact h
def BQ:Value->Bool
 |.slice none 0 0=>true
 |_=>false
theorem Cj{v:Value}(h:BQ v=true):v= .slice none 0 0:=by
 unfold BQ at h
 split at h
 ·rfl
 cases h
def CV(th:List (Nat×Nat))(ns:dV)(y x:S):Prop:=
 match x with
 |.sl h off len=>(match gE ns h with
  |some _=>(match y with|.v v=>BQ v=true/\off=0/\len=0|_=>False)
  |none=>CL y (.sl (lq th h) off len))
 |.v a=>CL y (.v a)
 |.b a=>CL y (.b a)
 |.n a b=>CL y (.n a b)
 |.any=>CL y .any
 |x=>x.all (notNil ns)=true/\CL y (x.lU (lq th))
theorem iV{ρ:aZ}{th:List (Nat×Nat)}{ns:dV}{h:Nat}(hn:notNil ns h=true):jf ρ th ns h=ρ (lq th h):=by
 unfold notNil at hn
 unfold jf
 split at hn
 ·cases hn
 rfl
theorem j9{ns:dV}{h:Nat}(hn:gE ns h=none):notNil ns h=true:=by unfold notNil;rw[hn]
theorem CV.rel{ρ:aZ}{th:List (Nat×Nat)}{ns:dV}{y x:S}{v:Value}(h:CV th ns y x)(hr:y.Rel ρ v):x.Rel (jf ρ th ns) v:=by
 have key: ∀x:S,x.all (notNil ns)=true->CL y (x.lU (lq th))->x.Rel (jf ρ th ns) v:=fun x h1 h2=>
  S.Pd h1 (fun k hk=>iV hk) (S.gm (h2.rel hr))
 cases x with
 |sl k off len=>
  simp only[CV]at h
  split at h
  ·rename_i s hs
   split at h
   ·obtain⟨h1,rfl,rfl⟩:=h
    obtain⟨rfl,_⟩:=hr
    rw[Cj h1]
    refine .inl ?_
    have e:jf ρ th ns k=⟨0,0,0,s,true⟩:=by unfold jf;rw[hs]
    rw[e]
    exact⟨rfl,rfl,rfl,rfl,rfl⟩
   exact h.elim
  rename_i hs
  exact key _ (j9 hs) h
 |v a=>exact key _ rfl h
 |b a=>exact key _ rfl h
 |n a c=>exact key _ rfl h
 |any=>exact key _ rfl h
 |ptr a c=>exact key _ h.1 h.2
 |lV a c=>exact key _ h.1 h.2
 |fn a c=>exact key _ h.1 h.2
 |bm f a c=>exact key _ h.1 h.2
 |Cu a=>exact key _ h.1 h.2
 |mp a=>exact key _ h.1 h.2
def vT(th:List (Nat×Nat))(ns:dV):List S->List S->Prop
 | [],[]=>True
 |y::ys,x::xs=>CV th ns y x/\vT th ns ys xs
 |_,_=>False
theorem vT.rel{ρ:aZ}{th:List (Nat×Nat)}{ns:dV}: ∀ {l l':List S} {v:List Value},vT th ns l l'->bt ρ l v->bt (jf ρ th ns) l' v
 | [],[],[],_,_=>trivial
 |_::_,_::_,_::_,h,hr=>⟨h.1.rel hr.1,vT.rel h.2 hr.2⟩
theorem vT.length{th:List (Nat×Nat)}{ns:dV}: ∀ {l l':List S},vT th ns l l'->l.length=l'.length
 | [],[],_=>rfl
 |_::_,_::_,h=>by simp[vT.length h.2]
def Lf(th:List (Nat×Nat))(ns:dV):T->T->Prop
 |.one y,.one x=>CV th ns y x
 |.agg l,.agg l'=>vT th ns l l'
 |_,_=>False
theorem Lf.rel{ρ:aZ}{th:List (Nat×Nat)}{ns:dV}{y x:T}{v:Value}(h:Lf th ns y x)(hr:y.Rel ρ v):x.Rel (jf ρ th ns) v:=by
 cases y<;>cases x<;>first|exact h.elim|exact CV.rel h hr|(obtain⟨ys,rfl,hl⟩:=hr;exact⟨ys,rfl,vT.rel h hl⟩)
def xg(th:List (Nat×Nat))(ns:dV):List T->List T->Prop
 | [],[]=>True
 |y::ys,x::xs=>Lf th ns y x/\xg th ns ys xs
 |_,_=>False
theorem xg.rel{ρ:aZ}{th:List (Nat×Nat)}{ns:dV}: ∀ {l l':List T} {v:List Value},xg th ns l l'->cD ρ l v->cD (jf ρ th ns) l' v
 | [],[],[],_,_=>trivial
 |_::_,_::_,_::_,h,hr=>⟨h.1.rel hr.1,xg.rel h.2 hr.2⟩
def OL(th:List (Nat×Nat))(ns:dV):X->X->Prop
 |.t y,.t x=>Lf th ns y x
 |.lv l,.lv l'=>xg th ns l l'
 |_,.uL=>True
 |_,_=>False
theorem OL.rel{ρ:aZ}{th:List (Nat×Nat)}{ns:dV}{y x:X}{v:Value}(h:OL th ns y x)(hr:y.Rel ρ v):x.Rel (jf ρ th ns) v:=by
 cases y<;>cases x<;>first|exact h.elim|exact Lf.rel h hr|(obtain⟨ys,rfl,hl⟩:=hr;exact⟨ys,rfl,xg.rel h hl⟩)|trivial
def QN(th:List (Nat×Nat))(ns:dV)(env:Env)(k:Nat)(x:X):Prop:=
 match env.get k with
 |some y=>OL th ns y x
 |none=>False
def sf(th:List (Nat×Nat))(ns:dV)(env:Env):Env->Prop
 | []=>True
 |(k,x)::l=>QN th ns env k x/\sf th ns env l
theorem sf.get{th:List (Nat×Nat)}{ns:dV}{env:Env}: ∀ {l:Env} {k:Nat} {x:X},sf th ns env l->l.get k=some x->∃y,env.get k=some y/\OL th ns y x
 | [],_,_,_,h=>by simp[Env.get]at h
 |(j,y)::l,k,x,he,h=>by
  simp only[Env.get,cond_eq_ite]at h
  split at h
  ·rename_i e;cases h;rw[<-Nat.eq_of_beq_eq_true e]
   have h2:=he.1
   unfold QN at h2
   split at h2
   ·rename_i z hz;exact⟨z,hz,h2⟩
   exact h2.elim
  exact sf.get he.2 h
theorem sf.tmps{ρ:aZ}{th:List (Nat×Nat)}{ns:dV}{env env':Env}{tmps:Array Value}(h:sf th ns env env')(ht:nf ρ env tmps):nf (jf ρ th ns) env' tmps:=by
 intro k x hx
 obtain⟨y,h1,h2⟩:=h.get hx
 obtain⟨v,h3,h4⟩:=ht k y h1
 exact⟨v,h3,h2.rel h4⟩
def zaw(th:List (Nat×Nat))(ns:dV):Option S->Option S->Prop
 |none,none=>True
 |some y,some x=>CV th ns y x
 |_,_=>False
def ou(th:List (Nat×Nat))(ns:dV)(y x:bd):Prop:=
 match y,x with
 |.box l sz e,.box l' jN e'=>vT th ns l l'/\sz=jN/\e=e'
 |.box l sz e,.row xs jN e' _=>fi l=some xs/\(sz=jN/\e=e')/\Nat.blt 0 sz=true
 |.row xs sz e ai,.row NK jN e' bQ=>xs=NK/\(sz=jN/\e=e')/\(bif bQ then ai else true)=true
 |.loop nt env ps a b st pe hd,.loop TX env' Xk a' b' st' Cw ln=>sf th ns env env'/\(nt=TX/\ps=Xk/\a=a'/\b=b'/\st=st'/\pe=Cw)/\(hd=lq th ln/\notNil ns ln=true)
 |.obj o,.obj o'=>o=o'
 |.fR l sz e,.fR l' jN e'=>vT th ns l l'/\sz=jN/\e=e'
 |.slot mh key val,.slot mh' key' val'=>(mh=lq th mh'/\notNil ns mh'=true)/\key=key'/\zaw th ns val val'
 |.iter mh a b c,.iter mh' a' b' c'=>(mh=lq th mh'/\notNil ns mh'=true)/\a=a'/\b=b'/\c=c'
 |_,.gone=>True
 |_,_=>False
theorem ou.ok{ρ:aZ}{th:List (Nat×Nat)}{ns:dV}{w:World}{h k:Nat}{y x:bd}(hl:ou th ns y x)(he:jf ρ th ns h=ρ k)(hr:bz ρ w k y):bz (jf ρ th ns) w h x:=by
 unfold ou at hl
 split at hl
 ·obtain⟨h1,rfl,rfl⟩:=hl
  obtain⟨g1,g2,g3,ys,g4,g5⟩:=hr
  refine⟨by rw[he];exact g1,by rw[he];exact g2,by rw[he,<-vT.length h1];exact g3,ys,by rw[he];exact g4,h1.rel g5⟩
 ·rename_i l sz e xs jN e' ai
  obtain⟨h1,⟨rfl,rfl⟩,h2⟩:=hl
  have h2:0<sz:=fo h2
  obtain⟨g1,g2,⟨g3,g6,g7⟩,ys,g4,g5⟩:=hr
  have:=dA h1 g5
  subst this
  cases ai with
  |true=>exact⟨by rw[he];exact g3,bt.one g5,.inr ⟨by rw[he];exact g1,by rw[he];exact g2,ys,by rw[he];exact g4,⟨by rw[he,g6,g5.length],by rw[he];exact g7 (by omega)⟩,List.prefix_refl _⟩⟩
  |false=>exact⟨by rw[he];exact g3,bt.one g5,.inr ⟨by rw[he];exact g1,fun i x hx=>by rw[he];simp[World.cell?,g4,g2,hx]⟩⟩
 ·rename_i xs sz e ai NK jN e' bQ
  obtain⟨rfl,⟨rfl,rfl⟩,h2⟩:=hl
  cases bQ with
  |true=>
   simp only[cond_true]at h2
   subst h2
   have:=hr
   simp only[bz]at this ⊢
   rw[he];exact this
  |false=>
   obtain⟨q1,q2⟩:=o6 hr
   have e8:(ρ k).sz=sz:=by cases ai<;>exact hr.1
   have RS:((ρ k).nil=true/\(ρ k).cap=0/\xs= [])\/(ρ k).nil=false:=by
    cases ai
    ·rcases hr.2.2 with h3|h3
     ·exact .inl h3
     exact .inr h3.1
    rcases hr.2.2 with h3|h3
    ·exact .inl h3
    exact .inr h3.1
   refine⟨by rw[he];exact e8,q1,?_⟩
   rcases RS with h3|h3
   ·exact .inl (by rw[he];exact h3)
   exact .inr ⟨by rw[he];exact h3,fun i x hx=>by rw[he];exact q2 i x hx⟩
 ·obtain⟨h1,⟨rfl,rfl,rfl,rfl,rfl,rfl⟩,rfl,h3⟩:=hl
  obtain⟨g1,r,g2,g3,g4,g5,g6,g7,g8,g9,IG⟩:=hr
  exact⟨by rw[he];exact g1,r,by rw[he];exact g2,g3,g4,g5,g6,g7,by rw[iV h3];exact g8,g9,h1.tmps IG⟩
 ·subst hl;exact⟨by rw[he];exact hr.1,by rw[he];exact hr.2⟩
 ·obtain⟨h1,rfl,rfl⟩:=hl
  obtain⟨g1,g2,g3,ys,zs,g4,g5,g6,g7⟩:=hr
  exact⟨by rw[he];exact g1,by rw[he];exact g2,by rw[he];exact g3,ys,zs,by rw[he];exact g4,by rw[he];exact g5,g6,h1.rel g7⟩
 ·obtain⟨⟨rfl,h1⟩,rfl,h2⟩:=hl
  obtain⟨g1,g2,es,c,g3,g4,g5⟩:=hr
  refine⟨by rw[he];exact g1,by rw[he,iV h1];exact g2,es,c,by rw[he];exact g3,g4,?_⟩
  rename_i key val mh' val'
  cases key with
  |none=>trivial
  |some j=>
   cases val<;>cases val'<;>first
    |exact h2.elim
    |exact g5
    |(obtain⟨y,g6,g7⟩:=g5;exact⟨y,g6,CV.rel h2 g7⟩)
 ·obtain⟨⟨rfl,h1⟩,rfl,rfl,rfl⟩:=hl
  exact⟨by rw[he];exact hr.1,by rw[he,iV h1];exact hr.2⟩
 ·trivial
 exact hl.elim
theorem ou.ai{th:List (Nat×Nat)}{ns:dV}{x y:bd}(hl:ou th ns y x)(ho:x.ai=true):y.ai=true:=by
 unfold ou at hl
 split at hl
 ·rfl
 ·rfl
 ·obtain⟨_,_,h⟩:=hl
  simp only[bd.ai]at ho ⊢
  subst ho
  exact h
 ·rfl
 ·subst hl;exact ho
 ·rfl
 ·rfl
 ·rfl
 ·cases ho
 exact hl.elim
theorem ou.af{th:List (Nat×Nat)}{ns:dV}{x y:bd}(hl:ou th ns y x)(ho:x.af=true):y.af=true:=by
 unfold ou at hl
 split at hl
 ·rfl
 ·rfl
 ·rename_i xs sz e ai NK jN e' bQ
  obtain⟨rfl,_,h⟩:=hl
  cases ai
  ·cases bQ
   ·exact ho
   cases h
  rfl
 ·rfl
 ·rfl
 ·rfl
 ·rfl
 ·rfl
 ·cases ho
 exact hl.elim
theorem MH{r r':bd}(h: ∀a b c a' b' c',r= .slot a b c->r'= .slot a' b' c'->b=b'):gR r r'=false:=by
 cases r<;>cases r'<;>first
  |rfl
  |(simp only[gR,Bool.not_eq_false',beq_iff_eq];exact h _ _ _ _ _ _ rfl rfl)
theorem ou.slot{th:List (Nat×Nat)}{ns:dV}{x:bd}{a:Nat}{b:Option Nat}{c:Option S}(hl:ou th ns (.slot a b c) x)(ho:x.af=true): ∃a' c',x= .slot a' b c':=by
 cases x<;>first
  |(exact hl.elim)
  |(cases ho;done)
  |(obtain⟨_,rfl,_⟩:=hl;exact⟨_,_,rfl⟩)
theorem ou.gR{th:List (Nat×Nat)}{ns:dV}{x y x' y':bd}(hl:ou th ns y x)(vH:ou th ns y' x')(ho:x.af=true)(wL:x'.af=true)(h:gR x x'=false):gR y y'=false:=by
 refine MH fun a b c a' b' c' e e'=>?_
 subst e;subst e'
 obtain⟨p,q,rfl⟩:=hl.slot ho
 obtain⟨p',q',rfl⟩:=vH.slot wL
 simpa [SE.gR]using h
def QP(th:List (Nat×Nat))(ns:dV)(aj:List (Nat×bd))(h:Nat)(r:bd):Prop:=
 match aK aj h with
 |some y=>ou th ns y r
 |none=>False
def Fz(s:Nat):bd->Prop
 |.row xs sz _ _=>xs= []/\s=sz
 |_=>False
def z9(th:List (Nat×Nat))(ns:dV)(aj:List (Nat×bd)):List (Nat×bd)->Prop
 | []=>True
 |(h,r)::l=>(match gE ns h with
  |some s=>Fz s r
  |none=>QP th ns aj (lq th h) r)/\z9 th ns aj l
def KQ(n:Nat):List (Nat×bd)->Bool
 | []=>true
 |(h,r)::l=>bif Nat.blt h n then(bif r.sc n then KQ n l else false)else false
def iN(th:List (Nat×Nat))(ns:dV):List Nat->List (Nat×bd)->Bool
 |_,[]=>true
 |seen,(h,_)::l=>match gE ns h with
  |some _=>iN th ns seen l
  |none=>bif G9 (lq th h) seen then iN th ns (lq th h::seen) l else false
def xu(th:List (Nat×Nat))(ns:dV)(n:Nat):List lp->Bool
 | []=>true
 |h::l=>bif Nat.blt h.hd n&&Nat.beq (lq th h.hd) h.hd&&notNil ns h.hd then xu th ns n l else false
def pb(p:Nat):dV->Bool
 | []=>true
 |(a,_)::l=>bif Nat.ble p a then pb p l else false
structure SA(p:Nat)(th:List (Nat×Nat))(ns:dV)(env:Env)(m:M)(env':Env)(m':M):Prop where
 y8:(Env.sc m'.nh env'&&KQ m'.nh m'.aj&&iN th ns [] m'.aj&&xi p th&&pb p ns&&Nat.ble p m'.nh&&xu th ns m'.nh m'.ds)=true
 e:sf th ns env env'
 r:z9 th ns m.aj m'.aj
 ds:m.ds=m'.ds
theorem xI{n:Nat}: ∀ {l:List (Nat×bd)} {k:Nat} {x:bd},KQ n l=true->aK l k=some x->k<n/\x.sc n=true
 | [],_,_,_,h=>by simp[aK]at h
 |(j,y)::l,k,x,he,h=>by
  simp only[KQ,cond_eq_ite]at he
  split at he
  ·rename_i h1
   split at he
   ·rename_i h2
    simp only[aK,cond_eq_ite]at h
    split at h
    ·rename_i e;cases h;rw[<-Nat.eq_of_beq_eq_true e];exact⟨fo h1,h2⟩
    exact xI he h
   cases he
  cases he
theorem z9.get{th:List (Nat×Nat)}{ns:dV}{aj:List (Nat×bd)}: ∀ {l:List (Nat×bd)} {k:Nat} {x:bd},z9 th ns aj l->aK l k=some x->
  (∃s,gE ns k=some s/\Fz s x)\/(gE ns k=none/\∃y,aK aj (lq th k)=some y/\ou th ns y x)
 | [],_,_,_,h=>by simp[aK]at h
 |(j,y)::l,k,x,he,h=>by
  simp only[aK,cond_eq_ite]at h
  split at h
  ·rename_i e;cases h;rw[<-Nat.eq_of_beq_eq_true e]
   have h1:=he.1
   split at h1
   ·rename_i s hs;exact .inl ⟨s,hs,h1⟩
   rename_i hs
   refine .inr ⟨hs,?_⟩
   unfold QP at h1
   split at h1
   ·rename_i z hz;exact⟨z,hz,h1⟩
   exact h1.elim
  exact z9.get he.2 h
theorem jH{th:List (Nat×Nat)}{ns:dV}: ∀ {l:List (Nat×bd)} {seen:List Nat},iN th ns seen l=true->(∀p∈l,gE ns p.1=none->lq th p.1∉seen)/\
  ∀h h' r r',aK l h=some r->aK l h'=some r'->h≠h'->gE ns h=none->gE ns h'=none->lq th h≠lq th h'
 | [],_,_=>⟨by simp,fun h h' r r' e=>by simp[aK]at e⟩
 |(k,y)::l,seen,hk=>by
  have mem: ∀ {l:List (Nat×bd)} {h:Nat} {r:bd},aK l h=some r->∃p∈l,p.1=h:=by
   intro l
   induction l with
   |nil=>intro h r e;simp[aK]at e
   |cons q l ih=>
    intro h r e
    obtain⟨j,z⟩:=q
    simp only[aK,cond_eq_ite]at e
    split at e
    ·rename_i he;exact⟨(j,z),by simp,Nat.eq_of_beq_eq_true he⟩
    obtain⟨p,hp,hq⟩:=ih e;exact⟨p,by simp[hp],hq⟩
  simp only[iN,cond_eq_ite]at hk
  split at hk
  ·rename_i s hs
   obtain⟨h2,h3⟩:=jH hk
   refine⟨?_,?_⟩
   ·intro p hp hn
    rcases List.mem_cons.1 hp with rfl|hp
    ·rw[hs]at hn;cases hn
    exact h2 p hp hn
   intro h h' r r' e1 e2 cb n1 n2
   simp only[aK,cond_eq_ite]at e1 e2
   split at e1
   ·rename_i a;rw[<-Nat.eq_of_beq_eq_true a,hs]at n1;cases n1
   split at e2
   ·rename_i a;rw[<-Nat.eq_of_beq_eq_true a,hs]at n2;cases n2
   exact h3 h h' r r' e1 e2 cb n1 n2
  rename_i hs
  split at hk
  ·rename_i h1
   obtain⟨h2,h3⟩:=jH hk
   refine⟨?_,?_⟩
   ·intro p hp hn
    rcases List.mem_cons.1 hp with rfl|hp
    ·exact yj h1
    intro hc;exact h2 p hp hn (by simp[hc])
   intro h h' r r' e1 e2 cb n1 n2 he
   simp only[aK,cond_eq_ite]at e1 e2
   split at e1<;>split at e2
   ·rename_i a b;exact cb ((Nat.eq_of_beq_eq_true a).symm.trans (Nat.eq_of_beq_eq_true b))
   ·rename_i a b
    obtain⟨p,hp,rfl⟩:=mem e2
    exact h2 p hp n2 (by rw[<-he,<-Nat.eq_of_beq_eq_true a];simp)
   ·rename_i a b
    obtain⟨p,hp,rfl⟩:=mem e1
    exact h2 p hp n1 (by rw[he,<-Nat.eq_of_beq_eq_true b];simp)
   exact h3 h h' r r' e1 e2 cb n1 n2 he
  cases hk
theorem qQ{p:Nat}: ∀ {ns:dV},pb p ns=true->∀ {h:Nat},h<p->gE ns h=none
 | [],_,_,_=>rfl
 |(a,s)::l,hf,h,hh=>by
  simp only[pb,cond_eq_ite]at hf
  split at hf
  ·rename_i h1
   simp only[gE,cond_eq_ite]
   rw[if_neg,qQ hf hh]
   intro e
   have:=Nat.eq_of_beq_eq_true e
   have:=Nat.le_of_ble_eq_true h1
   omega
  cases hf
theorem vC{th:List (Nat×Nat)}{ns:dV}{n:Nat}: ∀ {l:List lp},xu th ns n l=true->∀h∈l,h.hd<n/\lq th h.hd=h.hd/\notNil ns h.hd=true
 | [],_=>by simp
 |k::l,hk=>by
  simp only[xu,cond_eq_ite]at hk
  split at hk
  ·rename_i h1
   simp only[Bool.and_eq_true]at h1
   intro h hh
   rcases List.mem_cons.1 hh with rfl|hh
   ·exact⟨fo h1.1.1,Nat.eq_of_beq_eq_true h1.1.2,h1.2⟩
   exact vC hk h hh
  cases hk
theorem rC{ρ:aZ}{th:List (Nat×Nat)}{ns:dV}{h:Nat}(hn:(jf ρ th ns h).nil=false):gE ns h=none:=by
 unfold jf at hn
 split at hn
 ·cases hn
 assumption
theorem SA.okL{P:Program}{nt B p:Nat}{w0:World}{ρ:aZ}{th:List (Nat×Nat)}{ns:dV}{env env':Env}{m m':M}{a:Act}{w:World}(h:SA p th ns env m env' m')(aL:mm P nt B w0 ρ env m a w):
  mm P nt B w0 (jf ρ th ns) env' m' a w/\p<=m'.nh/\an (fun h=>h<p) ρ (jf ρ th ns):=by
 have hk:=h.y8
 simp only[Bool.and_eq_true]at hk
 obtain⟨⟨⟨⟨⟨⟨k1,k2⟩,k3⟩,k4⟩,k5⟩,k6⟩,k7⟩:=hk
 have hE:=aL.ok.env ρ (an.refl _ _)
 have hM:=aL.ok.mem ρ (an.refl _ _)
 refine⟨⟨⟨?_,?_,aL.ok.size⟩,?_⟩,Nat.le_of_ble_eq_true k6,fun k hk=>?_⟩
 ·intro ρ' aU k x hx
  obtain⟨z,g2,g5⟩:=h.e.get hx
  obtain⟨y,g3,g4⟩:=hE k _ g2
  exact⟨y,g3,X.bY (Env.Fp k1 hx) (fun k hk=>aU k hk) (g5.rel g4)⟩
 ·intro ρ' aU
  have bn: ∀k r,m'.reg k=some r->k<m'.nh/\r.sc m'.nh=true/\((∃s,gE ns k=some s/\Fz s r)\/(gE ns k=none/\∃y,m.reg (lq th k)=some y/\ou th ns y r)):=fun k r hr=>
   ⟨(xI k2 hr).1,(xI k2 hr).2,h.r.get hr⟩
  refine⟨?_,?_,?_,hM.below,hM.hB⟩
  ·intro k r hr
   obtain⟨g1,g2,g3⟩:=bn k r hr
   refine mH g2 (fun k hk=>aU k hk) g1 ?_
   rcases g3 with⟨s,g3,g4⟩|⟨g3,y,g4,g5⟩
   ·have e:jf ρ th ns k=⟨0,0,0,s,true⟩:=by unfold jf;rw[g3]
    cases r with
    |row xs sz et ai=>
     obtain⟨rfl,rfl⟩:=g4
     cases ai
     ·exact⟨by rw[e],by simp,.inl ⟨by rw[e],by rw[e],rfl⟩⟩
     exact⟨by rw[e],by simp,.inl ⟨by rw[e],by rw[e],rfl⟩⟩
    |_=>exact g4.elim
   exact g5.ok (iV (j9 g3)) (hM.aj _ _ g4)
  ·intro k k' r r' hr lX cb ht ho hl hn oz
   obtain⟨g1,g2,g3⟩:=bn k r hr
   obtain⟨q1,q2,q3⟩:=bn k' r' lX
   rw[aU k g1]at hn ⊢
   rw[aU k' q1]at oz ⊢
   have n1:=rC hn
   have n2:=rC oz
   rcases g3 with⟨s,g3,g4⟩|⟨g3,y,g4,g5⟩
   ·rw[g3]at n1;cases n1
   rcases q3 with⟨s,q3,q4⟩|⟨q3,y',q4,q5⟩
   ·rw[q3]at n2;cases n2
   rw[iV (j9 n1)]at hn ⊢
   rw[iV (j9 n2)]at oz ⊢
   exact hM.fG _ _ _ _ g4 q4 ((jH k3).2 k k' r r' hr lX cb n1 n2) (ou.gR g5 q5 (bd.dp ho) hl ht) (g5.ai ho) (q5.af hl) hn oz
  intro k r hr ho hn
  obtain⟨g1,g2,g3⟩:=bn k r hr
  rw[aU k g1]at hn ⊢
  have n1:=rC hn
  rcases g3 with⟨s,g3,g4⟩|⟨g3,y,g4,g5⟩
  ·rw[g3]at n1;cases n1
  rw[iV (j9 n1)]at hn ⊢
  exact hM.base _ _ g4 (g5.ai ho) hn
 ·intro ρ' aU
  rw[aL.ds ρ (an.refl _ _),h.ds]
  refine List.map_congr_left fun k hk=>?_
  obtain⟨q1,q2,q3⟩:=vC k7 k hk
  exact(lp.AM ((aU k.hd q1).trans (iV q3)) q2).symm
 have:=qQ k5 hk
 rw[iV (j9 this),Dm k4 hk]
end Go.SE

namespace Go.SE
open Go Go.RowKit
variable [aG]
def Ln(y x:S)(acc:List (Nat×Nat)):List (Nat×Nat):=
 match x,y with
 |.sl h _ _,.sl k _ _=>(h,k)::acc
 |.ptr h _,.ptr k _=>(h,k)::acc
 |.lV h _,.lV k _=>(h,k)::acc
 |.lV h _,.ptr k _=>(h,k)::acc
 |.bm _ h _,.bm _ k _=>(h,k)::acc
 |.Cu h,.Cu k=>(h,k)::acc
 |.mp h,.mp k=>(h,k)::(h+1,k+1)::(h+2,k+2)::(h+3,k+3)::(h+4,k+4)::(h+5,k+5)::(h+6,k+6)::(h+7,k+7)::acc
 |.fn _ l,.fn _ l'=>(List.zip (l.map (·.1)) (l'.map (·.1)))++acc
 |_,_=>acc
def Vk(y x:S)(acc:List Nat):List Nat:=
 match x,y with
 |.sl h _ _,.v (.slice none 0 0)=>h::acc
 |_,_=>acc
def G7:List S->List S->List (Nat×Nat)->List (Nat×Nat)
 |y::ys,x::xs,acc=>Ln y x (G7 ys xs acc)
 |_,_,acc=>acc
def RD:List S->List S->List Nat->List Nat
 |y::ys,x::xs,acc=>Vk y x (RD ys xs acc)
 |_,_,acc=>acc
def Ql:T->T->List (Nat×Nat)->List (Nat×Nat)
 |.one y,.one x,acc=>Ln y x acc
 |.agg l,.agg l',acc=>G7 l l' acc
 |_,_,acc=>acc
def Vj:T->T->List Nat->List Nat
 |.one y,.one x,acc=>Vk y x acc
 |.agg l,.agg l',acc=>RD l l' acc
 |_,_,acc=>acc
def iz:List T->List T->List (Nat×Nat)->List (Nat×Nat)
 |y::ys,x::xs,acc=>Ql y x (iz ys xs acc)
 |_,_,acc=>acc
def Qq:List T->List T->List Nat->List Nat
 |y::ys,x::xs,acc=>Vj y x (Qq ys xs acc)
 |_,_,acc=>acc
def Ws:X->X->List (Nat×Nat)->List (Nat×Nat)
 |.t y,.t x,acc=>Ql y x acc
 |.lv l,.lv l',acc=>iz l l' acc
 |_,_,acc=>acc
def Zi:X->X->List Nat->List Nat
 |.t y,.t x,acc=>Vj y x acc
 |.lv l,.lv l',acc=>Qq l l' acc
 |_,_,acc=>acc
def C1(env:Env):Env->List (Nat×Nat)->List (Nat×Nat)
 | [],acc=>acc
 |(k,x)::l,acc=>match env.get k with
  |some y=>Ws y x (C1 env l acc)
  |none=>C1 env l acc
def Oy(env:Env):Env->List Nat->List Nat
 | [],acc=>acc
 |(k,x)::l,acc=>match env.get k with
  |some y=>Zi y x (Oy env l acc)
  |none=>Oy env l acc
def uS(aj fQ:List (Nat×bd)):List (Nat×Nat)->List (Nat×Nat)->List (Nat×Nat)
 | [],acc=>acc
 |(h,k)::l,acc=>match aK fQ h,aK aj k with
  |some (.box c' _ _),some (.box c _ _)=>G7 c c' (uS aj fQ l acc)
  |some (.fR c' _ _),some (.fR c _ _)=>G7 c c' (uS aj fQ l acc)
  |some (.slot _ _ (some c')),some (.slot _ _ (some c))=>Ln c c' (uS aj fQ l acc)
  |some (.loop _ e' _ _ _ _ _ _),some (.loop _ e _ _ _ _ _ _)=>C1 e e' (uS aj fQ l acc)
  |_,_=>uS aj fQ l acc
def KX(aj fQ:List (Nat×bd)):List (Nat×Nat)->List Nat->List Nat
 | [],acc=>acc
 |(h,k)::l,acc=>match aK fQ h,aK aj k with
  |some (.box c' _ _),some (.box c _ _)=>RD c c' (KX aj fQ l acc)
  |some (.loop _ e' _ _ _ _ _ _),some (.loop _ e _ _ _ _ _ _)=>Oy e e' (KX aj fQ l acc)
  |_,_=>KX aj fQ l acc
def FD(h:Nat):List (Nat×Nat)->Bool
 | []=>false
 |(k,_)::l=>bif Nat.beq k h then true else FD h l
def dedup:List (Nat×Nat)->List (Nat×Nat)->List (Nat×Nat)
 | [],acc=>acc
 |(h,k)::l,acc=>bif FD h acc then dedup l acc else dedup l ((h,k)::acc)
def YY(aj:List (Nat×bd))(h:Nat):Nat:=
 match aK aj h with
 |some (.row _ sz _ _)=>sz
 |_=>0
def Fy(aj:List (Nat×bd)):List Nat->dV->dV
 | [],acc=>acc
 |h::l,acc=>bif FD h acc then Fy aj l acc else Fy aj l ((h,YY aj h)::acc)
def BM:List (Nat×Nat)->List (Nat×Nat)
 | []=> []
 |(h,k)::l=>bif Nat.beq h k then BM l else(h,k)::BM l
def M.wi(m:M)(k:List (Nat×bd)->Nat->List lp->M):M:=
 match m with
 |⟨r,n,d⟩=>k r n d
theorem M.TF(m:M)(k:List (Nat×bd)->Nat->List lp->M):m.wi k=k m.aj m.nh m.ds:=by cases m;rfl
def zN:List (Nat×bd)->List (Nat×Nat)
 | []=> []
 |(h,.loop ..)::l=>(h,h)::zN l
 |(h,.box ..)::l=>(h,h)::zN l
 |_::l=>zN l
def TK(env:Env)(aj:List (Nat×bd))(env':Env)(fQ:List (Nat×bd)):List (Nat×Nat):=
 let l0:=C1 env env' []
 let l1:=uS aj fQ (l0++zN fQ) []
 let l2:=uS aj fQ l1 []
 BM (dedup (l0++l1++l2) [])
def TL(env:Env)(aj:List (Nat×bd))(env':Env)(fQ:List (Nat×bd)):dV:=
 let l0:=C1 env env' []
 let l1:=uS aj fQ (l0++zN fQ) []
 Fy fQ (Oy env env' (KX aj fQ (l0++zN fQ) (KX aj fQ l1 []))) []
def KM(l:List (Nat×Nat))(k:List (Nat×Nat)->Prop):Prop:=
 match l with
 | []=>k []
 |(a,b)::l=>aY a fun a=>aY b fun b=>KM l fun l=>k ((a,b)::l)
theorem Hy: ∀ (l:List (Nat×Nat)) (k:List (Nat×Nat)->Prop),KM l k=k l
 | [],_=>rfl
 |(a,b)::l,k=>by simp[KM,aQ,Hy l]
def BS(r:bd)(k:bd->Prop):Prop:=
 match r with
 |.box l sz e=>jC l fun l=>aY sz fun sz=>k (.box l sz e)
 |.row xs sz e ai=>k (.row xs sz e ai)
 |.obj o=>k (.obj o)
 |.loop nt env ps a b st pe hd=>Env.force env fun env=>aY hd fun hd=>k (.loop nt env ps a b st pe hd)
 |.fR l sz e=>jC l fun l=>aY sz fun sz=>k (.fR l sz e)
 |.slot mh key val=>aY mh fun mh=>wz key fun key=>Br val fun val=>k (.slot mh key val)
 |.iter mh a b c=>aY mh fun mh=>k (.iter mh a b c)
 |.gone=>k .gone
theorem Gx(r:bd)(k:bd->Prop):BS r k=k r:=by cases r<;>simp[BS,dP,aQ,Env.force_eq,AI,yv]
def po:List (Nat×bd)->(List (Nat×bd)->Prop)->Prop
 | [],k=>k []
 |(h,r)::l,k=>aY h fun h=>BS r fun r=>po l fun l=>k ((h,r)::l)
theorem pI: ∀ (l:List (Nat×bd)) (k:List (Nat×bd)->Prop),po l k=k l
 | [],_=>rfl
 |(h,r)::l,k=>by simp[po,aQ,Gx,pI l]
structure Entails(p:Nat)(env:Env)(m:M)(env':Env)(m':M):Prop where
 out: ∃th ns,SA p th ns env m env' m'
structure bO(p:Nat)(th:List (Nat×Nat))(ns:dV)(env:Env)(m:M)(env':Env)(m':M):Prop where
 e:sf th ns env env'
 r:z9 th ns m.aj m'.aj
def De(p:Nat)(env:Env)(m:M)(env':Env)(m':M):Prop:=
 m.cs fun rs nh ds=>m'.cs fun N7 N8 On=>Env.force env' fun env'=>po N7 fun N7=>aY N8 fun N8=>
  KM (TK env rs env' N7) fun th=>KM (TL env rs env' N7) fun ns=>
   Unit->(Env.sc N8 env'&&KQ N8 N7&&iN th ns [] N7&&xi p th&&pb p ns&&Nat.ble p N8&&xu th ns N8 On)=true/\ds=On/\bO p th ns env ⟨rs,nh,ds⟩ env' ⟨N7,N8,On⟩
theorem nQ{p:Nat}{env:Env}{m:M}{env':Env}{m':M}(h:De p env m env' m'):Entails p env m env' m':=by
 unfold De at h
 simp only[M.cy,Env.force_eq,pI,aQ,Hy]at h
 obtain⟨h1,h2,h3⟩:=h ()
 exact⟨_,_,h1,h3.e,h3.r,h2⟩
theorem tp{C:Ctx}{c:Code}{Q:Exit->Env->M->Prop}{env env':Env}{m m':M}(h:Entails C.p env m env' m')(hs:nZ C c Q env' m'):nZ C c Q env m:=by
 obtain⟨th,ns,h⟩:=h.out
 refine⟨fun hg B w0 ρ a w aL hp=>?_⟩
 obtain⟨h1,h2,h3⟩:=h.okL aL
 have:=hs.out hg B w0 _ a w h1 h2
 rw[Ctx.nW hg h3]at this
 refine fp this ?_
 intro e a w hh
 cases e with
 |normal=>exact pF hh fun e a w h=>After.from h3 h
 |exit id=>exact After.from h3 hh
 |goto l=>exact After.from h3 hh
 |ret=>exact After.from h3 hh
 |panic ch=>exact After.from h3 hh
 |outgrown=>exact After.from h3 hh
theorem Cd{C:Ctx}{c:Code}{Q:Exit->Env->M->Prop}{G:Env->M->Prop}{env:Env}{m:M}(hG: ∀env m,G env m->nZ C c Q env m)
  (h:se C c (fun e env m=>match e with|.normal=>G env m|e=>Q e env m) env m):nZ C c Q env m:=by
 refine⟨fun hg B w0 ρ a w aL hp=>fp (kI hg c h B w0 ρ a w aL hp) ?_⟩
 rintro e a' w' ⟨ρ',env',m',h3,h4,h5,h6⟩
 cases e with
 |normal=>
  have:=(hG _ _ h6).out hg B w0 ρ' a' w' h5 h4
  rw[Ctx.nW hg h3]at this
  exact pF (pN this) fun e a w h=>After.from h3 h
 |exit id=>exact⟨ρ',env',m',h3,h4,h5,h6⟩
 |goto l=>exact⟨ρ',env',m',h3,h4,h5,h6⟩
 |ret=>exact⟨ρ',env',m',h3,h4,h5,h6⟩
 |panic ch=>exact⟨ρ',env',m',h3,h4,h5,h6⟩
 |outgrown=>exact⟨ρ',env',m',h3,h4,h5,h6⟩
structure Ht{ι:Type}(p:Nat)(μ:ι->Nat)(I:ι->Prop)(E:ι->Env)(R:ι->M)(i:ι)(env:Env)(m:M):Prop where
 out: ∃j,I j/\μ j<μ i/\Entails p env m (E j) (R j)
theorem again{ι:Type}{p:Nat}{μ:ι->Nat}{I:ι->Prop}{E:ι->Env}{R:ι->M}{i:ι}{env:Env}{m:M}(j:ι)(h1:I j)(h2:μ j<μ i)(h3:De p env m (E j) (R j)):Ht p μ I E R i env m:=⟨j,h1,h2,nQ h3⟩
theorem M9{C:Ctx}{c:Code}{Q:Exit->Env->M->Prop}{env:Env}{m:M}{ι:Type}(μ:ι->Nat)(I:ι->Prop)(E:ι->Env)(R:ι->M)(i0:ι)(h0:I i0)(qo:Entails C.p env m (E i0) (R i0))
  (wZ: ∀i,I i->se C c (fun e env m=>match e with|.normal=>Unit->Ht C.p μ I E R i env m|e=>Q e env m) (E i) (R i)):nZ C c Q env m:=by
 have key: ∀n i,μ i=n->I i->nZ C c Q (E i) (R i):=by
  intro n
  induction n using Nat.strongRecOn with
  |ind n ih=>
   intro i hi hI
   refine Cd (G:=fun env m=>Unit->Ht C.p μ I E R i env m) (fun env m hG=>?_) ?_
   ·obtain⟨j,h1,h2,h3⟩:=(hG ()).out
    exact tp h3 (ih (μ j) (by omega) j rfl h1)
   exact wZ i hI
 exact tp qo (key _ i0 rfl h0)
def Vn(h:Nat):List Nat->Bool
 | []=>false
 |k::l=>bif Nat.beq k h then true else Vn h l
def kG:List (Nat×bd)->List Nat->List (Nat×bd)
 | [],_=> []
 |(k,x)::l,s=>bif Vn k s then kG l s else(match x with|.gone=>kG l (k::s)|x=>(k,x)::kG l (k::s))
def C4:List (Nat×bd)->List Nat
 | []=> []
 |(k,_)::l=>k::C4 l
end Go.SE
