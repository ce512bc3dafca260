/- A range over a function whose iterator writes a cell of its own (a captured variable): the statement's law. No program in sight. -/
import Derived.Test.YtfadikchijkcfaaGreatDoorParsePure
import Derived.RangeFuncNested
import Derived.RangeFuncBound
import Derived.RangeFuncCalls
import Derived.RangeFuncLeaves
set_option linter.unusedVariables false
set_option linter.unusedSectionVars false
set_option linter.unusedSimpArgs false
namespace Go.Proofs.YtfadikchijkcfaaGreatDoor
open Go Go.RowKit
structure Y5S(B bx:Nat){β:Type}(I:β→World→Prop):Prop where
 alloc: ∀s A (o:Obj),I s A→I s (A.alloc o)
 put: ∀s A l (o o':Obj),I s A→B≤l→A.heap[l]?=some o→o.isCells=false→I s (A.putObj l o')
 set: ∀s A u,I s A→I s (A.setCell ⟨bx,0,none⟩ u)
theorem Y3y(W:World)(bx k:Nat)(u:Value)(h:k≠bx):(W.setCell ⟨bx,0,none⟩ u).heap[k]?=W.heap[k]?:=YeN W ⟨bx,0,none⟩ u k h
theorem Yd1{P:Program}{n:Nat}{α:Type}{g:Operand}{ps:Array Tmp}{assign body:Code}{Q:Exit→Act→World→Prop}{a:Act}{w:World}
 {gf:Nat} {lb:Array Value} (hg:a.eval g= .func (.func gf) #[] lb) (eg: ∀args w,(callFunc gf args).run P w= .ok (.enter gf args) w)
 {encs:α→Array Value} (hps: ∀x,(encs x).size=ps.size) (bx:Nat) (hbx:bx<w.heap.size) (Kp:World→World→Prop)
 (hKt: ∀A B C:World,Kp A B→Kp B C→Kp A C) (hKb: ∀ (W:World) (l:Nat) (o:Obj),w.heap.size≤l→Kp W (W.putObj l o)) (xs:List α)
 (hseq: ∀ (l:Nat) (J Jx:List α→World→Prop) (W:World),Below w.heap.size w W→(∀s A u,J s A→J s (A.setCell ⟨bx,0,none⟩ u))→(∀s A u,Jx s A→Jx s (A.setCell ⟨bx,0,none⟩ u))→
   (∀pre x W1,J pre W1→pre ++ [x] <+: xs→YieldAt Fence.wide (n - 1 - 1) P l (encs x) W1 fun e W'=>(e= .returned (.bool true)∧J (pre ++ [x]) W'∧Kp W1 W')∨(e= .returned (.bool false)∧Jx (pre ++ [x]) W'))→
   J [] W→CallsIn Fence.wide (n - 1) P gf (#[.func (.yield l) #[] #[]] ++ lb) W fun e W'=>(∃v,e= .returned v)∧(J xs W'∨ ∃pre,Jx pre W'))
 (I:List α→World→Prop) (Ix:Code→List α→World→Prop) (hI:Y5S w.heap.size bx I) (hIx: ∀c,Y5S w.heap.size bx (Ix c)) (h0:I [] w) (a₁:α→Act)
 (hassign: ∀ (l:Nat) (x:α) (W:World) (K:Act→World→Prop),K (a₁ x) W→
   assign.wpIn (Fence.wide.inRound l) (n - 1 - 1) P (Exit.then K (fun _ _ _=>False)) {tmps:=(ps.zip (encs x)).foldl (fun t (p,v)=>t.setIfInBounds p v) a.tmps,defers:= []} W)
 (hbody: ∀ (l:Nat) (pre:List α) (x:α) (W:World),I pre W→pre ++ [x] <+: xs→body.wpIn (Fence.wide.inRound l) (n - 1 - 1) P (ownPostK Kp I Ix (pre ++ [x]) W) (a₁ x) W)
 (hdone: ∀ (D:Nat) (W:World),w.heap.size≤D→I xs W→W.heap[D]?=some (.deferred (some []))→Q .normal {a with defers:= {target:= .collected D,args:= #[]} :: a.defers} W)
 (hstop: ∀ (D:Nat) (c:Code) (pre:List α) (W:World),w.heap.size≤D→Ix c pre W→W.heap[D]?=some (.deferred (some []))→c.wpIn Fence.wide n P Q {a with defers:= {target:= .collected D,args:= #[]} :: a.defers} W):
 (Code.rangeFunc g ps assign body).wpIn Fence.wide n P Q a w:=by
 refine wpIn_rangeFunc fun fn hfn=> ?_
 generalize hL:w.heap.size+1=L
 let rec_:LoopState→Option Code→Obj:=fun st pe=> .loop {state:=st,pending:=pe,fn,tmps:=a.tmps,params:=ps,assign,body,defers:=w.heap.size}
 have hA: ∃W1:World,W1=(w.alloc (.deferred (some []))).alloc (rec_ .ready none):=⟨_,rfl⟩
 obtain⟨W1,hW1⟩:=hA
 have e1:W1.heap[L]?=some (rec_ .ready none):=by
  have:=World.alloc_heap_new (w.alloc (.deferred (some []))) (rec_ .ready none)
  rw[YeI,hL]at this;rw[hW1];exact this
 have e2:W1.heap[w.heap.size]?=some (.deferred (some [])):=by
  rw[hW1];exact(YfE _ _ _ (by simp)).trans (World.alloc_heap_new w _)
 have i1:I [] W1:=by rw[hW1];exact hI.alloc _ _ _ (hI.alloc _ _ _ h0)
 have b1:Below w.heap.size w W1:=by rw[hW1];exact((Yea _ w).alloc (Ye9 _) _).alloc (by simp) _
 refine⟨L,[{target:= .collected w.heap.size,args:= #[]}],W1,{target:= .fn (.func gf) lb,args:= #[.func (.yield L) #[] #[]]},W1,gf,#[.func (.yield L) #[] #[]] ++ lb,W1,?_,?_,fun _ _=>trivial,?_,(fun h=>by cases h),?_⟩
 ·rw[hW1,←hL];exact run_enterLoop_outer _ _ _ _ _
 ·simp only[resolve,hg];simp[go_sem]
 ·simp[invoke,go_sem,eg]
 have hLx:L≠bx:=by omega
 have hDx:w.heap.size≠bx:=by omega
 have hLD:w.heap.size≠L:=by omega
 refine(hseq L (fun pre W=>I pre W∧W.heap[L]?=some (rec_ .ready none)∧W.heap[w.heap.size]?=some (.deferred (some [])))
  (fun pre W=> ∃c,Ix c pre W∧W.heap[L]?=some (rec_ .done (some c))∧W.heap[w.heap.size]?=some (.deferred (some []))) W1 b1
  (fun s A u h=>⟨hI.set _ _ _ h.1,(Y3y A bx L u hLx).trans h.2.1,(Y3y A bx _ u hDx).trans h.2.2⟩)
  (fun s A u h=>by obtain⟨c,x1,x2,x3⟩:=h;exact⟨c,(hIx c).set _ _ _ x1,(Y3y A bx L u hLx).trans x2,(Y3y A bx _ u hDx).trans x3⟩) ?_ ⟨i1,e1,e2⟩).mono ?_
 ·
  rintro pre x W ⟨hi,hl,hd⟩ hpre
  have hy:=run_yield (P:=P) (args:=encs x) hl (hps x)
  have hlt:L<W.heap.size:=(Yeo.1 hl).1
  let busy:Obj:=rec_ .busy none
  have b2:(W.putObj L busy).heap[L]?=some busy:=World.putObj_heap_same hlt
  have d2:(W.putObj L busy).heap[w.heap.size]?=some (.deferred (some [])):=(World.putObj_heap_other hLD).trans hd
  have k2:Kp W (W.putObj L busy):=hKb _ _ _ (by omega)
  refine⟨fn,_,assign,body,hy,roundIn_of_wpIn hfn (hassign _ x W _ ⟨W.putObj L busy,run_beginRound hl rfl,?_⟩)⟩
  refine wpIn_mono (hbody L pre x _ (hI.put _ _ _ _ busy hi (by omega) hl rfl) hpre) ?_
  have fin: ∀ (jump:Option Code) (W3:World),KeepsOthers (W.putObj L busy) W3→
   ∃W4,(Instr.endRound L jump).run P W3= .ok (.bool jump.isNone) W4∧W4=W3.putObj L (rec_ (if jump.isNone then .ready else .done) jump)∧W3.heap[L]?=some busy∧
    W4.heap[L]?=some (rec_ (if jump.isNone then .ready else .done) jump)∧W4.heap[w.heap.size]?=some (.deferred (some [])):=by
   intro jump W3 hk
   have h3:=hk.same _ _ b2 rfl
   exact⟨_,run_endRound jump h3,rfl,h3,World.putObj_heap_same (Yeo.1 h3).1,(World.putObj_heap_other hLD).trans (hk.same _ _ d2 rfl)⟩
  rintro e a3 W3 hp
  cases e with
  | normal =>
   obtain⟨hk,hkp,hi3⟩:=hp
   obtain⟨W4,hr,rfl,h3,h4,h5⟩:=fin none W3 hk
   exact⟨_,_,hr,.inl ⟨rfl,⟨hI.put _ _ _ _ _ hi3 (by omega) h3 rfl,h4,h5⟩,hKt _ _ _ (hKt _ _ _ k2 hkp) (hKb _ _ _ (by omega))⟩⟩
  | ret =>
   obtain⟨hk,hi3⟩:=hp
   obtain⟨W4,hr,rfl,h3,h4,h5⟩:=fin (some .ret) W3 hk
   exact⟨_,_,hr,.inr ⟨rfl,.ret,(hIx _).put _ _ _ _ _ hi3 (by omega) h3 rfl,h4,h5⟩⟩
  | exit id =>
   obtain⟨hk,hi3⟩:=hp
   obtain⟨W4,hr,rfl,h3,h4,h5⟩:=fin (some (.exit id)) W3 hk
   exact⟨_,_,hr,.inr ⟨rfl,.exit id,(hIx _).put _ _ _ _ _ hi3 (by omega) h3 rfl,h4,h5⟩⟩
  | goto t =>
   obtain⟨hk,hi3⟩:=hp
   obtain⟨W4,hr,rfl,h3,h4,h5⟩:=fin (some (.goto t)) W3 hk
   exact⟨_,_,hr,.inr ⟨rfl,.goto t,(hIx _).put _ _ _ _ _ hi3 (by omega) h3 rfl,h4,h5⟩⟩
  | panic ch=>exact hp.elim
  | outgrown=>exact hp.elim
 ·
  rintro e W2 ⟨⟨v,rfl⟩,(⟨hi,hl,hd⟩ | ⟨pre,c,hi,hl,hd⟩)⟩
  ·exact⟨none,_,run_endLoop hl (by simp),hdone _ _ (Ye9 _) (hI.put _ _ _ _ _ hi (by omega) hl rfl) ((World.putObj_heap_other hLD).trans hd)⟩
  ·exact⟨some c,_,run_endLoop hl (by simp),hstop _ c pre _ (Ye9 _) ((hIx c).put _ _ _ _ _ hi (by omega) hl rfl) ((World.putObj_heap_other hLD).trans hd)⟩
end Go.Proofs.YtfadikchijkcfaaGreatDoor
