/- strings.SplitSeq at a separator of one byte: its iterator, by contract. -/
import Derived.Test.YtfadikchijkcfaaGreatDoorParsePure
import Derived.Test.YtfadikchijkcfaaGreatDoorRange
import Derived.Test.YtfadikchijkcfaaGreatDoorCut2
import Derived.Shelf.Abstract
import Derived.Shelf.RegionOpen
import Derived.WalkKit
import Derived.OwnWalkIn
import Derived.TacticsInMore
import Derived.LoopNIn
import Derived.LoopIn
import Derived.Test.YtfadikchijkcfaaGreatDoorField
import Derived.Test.YtfadikchijkcfaaGreatDoorKind
set_option linter.unusedVariables false
set_option linter.unusedSectionVars false
set_option linter.unusedSimpArgs false
set_option maxRecDepth 100000
set_option maxHeartbeats 4000000
namespace Go.Proofs.YtfadikchijkcfaaGreatDoor
section
open Go.Proofs.Tryz
open Go.RowKit Go.Shelf
attribute [local go_sem] Oper.semAt_some
def KpB(b:Nat)(A B:World):Prop:=B.heap[b]?=A.heap[b]?∧B.heap[b+1]?=A.heap[b+1]?∧B.heap[b+2]?=A.heap[b+2]?
def YdV(w:World)(b:Nat):Nat:=match w.cell? ⟨b,0,none⟩with | some (.string s)=>s.size | _=>0
def Ycr(w:World)(b:Nat)(r:List UInt8)(c:UInt8):Prop:=
 w.heap[b]?=some (.cells #[.string (bs r)] 9 (0,0))∧w.heap[b+1]?=some (.cells #[.string (bs [c])] 9 (0,0))∧w.heap[b+2]?=some (.cells #[.int .i64 0] 3 (0,0))
theorem Ycr.kept{w w':World}{b:Nat}{r:List UInt8}{c:UInt8}(h:Ycr w b r c)(hk:KpB b w w'):Ycr w' b r c:=⟨hk.1.trans h.1,hk.2.1.trans h.2.1,hk.2.2.trans h.2.2⟩
theorem Ycr.below{w w':World}{b:Nat}{r:List UInt8}{c:UInt8}(h:Ycr w b r c)(hb:Below w.heap.size w w'):Ycr w' b r c:=by
 have lt: ∀ {k o},w.heap[k]?=some o→k<w.heap.size:=fun h=>(Yeo.1 h).1
 exact⟨(hb.block _ (lt h.1)).trans h.1,(hb.block _ (lt h.2.1)).trans h.2.1,(hb.block _ (lt h.2.2)).trans h.2.2⟩
theorem Ycr.set{w:World}{b:Nat}{r:List UInt8}{c:UInt8}(h:Ycr w b r c)(r':List UInt8):Ycr (w.setCell ⟨b,0,none⟩ (.string (bs r'))) b r' c:=by
 refine⟨?_,(Y3y w b (b+1) _ Z7).trans h.2.1,(Y3y w b (b+2) _ Z7).trans h.2.2⟩;simp[World.setCell,Array.getElem?_modify,h.1]
def RIter(c:UInt8)(l:List UInt8)(b:Nat)(J:List (List UInt8)→World→Prop)(wr:World):Prop:=
 ∃ (pre:List (List UInt8)) (r:List UInt8),Yg c l=pre ++ Yg c r∧r.length≤l.length∧J pre wr∧Ycr wr b r c
theorem YcF(c:UInt8)(l:List UInt8)(hl:l.length≤1099511627776)(n lp b:Nat)(J Jx:List (List UInt8)→World→Prop)(W:World)(hB:Ycr W b l c)
 (hJ: ∀s A u,J s A→J s (A.setCell ⟨b,0,none⟩ u))
 (hY: ∀pre x W1,J pre W1→pre ++ [x] <+: Yg c l→YieldAt Fence.wide (n - 1) prog lp #[.string (bs x)] W1 fun e W'=>(e= .returned (.bool true)∧J (pre ++ [x]) W'∧KpB b W1 W')∨(e= .returned (.bool false)∧Jx (pre ++ [x]) W'))
 (h0:J [] W):
 CallsIn Fence.wide n prog 216 #[.func (.yield lp) #[] #[],.pointer (some ⟨b+1,0,none⟩),.pointer (some ⟨b,0,none⟩),.pointer (some ⟨b+2,0,none⟩)] W fun e W'=>(∃v,e= .returned v)∧(J (Yg c l) W'∨ ∃pre,Jx pre W'):=by
 have c1:=fun r w=>hid (Y6l r c w)
 have g1:W.cell? ⟨b+1,0,none⟩=some (.string (bs [c])):=by rw[YeJ _ _ _ _ _ _ hB.2.1];rfl
 refine callsIn_of_wp func216 rfl trivial ?_;simp only[ntmps216,List.size_toArray,YeH,YeV,Nat.reduceAdd,Nat.reduceSub,Array.replicate_succ,Array.replicate_zero,List.push_toArray,List.append_toArray,List.nil_append,Yg0];gi_wp2;gi_loopw [7,8] (fun _ _ wr=>RIter c l b J wr) (fun _ _ wr=>YdV wr b)
 case atStart=>exact⟨[],l,by simp,by omega,h0,hB⟩
 case round =>
  obtain⟨pre,r,heq,hrl,hj,hB⟩:=hrel;have q0:wr.cell? ⟨b,0,none⟩=some (.string (bs r)):=by rw[YeJ _ _ _ _ _ _ hB.1];rfl
  have q1:wr.cell? ⟨b+1,0,none⟩=some (.string (bs [c])):=by rw[YeJ _ _ _ _ _ _ hB.2.1];rfl
  have q2:wr.cell? ⟨b+2,0,none⟩=some (.int .i64 0):=by rw[YeJ _ _ _ _ _ _ hB.2.2];rfl
  have HB:=hid hB;clear hB;have c1:=c1 r;rcases Y2H r c with ⟨h1,h2⟩ | ⟨i,h1,hi,h3,h4⟩
  ·rw[h1]at c1;rw[Y31 c r h2]at heq;obtain⟨fn,tmps,assign,body,hy,hR⟩:=hY pre r wr hj (by rw[heq];exact List.prefix_rfl);have Heq:=hid heq;clear heq h1 h2 hY;gi_wp2_with (refine⟨trivial,(fun h=>by cases h),?_⟩;gi_at_call 147;refine(Yez.2 (c1 _).out).mono ?_;rintro e w1 ⟨rfl,rfl⟩);refine⟨(fun h=>by cases h),hR.mono ?_⟩;rintro e W' (⟨rfl,hJ',hk⟩ | ⟨rfl,hJx'⟩)
   ·gi_wp2;go_end0;exact⟨⟨_,rfl⟩,.inl (by rw[Heq.out];exact hJ')⟩
   ·gi_wp2;go_end0;exact⟨⟨_,rfl⟩,.inr ⟨_,hJx'⟩⟩
  ·rw[h1]at c1;rw[Y3w c r i h3 h4]at heq;obtain⟨fn,tmps,assign,body,hy,hR⟩:=hY pre (r.take i) wr hj (by rw[heq];exact⟨Yg c (r.drop (i+1)),by simp⟩);have Heq:=hid heq;clear heq h1 h3 h4 hY;have s0:IntKind.i64.wrap ((i:Int) +0)=(i:Int):=ZZ;refine Z3k ?_;intro s1 s2 s3;have s4:(i:Int) +1≤(r.length:Int):=Z7;have s5:(i:Int)≤(r.length:Int):=Z7;gi_wp2_with (refine⟨trivial,(fun h=>by cases h),?_⟩;gi_at_call 147;refine(Yez.2 (c1 _).out).mono ?_;rintro e w1 ⟨rfl,rfl⟩)
   refine⟨(fun h=>by cases h),hR.mono ?_⟩;rintro e W' (⟨rfl,hJ',hk⟩ | ⟨rfl,hJx'⟩)
   ·have hB':=HB.out.kept hk;have p0:W'.cell? ⟨b,0,none⟩=some (.string (bs r)):=by rw[YeJ _ _ _ _ _ _ hB'.1];rfl
    have p1:W'.cell? ⟨b+1,0,none⟩=some (.string (bs [c])):=by rw[YeJ _ _ _ _ _ _ hB'.2.1];rfl
    have pf:W'.frozen? ⟨b,0,none⟩=false:=Yfr _ _ _ _ _ hB'.1;have HB':=hid hB';clear hB' hk;gi_wp2;refine⟨⟨pre ++ [r.take i],r.drop (i+1),by rw[Heq.out];simp,by simp;omega,hJ _ _ _ hJ',HB'.out.set _⟩,?_⟩;have e1:(W'.setCell ⟨b,0,none⟩ (.string (bs (r.drop (i+1))))).cell? ⟨b,0,none⟩=some (.string (bs (r.drop (i+1)))):=Y3F _ _ _ _ p0;unfold YdV;rw[e1,q0];simp[YJ];exact Z7
   ·gi_wp2;refine Yej (results_none rfl _ _ _) rfl ?_;exact⟨⟨_,rfl⟩,.inr ⟨_,hJx'⟩⟩
theorem KpB.trans{b:Nat}{A B C:World}(h:KpB b A B)(k:KpB b B C):KpB b A C:=⟨k.1.trans h.1,k.2.1.trans h.2.1,k.2.2.trans h.2.2⟩
theorem KpB.put(b:Nat)(W:World)(l:Nat)(o:Obj)(h:b+2<l):KpB b W (W.putObj l o):=
 ⟨World.putObj_heap_other (by omega),World.putObj_heap_other (by omega),World.putObj_heap_other (by omega)⟩
theorem Y6r{n:Nat}{g:Operand}{ps:Array Tmp}{assign body:Code}{Q:Exit→Act→World→Prop}{a:Act}{w:World}(c:UInt8)(l:List UInt8)(hl:l.length≤1099511627776)(b:Nat)
 (hg:a.eval g= .func (.func 216) #[] #[.pointer (some ⟨b+1,0,none⟩),.pointer (some ⟨b,0,none⟩),.pointer (some ⟨b+2,0,none⟩)]) (hB:Ycr w b l c) (hps:ps.size=1)
 (I:List (List UInt8)→World→Prop) (Ix:Code→List (List UInt8)→World→Prop) (hI:Y5S w.heap.size b I) (hIx: ∀c,Y5S w.heap.size b (Ix c)) (h0:I [] w) (a₁:List UInt8→Act)
 (hassign: ∀ (lp:Nat) (x:List UInt8) (W:World) (K:Act→World→Prop),K (a₁ x) W→
   assign.wpIn (Fence.wide.inRound lp) (n - 1 - 1) prog (Exit.then K (fun _ _ _=>False)) {tmps:=(ps.zip #[.string (bs x)]).foldl (fun t (p,v)=>t.setIfInBounds p v) a.tmps,defers:= []} W)
 (hbody: ∀ (lp:Nat) (pre:List (List UInt8)) (x:List UInt8) (W:World),I pre W→pre ++ [x] <+: Yg c l→body.wpIn (Fence.wide.inRound lp) (n - 1 - 1) prog (ownPostK (KpB b) I Ix (pre ++ [x]) W) (a₁ x) W)
 (hdone: ∀ (D:Nat) (W:World),w.heap.size≤D→I (Yg c l) W→W.heap[D]?=some (.deferred (some []))→Q .normal {a with defers:= {target:= .collected D,args:= #[]} :: a.defers} W)
 (hstop: ∀ (D:Nat) (j:Code) (pre:List (List UInt8)) (W:World),w.heap.size≤D→Ix j pre W→W.heap[D]?=some (.deferred (some []))→j.wpIn Fence.wide n prog Q {a with defers:= {target:= .collected D,args:= #[]} :: a.defers} W):
 (Code.rangeFunc g ps assign body).wpIn Fence.wide n prog Q a w:=by
 have lt:b+2<w.heap.size:=(Yeo.1 hB.2.2).1
 refine Yd1 (encs:=fun x:List UInt8=> #[.string (bs x)]) hg (enters_of func216 (by kernel_rfl) rfl) (fun _=>hps.symm) b (by omega) (KpB b) (fun _ _ _ h k=>KpB.trans h k) (fun W l o h=>KpB.put b W l o (by omega)) (Yg c l)
  (fun lp J Jx W hW hJ _ hY h0=>YcF c l hl (n - 1) lp b J Jx W (hB.below hW) hJ hY h0) I Ix hI hIx h0 a₁ hassign hbody hdone hstop
def Y8C(w:World)(l:List UInt8)(c:UInt8)(e:Ending)(w':World):Prop:=
 ∃b,w.heap.size≤b∧e= .returned (.func (.func 216) #[] #[.pointer (some ⟨b+1,0,none⟩),.pointer (some ⟨b,0,none⟩),.pointer (some ⟨b+2,0,none⟩)])∧Ycr w' b l c∧Below w.heap.size w w'
theorem Y8U(l:List UInt8)(c:UInt8)(w:World):
 Calls prog 180 #[.string (bs l),.string (bs [c]),.int .i64 0] w fun e w'=>Y8C w l c e w':=by
 go_enter func180,ntmps180;go_wp2;go_ret;refine⟨w.heap.size,Ye9 _,rfl,?_,?_⟩
 ·have h0:=YeC w (.cells #[.string (bs l)] 9);have h1:=YeC (w.alloc (.cells #[.string (bs l)] 9)) (.cells #[.string (bs [c])] 9);have h2:=YeC ((w.alloc (.cells #[.string (bs l)] 9)).alloc (.cells #[.string (bs [c])] 9)) (.cells #[.int .i64 0] 3);simp only[YeI]at h1 h2;refine⟨?_,?_,h2⟩
  ·exact(YfE _ _ _ Zd).trans ((YfE _ _ _ Z2t).trans h0)
  ·exact(YfE _ _ _ Z2t).trans h1
 ·exact(((Yea _ _).alloc (Ye9 _) _).alloc Z2t _).alloc Zd _
theorem Y4S(l:List UInt8)(c:UInt8)(w:World):
 Calls prog 134 #[.string (bs l),.string (bs [c])] w fun e w'=>Y8C w l c e w':=by
 have c1:=fun w=>hid (Y8U l c w)
 go_enter func134,ntmps134;go_wp2_with (go_at_call 180;refine(c1 _).out.mono ?_;rintro e w1 ⟨b,hb,rfl,hB,hbl⟩);go_ret;exact⟨b,hb,rfl,hB,hbl⟩
end
section
open Go.Proofs.Tryz
open Go Go.RowKit
theorem Y2J{B:Nat}{a W:World}(h:Below B a W){l:Nat}(hl:B≤l)(o:Obj):Below B a (W.putObj l o):=
 h.trans ⟨rfl,rfl,rfl,by simp,fun k hk=>World.putObj_heap_other (by omega)⟩
theorem YP{W:World}{g:Nat}{T:TypeId}{cs:Array Value}(h:Blk W g T cs){l:Nat}{o:Obj}(hl:W.heap[l]?=some o)(ho:o.isCells=false)(o':Obj):Blk (W.putObj l o') g T cs:=by
 have hne:g≠l:=by
  rintro rfl;unfold Blk at h;rw[h]at hl
  cases hl
  cases ho
 exact(World.putObj_heap_other hne).trans h
theorem YaX{W:World}{base:Nat}{e:TypeId}{size n:Nat}{v:Value}{xs:List Value}(h:W.ownsRow base e size v n xs){p:Addr}(hp:p.block<base)(u:Value):(W.setCell p u).ownsRow base e size v n xs:=by
 refine h.kept (row:=some p.block) ⟨rfl,rfl,rfl,by simp[World.setCell],fun k _ hk=>YeN W p u k (fun e=>hk (by rw[e]))⟩ ?_;rcases h.2 with ⟨rfl,_⟩ | ⟨g,cap,cur,rfl,hb,hgb,_⟩
 ·exact .inl rfl
 ·refine .inr fun e'=> ?_
  have:g=p.block:=by simpa[Value.ownBlock]using e'
  exact Z7
theorem Y9f{W W':World}{b:Nat}(h:Below W.heap.size W W')(hlt:b+2<W.heap.size):KpB b W W':=
 ⟨h.block b (by omega),h.block (b+1) (by omega),h.block (b+2) (by omega)⟩
theorem Y2E{W W':World}(h:Below W.heap.size W W'):KeepsOthers W W':=⟨h.size,fun k o hk _=>(h.block k (Yeo.1 hk).1).trans hk⟩
theorem infoStr0:(prog.info? 9).map (fun i=>(i.zero,i.size,i.bytes))=some (some (.string ⟨#[]⟩),1,16):=by kernel_rfl
theorem Y25{W:World}{base base':Nat}{e:TypeId}{size:Nat}{v:Value}{k:Nat}{xs:List Value}(h:W.ownsRow base e size v k xs)(hb:base'≤base):W.ownsRow base' e size v k xs:=by
 refine⟨h.1,?_⟩;rcases h.2 with hn | ⟨g,cap,cur,hv,hbg,rest⟩
 ·exact .inl hn
 ·exact .inr ⟨g,cap,cur,hv,Yeu hb hbg,rest⟩
theorem Blk.grown{w w':World}{g base:Nat}{T e:TypeId}{size n:Nat}{v:Value}{xs:List Value}{cs:Array Value}(h:Blk w g T cs)(hown:w.ownsRow base e size v n xs)(hg:w.grownBy w' v.ownBlock)(hlt:g<base):Blk w' g T cs:=
 (hg.block g h.lt (by intro hk;have:=(hown.lt g hk.symm).1;omega)).trans h
theorem Z3Q{P:Prop}(h:P:=by
 simpa using hname):P:=h
end
section
open Go.Proofs.Tryz
open Go Go.RowKit Go.Shelf
attribute [local go_sem] Oper.semAt_some
def PT(w:World):Prop:=Lib.TabIs prog w "internal/strconv.uint64pow10" .u64 Lib.pow10Tab
theorem Yd3:prog.globalNamed "internal/strconv.uint64pow10" =some 7:=by kernel_rfl
theorem PT.lt{w:World}(h:PT w):7<w.heap.size:=by
 have:=Lib.TabIs.cell h Yd3 0 Z16;exact Yeb this
theorem PT.below{w w':World}{B:Nat}(h:PT w)(hb:Below B w w')(hB:w.heap.size≤B):PT w':=var?_below hb Yd3 (Yee h.lt hB) h
theorem Y3n(n:Int)(h0: -9223372036854775808≤n)(h1:n≤9223372036854775807)(w:World)(ht:PT w):
 Calls prog 91 #[.int .i64 n] w fun e w'=>e= .returned (.string (bs (Lib.itoa n)))∧Below w.heap.size w w':=by
 refine(Tryz.strconv_Itoa n h0 h1 w ht).mono ?_;rintro e w' ⟨rfl,k,os,rfl⟩;exact⟨rfl,rfl,rfl,rfl,by simp[Sort.grow],fun i hi=>by simp[Sort.grow,Array.getElem?_append_left hi]⟩
def dval(l:List UInt8):Nat:=l.foldl (fun a b=>a * 10+(b.toNat - 48)) 0
theorem Ybe(u:Nat):dval (Lib.decDigits u)=u:=by
 induction u using Nat.strongRecOn with
 | _ u ih =>
  rw[Lib.decDigits]
  split
  ·rename_i h
   have:(UInt8.ofNat (48+u)).toNat=48+u:=by simp[UInt8.toNat_ofNat'];exact Z7
   simp[dval];omega
  ·rename_i h
   have:(UInt8.ofNat (48+u % 10)).toNat=48+u % 10:=by simp[UInt8.toNat_ofNat'];exact Z7
   have h2:=ih (u / 10) Z7;unfold dval at h2 ⊢;rw[List.foldl_append,h2];simp only[YeP,Yfn,this];omega
theorem Y9r(n:Nat)(h:n<100):Lib.decDigits n=Y4a n:=by
 rw[Lib.decDigits]
 split
 ·rename_i h
  simp[Y4a,h]
 ·rename_i h2
  rw[Lib.decDigits,dif_pos Z7];simp[Y4a,h2,h]
theorem Ydg: ∀r∈Yd,r.op<64:=fun r h=>(YC r h).2.2.2.2.1
theorem YdP: ∀r∈Yd,(Y4a r.op).head?≠some 45:=by decide +kernel
theorem Yb6(r:HR)(h:r∈Yd)(op:Int):(Y4a r.op=Lib.itoa op) ↔ (r.op:Int)=op:=by
 have hs:=Ydg r h;constructor
 ·intro he;unfold Lib.itoa at he
  split at he
  ·exact absurd (by rw[he];rfl) (YdP r h)
  ·have:=Yeg dval he;rw[←Y9r r.op Z7,Ybe,Ybe]at this;exact Z7
 ·rintro rfl;unfold Lib.itoa;rw[Yed Z7,YfL,Y9r r.op Z7]
theorem Yaq{pre:List (List UInt8)}{x:List UInt8}(h:pre ++ [x] <+: Yg 124 Y4n): ∃r,Yd[pre.length]?=some r∧x=r.text:=by
 rw[Y7e]at h;obtain⟨t,ht⟩:=h
 have hl:pre.length<Yd.length:=by
  have:=Yeg List.length ht;simp at this;exact Z7
 refine⟨Yd[pre.length],by simp[hl],?_⟩;have:=Yeg (·[pre.length]?) ht;simpa[List.getElem?_append,hl]using this
def Y4U(r:HR):List Value:=r.words.map fun x=>Value.string (bs x)
def YaK(op:Int)(w:World)(e:Ending)(w':World):Prop:=
 ∃v,e= .returned v∧Below w.heap.size w w'∧((Y1e op=none∧v= .slice none 0 0)∨ ∃r g,Y1e op=some r∧v= .slice (some ⟨g,0,none⟩) r.words.length r.words.length∧w.heap.size≤g∧Blk w' g 9 (Y4U r).toArray)
structure IRow(base b:Nat)(op:Int)(w0:World)(pre:List (List UInt8))(W:World):Prop where
 below:Below base w0 W
 nm:Blk W base 3 #[.int .i64 op]
 res:Blk W (base+1) 22 #[.slice none 0 0]
 no: ∀x∈Yd.take pre.length,(x.op:Int)≠op
 lt:b+2<W.heap.size
structure XRow(base b:Nat)(op:Int)(w0:World)(j:Code)(pre:List (List UInt8))(W:World):Prop where
 ret:j= .ret
 below:Below base w0 W
 ok: ∃r g,Y1e op=some r∧base≤g∧g≠b∧Blk W (base+1) 22 #[.slice (some ⟨g,0,none⟩) r.words.length r.words.length]∧Blk W g 9 (Y4U r).toArray
theorem Ybz(base b B:Nat)(op:Int)(w0:World)(h1:base+1<b)(h2:b+2<B)(h3:base≤w0.heap.size):Y5S B b (IRow base b op w0):=by
 refine⟨?_,?_,?_⟩
 ·rintro s A o ⟨a1,a2,a3,a5,a6⟩;refine Z4r ?_;intro hb;exact⟨a1.alloc (Yeu h3 a1.size) _,a2.below hb,a3.below hb,a5,by rw[YeI];omega⟩
 ·rintro s A l o o' ⟨a1,a2,a3,a5,a6⟩ hl hl' ho;exact⟨Y2J a1 Z7 _,YP a2 hl' ho o',YP a3 hl' ho o',a5,by simpa using a6⟩
 ·rintro s A u ⟨a1,a2,a3,a5,a6⟩;exact⟨Ya a1 Z7 _ _,a2.far Zt u,a3.far Zt u,a5,by simpa[World.setCell]using a6⟩
theorem Y9S(base b B:Nat)(op:Int)(w0:World)(j:Code)(h1:base+1<b)(h2:b+2<B)(h3:base≤w0.heap.size):Y5S B b (XRow base b op w0 j):=by
 refine⟨?_,?_,?_⟩
 ·rintro s A o ⟨a1,a2,r,g,hf,hg,hgb,a3,a4⟩;refine Z4r ?_;intro hb;exact⟨a1,a2.alloc (Yeu h3 a2.size) _,r,g,hf,hg,hgb,a3.below hb,a4.below hb⟩
 ·rintro s A l o o' ⟨a1,a2,r,g,hf,hg,hgb,a3,a4⟩ hl hl' ho;exact⟨a1,Y2J a2 Z7 _,r,g,hf,hg,hgb,YP a3 hl' ho o',YP a4 hl' ho o'⟩
 ·rintro s A u ⟨a1,a2,r,g,hf,hg,hgb,a3,a4⟩;exact⟨a1,Ya a2 Z7 _ _,r,g,hf,hg,hgb,a3.far Zt u,a4.far hgb u⟩
theorem ZK{P:Prop}(h:P:=by
 have z0: ∀w',Below (W.heap.size+1) W1 w'→w'.cell? ⟨W.heap.size,0,none⟩=some (.string (bs (Y4a r.op))):=fun w' h=>(h.cell (p:=⟨W.heap.size,0,none⟩) Zt).trans ((hw1.cell 0).trans rfl)
 have z1: ∀w',Below (W.heap.size+1) W1 w'→w'.cell? ⟨w.heap.size,0,none⟩=some (.int .i64 op):=fun w' h=>(h.cell (p:=⟨w.heap.size,0,none⟩) Zt).trans (hi1.cell 0 |>.trans rfl)
 have c3': ∀w',Below (W.heap.size+1) W1 w'→Calls prog 91 #[.int .i64 op] w' fun e w''=>e= .returned (.string (bs (Lib.itoa op)))∧Below w'.heap.size w' w'':=fun w' h=>(c3 w' (hbW1.trans (h.mono Z7))).out
 simp +contextual [Y2K,Y76,go_sem,Oper.about,he,hwl,hrf,z0,z1]
 exact fun w' h=>⟨trivial,CallsIn.inRound lp (Yez.2 (c3' w' h))⟩):P:=h
theorem Z2Z{P Q:Prop}(k:Q)(h:Q→P:=by
 have hrf: ∀w:World,Below w.heap.size w w:=fun w=>Yea _ w
 refine fun z_=>?_
 revert hrf
 exact z_):P:=h k
theorem YcR(op:Int)(h0: -9223372036854775808≤op)(h1:op≤9223372036854775807)(w:World)(hT:AS w)(hP:PT w):Calls prog 202 #[.int .i64 op] w fun e w'=>YaK op w e w':=by
 have c1: ∀ (s:ByteArray) (h:s=bs Y4n) (w:World),Hid (Calls prog 134 #[.string s,.string (bs [124])] w (Y8C w Y4n 124)):=by
  rintro s rfl w;exact hid (Y4S Y4n 124 w)
 have c2:=fun(r:HR) (hr:r∈Yd) (w:World) (h:AS w)=>hid (Y7y r.text w (by have:=(YC r hr).2.2.1;exact Z7) (YC r hr).2.1 h)
 have c3:=fun(w1:World) (hb:Below w.heap.size w w1)=>hid (Y3n op h0 h1 w1 (hP.below hb (Ye9 _)))
 refine(Yez (n:=3)).1 ?_;refine callsIn_of_wp_marks func202 rfl trivial ?_ rfl;simp only[ntmps202,List.size_toArray,YeH,YeV,Nat.reduceAdd,Nat.reduceSub,Array.replicate_succ,Array.replicate_zero,List.push_toArray,List.append_toArray,List.nil_append,Yg0];gi_wp2_with (refine⟨trivial,?_⟩;gi_at_call 134;refine(Yez.2 (c1 _ (by kernel_rfl) _).out).mono ?_;rintro e w1 ⟨b,hb,rfl,hB,hbl⟩)
 simp only[YeI]at hb;have hb2:=(Yeo.1 hB.2.2).1;have hsz1:w.heap.size+2≤w1.heap.size:=Z7;have r0:=(Blk.new w 3 #[.int .i64 op]);have r1:=(Blk.new (w.alloc (.cells #[.int .i64 op] 3)) 22 #[.slice none 0 0]);have r0:=(r0.below ((Yea _ _).alloc (Ye9 _) (.cells #[.slice none 0 0] 22))).below hbl;have r1:=r1.below hbl;simp only[YeI]at r0 r1
 have hb0:Below w.heap.size w w1:=(((Yea _ w).alloc (Ye9 _) _).alloc Z2t _).trans (hbl.mono Zd);clear hbl;refine Y6r 124 Y4n Z16 b rfl hB rfl (IRow w.heap.size b op w) (XRow w.heap.size b op w) (Ybz _ _ _ _ _ Z7 hb2 (Ye9 _)) (fun j=>Y9S _ _ _ _ _ _ Z7 hb2 (Ye9 _)) ⟨hb0,r0,r1,by simp,hb2⟩
  (fun x=> {tmps:= #[.int .i64 op,.pointer (some ⟨w.heap.size,0,none⟩),.pointer (some ⟨w.heap.size+1,0,none⟩),.string (bs x),undef,.func (.func 216) #[] #[.pointer (some ⟨b+1,0,none⟩),.pointer (some ⟨b,0,none⟩),.pointer (some ⟨b+2,0,none⟩)],.string (bs x),undef,undef,undef,undef,undef,undef,undef,undef,undef],defers:= []}) ?assign ?body ?done ?stop
 case assign =>
  intro l x W K hK;gi_wp2;exact hK
 case body =>
  rintro lp pre x W ⟨i1,i2,i3,i5,i6⟩ hpre;obtain⟨r,hr,rfl⟩:=Yaq hpre;have hrm:=Yer hr;obtain⟨f1,f2,f3,f4,f5⟩:=YC r hrm;have c2:=c2 r hrm W (hT.below i1 (Ye9 _));rw[f1]at c2;have hsW:=i1.size;have hp0:w.heap.size<W.heap.size:=Z7;have hmx:prog.follows .mixedOrders=true:=by kernel_rfl
  obtain⟨W1,hW1⟩: ∃W1,W.alloc (.cells (r.words.map fun x=>Value.string (bs x)).toArray 9)=W1:=⟨_,rfl⟩;have hW1s:W1.heap.size=W.heap.size+1:=Z1J;have hw1:Blk W1 W.heap.size 9 (r.words.map fun x=>Value.string (bs x)).toArray:=by rw[←hW1];exact Blk.new _ _ _
  have hbW:Below W.heap.size W W1:=by rw[←hW1];exact Ze
  have hi1:=i2.below hbW;have hbW1:Below w.heap.size w W1:=i1.trans (hbW.mono hsW);rw[hW1]at c2;have hwl:0<r.words.length:=by simp[HR.words]
  refine Z2Z ?_;intro hrf;by_cases hop:(r.op:Int)=op
  ·have Hf:=hid (Ybb hr i5 hop);have he:Y4a r.op=Lib.itoa op:=(Yb6 r hrm op).2 hop;gi_wp2_with (refine⟨trivial,?_⟩;gi_at_call 135;refine(CallsIn.inRound lp (Yez.2 c2.out)).mono ?_;rintro e W1 ⟨rfl,rfl⟩);refine Y47 {tmps:= #[.int .i64 op,.pointer (some ⟨w.heap.size,0,none⟩),.pointer (some ⟨w.heap.size+1,0,none⟩),.string (bs r.text),.slice (some ⟨W.heap.size,0,none⟩) r.words.length r.words.length,.func (.func 216) #[] #[.pointer (some ⟨b+1,0,none⟩),.pointer (some ⟨b,0,none⟩),.pointer (some ⟨b+2,0,none⟩)],.string (bs r.text),.string (bs r.text),.slice (some ⟨W.heap.size,0,none⟩) r.words.length r.words.length,.slice (some ⟨W.heap.size,0,none⟩) r.words.length r.words.length,.pointer (some ⟨W.heap.size,0,none⟩),.string (bs (Y4a r.op)),.int .i64 op,.string (bs (Lib.itoa op)),.bool true,undef],defers:= []} (fun w'=>Below (W.heap.size+1) W1 w') hmx (by kernel_rfl) (fun w w' h hb=>h.trans (hb.mono (by have:=h.size;exact Z7))) (by rw[←hW1];exact(Yea _ _).drew) rfl ?ag ?each ?go
   case ag=>simp[Y5D,Y20]
   case each =>
    exact ZK
   case go =>
    intro w' hb;have hr1:Blk w' (w.heap.size+1) 22 #[.slice none 0 0]:=(hb.block _ Z7).trans (i3.below hbW);have t0:w'.cell? ⟨w.heap.size+1,0,none⟩=some (.slice none 0 0):=(hr1.cell 0).trans rfl;have v0:=hr1.free 0;have hw2:Blk w' W.heap.size 9 (Y4U r).toArray:=(hb.block _ Z7).trans hw1;have hbb:Below W.heap.size W w':=hbW.trans (hb.mono Z7);have HR:=hid hr1;clear hr1;gi_wp2;refine⟨(Y2E hbb).trans (KeepsOthers.setCell _ _ _),rfl,Ya (i1.trans (hbb.mono hsW)) Z7 _ _,r,W.heap.size,Hf.out,by omega,by omega,HR.out.set 0 _,hw2.far Zt _⟩
  ·have he: ¬Y4a r.op=Lib.itoa op:=fun h=>hop ((Yb6 r hrm op).1 h)
   gi_wp2_with (refine⟨trivial,?_⟩;gi_at_call 135;refine(CallsIn.inRound lp (Yez.2 c2.out)).mono ?_;rintro e W1 ⟨rfl,rfl⟩);refine Y47 {tmps:= #[.int .i64 op,.pointer (some ⟨w.heap.size,0,none⟩),.pointer (some ⟨w.heap.size+1,0,none⟩),.string (bs r.text),.slice (some ⟨W.heap.size,0,none⟩) r.words.length r.words.length,.func (.func 216) #[] #[.pointer (some ⟨b+1,0,none⟩),.pointer (some ⟨b,0,none⟩),.pointer (some ⟨b+2,0,none⟩)],.string (bs r.text),.string (bs r.text),.slice (some ⟨W.heap.size,0,none⟩) r.words.length r.words.length,.slice (some ⟨W.heap.size,0,none⟩) r.words.length r.words.length,.pointer (some ⟨W.heap.size,0,none⟩),.string (bs (Y4a r.op)),.int .i64 op,.string (bs (Lib.itoa op)),.bool false,undef],defers:= []} (fun w'=>Below (W.heap.size+1) W1 w') hmx (by kernel_rfl) (fun w w' h hb=>h.trans (hb.mono (by have:=h.size;exact Z7))) (by rw[←hW1];exact(Yea _ _).drew) rfl ?ag ?each ?go
   case ag=>simp[Y5D,Y20]
   case each =>
    exact ZK
   case go =>
    intro w' hb;have hbb:Below W.heap.size W w':=hbW.trans (hb.mono Z7);gi_wp2;refine⟨Y2E hbb,Y9f hbb i6,i1.trans (hbb.mono hsW),i2.below hbb,i3.below hbb,?_,by have:=hbb.size;omega⟩;rw[Yem,Yfp];exact Ycy hr i5 hop
 case done =>
  rintro D W hD ⟨i1,i2,i3,i5,i6⟩ hK;have t0:W.cell? ⟨w.heap.size+1,0,none⟩=some (.slice none 0 0):=(i3.cell 0).trans rfl;have v0:=i3.free 0;gi_wp2;have hDr:D≠w.heap.size+1:=by rintro rfl;unfold Blk at i3;rw[i3]at hK;cases hK
  have n1:=(YeN W ⟨w.heap.size+1,0,none⟩ (.slice none 0 0) D hDr).trans hK;have n3:=i3.set 0 (.slice none 0 0);have n2:=Ya i1 (show w.heap.size≤w.heap.size+1 from Z7) 0 (.slice none 0 0);generalize W.setCell ⟨w.heap.size+1,0,none⟩ (.slice none 0 0)=W6 at *;refine⟨by simp,.inl ⟨_,_,rfl,run_takeDeferred n1,?_⟩⟩;have s0: ∀o',(W6.putObj D o').cell? ⟨w.heap.size+1,0,none⟩=some (.slice none 0 0):=fun o'=>((YP n3 n1 rfl o').cell 0).trans rfl
  refine⟨.slice none 0 0,by simp[results,results202,go_sem,s0],.slice none 0 0,rfl,Y2J n2 Z7 _,.inl ⟨?_,rfl⟩⟩;exact Y7x (by rw[Y7e,List.length_map,Yex]at i5;exact i5)
 case stop =>
  rintro D j pre W hD ⟨rfl,i2,r,g,hf,hg,hgb,i3,i4⟩ hK;gi_wp2;refine⟨by simp,.inl ⟨_,_,rfl,run_takeDeferred hK,?_⟩⟩;have s0: ∀o',(W.putObj D o').cell? ⟨w.heap.size+1,0,none⟩=some (.slice (some ⟨g,0,none⟩) r.words.length r.words.length):=fun o'=>((YP i3 hK rfl o').cell 0).trans rfl
  exact⟨.slice (some ⟨g,0,none⟩) r.words.length r.words.length,by simp[results,results202,go_sem,s0],_,rfl,Y2J i2 Z7 _,.inr ⟨r,g,hf,rfl,hg,YP i4 hK rfl _⟩⟩
theorem Z3Z{P:Prop}(h:P:=by
 exact⟨0,by omega,rfl,YeD _ _ _ _,Yea _ _⟩):P:=h
end
section
open Go.Proofs.Tryz
open Go Go.RowKit
def hE:Option HR→Nat | none=>1 | some _=>0
def HErr(o:Option HR):Value:=errV 36 (hE o)
theorem YaR{r:HR}{g:Nat}{W:World}(h:Blk W g 9 (Y4U r).toArray)(i:Nat)(x:List UInt8)(hx:r.words[i]?=some x):W.cell? ⟨g,i,none⟩=some (.string (bs x)):=by
 rw[h.cell i,Y4U,Yf1,YeR,hx];rfl
theorem YR{op:Int}{r:HR}(h:Y1e op=some r):r∈Yd:=Yfy h
theorem eqnil(W:World)(a:Option Addr)(n c:Nat):(binOp .eql 22 (.slice a n c) (.slice none 0 0)).run prog W= .ok (.bool a.isNone) W:=by
 cases a<;>rfl
theorem Y8r(n:Nat):(Y4a n).length≤18:=by
 unfold Y4a
 split
 ·exact Z2t
 ·split<;>simp
section
variable (op:Int)(h0: -9223372036854775808≤op)(h1:op≤9223372036854775807)(w:World)(hT:AS w)(hP:PT w)
include h0 h1 hT hP
theorem Yc2:Calls prog 157 #[.int .i64 op] w fun e w'=>e= .returned (.tuple #[.int .i64 (Y5P (Y1e op):Nat),HErr (Y1e op)])∧Below w.heap.size w w':=by
 have c1:=hid (YcR op h0 h1 w hT hP);unfold YaK at c1;clear hT hP h0 h1
 cases hf:Y1e op with
 | none =>
  rw[hf]at c1;go_enter func157,ntmps157;go_wp2_with fail;refine c1.out.mono ?_;rintro e w1 ⟨v,rfl,hb,⟨_,rfl⟩ | ⟨r',g,hr,_⟩⟩
  ·have he:=eqnil w1;go_wp2;go_ret2;exact⟨rfl,hb⟩
  ·cases hr
 | some r =>
  rw[hf]at c1;have hfl:=(YC r (YR hf)).2.2.2.1;have hlt:=(YC r (YR hf)).2.2.2.2.2.1;have c2:=fun w=>hid (Y68 (Y4a r.flags) (r.flags:Int) w (Y8r _) hfl)
  go_enter func157,ntmps157;go_wp2_with fail;refine c1.out.mono ?_;rintro e w1 ⟨v,rfl,hb,⟨h,_⟩ | ⟨r',g,hr,rfl,hg,hB⟩⟩
  ·cases h
  cases hr
  have he:=eqnil w1;have x1:=YaR hB 2 (Y4a r.flags) rfl;have hl:2<r.words.length:=by simp[HR.words]
  go_wp2_with (go_at_call 136;refine(c2 _).out.mono ?_;rintro e w2 ⟨rfl,hb2⟩);go_ret2;exact⟨rfl,hb.trans (hb2.mono hb.size)⟩
end
end
section
open Go.Proofs.Tryz
open Go Go.RowKit
theorem Ydz:(prog.info? 225).map (fun i=>(i.zero,i.size,i.bytes))=some (some (.agg #[.string ⟨#[]⟩,.int .i64 0,.int .i64 0]),3,32):=by kernel_rfl
theorem Y6Q(l:List FR)(k:Nat)(f:FR)(h:l[k]?=some f):Y17 (l.take (k+1))=Y17 (l.take k) ++ f.cells:=by
 refine Z43 ?_;intro h1 h2;rw[Yeq h1,Y17,List.flatMap_append,h2];simp[Y17]
theorem Y1Q: ∀r∈Yd,0<r.fields.length:=by decide +kernel
def Y2X(op:Int)(w:World)(e:Ending)(w':World):Prop:=
 ∃v,e= .returned (.tuple #[v,HErr (Y1e op)])∧Sl w' v 3 (Y2y (Y1e op)).length (Y17 (Y2y (Y1e op)))∧(Y1e op=none→v= .slice none 0 0)∧Below w.heap.size w w'
def RFields(r:HR)(w w1:World)(v i:Value)(wr:World):Prop:=
 ∃k:Nat,k≤r.fields.length∧i= .int .i64 (k:Nat)∧wr.ownsRow w1.heap.size 225 3 v k (Y17 (r.fields.take k))∧Below w1.heap.size w1 wr
theorem Y3O(op:Int)(h0: -9223372036854775808≤op)(h1:op≤9223372036854775807)(w:World)(hT:AS w)(hP:PT w):Calls prog 156 #[.int .i64 op] w fun e w'=>Y2X op w e w':=by
 have c1:=hid (YcR op h0 h1 w hT hP);unfold YaK at c1;clear hT hP h0 h1;unfold Y2X
 cases hf:Y1e op with
 | none =>
  rw[hf]at c1;go_enter func156,ntmps156;go_wp2_with fail;refine c1.out.mono ?_;rintro e w1 ⟨v,rfl,hb,⟨_,rfl⟩ | ⟨r',g,hr,_⟩⟩
  ·have he:=eqnil w1;go_wp2;go_ret2;exact⟨_,rfl,Y2g _ _,fun _=>rfl,hb⟩
  ·cases hr
 | some r =>
  rw[hf]at c1;have hfine:=(YC r (YR hf)).2.2.2.2.2.2;go_enter func156,ntmps156;go_wp2_with fail;refine c1.out.mono ?_;rintro e w1 ⟨v,rfl,hb1,⟨h,_⟩ | ⟨r',g,hr,rfl,hg,hB⟩⟩
  ·cases h
  cases hr
  have he:=eqnil w1;have hwl:r.words.length=r.fields.length+3:=by simp[HR.words]
  have hnf:=hfine.1;have hn0:=Y1Q r (YR hf);have hne: ¬r.fields= []:=by intro h;rw[h]at hn0;simp at hn0
  have HB:=hid hB;have HF:=hid hfine.2;clear hB hfine c1;rw[hwl];go_wp2;go_loopw [5,21] (fun v i wr=>RFields r w w1 v i wr) (fun _ i _=>r.fields.length - (intOf i).toNat)
  case atStart=>exact Z3Z
  case round =>
   obtain⟨k,hk,rfl,hown,hb⟩:=hrel;have hsz:=hb.size;by_cases hlt:k<r.fields.length
   ·obtain⟨f,hfk⟩: ∃f,r.fields[k]?=some f:=⟨r.fields[k],Yec hlt⟩;obtain⟨q1,q2,q3,q4,q5,q6,q7⟩:=HF.out f (Yer hfk)
    have hx:r.words[3+k]?=some f.text:=by
     rw[HR.words,show 3+k=(k+1+1) +1 by omega];simp[hfk]
    have x0:wr.cell? ⟨g,3+k,none⟩=some (.string (bs f.text)):=(hb.cell (p:=⟨g,3+k,none⟩) HB.out.lt).trans (YaR HB.out (3+k) _ hx);have c2:=fun w=>hid (Y4h 58 f.text w Z7)
    rw[q1]at c2;simp only[FR.words,Y9Z,YeH,YeV,YeY,YfH,Nat.reduceAdd]at c2;have c3:=fun w=>hid (Y68 (Y4a f.at_) (f.at_:Int) w (Y8r _) q3)
    have c4:=fun w=>hid (Y68 (Y4a f.size) (f.size:Int) w (Y8r _) q4)
    have Hn:=hid (Y6Q r.fields k f hfk);have HO:=hid hown;generalize Y17 (r.fields.take k)=xs at *;clear hown hx hfk q1 q3 q4;go_wp2_with fail;refine(c2 _).out.mono ?_;rintro e w2 ⟨rfl,rfl⟩;have B2:=Blk.new wr 9 #[.string (bs f.name),.string (bs (Y4a f.at_)),.string (bs (Y4a f.size))];have hb2:Below w1.heap.size w1 (wr.alloc (.cells #[.string (bs f.name),.string (bs (Y4a f.at_)),.string (bs (Y4a f.size))] 9)):=hb.alloc hsz _
    have HO2:=hid (HO.out.alloc (.cells #[.string (bs f.name),.string (bs (Y4a f.at_)),.string (bs (Y4a f.size))] 9));go_wp2_with fail;refine(c3 _).out.mono ?_;rintro e w3 ⟨rfl,hb3⟩;have B3:=B2.below hb3;have HO3:=hid (Y2 HO2.out hb3);have hb3:=hb2.trans (hb3.mono hb2.size);have y2:w3.cell? ⟨wr.heap.size,2,none⟩=some (.string (bs (Y4a f.size))):=(B3.cell 2).trans rfl;go_wp2_with fail;refine(c4 _).out.mono ?_
    rintro e w4 ⟨rfl,hb4⟩;have B4:=B3.below hb4;have HO4:=hid (Y2 HO3.out hb4);have hb4:=hb3.trans (hb4.mono hb3.size);have z0:w4.cell? ⟨wr.heap.size,0,none⟩=some (.string (bs f.name)):=(B4.cell 0).trans rfl;clear B2 B3 B4 HO2 HO3;have hs4:=hb4.size;go_wp2_with (at_builtin;refine Yj rfl (.tmp 41) (.tmp 48) 221 rfl w1.heap.size 225 (.agg #[.string ⟨#[]⟩,.int .i64 0,.int .i64 0]) 3 32 underlying221 Ydz rfl Z16 u5 k xs rfl (HO4.out.alloc _) ⟨w4.heap.size,0,none⟩ 1 1 f.cells rfl rfl (by intro j u hu;rw[show(⟨w4.heap.size,0,none⟩:Addr).add j=⟨w4.heap.size,j,none⟩ by(simp[Addr.add];omega),YeJ _ _ _ _ _ _ (YeC _ _)];simpa[FR.cells]using hu) (by simp[Value.oneCell',FR.cells]) ZS Z7 Zd ?_;intro v' w5 hown5 hgrow _)
    go_roundw
    case rel=>exact⟨k+1,by omega,by go_num,by rw[Hn.out];exact hown5,Yp (hb4.alloc hs4 _) (HO4.out.alloc _) hgrow Zd⟩
    case measure=>exact Zw
   ·obtain rfl:k=r.fields.length:=Z7;go_wp2;go_ret2;rw[Yex]at hown;exact⟨_,rfl,Y3x hown,(fun h=>by cases h),hb1.trans (hb.mono hb1.size)⟩
end
end Go.Proofs.YtfadikchijkcfaaGreatDoor
