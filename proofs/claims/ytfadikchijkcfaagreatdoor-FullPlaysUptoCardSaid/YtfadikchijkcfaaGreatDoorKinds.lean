/- The document's rows of PDUs: what each operation of the great region does. -/
import Derived.Test.YtfadikchijkcfaaGreatDoorParsePure
import Derived.Test.YtfadikchijkcfaaGreatDoorField
import Derived.Test.YtfadikchijkcfaaGreatDoorHeadPure
import Derived.Test.YtfadikchijkcfaaGreatDoorProg
import Derived.OwnWalkIn
import Derived.TacticsInMore
set_option linter.unusedVariables false
set_option linter.unusedSectionVars false
set_option linter.unusedSimpArgs false
set_option maxRecDepth 100000
set_option maxHeartbeats 8000000
namespace Go.Proofs.YtfadikchijkcfaaGreatDoor
section
open Go.Proofs.Tryz
open Go Go.RowKit
def FR.cells(f:FR):List Value:= [.string (bs f.name),.int .i64 (f.at_:Int),.int .i64 (f.size:Int)]
def Y17(l:List FR):List Value:=l.flatMap FR.cells
def FR.val(f:FR):Value:= .agg #[.string (bs f.name),.int .i64 (f.at_:Int),.int .i64 (f.size:Int)]
def FS(base:Nat)(w:World)(v:Value)(l:List FR):Prop:= ∃g,v= .slice (some ⟨g,0,none⟩) l.length l.length∧base≤g∧Blk w g 225 (Y17 l).toArray
theorem FS.below{base:Nat}{w w':World}{v:Value}{l:List FR}(h:FS base w v l)(hb:Below w.heap.size w w'):FS base w' v l:=by
 obtain⟨g,h1,h2,h3⟩:=h;exact⟨g,h1,h2,h3.below hb⟩
def KD(base:Nat)(w:World)(v:Value)(r:HR):Prop:= ∃s,v= .agg #[.int .i64 (r.op:Int),.string (bs r.name),.int .i64 (r.flags:Int),s]∧FS base w s r.fields
def KAll(base:Nat)(w:World)(v:Value):Prop:= ∃g ss,v= .slice (some ⟨g,0,none⟩) 18 18∧base≤g∧ss.length=18∧(∀ (i:Nat) (r:HR) (s:Value),Yd[i]?=some r→ss[i]?=some s→FS base w s r.fields)∧
 Blk w g 289 (((Yd.zip ss).flatMap fun x=> [Value.int .i64 (x.1.op:Int),.string (bs x.1.name),.int .i64 (x.1.flags:Int),x.2]).toArray)
inductive Sp where
 | any | fn | ptr (f:FR) | fld (f:FR) | fs (l:List FR) | kd (r:HR) | top
def Sat(base:Nat):Sp→Value→World→Prop
 | .any,_,_=>True
 | .fn,v,_=>v= .func (.func 201) #[] #[]
 | .ptr f,v,w=> ∃g,v= .pointer (some ⟨g,0,none⟩)∧Blk w g 225 f.cells.toArray
 | .fld f,v,_=>v=f.val
 | .fs l,v,w=>FS base w v l
 | .kd r,v,w=>KD base w v r
 | .top,v,w=>KAll base w v
theorem YcL{base:Nat}(sp:Sp){v:Value}{w w':World}(h:Sat base sp v w)(hb:Below w.heap.size w w'):Sat base sp v w':=by
 cases sp with
 | any=>trivial
 | fn=>exact h
 | ptr f=>obtain⟨g,h1,h2⟩:=h;exact⟨g,h1,h2.below hb⟩
 | fld f=>exact h
 | fs l=>exact FS.below h hb
 | kd r=>obtain⟨s,h1,h2⟩:=h;exact⟨s,h1,h2.below hb⟩
 | top=>obtain⟨g,ss,h1,h2,h3,h4,h5⟩:=h;exact⟨g,ss,h1,h2,h3,fun i r s hr hs=>(h4 i r s hr hs).below hb,h5.below hb⟩
theorem at_any(name:List UInt8)(a n:Int)(w:World):
 Calls prog 200 #[.string (bs name),.int .i64 a,.int .i64 n] w fun e w'=>e= .returned (.agg #[.string (bs name),.int .i64 a,.int .i64 n])∧Below w.heap.size w w':=by
 go_enter func200,ntmps200;go_wp2;refine Yej (v:= .agg #[.string (bs name),.int .i64 a,.int .i64 n]) (by simp[results,results200,go_sem]) rfl ?_;exact Z2v
theorem fn_any(v:Value)(w:World):
 Calls prog 201 #[v] w fun e w'=>e= .returned v∧w'=w:=by
 go_enter func201,ntmps201;go_wp2;go_ret;exact⟨rfl,rfl⟩
theorem Zn{P:Prop}(h:P:=by
 simp[ho,Op.operands]):P:=h
theorem ZT{P:Prop}(h:P:=by
 refine⟨_,rfl,?_,(Yea _ _).alloc (Ye9 _) _⟩
 rw[hds]
 exact⟨_,rfl,hb w hC,Blk.new _ _ _⟩):P:=h
theorem Z1k{P Q:Prop}(k:Q)(h:Q→P:=by
 have g0:=hR t0 Zn
 have g1:=hR t1 Zn
 have g2:=hR t2 Zn
 have g3:=hR t3 Zn
 have g4:=hR t4 Zn
 have g5:=hR t5 Zn
 refine fun z_=>?_
 revert g5;revert g4;revert g3;revert g2;revert g1;revert g0
 exact z_):P:=h k
theorem Z4Z{P Q:Prop}(k:Q)(h:Q→P:=by
 have hc: ∀v,a.eval (.const v)=v:=fun v=>rfl
 refine fun z_=>?_
 revert hc
 exact z_):P:=h k
section ops
variable {n N base:Nat}{Q:Exit→Act→World→Prop}{Ctx:World→Prop}(kS:Nat→Sp){o:Oper}{d:Tmp}
theorem Y2u{t:Tmp}(ho:o.op= .move (.tmp t))(hd:o.dst=some d)(hs:kS t= .fn)(hds:kS d= .fn):Y2v Fence.wide n prog Q (fun t v w=>Sat base (kS t) v w) Ctx N o d:=by
 intro a w hC hN hR;have h:=hR t Zn;simp only[hs,Sat]at h;unfold Oper.wpIn;refine⟨fun f hf=>trivial,?_⟩;simp only[Yf8,Yfe,execOp,ho];rw[h];refine⟨_,rfl,?_,Yea _ _⟩;rw[hds];rfl
theorem Yf{t:Tmp}{f:FR}(ho:o.op= .load 225 (.tmp t))(hd:o.dst=some d)(hs:kS t= .ptr f)(hds:kS d= .fld f):Y2v Fence.wide n prog Q (fun t v w=>Sat base (kS t) v w) Ctx N o d:=by
 intro a w hC hN hR;have h:=hR t Zn;simp only[hs,Sat]at h;obtain⟨g,hv,hB⟩:=h;have c0:w.cell? ⟨g,0,none⟩=some (.string (bs f.name)):=(hB.cell 0).trans rfl;have c1:w.cell? ⟨g,1,none⟩=some (.int .i64 (f.at_:Int)):=(hB.cell 1).trans rfl;have c2:w.cell? ⟨g,2,none⟩=some (.int .i64 (f.size:Int)):=(hB.cell 2).trans rfl;unfold Oper.wpIn;refine⟨fun f hf=>trivial,?_⟩;simp only[Yf8,Yfe,execOp,ho]
 rw[hv];simp[go_sem,c0,c1,c2,Oper.uponIn];exact⟨_,rfl,by rw[hds];rfl,Yea _ _⟩
theorem Y3t{s:ByteArray}{x y:Int}{f:FR}{tys:Array TypeId}(ho:o.op= .call {callee:= .value (.func 200),args:= #[.const (.string s),.const (.int .i64 x),.const (.int .i64 y)],argTypes:=tys})(hd:o.dst=some d)(h1:s=bs f.name)(h2:x=(f.at_:Int))(h3:y=(f.size:Int))(hds:kS d= .fld f):Y2v Fence.wide n prog Q (fun t v w=>Sat base (kS t) v w) Ctx N o d:=by
 intro a w hC hN hR
 subst h1 h2 h3
 unfold Oper.wpIn
 refine⟨fun f hf=>trivial,?_⟩
 simp only[Yf8,Yfe,execOp,ho]
 have hc: ∀v,a.eval (.const v)=v:=fun v=>rfl
 have hf: ∀v,a.eval (.func v)= .func (.func v) #[] #[]:=fun v=>rfl
 generalize a.eval=ρ at *
 simp[go_sem,resolve,invoke,Oper.uponIn,hc,hf]
 refine⟨(fun h=>by cases h),Yez.2 ((at_any f.name (f.at_:Int) (f.size:Int) w).mono ?_)⟩
 rintro e w' ⟨rfl,hb⟩
 exact⟨_,rfl,by rw[hds];rfl,hb⟩
theorem Y8L{t u:Tmp}{l:List FR}{tys:Array TypeId}(ho:o.op= .call {callee:= .value (.tmp t),args:= #[.tmp u],argTypes:=tys})(hd:o.dst=some d)(hs:kS t= .fn)(hu:kS u= .fs l)(hds:kS d= .fs l):Y2v Fence.wide n prog Q (fun t v w=>Sat base (kS t) v w) Ctx N o d:=by
 intro a w hC hN hR
 have h:=hR t (by simp[ho,Op.operands,Call.operands])
 have h2:=hR u (by simp[ho,Op.operands,Call.operands])
 simp only[hs,hu,Sat]at h h2
 unfold Oper.wpIn
 refine⟨fun f hf=>trivial,?_⟩
 simp only[Yf8,Yfe,execOp,ho]
 generalize a.eval=ρ at *
 simp[go_sem,resolve,invoke,Oper.uponIn,h]
 refine⟨(fun h=>by cases h),Yez.2 ((fn_any _ w).mono ?_)⟩
 rintro e w' ⟨rfl,rfl⟩
 exact⟨_,rfl,by rw[hds];exact h2,Yea _ _⟩
theorem Y8K{u:Tmp}{r:HR}{x y:Int}{s:ByteArray}(ho:o.op= .build 289 #[(0,.const (.int .i64 x)),(1,.const (.string s)),(2,.const (.int .i64 y)),(3,.tmp u)])(hd:o.dst=some d)(h1:s=bs r.name)(h2:x=(r.op:Int))(h3:y=(r.flags:Int))(hu:kS u= .fs r.fields)(hds:kS d= .kd r):Y2v Fence.wide n prog Q (fun t v w=>Sat base (kS t) v w) Ctx N o d:=by
 intro a w hC hN hR;subst h1 h2 h3;have h2:=hR u Zn;simp only[hu,Sat]at h2;obtain⟨g,hv,hg,hB⟩:=h2;unfold Oper.wpIn;refine⟨fun f hf=>trivial,?_⟩;simp only[Yf8,Yfe,execOp,ho];refine Z4Z ?_;intro hc;generalize a.eval=ρ at *;simp[go_sem,Oper.uponIn,hv,hc];exact⟨_,rfl,by rw[hds];exact⟨_,rfl,g,rfl,hg,hB⟩,Yea _ _⟩
theorem k_sl4{t0 t1 t2 t3:Tmp}{f0 f1 f2 f3:FR}(ho:o.op= .buildSlice 221 4 #[(0,.tmp t0),(1,.tmp t1),(2,.tmp t2),(3,.tmp t3)])(hd:o.dst=some d)(hb: ∀w,Ctx w→base≤w.heap.size)
 (h0:kS t0= .fld f0) (h1:kS t1= .fld f1) (h2:kS t2= .fld f2) (h3:kS t3= .fld f3) (hds:kS d= .fs [f0,f1,f2,f3]):Y2v Fence.wide n prog Q (fun t v w=>Sat base (kS t) v w) Ctx N o d:=by
 intro a w hC hN hR;have g0:=hR t0 Zn;have g1:=hR t1 Zn;have g2:=hR t2 Zn;have g3:=hR t3 Zn;simp only[h0,h1,h2,h3,Sat,FR.val]at g0 g1 g2 g3;unfold Oper.wpIn;refine⟨fun f hf=>trivial,?_⟩;simp only[Yf8,Yfe,execOp,ho];refine Z4Z ?_;intro hc;generalize a.eval=ρ at *;simp[go_sem,Oper.uponIn,g0,g1,g2,g3];exact ZT
theorem k_sl5{t0 t1 t2 t3 t4:Tmp}{f0 f1 f2 f3 f4:FR}(ho:o.op= .buildSlice 221 5 #[(0,.tmp t0),(1,.tmp t1),(2,.tmp t2),(3,.tmp t3),(4,.tmp t4)])(hd:o.dst=some d)(hb: ∀w,Ctx w→base≤w.heap.size)
 (h0:kS t0= .fld f0) (h1:kS t1= .fld f1) (h2:kS t2= .fld f2) (h3:kS t3= .fld f3) (h4:kS t4= .fld f4) (hds:kS d= .fs [f0,f1,f2,f3,f4]):Y2v Fence.wide n prog Q (fun t v w=>Sat base (kS t) v w) Ctx N o d:=by
 intro a w hC hN hR;have g0:=hR t0 Zn;have g1:=hR t1 Zn;have g2:=hR t2 Zn;have g3:=hR t3 Zn;have g4:=hR t4 Zn;simp only[h0,h1,h2,h3,h4,Sat,FR.val]at g0 g1 g2 g3 g4;unfold Oper.wpIn;refine⟨fun f hf=>trivial,?_⟩;simp only[Yf8,Yfe,execOp,ho];refine Z4Z ?_;intro hc;generalize a.eval=ρ at *;simp[go_sem,Oper.uponIn,g0,g1,g2,g3,g4];exact ZT
theorem Ydw{t0 t1 t2 t3 t4 t5:Tmp}{f0 f1 f2 f3 f4 f5:FR}(ho:o.op= .buildSlice 221 6 #[(0,.tmp t0),(1,.tmp t1),(2,.tmp t2),(3,.tmp t3),(4,.tmp t4),(5,.tmp t5)])(hd:o.dst=some d)(hb: ∀w,Ctx w→base≤w.heap.size)
 (h0:kS t0= .fld f0) (h1:kS t1= .fld f1) (h2:kS t2= .fld f2) (h3:kS t3= .fld f3) (h4:kS t4= .fld f4) (h5:kS t5= .fld f5) (hds:kS d= .fs [f0,f1,f2,f3,f4,f5]):Y2v Fence.wide n prog Q (fun t v w=>Sat base (kS t) v w) Ctx N o d:=by
 intro a w hC hN hR;refine Z1k ?_;intro g0 g1 g2 g3 g4 g5;simp only[h0,h1,h2,h3,h4,h5,Sat,FR.val]at g0 g1 g2 g3 g4 g5;unfold Oper.wpIn;refine⟨fun f hf=>trivial,?_⟩;simp only[Yf8,Yfe,execOp,ho];refine Z4Z ?_;intro hc;generalize a.eval=ρ at *;simp[go_sem,Oper.uponIn,g0,g1,g2,g3,g4,g5];exact ZT
theorem k_sl7{t0 t1 t2 t3 t4 t5 t6:Tmp}{f0 f1 f2 f3 f4 f5 f6:FR}(ho:o.op= .buildSlice 221 7 #[(0,.tmp t0),(1,.tmp t1),(2,.tmp t2),(3,.tmp t3),(4,.tmp t4),(5,.tmp t5),(6,.tmp t6)])(hd:o.dst=some d)(hb: ∀w,Ctx w→base≤w.heap.size)
 (h0:kS t0= .fld f0) (h1:kS t1= .fld f1) (h2:kS t2= .fld f2) (h3:kS t3= .fld f3) (h4:kS t4= .fld f4) (h5:kS t5= .fld f5) (h6:kS t6= .fld f6) (hds:kS d= .fs [f0,f1,f2,f3,f4,f5,f6]):Y2v Fence.wide n prog Q (fun t v w=>Sat base (kS t) v w) Ctx N o d:=by
 intro a w hC hN hR;refine Z1k ?_;intro g0 g1 g2 g3 g4 g5;have g6:=hR t6 Zn;simp only[h0,h1,h2,h3,h4,h5,h6,Sat,FR.val]at g0 g1 g2 g3 g4 g5 g6;unfold Oper.wpIn;refine⟨fun f hf=>trivial,?_⟩;simp only[Yf8,Yfe,execOp,ho];refine Z4Z ?_;intro hc;generalize a.eval=ρ at *;simp[go_sem,Oper.uponIn,g0,g1,g2,g3,g4,g5,g6];exact ZT
theorem k_sl8{t0 t1 t2 t3 t4 t5 t6 t7:Tmp}{f0 f1 f2 f3 f4 f5 f6 f7:FR}(ho:o.op= .buildSlice 221 8 #[(0,.tmp t0),(1,.tmp t1),(2,.tmp t2),(3,.tmp t3),(4,.tmp t4),(5,.tmp t5),(6,.tmp t6),(7,.tmp t7)])(hd:o.dst=some d)(hb: ∀w,Ctx w→base≤w.heap.size)
 (h0:kS t0= .fld f0) (h1:kS t1= .fld f1) (h2:kS t2= .fld f2) (h3:kS t3= .fld f3) (h4:kS t4= .fld f4) (h5:kS t5= .fld f5) (h6:kS t6= .fld f6) (h7:kS t7= .fld f7) (hds:kS d= .fs [f0,f1,f2,f3,f4,f5,f6,f7]):Y2v Fence.wide n prog Q (fun t v w=>Sat base (kS t) v w) Ctx N o d:=by
 intro a w hC hN hR;refine Z1k ?_;intro g0 g1 g2 g3 g4 g5;have g6:=hR t6 Zn;have g7:=hR t7 Zn;simp only[h0,h1,h2,h3,h4,h5,h6,h7,Sat,FR.val]at g0 g1 g2 g3 g4 g5 g6 g7;unfold Oper.wpIn;refine⟨fun f hf=>trivial,?_⟩;simp only[Yf8,Yfe,execOp,ho];refine Z4Z ?_;intro hc;generalize a.eval=ρ at *;simp[go_sem,Oper.uponIn,g0,g1,g2,g3,g4,g5,g6,g7];exact ZT
theorem k_sl9{t0 t1 t2 t3 t4 t5 t6 t7 t8:Tmp}{f0 f1 f2 f3 f4 f5 f6 f7 f8:FR}(ho:o.op= .buildSlice 221 9 #[(0,.tmp t0),(1,.tmp t1),(2,.tmp t2),(3,.tmp t3),(4,.tmp t4),(5,.tmp t5),(6,.tmp t6),(7,.tmp t7),(8,.tmp t8)])(hd:o.dst=some d)(hb: ∀w,Ctx w→base≤w.heap.size)
 (h0:kS t0= .fld f0) (h1:kS t1= .fld f1) (h2:kS t2= .fld f2) (h3:kS t3= .fld f3) (h4:kS t4= .fld f4) (h5:kS t5= .fld f5) (h6:kS t6= .fld f6) (h7:kS t7= .fld f7) (h8:kS t8= .fld f8) (hds:kS d= .fs [f0,f1,f2,f3,f4,f5,f6,f7,f8]):Y2v Fence.wide n prog Q (fun t v w=>Sat base (kS t) v w) Ctx N o d:=by
 intro a w hC hN hR;refine Z1k ?_;intro g0 g1 g2 g3 g4 g5;have g6:=hR t6 Zn;have g7:=hR t7 Zn;have g8:=hR t8 Zn;simp only[h0,h1,h2,h3,h4,h5,h6,h7,h8,Sat,FR.val]at g0 g1 g2 g3 g4 g5 g6 g7 g8;unfold Oper.wpIn;refine⟨fun f hf=>trivial,?_⟩;simp only[Yf8,Yfe,execOp,ho];refine Z4Z ?_;intro hc;generalize a.eval=ρ at *;simp[go_sem,Oper.uponIn,g0,g1,g2,g3,g4,g5,g6,g7,g8];exact ZT
theorem Yb5{t0 t1 t2 t3 t4 t5 t6 t7 t8 t9:Tmp}{f0 f1 f2 f3 f4 f5 f6 f7 f8 f9:FR}(ho:o.op= .buildSlice 221 10 #[(0,.tmp t0),(1,.tmp t1),(2,.tmp t2),(3,.tmp t3),(4,.tmp t4),(5,.tmp t5),(6,.tmp t6),(7,.tmp t7),(8,.tmp t8),(9,.tmp t9)])(hd:o.dst=some d)(hb: ∀w,Ctx w→base≤w.heap.size)
 (h0:kS t0= .fld f0) (h1:kS t1= .fld f1) (h2:kS t2= .fld f2) (h3:kS t3= .fld f3) (h4:kS t4= .fld f4) (h5:kS t5= .fld f5) (h6:kS t6= .fld f6) (h7:kS t7= .fld f7) (h8:kS t8= .fld f8) (h9:kS t9= .fld f9) (hds:kS d= .fs [f0,f1,f2,f3,f4,f5,f6,f7,f8,f9]):Y2v Fence.wide n prog Q (fun t v w=>Sat base (kS t) v w) Ctx N o d:=by
 intro a w hC hN hR;refine Z1k ?_;intro g0 g1 g2 g3 g4 g5;have g6:=hR t6 Zn;have g7:=hR t7 Zn;have g8:=hR t8 Zn;have g9:=hR t9 Zn;simp only[h0,h1,h2,h3,h4,h5,h6,h7,h8,h9,Sat,FR.val]at g0 g1 g2 g3 g4 g5 g6 g7 g8 g9;unfold Oper.wpIn;refine⟨fun f hf=>trivial,?_⟩;simp only[Yf8,Yfe,execOp,ho];refine Z4Z ?_;intro hc;generalize a.eval=ρ at *;simp[go_sem,Oper.uponIn,g0,g1,g2,g3,g4,g5,g6,g7,g8,g9]
 exact ZT
theorem k_top{t0 t1 t2 t3 t4 t5 t6 t7 t8 t9 t10 t11 t12 t13 t14 t15 t16 t17:Tmp}{r0 r1 r2 r3 r4 r5 r6 r7 r8 r9 r10 r11 r12 r13 r14 r15 r16 r17:HR}(ho:o.op= .buildSlice 286 18 #[(0,.tmp t0),(1,.tmp t1),(2,.tmp t2),(3,.tmp t3),(4,.tmp t4),(5,.tmp t5),(6,.tmp t6),(7,.tmp t7),(8,.tmp t8),(9,.tmp t9),(10,.tmp t10),(11,.tmp t11),(12,.tmp t12),(13,.tmp t13),(14,.tmp t14),(15,.tmp t15),(16,.tmp t16),(17,.tmp t17)])(hd:o.dst=some d)(hb: ∀w,Ctx w→base≤w.heap.size)
 (hrs:Yd= [r0,r1,r2,r3,r4,r5,r6,r7,r8,r9,r10,r11,r12,r13,r14,r15,r16,r17]) (h0:kS t0= .kd r0) (h1:kS t1= .kd r1) (h2:kS t2= .kd r2) (h3:kS t3= .kd r3) (h4:kS t4= .kd r4) (h5:kS t5= .kd r5) (h6:kS t6= .kd r6) (h7:kS t7= .kd r7) (h8:kS t8= .kd r8) (h9:kS t9= .kd r9) (h10:kS t10= .kd r10) (h11:kS t11= .kd r11) (h12:kS t12= .kd r12) (h13:kS t13= .kd r13) (h14:kS t14= .kd r14) (h15:kS t15= .kd r15) (h16:kS t16= .kd r16) (h17:kS t17= .kd r17) (hds:kS d= .top):Y2v Fence.wide n prog Q (fun t v w=>Sat base (kS t) v w) Ctx N o d:=by
 intro a w hC hN hR;refine Z1k ?_;intro g0 g1 g2 g3 g4 g5;have g6:=hR t6 Zn;have g7:=hR t7 Zn;have g8:=hR t8 Zn;have g9:=hR t9 Zn;have g10:=hR t10 Zn;have g11:=hR t11 Zn;have g12:=hR t12 Zn;have g13:=hR t13 Zn;have g14:=hR t14 Zn;have g15:=hR t15 Zn;have g16:=hR t16 Zn;have g17:=hR t17 Zn;simp only[h0,h1,h2,h3,h4,h5,h6,h7,h8,h9,h10,h11,h12,h13,h14,h15,h16,h17,Sat]at g0 g1 g2 g3 g4 g5 g6 g7 g8 g9 g10 g11 g12 g13 g14 g15 g16 g17
 obtain⟨s0,g0,x0⟩:=g0;obtain⟨s1,g1,x1⟩:=g1;obtain⟨s2,g2,x2⟩:=g2;obtain⟨s3,g3,x3⟩:=g3;obtain⟨s4,g4,x4⟩:=g4;obtain⟨s5,g5,x5⟩:=g5;obtain⟨s6,g6,x6⟩:=g6;obtain⟨s7,g7,x7⟩:=g7;obtain⟨s8,g8,x8⟩:=g8;obtain⟨s9,g9,x9⟩:=g9;obtain⟨s10,g10,x10⟩:=g10;obtain⟨s11,g11,x11⟩:=g11;obtain⟨s12,g12,x12⟩:=g12;obtain⟨s13,g13,x13⟩:=g13;obtain⟨s14,g14,x14⟩:=g14;obtain⟨s15,g15,x15⟩:=g15;obtain⟨s16,g16,x16⟩:=g16;obtain⟨s17,g17,x17⟩:=g17
 unfold Oper.wpIn;refine⟨fun f hf=>trivial,?_⟩;simp only[Yf8,Yfe,execOp,ho];generalize a.eval=ρ at *;simp[go_sem,Oper.uponIn,g0,g1,g2,g3,g4,g5,g6,g7,g8,g9,g10,g11,g12,g13,g14,g15,g16,g17];have hbw: ∀o,Below w.heap.size w (w.alloc o):=fun o=>(Yea _ _).alloc (Ye9 _) _
 refine⟨_,rfl,?_,hbw _⟩;rw[hds];refine⟨_,[s0,s1,s2,s3,s4,s5,s6,s7,s8,s9,s10,s11,s12,s13,s14,s15,s16,s17],rfl,hb w hC,rfl,?_,?_⟩
 ·rw[hrs];intro i r s hr hs
  match i,hr,hs with
  | 0,hr,hs=>cases hr;cases hs;exact x0.below (hbw _)
  | 1,hr,hs=>cases hr;cases hs;exact x1.below (hbw _)
  | 2,hr,hs=>cases hr;cases hs;exact x2.below (hbw _)
  | 3,hr,hs=>cases hr;cases hs;exact x3.below (hbw _)
  | 4,hr,hs=>cases hr;cases hs;exact x4.below (hbw _)
  | 5,hr,hs=>cases hr;cases hs;exact x5.below (hbw _)
  | 6,hr,hs=>cases hr;cases hs;exact x6.below (hbw _)
  | 7,hr,hs=>cases hr;cases hs;exact x7.below (hbw _)
  | 8,hr,hs=>cases hr;cases hs;exact x8.below (hbw _)
  | 9,hr,hs=>cases hr;cases hs;exact x9.below (hbw _)
  | 10,hr,hs=>cases hr;cases hs;exact x10.below (hbw _)
  | 11,hr,hs=>cases hr;cases hs;exact x11.below (hbw _)
  | 12,hr,hs=>cases hr;cases hs;exact x12.below (hbw _)
  | 13,hr,hs=>cases hr;cases hs;exact x13.below (hbw _)
  | 14,hr,hs=>cases hr;cases hs;exact x14.below (hbw _)
  | 15,hr,hs=>cases hr;cases hs;exact x15.below (hbw _)
  | 16,hr,hs=>cases hr;cases hs;exact x16.below (hbw _)
  | 17,hr,hs=>cases hr;cases hs;exact x17.below (hbw _)
  | k+18,hr,hs=>cases hr
 ·rw[hrs];exact Blk.new _ _ _
theorem k_assign{u:Tmp}(ho:o.op= .assign (.tmp u))(hd:o.dst=some d)(hu:kS u= .top)(hds:kS d= .top):Y2v Fence.wide n prog Q (fun t v w=>Sat base (kS t) v w) Ctx N o d:=by
 intro a w hC hN hR;have h:=hR u Zn;simp only[hu,Sat]at h;unfold Oper.wpIn;refine⟨fun f hf=>trivial,?_⟩;simp only[Yf8,Yfe,execOp,ho];refine⟨_,rfl,?_,Yea _ _⟩;rw[hds];exact h
end ops
end
section
open Go.Proofs.Tryz
open Go Go.RowKit
def Ydy:List Sp:= [
 .top,
 .ptr ⟨[76,85,78],8,8⟩,
 .ptr ⟨[73,84,84],16,4⟩,
 .ptr ⟨[84,84,84],20,4⟩,
 .ptr ⟨[67,109,100,83,78],24,4⟩,
 .ptr ⟨[69,120,112,83,116,97,116,83,78],28,4⟩,
 .ptr ⟨[83,116,97,116,83,78],24,4⟩,
 .ptr ⟨[69,120,112,67,109,100,83,78],28,4⟩,
 .ptr ⟨[77,97,120,67,109,100,83,78],32,4⟩,
 .ptr ⟨[73,83,73,68],8,6⟩,
 .ptr ⟨[84,83,73,72],14,2⟩,
 .fn,
 .any,
 .any,
 .any,
 .any,
 .any,
 .any,
 .any,
 .any,
 .any,
 .any,
 .fn,
 .fld ⟨[76,85,78],8,8⟩,
 .fld ⟨[73,84,84],16,4⟩,
 .fld ⟨[84,84,84],20,4⟩,
 .fld ⟨[67,109,100,83,78],24,4⟩,
 .fld ⟨[69,120,112,83,116,97,116,83,78],28,4⟩,
 .fs [⟨[76,85,78],8,8⟩,⟨[73,84,84],16,4⟩,⟨[84,84,84],20,4⟩,⟨[67,109,100,83,78],24,4⟩,⟨[69,120,112,83,116,97,116,83,78],28,4⟩],
 .fs [⟨[76,85,78],8,8⟩,⟨[73,84,84],16,4⟩,⟨[84,84,84],20,4⟩,⟨[67,109,100,83,78],24,4⟩,⟨[69,120,112,83,116,97,116,83,78],28,4⟩],
 .kd (Yd.getD 0 ⟨0,[],0,[]⟩),
 .fn,
 .fld ⟨[76,85,78],8,8⟩,
 .fld ⟨[73,84,84],16,4⟩,
 .fld ⟨[76,101,110,103,116,104],20,4⟩,
 .fld ⟨[67,109,100,83,78],24,4⟩,
 .fld ⟨[69,120,112,83,116,97,116,83,78],28,4⟩,
 .fld ⟨[67,100,98,65],32,8⟩,
 .fld ⟨[67,100,98,66],40,8⟩,
 .fs [⟨[76,85,78],8,8⟩,⟨[73,84,84],16,4⟩,⟨[76,101,110,103,116,104],20,4⟩,⟨[67,109,100,83,78],24,4⟩,⟨[69,120,112,83,116,97,116,83,78],28,4⟩,⟨[67,100,98,65],32,8⟩,⟨[67,100,98,66],40,8⟩],
 .fs [⟨[76,85,78],8,8⟩,⟨[73,84,84],16,4⟩,⟨[76,101,110,103,116,104],20,4⟩,⟨[67,109,100,83,78],24,4⟩,⟨[69,120,112,83,116,97,116,83,78],28,4⟩,⟨[67,100,98,65],32,8⟩,⟨[67,100,98,66],40,8⟩],
 .kd (Yd.getD 1 ⟨0,[],0,[]⟩),
 .fn,
 .fld ⟨[76,85,78],8,8⟩,
 .fld ⟨[73,84,84],16,4⟩,
 .fld ⟨[82,101,102,84,97,103],20,4⟩,
 .fld ⟨[67,109,100,83,78],24,4⟩,
 .fld ⟨[69,120,112,83,116,97,116,83,78],28,4⟩,
 .fld ⟨[82,101,102,67,109,100,83,78],32,4⟩,
 .fld ⟨[69,120,112,68,97,116,97,83,78],36,4⟩,
 .fs [⟨[76,85,78],8,8⟩,⟨[73,84,84],16,4⟩,⟨[82,101,102,84,97,103],20,4⟩,⟨[67,109,100,83,78],24,4⟩,⟨[69,120,112,83,116,97,116,83,78],28,4⟩,⟨[82,101,102,67,109,100,83,78],32,4⟩,⟨[69,120,112,68,97,116,97,83,78],36,4⟩],
 .fs [⟨[76,85,78],8,8⟩,⟨[73,84,84],16,4⟩,⟨[82,101,102,84,97,103],20,4⟩,⟨[67,109,100,83,78],24,4⟩,⟨[69,120,112,83,116,97,116,83,78],28,4⟩,⟨[82,101,102,67,109,100,83,78],32,4⟩,⟨[69,120,112,68,97,116,97,83,78],36,4⟩],
 .kd (Yd.getD 2 ⟨0,[],0,[]⟩),
 .fn,
 .fld ⟨[86,101,114,115,105,111,110,77,97,120],2,1⟩,
 .fld ⟨[86,101,114,115,105,111,110,77,105,110],3,1⟩,
 .fld ⟨[73,83,73,68],8,6⟩,
 .fld ⟨[84,83,73,72],14,2⟩,
 .fld ⟨[73,84,84],16,4⟩,
 .fld ⟨[67,73,68],20,2⟩,
 .fld ⟨[67,109,100,83,78],24,4⟩,
 .fld ⟨[69,120,112,83,116,97,116,83,78],28,4⟩,
 .fs [⟨[86,101,114,115,105,111,110,77,97,120],2,1⟩,⟨[86,101,114,115,105,111,110,77,105,110],3,1⟩,⟨[73,83,73,68],8,6⟩,⟨[84,83,73,72],14,2⟩,⟨[73,84,84],16,4⟩,⟨[67,73,68],20,2⟩,⟨[67,109,100,83,78],24,4⟩,⟨[69,120,112,83,116,97,116,83,78],28,4⟩],
 .fs [⟨[86,101,114,115,105,111,110,77,97,120],2,1⟩,⟨[86,101,114,115,105,111,110,77,105,110],3,1⟩,⟨[73,83,73,68],8,6⟩,⟨[84,83,73,72],14,2⟩,⟨[73,84,84],16,4⟩,⟨[67,73,68],20,2⟩,⟨[67,109,100,83,78],24,4⟩,⟨[69,120,112,83,116,97,116,83,78],28,4⟩],
 .kd (Yd.getD 3 ⟨0,[],0,[]⟩),
 .fn,
 .fld ⟨[76,85,78],8,8⟩,
 .fld ⟨[73,84,84],16,4⟩,
 .fld ⟨[84,84,84],20,4⟩,
 .fld ⟨[67,109,100,83,78],24,4⟩,
 .fld ⟨[69,120,112,83,116,97,116,83,78],28,4⟩,
 .fs [⟨[76,85,78],8,8⟩,⟨[73,84,84],16,4⟩,⟨[84,84,84],20,4⟩,⟨[67,109,100,83,78],24,4⟩,⟨[69,120,112,83,116,97,116,83,78],28,4⟩],
 .fs [⟨[76,85,78],8,8⟩,⟨[73,84,84],16,4⟩,⟨[84,84,84],20,4⟩,⟨[67,109,100,83,78],24,4⟩,⟨[69,120,112,83,116,97,116,83,78],28,4⟩],
 .kd (Yd.getD 4 ⟨0,[],0,[]⟩),
 .fn,
 .fld ⟨[76,85,78],8,8⟩,
 .fld ⟨[73,84,84],16,4⟩,
 .fld ⟨[84,84,84],20,4⟩,
 .fld ⟨[69,120,112,83,116,97,116,83,78],28,4⟩,
 .fld ⟨[68,97,116,97,83,78],36,4⟩,
 .fld ⟨[79,102,102,115,101,116],40,4⟩,
 .fs [⟨[76,85,78],8,8⟩,⟨[73,84,84],16,4⟩,⟨[84,84,84],20,4⟩,⟨[69,120,112,83,116,97,116,83,78],28,4⟩,⟨[68,97,116,97,83,78],36,4⟩,⟨[79,102,102,115,101,116],40,4⟩],
 .fs [⟨[76,85,78],8,8⟩,⟨[73,84,84],16,4⟩,⟨[84,84,84],20,4⟩,⟨[69,120,112,83,116,97,116,83,78],28,4⟩,⟨[68,97,116,97,83,78],36,4⟩,⟨[79,102,102,115,101,116],40,4⟩],
 .kd (Yd.getD 5 ⟨0,[],0,[]⟩),
 .fn,
 .fld ⟨[73,84,84],16,4⟩,
 .fld ⟨[67,73,68],20,2⟩,
 .fld ⟨[67,109,100,83,78],24,4⟩,
 .fld ⟨[69,120,112,83,116,97,116,83,78],28,4⟩,
 .fs [⟨[73,84,84],16,4⟩,⟨[67,73,68],20,2⟩,⟨[67,109,100,83,78],24,4⟩,⟨[69,120,112,83,116,97,116,83,78],28,4⟩],
 .fs [⟨[73,84,84],16,4⟩,⟨[67,73,68],20,2⟩,⟨[67,109,100,83,78],24,4⟩,⟨[69,120,112,83,116,97,116,83,78],28,4⟩],
 .kd (Yd.getD 6 ⟨0,[],0,[]⟩),
 .fn,
 .fld ⟨[76,85,78],8,8⟩,
 .fld ⟨[73,84,84],16,4⟩,
 .fld ⟨[84,84,84],20,4⟩,
 .fld ⟨[69,120,112,83,116,97,116,83,78],28,4⟩,
 .fld ⟨[66,101,103,82,117,110],40,4⟩,
 .fld ⟨[82,117,110,76,101,110,103,116,104],44,4⟩,
 .fs [⟨[76,85,78],8,8⟩,⟨[73,84,84],16,4⟩,⟨[84,84,84],20,4⟩,⟨[69,120,112,83,116,97,116,83,78],28,4⟩,⟨[66,101,103,82,117,110],40,4⟩,⟨[82,117,110,76,101,110,103,116,104],44,4⟩],
 .fs [⟨[76,85,78],8,8⟩,⟨[73,84,84],16,4⟩,⟨[84,84,84],20,4⟩,⟨[69,120,112,83,116,97,116,83,78],28,4⟩,⟨[66,101,103,82,117,110],40,4⟩,⟨[82,117,110,76,101,110,103,116,104],44,4⟩],
 .kd (Yd.getD 7 ⟨0,[],0,[]⟩),
 .fn,
 .fld ⟨[76,85,78],8,8⟩,
 .fld ⟨[73,84,84],16,4⟩,
 .fld ⟨[84,84,84],20,4⟩,
 .fld ⟨[83,116,97,116,83,78],24,4⟩,
 .fld ⟨[69,120,112,67,109,100,83,78],28,4⟩,
 .fld ⟨[77,97,120,67,109,100,83,78],32,4⟩,
 .fs [⟨[76,85,78],8,8⟩,⟨[73,84,84],16,4⟩,⟨[84,84,84],20,4⟩,⟨[83,116,97,116,83,78],24,4⟩,⟨[69,120,112,67,109,100,83,78],28,4⟩,⟨[77,97,120,67,109,100,83,78],32,4⟩],
 .fs [⟨[76,85,78],8,8⟩,⟨[73,84,84],16,4⟩,⟨[84,84,84],20,4⟩,⟨[83,116,97,116,83,78],24,4⟩,⟨[69,120,112,67,109,100,83,78],28,4⟩,⟨[77,97,120,67,109,100,83,78],32,4⟩],
 .kd (Yd.getD 8 ⟨0,[],0,[]⟩),
 .fn,
 .fld ⟨[82,101,115,112,111,110,115,101],2,1⟩,
 .fld ⟨[83,116,97,116,117,115],3,1⟩,
 .fld ⟨[73,84,84],16,4⟩,
 .fld ⟨[83,110,97,99,107,84,97,103],20,4⟩,
 .fld ⟨[83,116,97,116,83,78],24,4⟩,
 .fld ⟨[69,120,112,67,109,100,83,78],28,4⟩,
 .fld ⟨[77,97,120,67,109,100,83,78],32,4⟩,
 .fld ⟨[69,120,112,68,97,116,97,83,78],36,4⟩,
 .fld ⟨[66,105,100,105,82,101,115,105,100,117,97,108],40,4⟩,
 .fld ⟨[82,101,115,105,100,117,97,108],44,4⟩,
 .fs [⟨[82,101,115,112,111,110,115,101],2,1⟩,⟨[83,116,97,116,117,115],3,1⟩,⟨[73,84,84],16,4⟩,⟨[83,110,97,99,107,84,97,103],20,4⟩,⟨[83,116,97,116,83,78],24,4⟩,⟨[69,120,112,67,109,100,83,78],28,4⟩,⟨[77,97,120,67,109,100,83,78],32,4⟩,⟨[69,120,112,68,97,116,97,83,78],36,4⟩,⟨[66,105,100,105,82,101,115,105,100,117,97,108],40,4⟩,⟨[82,101,115,105,100,117,97,108],44,4⟩],
 .fs [⟨[82,101,115,112,111,110,115,101],2,1⟩,⟨[83,116,97,116,117,115],3,1⟩,⟨[73,84,84],16,4⟩,⟨[83,110,97,99,107,84,97,103],20,4⟩,⟨[83,116,97,116,83,78],24,4⟩,⟨[69,120,112,67,109,100,83,78],28,4⟩,⟨[77,97,120,67,109,100,83,78],32,4⟩,⟨[69,120,112,68,97,116,97,83,78],36,4⟩,⟨[66,105,100,105,82,101,115,105,100,117,97,108],40,4⟩,⟨[82,101,115,105,100,117,97,108],44,4⟩],
 .kd (Yd.getD 9 ⟨0,[],0,[]⟩),
 .fn,
 .fld ⟨[82,101,115,112,111,110,115,101],2,1⟩,
 .fld ⟨[73,84,84],16,4⟩,
 .fld ⟨[83,116,97,116,83,78],24,4⟩,
 .fld ⟨[69,120,112,67,109,100,83,78],28,4⟩,
 .fld ⟨[77,97,120,67,109,100,83,78],32,4⟩,
 .fs [⟨[82,101,115,112,111,110,115,101],2,1⟩,⟨[73,84,84],16,4⟩,⟨[83,116,97,116,83,78],24,4⟩,⟨[69,120,112,67,109,100,83,78],28,4⟩,⟨[77,97,120,67,109,100,83,78],32,4⟩],
 .fs [⟨[82,101,115,112,111,110,115,101],2,1⟩,⟨[73,84,84],16,4⟩,⟨[83,116,97,116,83,78],24,4⟩,⟨[69,120,112,67,109,100,83,78],28,4⟩,⟨[77,97,120,67,109,100,83,78],32,4⟩],
 .kd (Yd.getD 10 ⟨0,[],0,[]⟩),
 .fn,
 .fld ⟨[86,101,114,115,105,111,110,77,97,120],2,1⟩,
 .fld ⟨[86,101,114,115,105,111,110,65,99,116,105,118,101],3,1⟩,
 .fld ⟨[73,83,73,68],8,6⟩,
 .fld ⟨[84,83,73,72],14,2⟩,
 .fld ⟨[73,84,84],16,4⟩,
 .fld ⟨[83,116,97,116,83,78],24,4⟩,
 .fld ⟨[69,120,112,67,109,100,83,78],28,4⟩,
 .fld ⟨[77,97,120,67,109,100,83,78],32,4⟩,
 .fld ⟨[83,116,97,116,117,115,67,108,97,115,115],36,1⟩,
 .fld ⟨[83,116,97,116,117,115,68,101,116,97,105,108],37,1⟩,
 .fs [⟨[86,101,114,115,105,111,110,77,97,120],2,1⟩,⟨[86,101,114,115,105,111,110,65,99,116,105,118,101],3,1⟩,⟨[73,83,73,68],8,6⟩,⟨[84,83,73,72],14,2⟩,⟨[73,84,84],16,4⟩,⟨[83,116,97,116,83,78],24,4⟩,⟨[69,120,112,67,109,100,83,78],28,4⟩,⟨[77,97,120,67,109,100,83,78],32,4⟩,⟨[83,116,97,116,117,115,67,108,97,115,115],36,1⟩,⟨[83,116,97,116,117,115,68,101,116,97,105,108],37,1⟩],
 .fs [⟨[86,101,114,115,105,111,110,77,97,120],2,1⟩,⟨[86,101,114,115,105,111,110,65,99,116,105,118,101],3,1⟩,⟨[73,83,73,68],8,6⟩,⟨[84,83,73,72],14,2⟩,⟨[73,84,84],16,4⟩,⟨[83,116,97,116,83,78],24,4⟩,⟨[69,120,112,67,109,100,83,78],28,4⟩,⟨[77,97,120,67,109,100,83,78],32,4⟩,⟨[83,116,97,116,117,115,67,108,97,115,115],36,1⟩,⟨[83,116,97,116,117,115,68,101,116,97,105,108],37,1⟩],
 .kd (Yd.getD 11 ⟨0,[],0,[]⟩),
 .fn,
 .fld ⟨[76,85,78],8,8⟩,
 .fld ⟨[73,84,84],16,4⟩,
 .fld ⟨[84,84,84],20,4⟩,
 .fld ⟨[83,116,97,116,83,78],24,4⟩,
 .fld ⟨[69,120,112,67,109,100,83,78],28,4⟩,
 .fld ⟨[77,97,120,67,109,100,83,78],32,4⟩,
 .fs [⟨[76,85,78],8,8⟩,⟨[73,84,84],16,4⟩,⟨[84,84,84],20,4⟩,⟨[83,116,97,116,83,78],24,4⟩,⟨[69,120,112,67,109,100,83,78],28,4⟩,⟨[77,97,120,67,109,100,83,78],32,4⟩],
 .fs [⟨[76,85,78],8,8⟩,⟨[73,84,84],16,4⟩,⟨[84,84,84],20,4⟩,⟨[83,116,97,116,83,78],24,4⟩,⟨[69,120,112,67,109,100,83,78],28,4⟩,⟨[77,97,120,67,109,100,83,78],32,4⟩],
 .kd (Yd.getD 12 ⟨0,[],0,[]⟩),
 .fn,
 .fld ⟨[83,116,97,116,117,115],3,1⟩,
 .fld ⟨[76,85,78],8,8⟩,
 .fld ⟨[73,84,84],16,4⟩,
 .fld ⟨[84,84,84],20,4⟩,
 .fld ⟨[83,116,97,116,83,78],24,4⟩,
 .fld ⟨[69,120,112,67,109,100,83,78],28,4⟩,
 .fld ⟨[77,97,120,67,109,100,83,78],32,4⟩,
 .fld ⟨[68,97,116,97,83,78],36,4⟩,
 .fld ⟨[79,102,102,115,101,116],40,4⟩,
 .fld ⟨[82,101,115,105,100,117,97,108],44,4⟩,
 .fs [⟨[83,116,97,116,117,115],3,1⟩,⟨[76,85,78],8,8⟩,⟨[73,84,84],16,4⟩,⟨[84,84,84],20,4⟩,⟨[83,116,97,116,83,78],24,4⟩,⟨[69,120,112,67,109,100,83,78],28,4⟩,⟨[77,97,120,67,109,100,83,78],32,4⟩,⟨[68,97,116,97,83,78],36,4⟩,⟨[79,102,102,115,101,116],40,4⟩,⟨[82,101,115,105,100,117,97,108],44,4⟩],
 .fs [⟨[83,116,97,116,117,115],3,1⟩,⟨[76,85,78],8,8⟩,⟨[73,84,84],16,4⟩,⟨[84,84,84],20,4⟩,⟨[83,116,97,116,83,78],24,4⟩,⟨[69,120,112,67,109,100,83,78],28,4⟩,⟨[77,97,120,67,109,100,83,78],32,4⟩,⟨[68,97,116,97,83,78],36,4⟩,⟨[79,102,102,115,101,116],40,4⟩,⟨[82,101,115,105,100,117,97,108],44,4⟩],
 .kd (Yd.getD 13 ⟨0,[],0,[]⟩),
 .fn,
 .fld ⟨[82,101,115,112,111,110,115,101],2,1⟩,
 .fld ⟨[73,84,84],16,4⟩,
 .fld ⟨[83,116,97,116,83,78],24,4⟩,
 .fld ⟨[69,120,112,67,109,100,83,78],28,4⟩,
 .fld ⟨[77,97,120,67,109,100,83,78],32,4⟩,
 .fld ⟨[84,105,109,101,50,87,97,105,116],40,2⟩,
 .fld ⟨[84,105,109,101,50,82,101,116,97,105,110],42,2⟩,
 .fs [⟨[82,101,115,112,111,110,115,101],2,1⟩,⟨[73,84,84],16,4⟩,⟨[83,116,97,116,83,78],24,4⟩,⟨[69,120,112,67,109,100,83,78],28,4⟩,⟨[77,97,120,67,109,100,83,78],32,4⟩,⟨[84,105,109,101,50,87,97,105,116],40,2⟩,⟨[84,105,109,101,50,82,101,116,97,105,110],42,2⟩],
 .fs [⟨[82,101,115,112,111,110,115,101],2,1⟩,⟨[73,84,84],16,4⟩,⟨[83,116,97,116,83,78],24,4⟩,⟨[69,120,112,67,109,100,83,78],28,4⟩,⟨[77,97,120,67,109,100,83,78],32,4⟩,⟨[84,105,109,101,50,87,97,105,116],40,2⟩,⟨[84,105,109,101,50,82,101,116,97,105,110],42,2⟩],
 .kd (Yd.getD 14 ⟨0,[],0,[]⟩),
 .fn,
 .fld ⟨[76,85,78],8,8⟩,
 .fld ⟨[73,84,84],16,4⟩,
 .fld ⟨[84,84,84],20,4⟩,
 .fld ⟨[83,116,97,116,83,78],24,4⟩,
 .fld ⟨[69,120,112,67,109,100,83,78],28,4⟩,
 .fld ⟨[77,97,120,67,109,100,83,78],32,4⟩,
 .fld ⟨[82,50,84,83,78],36,4⟩,
 .fld ⟨[79,102,102,115,101,116],40,4⟩,
 .fld ⟨[76,101,110,103,116,104],44,4⟩,
 .fs [⟨[76,85,78],8,8⟩,⟨[73,84,84],16,4⟩,⟨[84,84,84],20,4⟩,⟨[83,116,97,116,83,78],24,4⟩,⟨[69,120,112,67,109,100,83,78],28,4⟩,⟨[77,97,120,67,109,100,83,78],32,4⟩,⟨[82,50,84,83,78],36,4⟩,⟨[79,102,102,115,101,116],40,4⟩,⟨[76,101,110,103,116,104],44,4⟩],
 .fs [⟨[76,85,78],8,8⟩,⟨[73,84,84],16,4⟩,⟨[84,84,84],20,4⟩,⟨[83,116,97,116,83,78],24,4⟩,⟨[69,120,112,67,109,100,83,78],28,4⟩,⟨[77,97,120,67,109,100,83,78],32,4⟩,⟨[82,50,84,83,78],36,4⟩,⟨[79,102,102,115,101,116],40,4⟩,⟨[76,101,110,103,116,104],44,4⟩],
 .kd (Yd.getD 15 ⟨0,[],0,[]⟩),
 .fn,
 .fld ⟨[76,85,78],8,8⟩,
 .fld ⟨[73,84,84],16,4⟩,
 .fld ⟨[83,116,97,116,83,78],24,4⟩,
 .fld ⟨[69,120,112,67,109,100,83,78],28,4⟩,
 .fld ⟨[77,97,120,67,109,100,83,78],32,4⟩,
 .fld ⟨[69,118,101,110,116],36,1⟩,
 .fld ⟨[86,67,111,100,101],37,1⟩,
 .fld ⟨[80,97,114,97,109,101,116,101,114,49],38,2⟩,
 .fld ⟨[80,97,114,97,109,101,116,101,114,50],40,2⟩,
 .fld ⟨[80,97,114,97,109,101,116,101,114,51],42,2⟩,
 .fs [⟨[76,85,78],8,8⟩,⟨[73,84,84],16,4⟩,⟨[83,116,97,116,83,78],24,4⟩,⟨[69,120,112,67,109,100,83,78],28,4⟩,⟨[77,97,120,67,109,100,83,78],32,4⟩,⟨[69,118,101,110,116],36,1⟩,⟨[86,67,111,100,101],37,1⟩,⟨[80,97,114,97,109,101,116,101,114,49],38,2⟩,⟨[80,97,114,97,109,101,116,101,114,50],40,2⟩,⟨[80,97,114,97,109,101,116,101,114,51],42,2⟩],
 .fs [⟨[76,85,78],8,8⟩,⟨[73,84,84],16,4⟩,⟨[83,116,97,116,83,78],24,4⟩,⟨[69,120,112,67,109,100,83,78],28,4⟩,⟨[77,97,120,67,109,100,83,78],32,4⟩,⟨[69,118,101,110,116],36,1⟩,⟨[86,67,111,100,101],37,1⟩,⟨[80,97,114,97,109,101,116,101,114,49],38,2⟩,⟨[80,97,114,97,109,101,116,101,114,50],40,2⟩,⟨[80,97,114,97,109,101,116,101,114,51],42,2⟩],
 .kd (Yd.getD 16 ⟨0,[],0,[]⟩),
 .fn,
 .fld ⟨[82,101,97,115,111,110],2,1⟩,
 .fld ⟨[73,84,84],16,4⟩,
 .fld ⟨[83,116,97,116,83,78],24,4⟩,
 .fld ⟨[69,120,112,67,109,100,83,78],28,4⟩,
 .fld ⟨[77,97,120,67,109,100,83,78],32,4⟩,
 .fld ⟨[68,97,116,97,83,78],36,4⟩,
 .fs [⟨[82,101,97,115,111,110],2,1⟩,⟨[73,84,84],16,4⟩,⟨[83,116,97,116,83,78],24,4⟩,⟨[69,120,112,67,109,100,83,78],28,4⟩,⟨[77,97,120,67,109,100,83,78],32,4⟩,⟨[68,97,116,97,83,78],36,4⟩],
 .fs [⟨[82,101,97,115,111,110],2,1⟩,⟨[73,84,84],16,4⟩,⟨[83,116,97,116,83,78],24,4⟩,⟨[69,120,112,67,109,100,83,78],28,4⟩,⟨[77,97,120,67,109,100,83,78],32,4⟩,⟨[68,97,116,97,83,78],36,4⟩],
 .kd (Yd.getD 17 ⟨0,[],0,[]⟩),
 .top]
def kS(t:Nat):Sp:=Ydy.getD t .any
def Ydx:List Nat:= [22,23,24,25,26,27,28,29,30,31,32,33,34,35,36,37,38,39,40,41,42,43,44,45,46,47,48,49,50,51,52,53,54,55,56,57,58,59,60,61,62,63,64,65,66,67,68,69,70,71,72,73,74,75,76,77,78,79,80,81,82,83,84,85,86,87,88,89,90,91,92,93,94,95,96,97,98,99,100,101,102,103,104,105,106,107,108,109,110,111,112,113,114,115,116,117,118,119,120,121,122,123,124,125,126,127,128,129,130,131,132,133,134,135,136,137,138,139,140,141,142,143,144,145,146,147,148,149,150,151,152,153,154,155,156,157,158,159,160,161,162,163,164,165,166,167,168,169,170,171,172,173,174,175,176,177,178,179,180,181,182,183,184,185,186,187,188,189,190,191,192,193,194,195,196,197,198,199,200,201,202,203,204,205,206,207,208,209,210,211,212,213,214,215,216,217,218,219,220,221,0]
theorem kInit: ∀t:Nat,t ∉ Ydx→kS t= .any∨(1≤t∧t≤11):=by
 intro t ht;by_cases h:t<222
 ·have h0: ∀t<222,(Ydx.contains t || (match kS t with | .any=>true | _=>false) || (decide (1≤t) && decide (t≤11)))=true:=by decide +kernel
  have h1:=h0 t h;simp only[Yg5,Yf9,YfS]at h1;rcases h1 with (h1 | h1) | h1
  ·exact absurd Z4q ht
  ·left
   cases hk:kS t<;>simp[hk]at h1<;>rfl
  ·exact .inr h1
 ·left;have:Ydy.length≤t:=by rw[show Ydy.length=222 by decide +kernel];exact Z7
  simp[kS,List.getD,Yfq this]
def Ye7(w:World)(e:Ending)(w':World):Prop:= ∃v,e= .returned v∧KAll w.heap.size w' v∧Below w.heap.size w w'
theorem ZY{P:Prop}(h:P:=by
 refine Ygw ?_ Z4b _
 refine Ygw ?_ Z4b _
 exact Yea _ _):P:=h
theorem Z12{P:Prop}(h:P:=by
 exact Z4b):P:=h
theorem Z4b{P:Prop}(h:P:=by
 first | exact Ye9 _ | (simp only[YeI];omega)):P:=h
theorem Ydu(w:World):Calls prog 155 #[] w fun e w'=>Ye7 w e w':=by
 have c1:=fun n a k w=>hid (at_any n a k w)
 go_enter func155,ntmps155;have hb0:Below w.heap.size w w:=Yea _ _;go_wp2_with fail;refine(c1 _ _ _ _).out.mono ?_;rintro e w1 ⟨rfl,q1⟩;have hb1:=hb0.trans (q1.mono hb0.size);go_wp2_with fail;refine(c1 _ _ _ _).out.mono ?_;rintro e w2 ⟨rfl,q2⟩;have hb2:=hb1.trans (q2.mono hb1.size);go_wp2_with fail;refine(c1 _ _ _ _).out.mono ?_;rintro e w3 ⟨rfl,q3⟩;have hb3:=hb2.trans (q3.mono hb2.size)
 go_wp2_with fail;obtain⟨A3,hA3⟩: ∃A,(((w3.alloc (.cells (FR.cells ⟨[76,85,78],8,8⟩).toArray 225)).alloc (.cells (FR.cells ⟨[73,84,84],16,4⟩).toArray 225)).alloc (.cells (FR.cells ⟨[84,84,84],20,4⟩).toArray 225))=A:=⟨_,rfl⟩;have q:Below w3.heap.size w3 A3:=by rw[←hA3];refine Ygw ?_ Z12 _;exact ZY
 have B1:Blk A3 (w3.heap.size+0) 225 (FR.cells ⟨[76,85,78],8,8⟩).toArray:=by
  rw[←hA3];simpa only[YeI,Yfz,YeT,Nat.reduceAdd]using(((Blk.new w3 225 (FR.cells ⟨[76,85,78],8,8⟩).toArray).below ((Yea _ _).alloc (Ye9 _) _)).below ((Yea _ _).alloc (Ye9 _) _))
 have B2:Blk A3 (w3.heap.size+1) 225 (FR.cells ⟨[73,84,84],16,4⟩).toArray:=by
  rw[←hA3];simpa only[YeI,Yfz,YeT,Nat.reduceAdd]using((Blk.new (w3.alloc (.cells (FR.cells ⟨[76,85,78],8,8⟩).toArray 225)) 225 (FR.cells ⟨[73,84,84],16,4⟩).toArray).below ((Yea _ _).alloc (Ye9 _) _))
 have B3:Blk A3 (w3.heap.size+2) 225 (FR.cells ⟨[84,84,84],20,4⟩).toArray:=by
  rw[←hA3];simpa only[YeI,Yfz,YeT,Nat.reduceAdd]using(Blk.new ((w3.alloc (.cells (FR.cells ⟨[76,85,78],8,8⟩).toArray 225)).alloc (.cells (FR.cells ⟨[73,84,84],16,4⟩).toArray 225)) 225 (FR.cells ⟨[84,84,84],20,4⟩).toArray)
 have hbA3:=hb3.trans (q.mono hb3.size);have hb3:=hbA3;change Calls _ _ _ (((w3.alloc (.cells (FR.cells ⟨[76,85,78],8,8⟩).toArray 225)).alloc (.cells (FR.cells ⟨[73,84,84],16,4⟩).toArray 225)).alloc (.cells (FR.cells ⟨[84,84,84],20,4⟩).toArray 225)) _;rw[hA3];clear hA3 q;go_wp2_with fail;refine(c1 _ _ _ _).out.mono ?_;rintro e w4 ⟨rfl,q4⟩;have B1:=B1.below q4;have B2:=B2.below q4;have B3:=B3.below q4
 have hb4:=hb3.trans (q4.mono hb3.size);go_wp2_with fail;refine(c1 _ _ _ _).out.mono ?_;rintro e w5 ⟨rfl,q5⟩;have B1:=B1.below q5;have B2:=B2.below q5;have B3:=B3.below q5;have hb5:=hb4.trans (q5.mono hb4.size);go_wp2_with fail;obtain⟨A5,hA5⟩: ∃A,((w5.alloc (.cells (FR.cells ⟨[67,109,100,83,78],24,4⟩).toArray 225)).alloc (.cells (FR.cells ⟨[69,120,112,83,116,97,116,83,78],28,4⟩).toArray 225))=A:=⟨_,rfl⟩
 have q:Below w5.heap.size w5 A5:=by rw[←hA5];exact ZY
 have B1:=B1.below q;have B2:=B2.below q;have B3:=B3.below q
 have B4:Blk A5 (w5.heap.size+0) 225 (FR.cells ⟨[67,109,100,83,78],24,4⟩).toArray:=by
  rw[←hA5];simpa only[YeI,Yfz,YeT,Nat.reduceAdd]using((Blk.new w5 225 (FR.cells ⟨[67,109,100,83,78],24,4⟩).toArray).below ((Yea _ _).alloc (Ye9 _) _))
 have B5:Blk A5 (w5.heap.size+1) 225 (FR.cells ⟨[69,120,112,83,116,97,116,83,78],28,4⟩).toArray:=by
  rw[←hA5];simpa only[YeI,Yfz,YeT,Nat.reduceAdd]using(Blk.new (w5.alloc (.cells (FR.cells ⟨[67,109,100,83,78],24,4⟩).toArray 225)) 225 (FR.cells ⟨[69,120,112,83,116,97,116,83,78],28,4⟩).toArray)
 have hbA5:=hb5.trans (q.mono hb5.size);have hb5:=hbA5;change Calls _ _ _ ((w5.alloc (.cells (FR.cells ⟨[67,109,100,83,78],24,4⟩).toArray 225)).alloc (.cells (FR.cells ⟨[69,120,112,83,116,97,116,83,78],28,4⟩).toArray 225)) _;rw[hA5];clear hA5 q;go_wp2_with fail;refine(c1 _ _ _ _).out.mono ?_;rintro e w6 ⟨rfl,q6⟩;have B1:=B1.below q6;have B2:=B2.below q6;have B3:=B3.below q6;have B4:=B4.below q6;have B5:=B5.below q6
 have hb6:=hb5.trans (q6.mono hb5.size);go_wp2_with fail;refine(c1 _ _ _ _).out.mono ?_;rintro e w7 ⟨rfl,q7⟩;have B1:=B1.below q7;have B2:=B2.below q7;have B3:=B3.below q7;have B4:=B4.below q7;have B5:=B5.below q7;have hb7:=hb6.trans (q7.mono hb6.size);go_wp2_with fail;refine(c1 _ _ _ _).out.mono ?_;rintro e w8 ⟨rfl,q8⟩;have B1:=B1.below q8;have B2:=B2.below q8;have B3:=B3.below q8;have B4:=B4.below q8
 have B5:=B5.below q8;have hb8:=hb7.trans (q8.mono hb7.size);go_wp2_with fail;obtain⟨A8,hA8⟩: ∃A,(((w8.alloc (.cells (FR.cells ⟨[83,116,97,116,83,78],24,4⟩).toArray 225)).alloc (.cells (FR.cells ⟨[69,120,112,67,109,100,83,78],28,4⟩).toArray 225)).alloc (.cells (FR.cells ⟨[77,97,120,67,109,100,83,78],32,4⟩).toArray 225))=A:=⟨_,rfl⟩;have q:Below w8.heap.size w8 A8:=by rw[←hA8];refine Ygw ?_ Z12 _;exact ZY
 have B1:=B1.below q;have B2:=B2.below q;have B3:=B3.below q;have B4:=B4.below q;have B5:=B5.below q
 have B6:Blk A8 (w8.heap.size+0) 225 (FR.cells ⟨[83,116,97,116,83,78],24,4⟩).toArray:=by
  rw[←hA8];simpa only[YeI,Yfz,YeT,Nat.reduceAdd]using(((Blk.new w8 225 (FR.cells ⟨[83,116,97,116,83,78],24,4⟩).toArray).below ((Yea _ _).alloc (Ye9 _) _)).below ((Yea _ _).alloc (Ye9 _) _))
 have B7:Blk A8 (w8.heap.size+1) 225 (FR.cells ⟨[69,120,112,67,109,100,83,78],28,4⟩).toArray:=by
  rw[←hA8];simpa only[YeI,Yfz,YeT,Nat.reduceAdd]using((Blk.new (w8.alloc (.cells (FR.cells ⟨[83,116,97,116,83,78],24,4⟩).toArray 225)) 225 (FR.cells ⟨[69,120,112,67,109,100,83,78],28,4⟩).toArray).below ((Yea _ _).alloc (Ye9 _) _))
 have B8:Blk A8 (w8.heap.size+2) 225 (FR.cells ⟨[77,97,120,67,109,100,83,78],32,4⟩).toArray:=by
  rw[←hA8];simpa only[YeI,Yfz,YeT,Nat.reduceAdd]using(Blk.new ((w8.alloc (.cells (FR.cells ⟨[83,116,97,116,83,78],24,4⟩).toArray 225)).alloc (.cells (FR.cells ⟨[69,120,112,67,109,100,83,78],28,4⟩).toArray 225)) 225 (FR.cells ⟨[77,97,120,67,109,100,83,78],32,4⟩).toArray)
 have hbA8:=hb8.trans (q.mono hb8.size);have hb8:=hbA8;change Calls _ _ _ (((w8.alloc (.cells (FR.cells ⟨[83,116,97,116,83,78],24,4⟩).toArray 225)).alloc (.cells (FR.cells ⟨[69,120,112,67,109,100,83,78],28,4⟩).toArray 225)).alloc (.cells (FR.cells ⟨[77,97,120,67,109,100,83,78],32,4⟩).toArray 225)) _;rw[hA8];clear hA8 q;go_wp2_with fail;refine(c1 _ _ _ _).out.mono ?_;rintro e w9 ⟨rfl,q9⟩;have B1:=B1.below q9
 have B2:=B2.below q9;have B3:=B3.below q9;have B4:=B4.below q9;have B5:=B5.below q9;have B6:=B6.below q9;have B7:=B7.below q9;have B8:=B8.below q9;have hb9:=hb8.trans (q9.mono hb8.size);go_wp2_with fail;refine(c1 _ _ _ _).out.mono ?_;rintro e w10 ⟨rfl,q10⟩;have B1:=B1.below q10;have B2:=B2.below q10;have B3:=B3.below q10;have B4:=B4.below q10;have B5:=B5.below q10;have B6:=B6.below q10;have B7:=B7.below q10
 have B8:=B8.below q10;have hb10:=hb9.trans (q10.mono hb9.size);go_wp2_with fail;obtain⟨A10,hA10⟩: ∃A,((w10.alloc (.cells (FR.cells ⟨[73,83,73,68],8,6⟩).toArray 225)).alloc (.cells (FR.cells ⟨[84,83,73,72],14,2⟩).toArray 225))=A:=⟨_,rfl⟩;have q:Below w10.heap.size w10 A10:=by rw[←hA10];exact ZY
 have B1:=B1.below q;have B2:=B2.below q;have B3:=B3.below q;have B4:=B4.below q;have B5:=B5.below q;have B6:=B6.below q;have B7:=B7.below q;have B8:=B8.below q
 have B9:Blk A10 (w10.heap.size+0) 225 (FR.cells ⟨[73,83,73,68],8,6⟩).toArray:=by
  rw[←hA10];simpa only[YeI,Yfz,YeT,Nat.reduceAdd]using((Blk.new w10 225 (FR.cells ⟨[73,83,73,68],8,6⟩).toArray).below ((Yea _ _).alloc (Ye9 _) _))
 have B10:Blk A10 (w10.heap.size+1) 225 (FR.cells ⟨[84,83,73,72],14,2⟩).toArray:=by
  rw[←hA10];simpa only[YeI,Yfz,YeT,Nat.reduceAdd]using(Blk.new (w10.alloc (.cells (FR.cells ⟨[73,83,73,68],8,6⟩).toArray 225)) 225 (FR.cells ⟨[84,83,73,72],14,2⟩).toArray)
 have hbA10:=hb10.trans (q.mono hb10.size);have hb10:=hbA10;change Code.wp _ _ _ _ ((w10.alloc (.cells (FR.cells ⟨[73,83,73,68],8,6⟩).toArray 225)).alloc (.cells (FR.cells ⟨[84,83,73,72],14,2⟩).toArray 225));rw[hA10];clear hA10 q;go_wp2_with fail;refine YeS (n:=4).1 ?_;refine Yab (fun t v W=>Sat w.heap.size (kS t) v W) (fun W=>Below w.heap.size w W) (by kernel_rfl) (by kernel_rfl) (fun t v W W' h hb=>YcL (kS t) h hb) (fun W W' h hb=>h.trans (hb.mono h.size)) hb10.drew ?kinit ?kops ?kfin
 case kinit =>
  intro t ht;rcases kInit t ht with h | h
  ·rw[h];trivial
  ·match t,h with
   | 1,_=>exact⟨_,rfl,B1⟩
   | 2,_=>exact⟨_,rfl,B2⟩
   | 3,_=>exact⟨_,rfl,B3⟩
   | 4,_=>exact⟨_,rfl,B4⟩
   | 5,_=>exact⟨_,rfl,B5⟩
   | 6,_=>exact⟨_,rfl,B6⟩
   | 7,_=>exact⟨_,rfl,B7⟩
   | 8,_=>exact⟨_,rfl,B8⟩
   | 9,_=>exact⟨_,rfl,B9⟩
   | 10,_=>exact⟨_,rfl,B10⟩
   | 11,_=>exact rfl
   | 0,h=>omega
   | t+12,h=>omega
 case kops =>
  exact⟨⟨show(22:Nat) < 222 by omega,Y2u kS rfl rfl rfl rfl⟩,
   ⟨show(23:Nat) < 222 by omega,Yf kS rfl rfl rfl rfl⟩,
   ⟨show(24:Nat) < 222 by omega,Yf kS rfl rfl rfl rfl⟩,
   ⟨show(25:Nat) < 222 by omega,Yf kS rfl rfl rfl rfl⟩,
   ⟨show(26:Nat) < 222 by omega,Yf kS rfl rfl rfl rfl⟩,
   ⟨show(27:Nat) < 222 by omega,Yf kS rfl rfl rfl rfl⟩,
   ⟨show(28:Nat) < 222 by omega,k_sl5 kS rfl rfl (fun w h=>h.size) rfl rfl rfl rfl rfl rfl⟩,
   ⟨show(29:Nat) < 222 by omega,Y8L kS rfl rfl rfl rfl rfl⟩,
   ⟨show(30:Nat) < 222 by omega,Y8K kS rfl rfl rfl rfl rfl rfl rfl⟩,
   ⟨show(31:Nat) < 222 by omega,Y2u kS rfl rfl rfl rfl⟩,
   ⟨show(32:Nat) < 222 by omega,Yf kS rfl rfl rfl rfl⟩,
   ⟨show(33:Nat) < 222 by omega,Yf kS rfl rfl rfl rfl⟩,
   ⟨show(34:Nat) < 222 by omega,Y3t kS rfl rfl rfl rfl rfl rfl⟩,
   ⟨show(35:Nat) < 222 by omega,Yf kS rfl rfl rfl rfl⟩,
   ⟨show(36:Nat) < 222 by omega,Yf kS rfl rfl rfl rfl⟩,
   ⟨show(37:Nat) < 222 by omega,Y3t kS rfl rfl rfl rfl rfl rfl⟩,
   ⟨show(38:Nat) < 222 by omega,Y3t kS rfl rfl rfl rfl rfl rfl⟩,
   ⟨show(39:Nat) < 222 by omega,k_sl7 kS rfl rfl (fun w h=>h.size) rfl rfl rfl rfl rfl rfl rfl rfl⟩,
   ⟨show(40:Nat) < 222 by omega,Y8L kS rfl rfl rfl rfl rfl⟩,
   ⟨show(41:Nat) < 222 by omega,Y8K kS rfl rfl rfl rfl rfl rfl rfl⟩,
   ⟨show(42:Nat) < 222 by omega,Y2u kS rfl rfl rfl rfl⟩,
   ⟨show(43:Nat) < 222 by omega,Yf kS rfl rfl rfl rfl⟩,
   ⟨show(44:Nat) < 222 by omega,Yf kS rfl rfl rfl rfl⟩,
   ⟨show(45:Nat) < 222 by omega,Y3t kS rfl rfl rfl rfl rfl rfl⟩,
   ⟨show(46:Nat) < 222 by omega,Yf kS rfl rfl rfl rfl⟩,
   ⟨show(47:Nat) < 222 by omega,Yf kS rfl rfl rfl rfl⟩,
   ⟨show(48:Nat) < 222 by omega,Y3t kS rfl rfl rfl rfl rfl rfl⟩,
   ⟨show(49:Nat) < 222 by omega,Y3t kS rfl rfl rfl rfl rfl rfl⟩,
   ⟨show(50:Nat) < 222 by omega,k_sl7 kS rfl rfl (fun w h=>h.size) rfl rfl rfl rfl rfl rfl rfl rfl⟩,
   ⟨show(51:Nat) < 222 by omega,Y8L kS rfl rfl rfl rfl rfl⟩,
   ⟨show(52:Nat) < 222 by omega,Y8K kS rfl rfl rfl rfl rfl rfl rfl⟩,
   ⟨show(53:Nat) < 222 by omega,Y2u kS rfl rfl rfl rfl⟩,
   ⟨show(54:Nat) < 222 by omega,Y3t kS rfl rfl rfl rfl rfl rfl⟩,
   ⟨show(55:Nat) < 222 by omega,Y3t kS rfl rfl rfl rfl rfl rfl⟩,
   ⟨show(56:Nat) < 222 by omega,Yf kS rfl rfl rfl rfl⟩,
   ⟨show(57:Nat) < 222 by omega,Yf kS rfl rfl rfl rfl⟩,
   ⟨show(58:Nat) < 222 by omega,Yf kS rfl rfl rfl rfl⟩,
   ⟨show(59:Nat) < 222 by omega,Y3t kS rfl rfl rfl rfl rfl rfl⟩,
   ⟨show(60:Nat) < 222 by omega,Yf kS rfl rfl rfl rfl⟩,
   ⟨show(61:Nat) < 222 by omega,Yf kS rfl rfl rfl rfl⟩,
   ⟨show(62:Nat) < 222 by omega,k_sl8 kS rfl rfl (fun w h=>h.size) rfl rfl rfl rfl rfl rfl rfl rfl rfl⟩,
   ⟨show(63:Nat) < 222 by omega,Y8L kS rfl rfl rfl rfl rfl⟩,
   ⟨show(64:Nat) < 222 by omega,Y8K kS rfl rfl rfl rfl rfl rfl rfl⟩,
   ⟨show(65:Nat) < 222 by omega,Y2u kS rfl rfl rfl rfl⟩,
   ⟨show(66:Nat) < 222 by omega,Yf kS rfl rfl rfl rfl⟩,
   ⟨show(67:Nat) < 222 by omega,Yf kS rfl rfl rfl rfl⟩,
   ⟨show(68:Nat) < 222 by omega,Yf kS rfl rfl rfl rfl⟩,
   ⟨show(69:Nat) < 222 by omega,Yf kS rfl rfl rfl rfl⟩,
   ⟨show(70:Nat) < 222 by omega,Yf kS rfl rfl rfl rfl⟩,
   ⟨show(71:Nat) < 222 by omega,k_sl5 kS rfl rfl (fun w h=>h.size) rfl rfl rfl rfl rfl rfl⟩,
   ⟨show(72:Nat) < 222 by omega,Y8L kS rfl rfl rfl rfl rfl⟩,
   ⟨show(73:Nat) < 222 by omega,Y8K kS rfl rfl rfl rfl rfl rfl rfl⟩,
   ⟨show(74:Nat) < 222 by omega,Y2u kS rfl rfl rfl rfl⟩,
   ⟨show(75:Nat) < 222 by omega,Yf kS rfl rfl rfl rfl⟩,
   ⟨show(76:Nat) < 222 by omega,Yf kS rfl rfl rfl rfl⟩,
   ⟨show(77:Nat) < 222 by omega,Yf kS rfl rfl rfl rfl⟩,
   ⟨show(78:Nat) < 222 by omega,Yf kS rfl rfl rfl rfl⟩,
   ⟨show(79:Nat) < 222 by omega,Y3t kS rfl rfl rfl rfl rfl rfl⟩,
   ⟨show(80:Nat) < 222 by omega,Y3t kS rfl rfl rfl rfl rfl rfl⟩,
   ⟨show(81:Nat) < 222 by omega,Ydw kS rfl rfl (fun w h=>h.size) rfl rfl rfl rfl rfl rfl rfl⟩,
   ⟨show(82:Nat) < 222 by omega,Y8L kS rfl rfl rfl rfl rfl⟩,
   ⟨show(83:Nat) < 222 by omega,Y8K kS rfl rfl rfl rfl rfl rfl rfl⟩,
   ⟨show(84:Nat) < 222 by omega,Y2u kS rfl rfl rfl rfl⟩,
   ⟨show(85:Nat) < 222 by omega,Yf kS rfl rfl rfl rfl⟩,
   ⟨show(86:Nat) < 222 by omega,Y3t kS rfl rfl rfl rfl rfl rfl⟩,
   ⟨show(87:Nat) < 222 by omega,Yf kS rfl rfl rfl rfl⟩,
   ⟨show(88:Nat) < 222 by omega,Yf kS rfl rfl rfl rfl⟩,
   ⟨show(89:Nat) < 222 by omega,k_sl4 kS rfl rfl (fun w h=>h.size) rfl rfl rfl rfl rfl⟩,
   ⟨show(90:Nat) < 222 by omega,Y8L kS rfl rfl rfl rfl rfl⟩,
   ⟨show(91:Nat) < 222 by omega,Y8K kS rfl rfl rfl rfl rfl rfl rfl⟩,
   ⟨show(92:Nat) < 222 by omega,Y2u kS rfl rfl rfl rfl⟩,
   ⟨show(93:Nat) < 222 by omega,Yf kS rfl rfl rfl rfl⟩,
   ⟨show(94:Nat) < 222 by omega,Yf kS rfl rfl rfl rfl⟩,
   ⟨show(95:Nat) < 222 by omega,Yf kS rfl rfl rfl rfl⟩,
   ⟨show(96:Nat) < 222 by omega,Yf kS rfl rfl rfl rfl⟩,
   ⟨show(97:Nat) < 222 by omega,Y3t kS rfl rfl rfl rfl rfl rfl⟩,
   ⟨show(98:Nat) < 222 by omega,Y3t kS rfl rfl rfl rfl rfl rfl⟩,
   ⟨show(99:Nat) < 222 by omega,Ydw kS rfl rfl (fun w h=>h.size) rfl rfl rfl rfl rfl rfl rfl⟩,
   ⟨show(100:Nat) < 222 by omega,Y8L kS rfl rfl rfl rfl rfl⟩,
   ⟨show(101:Nat) < 222 by omega,Y8K kS rfl rfl rfl rfl rfl rfl rfl⟩,
   ⟨show(102:Nat) < 222 by omega,Y2u kS rfl rfl rfl rfl⟩,
   ⟨show(103:Nat) < 222 by omega,Yf kS rfl rfl rfl rfl⟩,
   ⟨show(104:Nat) < 222 by omega,Yf kS rfl rfl rfl rfl⟩,
   ⟨show(105:Nat) < 222 by omega,Yf kS rfl rfl rfl rfl⟩,
   ⟨show(106:Nat) < 222 by omega,Yf kS rfl rfl rfl rfl⟩,
   ⟨show(107:Nat) < 222 by omega,Yf kS rfl rfl rfl rfl⟩,
   ⟨show(108:Nat) < 222 by omega,Yf kS rfl rfl rfl rfl⟩,
   ⟨show(109:Nat) < 222 by omega,Ydw kS rfl rfl (fun w h=>h.size) rfl rfl rfl rfl rfl rfl rfl⟩,
   ⟨show(110:Nat) < 222 by omega,Y8L kS rfl rfl rfl rfl rfl⟩,
   ⟨show(111:Nat) < 222 by omega,Y8K kS rfl rfl rfl rfl rfl rfl rfl⟩,
   ⟨show(112:Nat) < 222 by omega,Y2u kS rfl rfl rfl rfl⟩,
   ⟨show(113:Nat) < 222 by omega,Y3t kS rfl rfl rfl rfl rfl rfl⟩,
   ⟨show(114:Nat) < 222 by omega,Y3t kS rfl rfl rfl rfl rfl rfl⟩,
   ⟨show(115:Nat) < 222 by omega,Yf kS rfl rfl rfl rfl⟩,
   ⟨show(116:Nat) < 222 by omega,Y3t kS rfl rfl rfl rfl rfl rfl⟩,
   ⟨show(117:Nat) < 222 by omega,Yf kS rfl rfl rfl rfl⟩,
   ⟨show(118:Nat) < 222 by omega,Yf kS rfl rfl rfl rfl⟩,
   ⟨show(119:Nat) < 222 by omega,Yf kS rfl rfl rfl rfl⟩,
   ⟨show(120:Nat) < 222 by omega,Y3t kS rfl rfl rfl rfl rfl rfl⟩,
   ⟨show(121:Nat) < 222 by omega,Y3t kS rfl rfl rfl rfl rfl rfl⟩,
   ⟨show(122:Nat) < 222 by omega,Y3t kS rfl rfl rfl rfl rfl rfl⟩,
   ⟨show(123:Nat) < 222 by omega,Yb5 kS rfl rfl (fun w h=>h.size) rfl rfl rfl rfl rfl rfl rfl rfl rfl rfl rfl⟩,
   ⟨show(124:Nat) < 222 by omega,Y8L kS rfl rfl rfl rfl rfl⟩,
   ⟨show(125:Nat) < 222 by omega,Y8K kS rfl rfl rfl rfl rfl rfl rfl⟩,
   ⟨show(126:Nat) < 222 by omega,Y2u kS rfl rfl rfl rfl⟩,
   ⟨show(127:Nat) < 222 by omega,Y3t kS rfl rfl rfl rfl rfl rfl⟩,
   ⟨show(128:Nat) < 222 by omega,Yf kS rfl rfl rfl rfl⟩,
   ⟨show(129:Nat) < 222 by omega,Yf kS rfl rfl rfl rfl⟩,
   ⟨show(130:Nat) < 222 by omega,Yf kS rfl rfl rfl rfl⟩,
   ⟨show(131:Nat) < 222 by omega,Yf kS rfl rfl rfl rfl⟩,
   ⟨show(132:Nat) < 222 by omega,k_sl5 kS rfl rfl (fun w h=>h.size) rfl rfl rfl rfl rfl rfl⟩,
   ⟨show(133:Nat) < 222 by omega,Y8L kS rfl rfl rfl rfl rfl⟩,
   ⟨show(134:Nat) < 222 by omega,Y8K kS rfl rfl rfl rfl rfl rfl rfl⟩,
   ⟨show(135:Nat) < 222 by omega,Y2u kS rfl rfl rfl rfl⟩,
   ⟨show(136:Nat) < 222 by omega,Y3t kS rfl rfl rfl rfl rfl rfl⟩,
   ⟨show(137:Nat) < 222 by omega,Y3t kS rfl rfl rfl rfl rfl rfl⟩,
   ⟨show(138:Nat) < 222 by omega,Yf kS rfl rfl rfl rfl⟩,
   ⟨show(139:Nat) < 222 by omega,Yf kS rfl rfl rfl rfl⟩,
   ⟨show(140:Nat) < 222 by omega,Yf kS rfl rfl rfl rfl⟩,
   ⟨show(141:Nat) < 222 by omega,Yf kS rfl rfl rfl rfl⟩,
   ⟨show(142:Nat) < 222 by omega,Yf kS rfl rfl rfl rfl⟩,
   ⟨show(143:Nat) < 222 by omega,Yf kS rfl rfl rfl rfl⟩,
   ⟨show(144:Nat) < 222 by omega,Y3t kS rfl rfl rfl rfl rfl rfl⟩,
   ⟨show(145:Nat) < 222 by omega,Y3t kS rfl rfl rfl rfl rfl rfl⟩,
   ⟨show(146:Nat) < 222 by omega,Yb5 kS rfl rfl (fun w h=>h.size) rfl rfl rfl rfl rfl rfl rfl rfl rfl rfl rfl⟩,
   ⟨show(147:Nat) < 222 by omega,Y8L kS rfl rfl rfl rfl rfl⟩,
   ⟨show(148:Nat) < 222 by omega,Y8K kS rfl rfl rfl rfl rfl rfl rfl⟩,
   ⟨show(149:Nat) < 222 by omega,Y2u kS rfl rfl rfl rfl⟩,
   ⟨show(150:Nat) < 222 by omega,Yf kS rfl rfl rfl rfl⟩,
   ⟨show(151:Nat) < 222 by omega,Yf kS rfl rfl rfl rfl⟩,
   ⟨show(152:Nat) < 222 by omega,Yf kS rfl rfl rfl rfl⟩,
   ⟨show(153:Nat) < 222 by omega,Yf kS rfl rfl rfl rfl⟩,
   ⟨show(154:Nat) < 222 by omega,Yf kS rfl rfl rfl rfl⟩,
   ⟨show(155:Nat) < 222 by omega,Yf kS rfl rfl rfl rfl⟩,
   ⟨show(156:Nat) < 222 by omega,Ydw kS rfl rfl (fun w h=>h.size) rfl rfl rfl rfl rfl rfl rfl⟩,
   ⟨show(157:Nat) < 222 by omega,Y8L kS rfl rfl rfl rfl rfl⟩,
   ⟨show(158:Nat) < 222 by omega,Y8K kS rfl rfl rfl rfl rfl rfl rfl⟩,
   ⟨show(159:Nat) < 222 by omega,Y2u kS rfl rfl rfl rfl⟩,
   ⟨show(160:Nat) < 222 by omega,Y3t kS rfl rfl rfl rfl rfl rfl⟩,
   ⟨show(161:Nat) < 222 by omega,Yf kS rfl rfl rfl rfl⟩,
   ⟨show(162:Nat) < 222 by omega,Yf kS rfl rfl rfl rfl⟩,
   ⟨show(163:Nat) < 222 by omega,Yf kS rfl rfl rfl rfl⟩,
   ⟨show(164:Nat) < 222 by omega,Yf kS rfl rfl rfl rfl⟩,
   ⟨show(165:Nat) < 222 by omega,Yf kS rfl rfl rfl rfl⟩,
   ⟨show(166:Nat) < 222 by omega,Yf kS rfl rfl rfl rfl⟩,
   ⟨show(167:Nat) < 222 by omega,Y3t kS rfl rfl rfl rfl rfl rfl⟩,
   ⟨show(168:Nat) < 222 by omega,Y3t kS rfl rfl rfl rfl rfl rfl⟩,
   ⟨show(169:Nat) < 222 by omega,Y3t kS rfl rfl rfl rfl rfl rfl⟩,
   ⟨show(170:Nat) < 222 by omega,Yb5 kS rfl rfl (fun w h=>h.size) rfl rfl rfl rfl rfl rfl rfl rfl rfl rfl rfl⟩,
   ⟨show(171:Nat) < 222 by omega,Y8L kS rfl rfl rfl rfl rfl⟩,
   ⟨show(172:Nat) < 222 by omega,Y8K kS rfl rfl rfl rfl rfl rfl rfl⟩,
   ⟨show(173:Nat) < 222 by omega,Y2u kS rfl rfl rfl rfl⟩,
   ⟨show(174:Nat) < 222 by omega,Y3t kS rfl rfl rfl rfl rfl rfl⟩,
   ⟨show(175:Nat) < 222 by omega,Yf kS rfl rfl rfl rfl⟩,
   ⟨show(176:Nat) < 222 by omega,Yf kS rfl rfl rfl rfl⟩,
   ⟨show(177:Nat) < 222 by omega,Yf kS rfl rfl rfl rfl⟩,
   ⟨show(178:Nat) < 222 by omega,Yf kS rfl rfl rfl rfl⟩,
   ⟨show(179:Nat) < 222 by omega,Y3t kS rfl rfl rfl rfl rfl rfl⟩,
   ⟨show(180:Nat) < 222 by omega,Y3t kS rfl rfl rfl rfl rfl rfl⟩,
   ⟨show(181:Nat) < 222 by omega,k_sl7 kS rfl rfl (fun w h=>h.size) rfl rfl rfl rfl rfl rfl rfl rfl⟩,
   ⟨show(182:Nat) < 222 by omega,Y8L kS rfl rfl rfl rfl rfl⟩,
   ⟨show(183:Nat) < 222 by omega,Y8K kS rfl rfl rfl rfl rfl rfl rfl⟩,
   ⟨show(184:Nat) < 222 by omega,Y2u kS rfl rfl rfl rfl⟩,
   ⟨show(185:Nat) < 222 by omega,Yf kS rfl rfl rfl rfl⟩,
   ⟨show(186:Nat) < 222 by omega,Yf kS rfl rfl rfl rfl⟩,
   ⟨show(187:Nat) < 222 by omega,Yf kS rfl rfl rfl rfl⟩,
   ⟨show(188:Nat) < 222 by omega,Yf kS rfl rfl rfl rfl⟩,
   ⟨show(189:Nat) < 222 by omega,Yf kS rfl rfl rfl rfl⟩,
   ⟨show(190:Nat) < 222 by omega,Yf kS rfl rfl rfl rfl⟩,
   ⟨show(191:Nat) < 222 by omega,Y3t kS rfl rfl rfl rfl rfl rfl⟩,
   ⟨show(192:Nat) < 222 by omega,Y3t kS rfl rfl rfl rfl rfl rfl⟩,
   ⟨show(193:Nat) < 222 by omega,Y3t kS rfl rfl rfl rfl rfl rfl⟩,
   ⟨show(194:Nat) < 222 by omega,k_sl9 kS rfl rfl (fun w h=>h.size) rfl rfl rfl rfl rfl rfl rfl rfl rfl rfl⟩,
   ⟨show(195:Nat) < 222 by omega,Y8L kS rfl rfl rfl rfl rfl⟩,
   ⟨show(196:Nat) < 222 by omega,Y8K kS rfl rfl rfl rfl rfl rfl rfl⟩,
   ⟨show(197:Nat) < 222 by omega,Y2u kS rfl rfl rfl rfl⟩,
   ⟨show(198:Nat) < 222 by omega,Yf kS rfl rfl rfl rfl⟩,
   ⟨show(199:Nat) < 222 by omega,Yf kS rfl rfl rfl rfl⟩,
   ⟨show(200:Nat) < 222 by omega,Yf kS rfl rfl rfl rfl⟩,
   ⟨show(201:Nat) < 222 by omega,Yf kS rfl rfl rfl rfl⟩,
   ⟨show(202:Nat) < 222 by omega,Yf kS rfl rfl rfl rfl⟩,
   ⟨show(203:Nat) < 222 by omega,Y3t kS rfl rfl rfl rfl rfl rfl⟩,
   ⟨show(204:Nat) < 222 by omega,Y3t kS rfl rfl rfl rfl rfl rfl⟩,
   ⟨show(205:Nat) < 222 by omega,Y3t kS rfl rfl rfl rfl rfl rfl⟩,
   ⟨show(206:Nat) < 222 by omega,Y3t kS rfl rfl rfl rfl rfl rfl⟩,
   ⟨show(207:Nat) < 222 by omega,Y3t kS rfl rfl rfl rfl rfl rfl⟩,
   ⟨show(208:Nat) < 222 by omega,Yb5 kS rfl rfl (fun w h=>h.size) rfl rfl rfl rfl rfl rfl rfl rfl rfl rfl rfl⟩,
   ⟨show(209:Nat) < 222 by omega,Y8L kS rfl rfl rfl rfl rfl⟩,
   ⟨show(210:Nat) < 222 by omega,Y8K kS rfl rfl rfl rfl rfl rfl rfl⟩,
   ⟨show(211:Nat) < 222 by omega,Y2u kS rfl rfl rfl rfl⟩,
   ⟨show(212:Nat) < 222 by omega,Y3t kS rfl rfl rfl rfl rfl rfl⟩,
   ⟨show(213:Nat) < 222 by omega,Yf kS rfl rfl rfl rfl⟩,
   ⟨show(214:Nat) < 222 by omega,Yf kS rfl rfl rfl rfl⟩,
   ⟨show(215:Nat) < 222 by omega,Yf kS rfl rfl rfl rfl⟩,
   ⟨show(216:Nat) < 222 by omega,Yf kS rfl rfl rfl rfl⟩,
   ⟨show(217:Nat) < 222 by omega,Y3t kS rfl rfl rfl rfl rfl rfl⟩,
   ⟨show(218:Nat) < 222 by omega,Ydw kS rfl rfl (fun w h=>h.size) rfl rfl rfl rfl rfl rfl rfl⟩,
   ⟨show(219:Nat) < 222 by omega,Y8L kS rfl rfl rfl rfl rfl⟩,
   ⟨show(220:Nat) < 222 by omega,Y8K kS rfl rfl rfl rfl rfl rfl rfl⟩,
   ⟨show(221:Nat) < 222 by omega,k_top kS rfl rfl (fun w h=>h.size) rfl rfl rfl rfl rfl rfl rfl rfl rfl rfl rfl rfl rfl rfl rfl rfl rfl rfl rfl rfl⟩,
   ⟨show(0:Nat) < 222 by omega,k_assign kS rfl rfl rfl rfl⟩,trivial⟩
 case kfin =>
  intro a' w' hb hS hsz hd;have hk:= ‹∀ (a:Act) (w:World),Code.wp _ Code.ret _ a w→_›;refine hk _ _ (wp_ret ?_);refine Yej (v:=a'.eval (.tmp 0)) (results_tmp rfl _ _ _) hd ?_;exact⟨_,rfl,hS 0,hb⟩
end
end Go.Proofs.YtfadikchijkcfaaGreatDoor
