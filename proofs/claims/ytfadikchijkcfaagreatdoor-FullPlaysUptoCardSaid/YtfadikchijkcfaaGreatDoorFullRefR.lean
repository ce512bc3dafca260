/- A session behind a login: a NopOut. -/
import Derived.Test.YtfadikchijkcfaaGreatDoorParsePure
import Derived.Test.YtfadikchijkcfaaGreatDoorFullPiece
import Derived.Test.YtfadikchijkcfaaGreatDoorSame
import Derived.Test.YtfadikchijkcfaaGreatDoorOpen
import Derived.Deep.RegionHeld3
import Derived.Test.YtfadikchijkcfaaGreatDoorFullSt
import Derived.Test.YtfadikchijkcfaaGreatDoorHeadRight
import Derived.Test.YtfadikchijkcfaaGreatDoorHeadMkR
import Derived.Test.YtfadikchijkcfaaGreatDoorPUint
set_option linter.unusedVariables false
set_option linter.unusedSectionVars false
set_option linter.unusedSimpArgs false
set_option maxRecDepth 100000
set_option maxHeartbeats 8000000
namespace Go.Proofs.YtfadikchijkcfaaGreatDoor
section
open Go.Proofs.Tryz
open Go Go.RowKit
def Y7H(g:Nat)(W3:World)(NL VL:List Value)(P8:Value→World→Prop)(P9:Nat→World→Prop)(d:Nat→Bool)(y:Nat×Nat×Value×Nat)(W:World):Prop:=
 Y1 (fun k=>k=g) W3 W∧(d 8=false→Below W3.heap.size W3 W)∧(d 8=true→d 2=true∧d 4=true∧d 6=true∧d 7=true)∧(d 9=true→d 8=true)∧
  (d 2=true→d 8=false→W.ownsRow W3.heap.size 9 1 (.slice (some ⟨y.1,0,none⟩) 3 3) 3 NL)∧(d 7=true→d 8=false→W.ownsRow W3.heap.size 106 1 (.slice (some ⟨y.2.1,0,none⟩) 3 3) 3 VL)∧
  (d 8=true→P8 y.2.2.1 W)∧(d 9=true→P9 y.2.2.2 W)∧(d 7=true→d 4=true∧d 6=true)
theorem Z33{P:Prop}(h:P:=by
 cases hq:d 9 with | false=>rfl | true=>rw[e hq]at d8;cases d8):P:=h
section
variable {g:Nat}{W3 W W':World}{NL VL:List Value}{P8:Value→World→Prop}{P9:Nat→World→Prop}{d:Nat→Bool}{y:Nat×Nat×Value×Nat}
theorem Y4(d:Nat→Bool){i j:Nat}(h:i≠j):Go.Proofs.YtfadikchijkcfaaGreatDoor.also d i j=d j:=by unfold Go.Proofs.YtfadikchijkcfaaGreatDoor.also;rw[Yed h]
theorem Y1B(d:Nat→Bool)(i:Nat):Go.Proofs.YtfadikchijkcfaaGreatDoor.also d i i=true:=by unfold Go.Proofs.YtfadikchijkcfaaGreatDoor.also;rw[Yei rfl]
theorem Y7H.same(h:Y7H g W3 NL VL P8 P9 d y W)(i:Nat)(h2:i≠2)(h4:i≠4)(h6:i≠6)(h7:i≠7)(h8:i≠8)(h9:i≠9):Y7H g W3 NL VL P8 P9 (Go.Proofs.YtfadikchijkcfaaGreatDoor.also d i) y W:=by
 unfold Y7H at *;rw[Y4 d h2,Y4 d h4,Y4 d h6,Y4 d h7,Y4 d h8,Y4 d h9];exact h
theorem Y7H.call(h:Y7H g W3 NL VL P8 P9 d y W)(d8:d 8=false)(hb:Below W.heap.size W W')(i:Nat)(hi:i=4∨i=6):Y7H g W3 NL VL P8 P9 (Go.Proofs.YtfadikchijkcfaaGreatDoor.also d i) y W':=by
 obtain⟨a,b,c,e,f,k,l,m,nn⟩:=h;have d9:d 9=false:=Z33;refine⟨a.below hb,fun _=>(b d8).trans (hb.mono (b d8).size),?_,?_,?_,?_,?_,?_,?_⟩
 rotate_left 6
 ·rw[Y4 d (by omega:i≠7)];intro h7;unfold Go.Proofs.YtfadikchijkcfaaGreatDoor.also;have:=nn h7;exact⟨by split<;>simp[this],by split<;>simp[this]⟩
 ·rw[Y4 d (by omega:i≠8),d8];exact Z35
 ·rw[Y4 d (by omega:i≠9),d9];exact Z35
 ·rw[Y4 d (by omega:i≠2)];intro h2 _;exact Y2 (f h2 d8) hb
 ·rw[Y4 d (by omega:i≠7)];intro h2 _;exact Y2 (k h2 d8) hb
 ·rw[Y4 d (by omega:i≠8),d8];exact Z35
 ·rw[Y4 d (by omega:i≠9),d9];exact Z35
theorem Y7H.names(h:Y7H g W3 NL VL P8 P9 d y W)(d2:d 2=false)(hl:NL.length=3)(hz:W3.heap.size≤W.heap.size):Y7H g W3 NL VL P8 P9 (Go.Proofs.YtfadikchijkcfaaGreatDoor.also d 2) (W.heap.size,y.2) (W.alloc (.cells NL.toArray 9)):=by
 obtain⟨a,b,c,e,f,k,l,m,nn⟩:=h;have d8:d 8=false:=by cases hq:d 8 with | false=>rfl | true=>rw[(c hq).1]at d2;cases d2
 have d9:d 9=false:=Z33;have hb:=(Yea W.heap.size W).alloc (Ye9 _) (.cells NL.toArray 9);refine⟨a.below hb,fun _=>(b d8).trans (hb.mono (b d8).size),?_,?_,?_,?_,?_,?_,?_⟩
 rotate_left 6
 ·rw[Y4 d (by omega:2≠7),Y4 d (by omega:2≠4),Y4 d (by omega:2≠6)];exact nn
 ·rw[Y4 d (by omega:2≠8),d8];exact Z35
 ·rw[Y4 d (by omega:2≠9),d9];exact Z35
 ·intro _ _;exact Y2l hz _ _ 3 hl Z7
 ·rw[Y4 d (by omega:2≠7)];intro h2 _;exact Y2 (k h2 d8) hb
 ·rw[Y4 d (by omega:2≠8),d8];exact Z35
 ·rw[Y4 d (by omega:2≠9),d9];exact Z35
theorem Y7H.vals(h:Y7H g W3 NL VL P8 P9 d y W)(d7:d 7=false)(d4:d 4=true)(d6:d 6=true)(hl:VL.length=3)(hz:W3.heap.size≤W.heap.size):Y7H g W3 NL VL P8 P9 (Go.Proofs.YtfadikchijkcfaaGreatDoor.also d 7) (y.1,W.heap.size,y.2.2) (W.alloc (.cells VL.toArray 106)):=by
 obtain⟨a,b,c,e,f,k,l,m,nn⟩:=h;have d8:d 8=false:=by cases hq:d 8 with | false=>rfl | true=>rw[(c hq).2.2.2]at d7;cases d7
 have d9:d 9=false:=Z33;have hb:=(Yea W.heap.size W).alloc (Ye9 _) (.cells VL.toArray 106);refine⟨a.below hb,fun _=>(b d8).trans (hb.mono (b d8).size),?_,?_,?_,?_,?_,?_,?_⟩
 rotate_left 6
 ·rw[Y4 d (by omega:7≠4),Y4 d (by omega:7≠6)]
  exact fun _=>⟨d4,d6⟩
 ·rw[Y4 d (by omega:7≠8),d8];exact Z35
 ·rw[Y4 d (by omega:7≠9),d9];exact Z35
 ·rw[Y4 d (by omega:7≠2)];intro h2 _;exact Y2 (f h2 d8) hb
 ·intro _ _;exact Y2l hz _ _ 3 hl Z7
 ·rw[Y4 d (by omega:7≠8),d8];exact Z35
 ·rw[Y4 d (by omega:7≠9),d9];exact Z35
theorem Y7H.made{va:Value}(h:Y7H g W3 NL VL P8 P9 d y W)(d8:d 8=false)(d2:d 2=true)(d4:d 4=true)(d6:d 6=true)(d7:d 7=true)(hK:Y1 (fun k=>k=g) W3 W')(hP:P8 va W'):Y7H g W3 NL VL P8 P9 (Go.Proofs.YtfadikchijkcfaaGreatDoor.also d 8) (y.1,y.2.1,va,y.2.2.2) W':=by
 obtain⟨a,b,c,e,f,k,l,m,nn⟩:=h;have d9:d 9=false:=Z33;refine⟨hK,?_,?_,?_,?_,?_,?_,?_,?_⟩
 rotate_left 7
 ·rw[Y4 d (by omega:8≠7),Y4 d (by omega:8≠4),Y4 d (by omega:8≠6)];exact nn
 ·rw[Y1B];exact Z35
 ·rw[Y4 d (by omega:8≠2),Y4 d (by omega:8≠4),Y4 d (by omega:8≠6),Y4 d (by omega:8≠7)]
  exact fun _=>⟨d2,d4,d6,d7⟩
 ·rw[Y4 d (by omega:8≠9),d9];exact Z35
 ·rw[Y1B];intro _ h
  cases h
 ·rw[Y1B];intro _ h
  cases h
 ·exact fun _=>hP
 ·rw[Y4 d (by omega:8≠9),d9];exact Z35
theorem Y7H.row(h:Y7H g W3 NL VL P8 P9 d y W)(d8:d 8=true)(o:Obj)(h8: ∀va W W',P8 va W→Below W.heap.size W W'→P8 va W')(hP:P9 W.heap.size (W.alloc o)):Y7H g W3 NL VL P8 P9 (Go.Proofs.YtfadikchijkcfaaGreatDoor.also d 9) (y.1,y.2.1,y.2.2.1,W.heap.size) (W.alloc o):=by
 obtain⟨a,b,c,e,f,k,l,m,nn⟩:=h;have hb:=(Yea W.heap.size W).alloc (Ye9 _) o;refine⟨a.below hb,?_,?_,?_,?_,?_,?_,?_,?_⟩
 rotate_left 7
 ·rw[Y4 d (by omega:9≠7),Y4 d (by omega:9≠4),Y4 d (by omega:9≠6)];exact nn
 ·rw[Y4 d (by omega:9≠8),d8];exact Z35
 ·rw[Y4 d (by omega:9≠8),Y4 d (by omega:9≠2),Y4 d (by omega:9≠4),Y4 d (by omega:9≠6),Y4 d (by omega:9≠7)];exact c
 ·rw[Y4 d (by omega:9≠8)]
  exact fun _=>d8
 ·rw[Y4 d (by omega:9≠8),d8];intro _ h
  cases h
 ·rw[Y4 d (by omega:9≠8),d8];intro _ h
  cases h
 ·exact fun _=>h8 _ _ _ (l d8) hb
 ·exact fun _=>hP
end
section
variable {w:World}{B g gp gn:Nat}{ov rv lv ta ga ua oa:Value}{sn ss:List UInt8}{lim:Int}{c:FCf}{s:FSt}
theorem fnop_any(p:PK)(v av:Value)(h:Yl 82 215 127 w B g gp gn ov rv lv ta ga ua oa sn ss lim c s)(hr:s.rc.length≤1000000)(hrl: ∀k,(s.rc.getD k ([],[])).2.length≤100000)(hp:Y1Y B w p v av)(hE:Y2L p.op p.now p.flags p.vs p.n p.I p.d=0)(hV:Env B w):
 Calls prog 65 #[.pointer (some ⟨g,0,none⟩),pkV p v av] w fun e w'=>Y1R 82 215 127 w B g gp gn ov rv lv ta ga ua oa sn ss lim c (nopP s p) e w':=by
 have hmx:prog.follows .mixedOrders=true:=by kernel_rfl
 refine Z4y ?_;intro hp0;obtain⟨⟨va,vc,rfl⟩,aa,ac,rfl⟩:=hp0.forms;refine Zc ?_;intro W1 hW1 b1 B1;have hgl:=h.blk.lt;have hgB:=h.gB;have z1:W1.heap.size=w.heap.size+1:=Z1J;have h1:=h.below b1;have hVb:=fun W (hb:Below W1.heap.size W1 W)=>hV.all W (((Y1.refl _ w).below b1).below hb)
 have hpb:=fun W (hb:Below W1.heap.size W1 W)=>hp W (((Y1.refl _ w).below b1).below hb)
 have cv:=fun name W (hb:Below W1.heap.size W1 W)=>hid (Y2z p _ _ W (hpb W hb) (hVb W hb).1 (hVb W hb).2.1 name)
 refine Zo ?_;intro t0 t1 t2 t3;refine Z1U ?_;intro t4 t5;have hitt:=Y4Z hE;have hlun:=Yd9 hE;have hdl:=(Y4k hE).2;have hR:nopP s p=if p.v Ye=Y26 then(s,[])else({s with stat:=up1 s.stat},[⟨32,128,Y5Z (p.v Y2P) (p.v Ye) s.stat s.cmd,p.d.take (Y1N s.rc).toNat⟩]):=rfl;unfold pkC at hW1;unfold pkV Y1a at cv ⊢;have c1:=cv Ye W1 (Yea _ _);by_cases h0:p.v Ye=Y26
 ·rw[hR,Yei h0];have hn:((p.v Ye:Int) == 4294967295)=true:=by rw[h0];rfl
  have HF:=hid h;generalize p.v Ye=X at *;clear hR h0 h h1 hp hp0 hV hVb hpb cv;go_enter func65,ntmps65;go_wp2_with fail;refine c1.out.mono ?_;rintro e w2 ⟨rfl,hb2⟩;have hb:=b1.trans (hb2.mono b1.size);go_wp2;go_ret;exact⟨_,rfl,.inl ⟨rfl,rfl⟩,HF.out.below hb,(Y1.refl _ w).below hb⟩
 ·rw[hR,Yed h0]
  have hn:((p.v Ye:Int) == 4294967295)=false:=by
   rw[Yen];intro e;exact h0 (by unfold Y26;exact Z7)
  have hM:=Y3C s.rc
  have cmS: ∀W,W.cell? ⟨w.heap.size,5,none⟩=some (.string (bs p.d))∧Below W1.heap.size W1 W→Hid (Calls prog 112 #[.pointer (some ⟨g,0,none⟩)] W fun e w'=>e= .returned (.int .i64 (Y1N s.rc))∧w'.cell? ⟨w.heap.size,5,none⟩=some (.string (bs p.d))∧Below W1.heap.size W1 w'):=by
   rintro W ⟨i0,i1⟩;have hv:=hVb W i1;refine hid ((Y9k (h1.below i1) hr hrl hv.1 hv.2.2.1 hv.2.1).mono ?_);rintro e w' ⟨he,hb⟩;exact⟨he,(hb.cell (p:=⟨w.heap.size,5,none⟩) (Yeb i0)).trans i0,i1.trans (hb.mono i1.size)⟩
  obtain⟨m,hm,hml,htk⟩: ∃m:Nat,min (p.d.length:Int) (Y1N s.rc)=(m:Int)∧m≤p.d.length∧p.d.take (Y1N s.rc).toNat=p.d.take m:=by
   by_cases hx:Y1N s.rc< (p.d.length:Int)
   ·exact⟨(Y1N s.rc).toNat,by omega,by omega,rfl⟩
   ·exact⟨p.d.length,by omega,Ye9 _,by rw[Yfc Z7,Yex]⟩
  rw[htk];have hm0:(0:Int)≤(m:Int):=Z7;have hm1:(m:Int)≤(p.d.length:Int):=Z7;generalize Y1N s.rc=M at *;have HF:=hid h;have HV:=hid hV;have HVb:=hid hVb;have H1:=hid h1;have CV:=fun(name:List UInt8) (W:World) (hb:Below W1.heap.size W1 W)=>cv name W hb
  clear hR htk cv h hp hp0 hV hVb hpb h1;go_enter func65,ntmps65;go_wp2_with fail;refine c1.out.mono ?_;rintro e w2 ⟨rfl,hb2⟩;have q5:=(hb2.cell (p:=⟨w.heap.size,5,none⟩) Zt).trans t5;have hd2:Below W1.heap.size W1 w2.drew:=hb2.drew;have q5d:w2.drew.cell? ⟨w.heap.size,5,none⟩=some (.string (bs p.d)):=q5;go_upto_region 3 with fail;go_region_held3 (fun w'=>w'.cell? ⟨w.heap.size,5,none⟩=some (.string (bs p.d))∧Below W1.heap.size W1 w')
   (first | exact⟨q5d,hd2⟩ | assumption | exact⟨by assumption,by assumption⟩)
   (first | (go_at_call 112;refine(cmS _ ?_).out.mono ?_;(first | exact⟨q5d,hd2⟩ | assumption | exact⟨by assumption,by assumption⟩);rintro e w3 ⟨rfl,g0,g1⟩))
  have g2:=g1;have K3:Y1 (fun k=>k=g) w w3:=((Y1.refl _ w).below b1).below g1;have h3:=hid (H1.out.below g1);have z3:=g1.size;have hL:=make_nop s.stat s.cmd HF.out.s0 HF.out.s1 HF.out.c0 HF.out.c1 (p.v Y2P) (p.v Ye) hlun hitt;generalize hX:p.v Ye=X at *;generalize hY:p.v Y2P=Y at *;generalize hD:p.d.take m=D at *
  have tk: ∀W,Y1 (fun k=>k=g) w3 W→W.cell? ⟨w.heap.size,0,none⟩=some (.int .i64 p.op)∧W.cell? ⟨w.heap.size,1,none⟩=some (.bool p.now)∧W.cell? ⟨w.heap.size,2,none⟩=some (.int .i64 p.flags)∧W.cell? ⟨w.heap.size,3,none⟩=some (.slice va p.vs.length vc)∧W.cell? ⟨w.heap.size,4,none⟩=some (.slice aa p.n ac)∧W.cell? ⟨w.heap.size,5,none⟩=some (.string (bs p.d)):=by
   intro W hK;have B3:=hK.blk (B1.below g1) (show ¬w.heap.size=g from Z7);exact⟨(B3.cell 0).trans rfl,(B3.cell 1).trans rfl,(B3.cell 2).trans rfl,(B3.cell 3).trans rfl,(B3.cell 4).trans rfl,(B3.cell 5).trans rfl⟩
  have TK:=hid tk;clear tk;go_wp2_with fail;refine YeS (n:=4).1 ?_;refine Yk (G:=Nat×Nat×Value×Nat) (fun y=> [(18,.pointer (some ⟨g,0,none⟩)),(19,.string (bs D)),(20,.slice (some ⟨y.1,0,none⟩) 3 3),(21,.agg #[.int .i64 p.op,.bool p.now,.int .i64 p.flags,.slice va p.vs.length vc,.slice aa p.n ac,.string (bs p.d)]),(22,.int .u64 (Y:Int)),(23,.agg #[.int .i64 p.op,.bool p.now,.int .i64 p.flags,.slice va p.vs.length vc,.slice aa p.n ac,.string (bs p.d)]),(24,.int .u64 (X:Int)),(25,.slice (some ⟨y.2.1,0,none⟩) 3 3),(26,Y1a 32 false 128 y.2.2.1 (.slice none 0 0) D),(27,.slice (some ⟨y.2.2.2,0,none⟩) 1 1),(4,.slice (some ⟨y.2.2.2,0,none⟩) 1 1)])
   (Y7H g w3 (strCells [Y2P,Ye,YB]) (Yb [Y,X,4294967295]) (fun va W=>(∃a cc,va= .slice a 6 cc)∧Sl W va 1 6 (Yb (Y5Z Y X s.stat s.cmd))∧Yl 82 215 127 W B g gp gn ov rv lv ta ga ua oa sn ss lim c {s with stat:=up1 s.stat}) (fun rB W=>Y74 W (.slice (some ⟨rB,0,none⟩) 1 1) [⟨32,128,Y5Z Y X s.stat s.cmd,D⟩]))
   (0,0,undef,0) (aF:= ?kA) ?kB hmx [18,19,20,21,22,23,24,25,26,27,4] (fun _=>rfl) (by kernel_rfl) (by kernel_rfl) ?kS ?kE ?kQ
  case kB =>
   exact Z3J
  case kS=>exact⟨(Y1.refl _ w3).drew,fun _=>(Yea _ _).drew,by simp,by simp,by simp,by simp,by simp,by simp,by simp⟩
  case kE =>
   have cY:=fun W (hb:Below W1.heap.size W1 W)=>hY ▸CV Y2P W hb
   have cX:=fun W (hb:Below W1.heap.size W1 W)=>hX ▸CV Ye W hb
   refine⟨?o0,?o1,?o2,?o3,?o4,?o5,?o6,?o7,?o8,?o9,?o10,trivial⟩
   all_goals refine⟨by simp,fun d y W hC hd hdep=>⟨by first | (simp[go_sem,Oper.about];done) | (simp[go_sem,Oper.about];exact trivial),?_⟩⟩
   case o2 =>
    exact YL (W.heap.size,y.2) [20] (w':=W.alloc (.cells (strCells [Y2P,Ye,YB]).toArray 9)) (by simp[go_sem,strCells,Y2P,Ye,YB,bs]) rfl (by kernel_rfl) Z3C (hC.names hd rfl hC.1.size)
   case o4 =>
    have d8:d 8=false:=by cases hq:d 8 with | false=>rfl | true=>rw[(hC.2.2.1 hq).2.1]at hd;cases hd
    refine Yw (f:=69) (args:= #[.agg #[.int .i64 p.op,.bool p.now,.int .i64 p.flags,.slice va p.vs.length vc,.slice aa p.n ac,.string (bs p.d)],.string ⟨#[76,85,78]⟩]) (w':=W) Z3U rfl Z2t (Yez.2 ((cY W (g2.trans ((hC.2.1 d8).mono z3))).out.mono ?_));rintro e W2 ⟨rfl,hb⟩;exact⟨y,by simp[go_sem],.inl rfl,hC.call d8 hb 4 (.inl rfl)⟩
   case o6 =>
    have d8:d 8=false:=by cases hq:d 8 with | false=>rfl | true=>rw[(hC.2.2.1 hq).2.2.1]at hd;cases hd
    refine Yw (f:=69) (args:= #[.agg #[.int .i64 p.op,.bool p.now,.int .i64 p.flags,.slice va p.vs.length vc,.slice aa p.n ac,.string (bs p.d)],.string ⟨#[73,84,84]⟩]) (w':=W) Z3U rfl Z2t (Yez.2 ((cX W (g2.trans ((hC.2.1 d8).mono z3))).out.mono ?_));rintro e W2 ⟨rfl,hb⟩;exact⟨y,by simp[go_sem],.inl rfl,hC.call d8 hb 6 (.inr rfl)⟩
   case o7 =>
    exact YL (y.1,W.heap.size,y.2.2) [25] (w':=W.alloc (.cells (Yb [Y,X,4294967295]).toArray 106)) (by simp[go_sem,Yb]) rfl (by kernel_rfl) Z3C (hC.vals hd Z50 Z50 rfl hC.1.size)
   case o8 =>
    simp[Region.binds]at hdep;have d2:d 2=true:=Z2x;have d7:d 7=true:=Z2x;have d4:d 4=true:=(hC.2.2.2.2.2.2.2.2 d7).1;have d6:d 6=true:=(hC.2.2.2.2.2.2.2.2 d7).2;have b8:=hC.2.1 hd;have hv:=HVb.out w3 g2;have N:=hC.2.2.2.2.1 d2 hd;have V:=hC.2.2.2.2.2.1 d7 hd
    have hne:y.1≠y.2.1:=by
     intro e;rcases N.2 with ⟨h,_⟩ | ⟨q1,cap1,cur1,h1,_,hg1,_⟩
     ·cases h
     ·rcases V.2 with ⟨h,_⟩ | ⟨q2,cap2,cur2,h2,_,hg2,_⟩
      ·cases h
      ·injection h1 with h1
       injection h1 with h1
       injection h1 with h1
       injection h2 with h2
       injection h2 with h2
       injection h2 with h2
       rw[←h1,e,h2,hg2]at hg1;simp at hg1
    refine Yw (f:=113) (args:= #[.pointer (some ⟨g,0,none⟩),.int .i64 32,.int .i64 128,.string (bs D),.slice (some ⟨y.1,0,none⟩) 3 3,.slice (some ⟨y.2.1,0,none⟩) 3 3]) (w':=W) Z3U rfl Z2t (Yez.2 ((Y6L 32 128 D _ _ [Y2P,Ye,YB] [Y,X,4294967295] (Y5Z Y X s.stat s.cmd) W h3.out b8 hL Z7 Z7 Z7 Z7 Z2t Z2t Zd N V (.inr (by simp[Value.ownBlock];exact hne)) hv.1 hv.2.1).mono ?_))
    rintro e W2 ⟨va',rfl,hsl,hK,hF⟩;have hsl':=hsl;obtain⟨qa,qc,hq,_⟩:=hsl';exact⟨(y.1,y.2.1,va',y.2.2.2),by simp[go_sem],.inr ⟨[26],by kernel_rfl,by simp[Y1g]⟩,hC.made hd d2 d4 d6 d7 hK ⟨⟨_,_,hq⟩,hsl,hF⟩⟩
   case o9 =>
    simp[Region.binds]at hdep;have d8:d 8=true:=Z2x;obtain⟨⟨qa,qc,hq⟩,hsl,hF⟩:=hC.2.2.2.2.2.2.1 d8;have hA:=Y5y (op:=32) (flags:=128) (d:=D) (vs:=Y5Z Y X s.stat s.cmd) hsl;exact YL (y.1,y.2.1,y.2.2.1,W.heap.size) [27,4] (w':=W.alloc (.cells #[.int .i64 32,.bool false,.int .i64 128,y.2.2.1,.slice none 0 0,.string (bs D)] 63)) (by simp[go_sem,Y1a,hq]) rfl (by kernel_rfl) Z3C (hC.row d8 _ (fun va' W W' h hb=>⟨h.1,h.2.1.below (Ye9 _) hb,h.2.2.below hb⟩) hA)
   all_goals
    obtain⟨q0,q1,q2,q3,q4,q5⟩:=TK.out W hC.1;exact Yz (by simp[go_sem,q0,q1,q2,q3,q4,q5]) rfl (hC.same _ Z7 Z7 Z7 Z7 Z7 Z7)
  case kQ =>
   rintro d ⟨y1,y2,y3,y4⟩ W5 hall hC;have hP8:=hC.2.2.2.2.2.2.1 (hall 8 Z2t);have hP9:=hC.2.2.2.2.2.2.2.1 (hall 9 Z2t);have hK:=K3.trans hC.1 (fun i hi=> .inl hi);simp only at hP8 hP9;gi_wp2;go_wp2;go_ret;exact⟨_,rfl,by rw[hX,hY,hD];exact hP9,hP8.2.2,hK⟩
end
end
section
open Go.Proofs.Tryz
open Go Go.RowKit
def EqAPost(w:World)(e:Ending)(w':World):Prop:=e= .returned (.bool true)∧Below w.heap.size w w'
theorem Yca(v1 v2:Value)(l:List An)(w:World)(h1:Y74 w v1 l)(h2:Y74 w v2 l)(hvs: ∀x∈l,x.vs.length≤1000000):
 Calls prog 20 #[v1,v2,.func (.func 21) #[] #[]] w fun e w'=>EqAPost w e w':=by
 rcases h1 with ⟨rfl,rfl⟩ | ⟨x,b1,a1,rfl,rfl,B1,S1⟩
 ·rcases h2 with ⟨-,rfl⟩ | ⟨x,b,va,h,_⟩
  ·go_enter func20,ntmps20;exact Z3g
  ·cases h
 rcases h2 with ⟨h,_⟩ | ⟨y,b2,a2,hy,rfl,B2,S2⟩
 ·cases h
 obtain rfl:x=y:=by simpa using hy
 have hv:=hvs x Z2t;obtain⟨op,flags,vs,d⟩:=x;obtain⟨p1,q1,rfl,_⟩:=id S1;obtain⟨p2,q2,rfl,_⟩:=id S2;simp only at B1 B2 S1 S2 hv;have g0:=(B1.cell 0).trans (rfl:_=some (Value.int .i64 op));have g1:=(B1.cell 1).trans (rfl:_=some (Value.bool false));have g2:=(B1.cell 2).trans (rfl:_=some (Value.int .i64 flags));have g3:=(B1.cell 3).trans (rfl:_=some (Value.slice p1 vs.length q1));have g4:=(B1.cell 4).trans (rfl:_=some (Value.slice none 0 0))
 have g5:=(B1.cell 5).trans (rfl:_=some (Value.string (bs d)));have k0:=(B2.cell 0).trans (rfl:_=some (Value.int .i64 op));have k1:=(B2.cell 1).trans (rfl:_=some (Value.bool false));have k2:=(B2.cell 2).trans (rfl:_=some (Value.int .i64 flags));have k3:=(B2.cell 3).trans (rfl:_=some (Value.slice p2 vs.length q2));have k4:=(B2.cell 4).trans (rfl:_=some (Value.slice none 0 0));have k5:=(B2.cell 5).trans (rfl:_=some (Value.string (bs d)))
 have hb1:=B1.lt;have hb2:=B2.lt;have cs:=fun W (hb:Below w.heap.size w W)=>hid (YcM op false flags (.slice p1 vs.length q1) (.slice p2 vs.length q2) (.slice none 0 0) (.slice none 0 0) vs [] d W hv Z2t (S1.below (Ye9 _) hb) (S2.below (Ye9 _) hb) (Y2g _ 2) (Y2g _ 2))
 have q:=((Yea w.heap.size w).alloc (Ye9 _) (.cells #[.int .i64 op,.bool false,.int .i64 flags,.slice p1 vs.length q1,.slice none 0 0,.string (bs d)] 63)).alloc Z2t (.cells #[.int .i64 op,.bool false,.int .i64 flags,.slice p2 vs.length q2,.slice none 0 0,.string (bs d)] 63);unfold Y1a at cs;clear B1 B2 S1 S2 hvs hy;go_enter func20,ntmps20;go_wp2;refine Yf7 2 ?_
 rw[Yf5];go_wp2_with fail;refine(cs _ q).out.mono ?_;rintro e w3 ⟨rfl,hb3⟩;have b3:=q.trans (hb3.mono q.size);go_wp2;rw[Yf5];go_wp2;go_ret;exact⟨rfl,b3⟩
end
section
open Go.Proofs.Tryz
open Go Go.RowKit
theorem Y3c{a b:Bool}(h:a=true→b=true)(hb:b=false):a=false:=by
 cases a with
 | false=>rfl
 | true=>rw[h rfl]at hb;cases hb
def Y1l(M n:Nat)(gf:List UInt8→Nat)(sv cv mv:Nat)(w1:World)(d:Nat→Bool)(y:(Value×Nat)× (Value×Nat)× (Value×Nat))(W:World):Prop:=
 w1.grownBy W (some M)∧(d 21=true→d 19=true)∧(d 22=true→d 21=true)∧(d 24=true→d 22=true)∧(d 25=true→d 24=true)∧(d 27=true→d 25=true)∧
  (d 19=false→Y1n W M n gf)∧
  (d 19=true→d 21=false→PendN W M n gf Y4v y.1.2)∧
  (d 21=true→d 22=false→Y1n W M (n+1) (Y2C gf Y4v sv))∧
  (d 22=true→d 24=false→PendN W M (n+1) (Y2C gf Y4v sv) Y9b y.2.1.2)∧
  (d 24=true→d 25=false→Y1n W M (n+2) (Y2C (Y2C gf Y4v sv) Y9b cv))∧
  (d 25=true→d 27=false→PendN W M (n+2) (Y2C (Y2C gf Y4v sv) Y9b cv) YbR y.2.2.2)∧
  (d 27=true→Y1n W M (n+3) (Y2C (Y2C (Y2C gf Y4v sv) Y9b cv) YbR mv))
theorem Z3K{P:Prop}(h:P:=by
 unfold goInt at hr
 exact YX (w':=W') (by simp[go_sem,hr]) rfl hC'):P:=h
section
variable {M n:Nat}{gf:List UInt8→Nat}{sv cv mv:Nat}{w1 W:World}{d:Nat→Bool}{y:(Value×Nat)× (Value×Nat)× (Value×Nat)}
theorem Y1l.also(h:Y1l M n gf sv cv mv w1 d y W)(i:Nat)(h1:i≠19)(h2:i≠21)(h3:i≠22)(h4:i≠24)(h5:i≠25)(h6:i≠27):Y1l M n gf sv cv mv w1 (also d i) y W:=by
 unfold Y1l at *;have e: ∀j,i≠j→Go.Proofs.YtfadikchijkcfaaGreatDoor.also d i j=d j:=fun j hj=>by unfold Go.Proofs.YtfadikchijkcfaaGreatDoor.also;rw[Yed hj]
 rw[e 19 h1,e 21 h2,e 22 h3,e 24 h4,e 25 h5,e 27 h6];exact h
theorem Y1l.e1(h:Y1l M n gf sv cv mv w1 d y W)(hd:d 19=false)(hn:n<900000):
 ∃ (v0:Value) (st:Nat) (W':World),(Instr.mapEntry 155 (.map (some M)) (.string (bs Y4v))).run prog W= .ok (.tuple #[v0,goInt st]) W'∧Y1l M n gf sv cv mv w1 (Go.Proofs.YtfadikchijkcfaaGreatDoor.also d 19) ((v0,st),y.2) W':=by
 obtain⟨h0,c1,c2,c3,c4,c5,p0,p1,p2,p3,p4,p5,p6⟩:=h;obtain⟨v0,st,W',hr,hg,hp⟩:=Y1n.entry (p0 hd) Z7 Y4v Z16;have d21:=Y3c c1 hd;have d22:=Y3c c2 d21;have d24:=Y3c c3 d22;have d25:=Y3c c4 d24;have d27:=Y3c c5 d25;refine⟨v0,st,W',hr,?_⟩;unfold Y1l;simp only[Go.Proofs.YtfadikchijkcfaaGreatDoor.also,d21,d22,d24,d25,d27];refine⟨Y1L h0 hg,?_⟩;simp;exact hp
theorem Y1l.s1(h:Y1l M n gf sv cv mv w1 d y W)(hd:d 21=false)(h19:d 19=true)(hx:sv≤18446744073709551615):
 ∃W',(Instr.entryStore 155 (.map (some M)) (goInt y.1.2) (.int .u64 (sv:Int))).run prog W= .ok () W'∧Y1l M n gf sv cv mv w1 (Go.Proofs.YtfadikchijkcfaaGreatDoor.also d 21) y W':=by
 obtain⟨h0,c1,c2,c3,c4,c5,p0,p1,p2,p3,p4,p5,p6⟩:=h;obtain⟨es1,q1,e1,e2⟩:=p1 h19 hd;obtain⟨W',hr,hN,hg⟩:=e2 W sv hx e1;have d22:=Y3c c2 hd;have d24:=Y3c c3 d22;have d25:=Y3c c4 d24;have d27:=Y3c c5 d25;refine⟨W',hr,?_⟩;unfold Y1l;simp only[Go.Proofs.YtfadikchijkcfaaGreatDoor.also,h19,d22,d24,d25,d27];refine⟨Y1L h0 hg,?_⟩;simp;exact hN
theorem Y1l.e2(h:Y1l M n gf sv cv mv w1 d y W)(hd:d 22=false)(h21:d 21=true)(hn:n<900000):
 ∃ (v0:Value) (st:Nat) (W':World),(Instr.mapEntry 155 (.map (some M)) (.string (bs Y9b))).run prog W= .ok (.tuple #[v0,goInt st]) W'∧Y1l M n gf sv cv mv w1 (Go.Proofs.YtfadikchijkcfaaGreatDoor.also d 22) (y.1,(v0,st),y.2.2) W':=by
 obtain⟨h0,c1,c2,c3,c4,c5,p0,p1,p2,p3,p4,p5,p6⟩:=h;obtain⟨v0,st,W',hr,hg,hp⟩:=Y1n.entry (p2 h21 hd) Z7 Y9b Z16;have h19:=c1 h21;have d24:=Y3c c3 hd;have d25:=Y3c c4 d24;have d27:=Y3c c5 d25;refine⟨v0,st,W',hr,?_⟩;unfold Y1l;simp only[Go.Proofs.YtfadikchijkcfaaGreatDoor.also,h19,h21,d24,d25,d27];refine⟨Y1L h0 hg,?_⟩;simp;exact hp
theorem Y1l.s2(h:Y1l M n gf sv cv mv w1 d y W)(hd:d 24=false)(h22:d 22=true)(hx:cv≤18446744073709551615):
 ∃W',(Instr.entryStore 155 (.map (some M)) (goInt y.2.1.2) (.int .u64 (cv:Int))).run prog W= .ok () W'∧Y1l M n gf sv cv mv w1 (Go.Proofs.YtfadikchijkcfaaGreatDoor.also d 24) y W':=by
 obtain⟨h0,c1,c2,c3,c4,c5,p0,p1,p2,p3,p4,p5,p6⟩:=h;obtain⟨es1,q1,e1,e2⟩:=p3 h22 hd;obtain⟨W',hr,hN,hg⟩:=e2 W cv hx e1;have h21:=c2 h22;have h19:=c1 h21;have d25:=Y3c c4 hd;have d27:=Y3c c5 d25;refine⟨W',hr,?_⟩;unfold Y1l;simp only[Go.Proofs.YtfadikchijkcfaaGreatDoor.also,h19,h21,h22,d25,d27];refine⟨Y1L h0 hg,?_⟩;simp;exact hN
theorem Y1l.e3(h:Y1l M n gf sv cv mv w1 d y W)(hd:d 25=false)(h24:d 24=true)(hn:n<900000):
 ∃ (v0:Value) (st:Nat) (W':World),(Instr.mapEntry 155 (.map (some M)) (.string (bs YbR))).run prog W= .ok (.tuple #[v0,goInt st]) W'∧Y1l M n gf sv cv mv w1 (Go.Proofs.YtfadikchijkcfaaGreatDoor.also d 25) (y.1,y.2.1,(v0,st)) W':=by
 obtain⟨h0,c1,c2,c3,c4,c5,p0,p1,p2,p3,p4,p5,p6⟩:=h;obtain⟨v0,st,W',hr,hg,hp⟩:=Y1n.entry (p4 h24 hd) Z7 YbR Z16;have h22:=c3 h24;have h21:=c2 h22;have h19:=c1 h21;have d27:=Y3c c5 hd;refine⟨v0,st,W',hr,?_⟩;unfold Y1l;simp only[Go.Proofs.YtfadikchijkcfaaGreatDoor.also,h19,h21,h22,h24,d27];refine⟨Y1L h0 hg,?_⟩;simp;exact hp
theorem Y1l.s3(h:Y1l M n gf sv cv mv w1 d y W)(hd:d 27=false)(h25:d 25=true)(hx:mv≤18446744073709551615):
 ∃W',(Instr.entryStore 155 (.map (some M)) (goInt y.2.2.2) (.int .u64 (mv:Int))).run prog W= .ok () W'∧Y1l M n gf sv cv mv w1 (Go.Proofs.YtfadikchijkcfaaGreatDoor.also d 27) y W':=by
 obtain⟨h0,c1,c2,c3,c4,c5,p0,p1,p2,p3,p4,p5,p6⟩:=h;obtain⟨es1,q1,e1,e2⟩:=p5 h25 hd;obtain⟨W',hr,hN,hg⟩:=e2 W mv hx e1;have h24:=c4 h25;have h22:=c3 h24;have h21:=c2 h22;have h19:=c1 h21;refine⟨W',hr,?_⟩;unfold Y1l;simp only[Go.Proofs.YtfadikchijkcfaaGreatDoor.also,h19,h21,h22,h24,h25];refine⟨Y1L h0 hg,?_⟩;simp;exact hN
end
def RSay(op flags:Int)(xs:List Nat)(S:Nat→Prop)(H:Nat)(w w6:World)(i:Value)(wr:World):Prop:=
 ∃ (k:Nat) (v:Value),k≤xs.length∧i= .int .i64 (k:Nat)∧Blk wr H 60 (HC op false flags v)∧wr.ownsRow w6.heap.size 106 1 v k (Yb (xs.take k))∧Y1Z H w6 wr∧Y1 S w wr
def Ye5(op flags:Int)(data:List UInt8)(xs:List Nat)(g M:Nat)(cs:Array Value)(w:World)(e:Ending)(w':World):Prop:=
 ∃v,e= .returned (Y1a op false flags v (.slice none 0 0) data)∧w'.ownsRow w.heap.size 106 1 v xs.length (Yb xs)∧Y1 (fun k=>k=g∨k=M) w w'∧Blk w' g 75 cs
section
variable (g M n:Nat)(gf:List UInt8→Nat)(p ta ga ua oa:Value)(sn ss:List UInt8)(lim:Int)(name:List UInt8)(disc:Bool)(stat cmd:Int)(gp left:Value)(closed:Bool)
 (op flags:Int) (data:List UInt8) (r:HR) (w:World)
 (hB:Blk w g 75 (Y14 p ta ga ua oa sn ss lim name disc stat cmd gp left closed)) (hM:Y1n w M n gf) (hn:n<900000) (hgf: ∀m,gf m≤18446744073709551615) (hr:Y1e op=some r)
 (hs0:0≤stat) (hs1:stat≤4294967295) (hc0:0≤cmd) (hc1:cmd≤4294967295) (hgM:g≠M)
include hB hM hn hgf hr hs0 hs1 hc0 hc1 hgM
theorem YcK:Calls prog 58 #[.pointer (some ⟨g,0,none⟩),.int .i64 op,.int .i64 flags,.string (bs data),.map (some M)] w fun e w' =>
 Ye5 op flags data (r.fields.map fun f=>Y3H gf stat cmd f.name) g M (Y14 p ta ga ua oa sn ss lim name disc ((stat+1) % 4294967296) cmd gp left closed) w e w':=by
 have hmx:prog.follows .mixedOrders=true:=by kernel_rfl
 have ck:=fun w1=>hid (Y63 op w1)
 have ca:=fun W=>hid (YbJ cmd 31 W hc0 hc1 Z7 Z7)
 unfold Y5i at ck;simp only[hr,Yc5,Y5P,Y2y,Option.isSome_some]at ck;have hmem:=YR hr;have hnf:=(YC r hmem).2.2.2.2.2.2.1;have hn0:=Y1Q r hmem;have Hft:=hid (YC r hmem).2.2.2.2.2.2.2;clear hr hmem;refine Zz ?_;intro W1 hW1 k1 P1 z1 B1;have M1:Y1n W1 M n gf:=Y16.below hM k1;have hgl:=hB.lt;have hMl:=Y16.lt hM;clear hB hM;go_enter func58,ntmps58
 go_wp2_with fail;refine YeS (n:=4).1 ?_;refine Yk (G:=(Value×Nat)× (Value×Nat)× (Value×Nat)) (fun y=> [(18,.map (some M)),(19,.map (some M)),(20,.map (some M)),(21,.pointer (some ⟨g,0,none⟩)),(22,.pointer (some ⟨g,0,none⟩)),(23,.pointer (some ⟨g,10,none⟩)),(24,.int .u32 stat),(25,.int .u64 stat),(26,.pointer (some ⟨g,0,none⟩)),(27,.pointer (some ⟨g,0,none⟩)),(28,.pointer (some ⟨g,11,none⟩)),(29,.int .u32 cmd),(30,.int .u64 cmd),(31,.pointer (some ⟨g,0,none⟩)),(32,.pointer (some ⟨g,0,none⟩)),(33,.pointer (some ⟨g,11,none⟩)),(34,.int .u32 cmd),(35,.int .u32 ((cmd+31) % 4294967296)),(36,.int .u64 ((cmd+31) % 4294967296)),(37,.tuple #[y.1.1,goInt y.1.2]),(38,goInt y.1.2),(39,.tuple #[y.2.1.1,goInt y.2.1.2]),(40,goInt y.2.1.2),(41,.tuple #[y.2.2.1,goInt y.2.2.2]),(42,goInt y.2.2.2)])
  (Y1l M n gf stat.toNat cmd.toNat ((cmd+31) % 4294967296).toNat W1)
  ((undef,0),(undef,0),(undef,0)) (aF:= ?kA) ?kB hmx [18,19,20,21,22,23,24,25,26,27,28,29,30,31,32,33,34,35,36,37,38,39,40,41,42] (fun _=>rfl) (by kernel_rfl) (by kernel_rfl) ?kS ?kE ?kQ
 case kB =>
  exact Z3J
 case kS=>exact⟨Y9j (Yea W1.heap.size W1).drew (Ye9 _) _,by simp,by simp,by simp,by simp,by simp,fun _=>Y16.below M1 (Yea _ _).drew,by simp,by simp,by simp,by simp,by simp,by simp⟩
 case kE =>
  obtain⟨sv,hsv⟩: ∃sv:Nat,stat=(sv:Int):=⟨stat.toNat,by omega⟩;obtain⟨cv,hcv⟩: ∃cv:Nat,cmd=(cv:Int):=⟨cmd.toNat,by omega⟩;obtain⟨mv,hmv⟩: ∃mv:Nat,(cmd+31) % 4294967296=(mv:Int):=⟨((cmd+31) % 4294967296).toNat,by omega⟩;have hmv2:mv≤4294967295:=Z7;rw[hmv]at ca ⊢;have wm:IntKind.u64.wrap (mv:Int)=mv:=Z2k;clear hmv;subst hsv hcv;have ws:IntKind.u64.wrap (sv:Int)=sv:=Z2k;have wc:IntKind.u64.wrap (cv:Int)=cv:=Z2k
  simp only[YfL]
  have HF:=hid (fun(W:World) (hg:W1.grownBy W (some M))=>show W.cell? ⟨g,10,none⟩=some (.int .u32 (sv:Int))∧W.cell? ⟨g,11,none⟩=some (.int .u32 (cv:Int))from by
   have B:=Y2R B1 hg hgM
   exact⟨(B.cell 10).trans rfl,(B.cell 11).trans rfl⟩)
  refine⟨?o0,?o1,?o2,?o3,?o4,?o5,?o6,?o7,?o8,?o9,?o10,?o11,?o12,?o13,?o14,?o15,?o16,?o17,?o18,?o19,?o20,?o21,?o22,?o23,?o24,?o25,?o26,?o27,trivial⟩
  all_goals refine⟨by simp,fun d y W hC hd hdep=>⟨by first | (simp[go_sem,Oper.about];done) | (simp[go_sem,Oper.about];exact trivial),?_⟩⟩
  case o17 =>
   have hc:=(ca W).out;refine Yw (f:=74) (args:= #[.int .u32 (cv:Int),.int .i64 31]) (w':=W) Z3U rfl Z2t (Yez.2 (hc.mono ?_));rintro e W2 ⟨rfl,rfl⟩;exact⟨y,by simp[go_sem],.inl rfl,hC.also 17 Z7 Z7 Z7 Z7 Z7 Z7⟩
  case o19 =>
   obtain⟨v0,st,W',hr,hC'⟩:=hC.e1 hd hn;have hr:(Instr.mapEntry 155 (.map (some M)) (.string ⟨#[83,116,97,116,83,78]⟩)).run prog W= .ok (.tuple #[v0,goInt st]) W':=hr;exact YL ((v0,st),y.2) [37,38] (w':=W') (by simp[go_sem,hr]) rfl (by kernel_rfl) Z3C hC'
  case o21 =>
   simp[Region.binds]at hdep;obtain⟨W',hr,hC'⟩:=hC.s1 hd Z2x Z7;exact Z3K
  case o22 =>
   simp[Region.binds]at hdep;obtain⟨v0,st,W',hr,hC'⟩:=hC.e2 hd Z2x hn;have hr:(Instr.mapEntry 155 (.map (some M)) (.string ⟨#[69,120,112,67,109,100,83,78]⟩)).run prog W= .ok (.tuple #[v0,goInt st]) W':=hr;exact YL (y.1,(v0,st),y.2.2) [39,40] (w':=W') (by simp[go_sem,hr]) rfl (by kernel_rfl) Z3C hC'
  case o24 =>
   simp[Region.binds]at hdep;obtain⟨W',hr,hC'⟩:=hC.s2 hd Z2x Z7;exact Z3K
  case o25 =>
   simp[Region.binds]at hdep;obtain⟨v0,st,W',hr,hC'⟩:=hC.e3 hd Z2x hn;have hr:(Instr.mapEntry 155 (.map (some M)) (.string ⟨#[77,97,120,67,109,100,83,78]⟩)).run prog W= .ok (.tuple #[v0,goInt st]) W':=hr;exact YL (y.1,y.2.1,(v0,st)) [41,42] (w':=W') (by simp[go_sem,hr]) rfl (by kernel_rfl) Z3C hC'
  case o27 =>
   simp[Region.binds]at hdep;obtain⟨W',hr,hC'⟩:=hC.s3 hd Z2x Z7;exact Z3K
  all_goals
   obtain⟨q10,q11⟩:=HF.out W hC.1
   first
    | exact Yz (by simp[go_sem,q10,q11,ws,wc,wm]) rfl (hC.also _ Z7 Z7 Z7 Z7 Z7 Z7)
 case kQ =>
  rintro d y W5 hall hC;have hO:=hC.1;have NM:Y1n W5 M (n+3) (Y3H gf stat cmd):=hC.2.2.2.2.2.2.2.2.2.2.2.2 (hall 27 Z2t);clear hC hall;have B5:=Y2R B1 hO hgM;have P5:=Y2R P1 hO Z7;have hO5:=hO.size;have s10:=(B5.cell 10).trans (rfl:_=some (Value.int .u32 stat));have f10:=B5.free 10;have hw:IntKind.u32.wrap (stat+1)=(stat+1) % 4294967296:=by rw[Yfo]
  have K5:Y1 (fun k=>k=g∨k=M) w W5:=((Y1.refl _ w).below k1).only hO (fun q h=> .inl (.inr (Yey h).symm));obtain⟨W6,hW6⟩: ∃W6,W5.setCell ⟨g,10,none⟩ (.int .u32 ((stat+1) % 4294967296))=W6:=⟨_,rfl⟩;have B6:Blk W6 g 75 (Y14 p ta ga ua oa sn ss lim name disc ((stat+1) % 4294967296) cmd gp left closed):=by rw[←hW6];exact B5.set 10 _
  have P6:Blk W6 w.heap.size 63 #[.int .i64 0,.bool false,.int .i64 0,.slice none 0 0,.slice none 0 0,.string ⟨#[]⟩]:=by rw[←hW6];exact Y1k P5 10 _ Z7
  have NM6:Y1n W6 M (n+3) (Y3H gf stat cmd):=by rw[←hW6];exact Y16.same NM (YeN W5 ⟨g,10,none⟩ _ M (fun e=>hgM e.symm))
  have K6:Y1 (fun k=>k=g∨k=M) w W6:=by rw[←hW6];exact K5.set _ _ (.inl (.inl rfl))
  have z6:W6.heap.size=W5.heap.size:=by rw[←hW6];exact Z3j
  have k7:Below W6.heap.size W6 (W6.alloc (.cells #[.int .i64 op,.bool false,.int .i64 flags,.slice none 0 0] 60)):=(Yea _ _).alloc (Ye9 _) _;have H7:Blk (W6.alloc (.cells #[.int .i64 op,.bool false,.int .i64 flags,.slice none 0 0] 60)) W6.heap.size 60 (HC op false flags (.slice none 0 0)):=Blk.new _ _ _;gi_wp2;go_wp2_with fail;rw[←z6];generalize hW7:W6.alloc (.cells #[.int .i64 op,.bool false,.int .i64 flags,.slice none 0 0] 60)=W7 at *
  have z7:W7.heap.size=W6.heap.size+1:=by rw[←hW7];exact Z2t
  clear hW7 hW6 z6;have B7:=B6.below k7;have P7:=P6.below k7;have NM7:Y1n W7 M (n+3) (Y3H gf stat cmd):=Y16.below NM6 k7;have K7:=K6.below k7;refine(ck _).out.mono ?_;rintro e W8 ⟨fv,rfl,hfs,_,hb8⟩;have z8:=hb8.size;have B8:=B7.below hb8;have P8:=P7.below hb8;have H8:=H7.below hb8;have NM8:Y1n W8 M (n+3) (Y3H gf stat cmd):=Y16.below NM7 hb8;have K8:=K7.below hb8;obtain⟨fb,fo,fc,rfl,hfb,hfc⟩:=Y1m hfs hn0
  have hfne:fb≠W6.heap.size:=by
   intro e;obtain⟨f0,hf0⟩: ∃f,r.fields[0]?=some f:=⟨r.fields[0]'hn0,Yec _⟩;obtain⟨y0,_,_⟩:=hfc 0 f0 hf0;rw[e,H8.cell]at y0;generalize fo+0 * 3=j at y0;rcases j with _ | _ | _ | _ | j<;>simp[HC]at y0
  have HFC:=hid hfc;have hvl:(r.fields.map fun f=>Y3H gf stat cmd f.name).length=r.fields.length:=Z2t
  have hvb: ∀x∈r.fields.map (fun f=>Y3H gf stat cmd f.name),x≤18446744073709551615:=by
   intro x hx;obtain⟨f,_,rfl⟩:=Yg4.1 hx;unfold Y3H Y2C
   split
   ·exact Z7
   ·split
    ·exact Z7
    ·split
     ·exact Z7
     ·exact hgf _
  have hxk: ∀ (j:Nat) (f:FR),r.fields[j]?=some f→(r.fields.map fun f=>Y3H gf stat cmd f.name)[j]?=some (Y3H gf stat cmd f.name):=fun j f h=>by rw[YeR,h];rfl
  have Hxk:=hid hxk;have Hvb:=hid hvb;have HNM:=hid NM8;have HB8:=hid B8;have HP8:=hid P8;have HH8:=hid H8;have HK8:=hid K8;have hgl8:g<W6.heap.size:=B6.lt;have hMl8:M<W6.heap.size:=Y16.lt NM6;have hpl8:w.heap.size<W6.heap.size:=P6.lt;have hw8:=K8.size;clear hxk hvb hfc hfs ck B5 P5 B6 P6 NM NM6 K5 K6 B7 P7 NM7 K7 B8 P8 H7 H8 NM8 K8 s10 f10 hw k7 hb8 hO B1 P1 M1 k1 hgf ca;generalize hxs:r.fields.map (fun f=>Y3H gf stat cmd f.name)=xs at *
  have HX:=hid hxs;clear hxs;go_wp2_with fail;go_loopw [62] (fun i wr=>RSay op flags xs (fun k=>k=g∨k=M) W6.heap.size w W8 i wr) (fun i _=>xs.length - (intOf i).toNat)
  case atStart=>exact⟨0,_,by omega,rfl,HH8.out,YeD _ _ _ _,Y1Z.refl _ _,HK8.out⟩
  case round =>
   obtain⟨k,v,hk,rfl,hB,hown,hKp,hb⟩:=hrel;have hs4:=hKp.size;by_cases hlt:k<xs.length
   ·obtain⟨f,hfk⟩: ∃f,r.fields[k]?=some f:=⟨r.fields[k]' Z7,Yec _⟩;have hkf:k<r.fields.length:=Z7;have hxk:=Hxk.out k f hfk
    have hfn:f.name.length≤9223372036854775807:=by
     have h1:=(Hft.out f (Yer hfk)).2.1;unfold FR.text at h1;simp at h1;exact Z7
    have hx64:=Hvb.out _ (Yer hxk);have Hn:=hid (u64_snoc xs k _ hxk);obtain⟨y0,y1,y2⟩:=HFC.out k f hfk;have y0:=(hKp.cell (p:=⟨fb,fo+k * 3,none⟩) (by show fb < _;exact Z7) hfne).trans y0;have y1:=(hKp.cell (p:=⟨fb,fo+k * 3+1,none⟩) (by show fb < _;exact Z7) hfne).trans y1;have y2:=(hKp.cell (p:=⟨fb,fo+k * 3+2,none⟩) (by show fb < _;exact Z7) hfne).trans y2;have hA:=(Yea wr.heap.size wr).alloc (Ye9 _) (.cells #[.string (bs f.name),.int .i64 (f.at_:Int),.int .i64 (f.size:Int)] 225)
    have hNM2:Y1n (wr.alloc (.cells #[.string (bs f.name),.int .i64 (f.at_:Int),.int .i64 (f.size:Int)] 225)) M (n+3) (Y3H gf stat cmd):=Y16.below (Y16.same HNM.out (hKp.keep _ Z7 Z7)) hA;have hlk:=hNM2.look f.name hfn;clear hxk hfk;generalize Y3H gf stat cmd f.name=x at *;generalize Yb (xs.take k)=cs at *;have hB2:=hB.below hA;have hK2:=hKp.below hA;have hO2:=Y2 hown hA;have hbA:=hb.below hA
    have t3:(wr.alloc (.cells #[.string (bs f.name),.int .i64 (f.at_:Int),.int .i64 (f.size:Int)] 225)).cell? ⟨W6.heap.size,3,none⟩=some v:=(hB2.cell 3).trans rfl;have hA3:=(Yea (wr.alloc (.cells #[.string (bs f.name),.int .i64 (f.at_:Int),.int .i64 (f.size:Int)] 225)).heap.size (wr.alloc (.cells #[.string (bs f.name),.int .i64 (f.at_:Int),.int .i64 (f.size:Int)] 225))).alloc (Ye9 _) (.cells #[.int .u64 (x:Nat)] 106)
    have hB3:=hB2.below hA3;have hK3:=hK2.below hA3;have hO3:=Y2 hO2 hA3;have hb3:=hbA.below hA3;have q8:=hB.lt;have hlt6:W6.heap.size<W8.heap.size:=Z7;go_wp2_with (at_builtin;refine Yj rfl (.tmp 67) (.tmp 72) 58 rfl W8.heap.size 106 (.int .u64 0) 1 8 underlying58 Yap rfl Z16 v k cs rfl hO3 ⟨wr.heap.size+1,0,none⟩ 1 1 [.int .u64 (x:Nat)] rfl rfl (by intro j u hu;(have hj:j=0:=by (have:=(Yek.1 hu).1;simp at this;exact this));subst hj;simp at hu;subst hu;rw[show(⟨wr.heap.size+1,0,none⟩:Addr).add 0=⟨wr.heap.size+1,0,none⟩from rfl,←YeI wr (.cells #[.string (bs f.name),.int .i64 (f.at_:Int),.int .i64 (f.size:Int)] 225),YeJ _ _ _ _ _ _ (YeC _ _)];rfl) Z1H ZS Z7 Zd ?_;intro v' w5 hown5 hgrow _;obtain⟨sa',sc',rfl⟩:=own_sl hown5;have hB5:=hB3.grown hO3 hgrow hlt6;have hK5:=hK3.grown hO3 hgrow;have u3:w5.cell? ⟨W6.heap.size,3,none⟩=some v:=(hB5.cell 3).trans rfl;have f3:=hB5.free 3)
    go_roundw
    case rel=>exact⟨k+1,_,by omega,by go_num,hB5.set 3 _,by rw[Hn.out];exact YaX hown5 hlt6 _,hK5.set 3 _,(hb3.only hgrow (fun q hq=> .inr (by have:=(hO3.lt q hq).1;exact Z7))).set _ _ (.inr Zt)⟩
    case measure=>exact Zw
   ·obtain rfl:k=xs.length:=Z7;obtain⟨va',vc',rfl⟩:=own_sl hown;rw[Yex]at hown;rw[hvl]at hown hB;have HO:=hid hown;have HBr:=Yb4 hKp HP8.out Z7;have HEr:=hid (Yb4 hKp HB8.out Z7);have p0:wr.cell? ⟨W6.heap.size,0,none⟩=some (.int .i64 op):=(hB.cell 0).trans rfl;have p1:wr.cell? ⟨W6.heap.size,1,none⟩=some (.bool false):=(hB.cell 1).trans rfl;have p2:wr.cell? ⟨W6.heap.size,2,none⟩=some (.int .i64 flags):=(hB.cell 2).trans rfl
    have p3:wr.cell? ⟨W6.heap.size,3,none⟩=some (.slice va' r.fields.length vc'):=(hB.cell 3).trans rfl;have y0:=(HBr.cell 0).trans (rfl:_=some (Value.int .i64 0));have y1:=(HBr.cell 1).trans (rfl:_=some (Value.bool false));have y2:=(HBr.cell 2).trans (rfl:_=some (Value.int .i64 0));have y3:=(HBr.cell 3).trans (rfl:_=some (Value.slice none 0 0));have y4:=(HBr.cell 4).trans (rfl:_=some (Value.slice none 0 0))
    have y5:=(HBr.cell 5).trans (rfl:_=some (Value.string ⟨#[]⟩));have v0:=HBr.free 0;have v1:=HBr.free 1;have v2:=HBr.free 2;have v3:=HBr.free 3;have v4:=HBr.free 4;have v5:=HBr.free 5;obtain⟨W9,hW9⟩: ∃W9,((((((wr.setCell ⟨w.heap.size,0,none⟩ (.int .i64 op)).setCell ⟨w.heap.size,1,none⟩ (.bool false)).setCell ⟨w.heap.size,2,none⟩ (.int .i64 flags)).setCell ⟨w.heap.size,3,none⟩ (.slice va' r.fields.length vc')).setCell ⟨w.heap.size,4,none⟩ (.slice none 0 0)).setCell ⟨w.heap.size,5,none⟩ (.string (bs data)))=W9:=⟨_,rfl⟩
    have T0:Blk W9 w.heap.size 63 #[.int .i64 op,.bool false,.int .i64 flags,.slice va' r.fields.length vc',.slice none 0 0,.string (bs data)]:=by
     rw[←hW9];exact(((((HBr.set 0 _).set 1 _).set 2 _).set 3 _).set 4 _).set 5 _
    have B9:Blk W9 g 75 (Y14 p ta ga ua oa sn ss lim name disc ((stat+1) % 4294967296) cmd gp left closed):=by
     rw[←hW9]
     iterate 6 refine Y1k ?_ _ _ Z7
     exact HEr.out
    have K9:Y1 (fun k=>k=g∨k=M) w W9:=by
     rw[←hW9];exact(((((hb.set _ _ (.inr (Ye9 _))).set _ _ (.inr (Ye9 _))).set _ _ (.inr (Ye9 _))).set _ _ (.inr (Ye9 _))).set _ _ (.inr (Ye9 _))).set _ _ (.inr (Ye9 _))
    have O9:W9.ownsRow W8.heap.size 106 1 (.slice va' r.fields.length vc') r.fields.length (Yb xs):=by
     rw[←hW9]
     iterate 6 refine YaX ?_ (show w.heap.size<W8.heap.size from Z7) _
     exact HO.out
    have O9:=hid (Y25 O9 (show w.heap.size≤W8.heap.size from Z7));have e1:=(T0.cell 0).trans (rfl:_=some (Value.int .i64 op));have e2:=(T0.cell 1).trans (rfl:_=some (Value.bool false));have e3:=(T0.cell 2).trans (rfl:_=some (Value.int .i64 flags));have e4:=(T0.cell 3).trans (rfl:_=some (Value.slice va' r.fields.length vc'));have e5:=(T0.cell 4).trans (rfl:_=some (Value.slice none 0 0));have e6:=(T0.cell 5).trans (rfl:_=some (Value.string (bs data)))
    have HK9:=hid K9;have HB9:=hid B9;clear hown hKp hb HBr T0 K9 B9;go_wp2;refine Yej (v:=Y1a op false flags (.slice va' r.fields.length vc') (.slice none 0 0) data) (by simp[results,results58,go_sem,Y1a,e1,e2,e3,e4,e5,e6]) rfl ?_;exact⟨_,rfl,by rw[HX.out,hvl];exact O9.out,HK9.out,HB9.out⟩
end
end
section
open Go.Proofs.Tryz
open Go Go.RowKit
def Y9K(w:World)(v:Value)(n:Nat)(xs:List Nat):Prop:= ∃a c,v= .slice a n c∧Sl w v 1 n (Yb xs)∧ ∀b o,a=some ⟨b,o,none⟩→n≠0→ ∃cs,Blk w b 106 cs
theorem Y9K.sl{w:World}{v:Value}{n:Nat}{xs:List Nat}(h:Y9K w v n xs):Sl w v 1 n (Yb xs):=by obtain⟨_,_,_,h,_⟩:=h;exact h
theorem Y9K.below{w w':World}{v:Value}{n:Nat}{xs:List Nat}(h:Y9K w v n xs)(hs:0<1)(hb:Below w.heap.size w w'):Y9K w' v n xs:=by
 obtain⟨a,c,h1,h2,h3⟩:=h;exact⟨a,c,h1,h2.below hs hb,fun b o e hn=>by obtain⟨cs,hB⟩:=h3 b o e hn;exact⟨cs,hB.below hb⟩⟩
theorem YaO(w:World):Y9K w (.slice none 0 0) 0 []:=⟨none,0,rfl,Y2g _ _,fun b o e=>by cases e⟩
theorem Y5F{w:World}{base n:Nat}{v:Value}{xs:List Nat}(h:w.ownsRow base 106 1 v n (Yb xs)):Y9K w v n xs:=by
 have hs:=Y3x h;rcases h.2 with ⟨rfl,rfl⟩ | ⟨g,cap,cur,rfl,hbg,hg,_⟩
 ·exact⟨none,0,rfl,hs,fun b o e=>by cases e⟩
 ·exact⟨_,cap,rfl,hs,fun b o e _=>by
   cases e
   exact⟨cur,hg⟩⟩
def Y6b(g:Nat)(cs:Int→Array Value)(stat cmd:Int)(h:List UInt8)(reason:Int)(w:World)(e:Ending)(w':World):Prop:=
 ∃v,e= .returned (.tuple #[Y1a (if Y4t reason h=0 then 63 else 0) false (if Y4t reason h=0 then 128 else 0) v (.slice none 0 0) (if Y4t reason h=0 then h else []),.int .i64 (Y4t reason h:Nat)])∧
  Y9K w' v (if Y4t reason h=0 then Y4C reason stat cmd else []).length (if Y4t reason h=0 then Y4C reason stat cmd else [])∧Y1 (fun k=>k=g) w w'∧Blk w' g 75 (cs (if Y4t reason h=0 then(stat+1) % 4294967296 else stat))
theorem Z51{P:Prop}(h:P:=by
 have:=Yey hq
 exact Z7):P:=h
section
variable (g:Nat)(p ta ga ua oa:Value)(sn ss:List UInt8)(lim:Int)(name:List UInt8)(disc:Bool)(stat cmd:Int)(gp left:Value)(closed:Bool)(h:List UInt8)(reason:Int)(w:World)
 (hB:Blk w g 75 (Y14 p ta ga ua oa sn ss lim name disc stat cmd gp left closed))
 (hs0:0≤stat) (hs1:stat≤4294967295) (hc0:0≤cmd) (hc1:cmd≤4294967295)
include hB hs0 hs1 hc0 hc1
theorem Yac:Calls prog 55 #[.pointer (some ⟨g,0,none⟩),.string (bs h),.int .i64 reason] w fun e w' =>
 Y6b g (fun st=>Y14 p ta ga ua oa sn ss lim name disc st cmd gp left closed) stat cmd h reason w e w':=by
 refine Zz ?_;intro W1 hW1 k1 P1 z1 B1;have hgl:=hB.lt;by_cases hbad:Y4t reason h≠0
 ·refine ZI ?_;intro y0 y1 y2 y3 y4 y5 v0 v1 v2 v3 v4 v5 W2 hW2 T0
  have B2:Blk W2 g 75 (Y14 p ta ga ua oa sn ss lim name disc stat cmd gp left closed):=by
   rw[←hW2]
   iterate 6 refine Y1k ?_ _ _ Z7
   exact B1
  refine Z1c ?_;intro K2 e1 e2 e3 e4 e5 e6 HK HB2;clear hB B1 P1 K2 B2 T0;unfold Y6b;by_cases hr:reason<0∨255<reason
  ·have hE:Y4t reason h=2:=by unfold Y4t;rw[Yei hr]
   rw[hE];simp only[Yed (show ¬(2:Nat)=0 from Z7)];have cw:=fun W=>hid (YZ reason 0 255 W hr)
   clear hr;go_enter func55,ntmps55;go_wp2_with (go_at_call 100;refine(cw _).out.mono ?_;rintro e w7 ⟨rfl,rfl⟩);refine Yej (v:= .tuple #[Y1a 0 false 0 (.slice none 0 0) (.slice none 0 0) [],.int .i64 2]) (by simp[results,results55,go_sem,Y1a,e1,e2,e3,e4,e5,e6];rfl) rfl ?_;exact⟨_,rfl,YaO _,HK.out,HB2.out⟩
  ·have hr2:h.length≠48:=by
    intro hl;apply hbad;unfold Y4t;rw[Yed hr,Yed Z7]
   have hE:Y4t reason h=4:=by unfold Y4t;rw[Yed hr,Yei hr2]
   rw[hE];simp only[Yed (show ¬(4:Nat)=0 from Z7)];have cw:=fun W=>hid (YK reason 0 255 W Z7 Z7)
   have hl:((h.length:Int) !=48)=true:=Zd;clear hbad hr2 hr;go_enter func55,ntmps55;go_wp2_with (go_at_call 100;refine(cw _).out.mono ?_;rintro e w7 ⟨rfl,rfl⟩);refine Yej (v:= .tuple #[Y1a 0 false 0 (.slice none 0 0) (.slice none 0 0) [],.int .i64 4]) (by simp[results,results55,go_sem,Y1a,e1,e2,e3,e4,e5,e6];rfl) rfl ?_;exact⟨_,rfl,YaO _,HK.out,HB2.out⟩
 ·have hE:Y4t reason h=0:=Yfa hbad;obtain⟨a0,a1,hl⟩:=Y93 hE;have hl2:((h.length:Int) !=48)=false:=Zd;unfold Y6b;rw[hE];simp only[Yfw];clear hbad hE;have cw:=fun W=>hid (YK reason 0 255 W Z7 Z7)
  have wr:IntKind.u64.wrap reason=reason:=Z2k;have hmm:=@run_makeMap prog;obtain⟨W2,hW2⟩: ∃W2,W1.alloc (.map #[] 0)=W2:=⟨_,rfl⟩;have k2:Below W1.heap.size W1 W2:=Z4F;have N2:Y1n W2 (w.heap.size+1) 0 (fun _=>0):=by rw[←hW2,←z1];exact Y1n.made W1
  have hre:((reason.toNat:Nat):Int)=reason:=Z7;obtain⟨W3,m3,N3,g3⟩:=Y1n.put N2 Z7 Y4m Z16 reason.toNat Z7;obtain⟨W4,m4,N4,g4⟩:=Y1n.put N3 Z7 Ye Z16 4294967295 Z7;rw[hre]at m3;have m3:(Instr.mapUpdate 155 (.map (some (w.heap.size+1))) (.string ⟨#[82,101,97,115,111,110]⟩) (.int .u64 reason)).run prog W2= .ok () W3:=m3;have m4:(Instr.mapUpdate 155 (.map (some (w.heap.size+1))) (.string ⟨#[73,84,84]⟩) (.int .u64 4294967295)).run prog W3= .ok () W4:=m4
  have B4:=Y2R (Y2R (B1.below k2) g3 Z7) g4 Z7;have P4:=Y2R (Y2R (P1.below k2) g3 Z7) g4 Z7;have K4:Y1 (fun k=>k=g) w W4:=(((Y1.refl _ w).below (k1.trans (k2.mono k1.size))).only g3 (fun q hq=> .inr Z51)).only g4 (fun q hq=> .inr Z51)
  have cs:=hid (YcK g (w.heap.size+1) 2 _ p ta ga ua oa sn ss lim name disc stat cmd gp left closed 63 128 h _ W4 B4 N4 (by omega) (fun m=>by
   unfold Y2C
   split
   ·omega
   ·split
    ·omega
    ·exact Ygu _) (show Y1e 63=some _ by rfl) hs0 hs1 hc0 hc1 (by omega))
  have hx:((Y5b 63).map fun f=>Y3H (Y2C (Y2C (fun _=>0) Y4m reason.toNat) Ye 4294967295) stat cmd f.name)=Y4C reason stat cmd:=say_rej reason stat cmd;unfold Ye5 at cs
  have cs:=hid (show Calls prog 58 #[.pointer (some ⟨g,0,none⟩),.int .i64 63,.int .i64 128,.string (bs h),.map (some (w.heap.size+1))] W4 fun e w' =>
   ∃v,e= .returned (Y1a 63 false 128 v (.slice none 0 0) h)∧w'.ownsRow W4.heap.size 106 1 v (Y4C reason stat cmd).length (Yb (Y4C reason stat cmd))∧Y1 (fun k=>k=g∨k=w.heap.size+1) W4 w'∧Blk w' g 75 (Y14 p ta ga ua oa sn ss lim name disc ((stat+1) % 4294967296) cmd gp left closed)from by
   rw[←hx];exact cs.out)
  have HK4:=hid K4;have HP4:=hid P4;clear hx hB B1 P1 N2 N3 N4 B4 K4 P4 g3 g4 k2;go_enter func55,ntmps55;go_wp2_with (go_at_call 100;refine(cw _).out.mono ?_;rintro e w7 ⟨rfl,rfl⟩);refine cs.out.mono ?_;rintro e w5 ⟨v,rfl,hown,hK,hB5⟩;have P5:=hK.blk HP4.out Z7;have h5:=P5.lt;have KS:Y1 (fun k=>k=g) w w5:=HK4.out.trans hK (fun i hi=>by rcases hi with hi | hi;exact .inl hi;exact .inr Z7)
  have hur:=Y5F hown;have hsl:=hur.sl;clear hown;obtain⟨sa,sc,rfl,-⟩: ∃sa sc,v= .slice sa (Y4C reason stat cmd).length sc∧True:=Z14;refine ZE ?_;intro y0 y1 y2 y3 y4 y5 v0 v1 v2 v3 v4 v5 W6 hW6 T0
  have B6:Blk W6 g 75 (Y14 p ta ga ua oa sn ss lim name disc ((stat+1) % 4294967296) cmd gp left closed):=by
   rw[←hW6]
   iterate 6 refine Y1k ?_ _ _ Z7
   exact hB5
  refine Z1h ?_;intro K6 S6
  have U6:Y9K W6 (.slice sa (Y4C reason stat cmd).length sc) (Y4C reason stat cmd).length (Y4C reason stat cmd):=by
   obtain⟨a,cc,h1,_,h3⟩:=hur;refine⟨a,cc,h1,S6,fun b o e hn=> ?_⟩;obtain⟨cs,hB⟩:=h3 b o e hn
   have hne:b≠w.heap.size:=fun e=>by
    subst e;unfold Blk at hB P5;rw[hB]at P5;simp at P5
   refine⟨cs,?_⟩;rw[←hW6]
   iterate 6 refine Y1k ?_ _ _ hne
   exact hB
  refine Z2e ?_;intro e1 e2 e3 e4 e5 e6 HK6 HB6;have HS6:=hid U6;clear cs hsl hur hK hB5 P5 KS T0 K6 B6 S6 U6 HP4;generalize hRL:Y4C reason stat cmd=RL at *;have HRL:=hid hRL;clear hRL;unfold Y1a;go_wp2;refine Yej (v:= .tuple #[Y1a 63 false 128 (.slice sa RL.length sc) (.slice none 0 0) h,.int .i64 0]) (by simp[results,results55,go_sem,Y1a,e1,e2,e3,e4,e5,e6]) rfl ?_;exact⟨_,rfl,by rw[HRL.out];exact HS6.out,HK6.out,HB6.out⟩
end
end
end Go.Proofs.YtfadikchijkcfaaGreatDoor
