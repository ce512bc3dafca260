/- What is wrong with a head: by the document. -/
import Derived.Test.YtfadikchijkcfaaGreatDoorParsePure
import Derived.Test.YtfadikchijkcfaaGreatDoorHeadRight
import Derived.Test.YtfadikchijkcfaaGreatDoorHeadRdBase
import Derived.Test.YtfadikchijkcfaaGreatDoorAhs
import Derived.Test.YtfadikchijkcfaaGreatDoorOpen
import Derived.Test.YtfadikchijkcfaaGreatDoorRel
import Derived.Test.YtfadikchijkcfaaGreatDoorPUint
import Derived.Test.YtfadikchijkcfaaGreatDoorShelfL
import Derived.Deep.QuietTactic
import Derived.BigQuiet
set_option linter.unusedVariables false
set_option linter.unusedSectionVars false
set_option linter.unusedSimpArgs false
set_option maxRecDepth 100000
set_option maxHeartbeats 4000000
namespace Go.Proofs.YtfadikchijkcfaaGreatDoor
section
open Go.Proofs.Tryz
open Go Go.RowKit
def Y4p(op:Int)(now:Bool)(flags:Int)(vs:List Nat)(w:World)(e:Ending)(w':World):Prop:=
 e= .returned (YS (Yo op now flags vs).1 (Yo op now flags vs).2)∧Below w.heap.size w w'
def Ye6(r:HR)(vs:List Nat)(w2:World)(i:Value)(wr:World):Prop:=
 ∃k:Nat,k≤r.fields.length∧i= .int .i64 (k:Nat)∧YQ r.fields vs 0=YQ (r.fields.drop k) (vs.drop k) k∧Below w2.heap.size w2 wr
theorem Zo{P Q:Prop}(k:Q)(h:Q→P:=by
 have t0:=(B1.cell 0).trans (rfl:_=some (Value.int .i64 p.op))
 have t1:=(B1.cell 1).trans (rfl:_=some (Value.bool p.now))
 have t2:=(B1.cell 2).trans (rfl:_=some (Value.int .i64 p.flags))
 have t3:=(B1.cell 3).trans (rfl:_=some (Value.slice va p.vs.length vc))
 refine fun z_=>?_
 revert t3;revert t2;revert t1;revert t0
 exact z_):P:=h k
theorem Z1E{P:Prop}(h:P:=by
 intro g
 simp only[Y35,Yn,YeY,YfH,Yf2,Option.getD_none,YeP,Yfn,YeF,Yf4,Yf3]
 exact rfl):P:=h
theorem Z1U{P Q:Prop}(k:Q)(h:Q→P:=by
 have t4:=(B1.cell 4).trans (rfl:_=some (Value.slice aa p.n ac))
 have t5:=(B1.cell 5).trans (rfl:_=some (Value.string (bs p.d)))
 refine fun z_=>?_
 revert t5;revert t4
 exact z_):P:=h k
theorem Z17{P:Prop}(h:P:=by
 simp[results,results102,go_sem,t0,t1]):P:=h
theorem Z1u{P Q:Prop}(k:Q)(h:Q→P:=by
 have b1:=((Yea w.heap.size w).alloc (Ye9 _) (.cells #[.int .i64 op,.bool now,.int .i64 flags,.slice sa vs.length sc] 60)).alloc Z2t (.cells #[.int .i64 0,.int .i64 0] 38)
 have B1:=(Blk.new w 60 #[.int .i64 op,.bool now,.int .i64 flags,.slice sa vs.length sc]).below ((Yea _ _).alloc (Ye9 _) (.cells #[.int .i64 0,.int .i64 0] 38))
 have E1:=Blk.new (w.alloc (.cells #[.int .i64 op,.bool now,.int .i64 flags,.slice sa vs.length sc] 60)) 38 #[.int .i64 0,.int .i64 0]
 simp only[YeI]at E1
 refine fun z_=>?_
 revert E1;revert B1;revert b1
 exact z_):P:=h k
section
variable (op:Int)(now:Bool)(flags:Int)(v:Value)(vs:List Nat)(w:World)(h0: -9223372036854775808≤op)(h1:op≤9223372036854775807)(g0: -9223372036854775808≤flags)(g1:flags≤9223372036854775807)
 (hn:vs.length≤9223372036854775807) (hv: ∀x∈vs,x≤18446744073709551615) (hsl:Sl w v 1 vs.length (Yb vs))
include h0 h1 g0 g1 hn hv hsl
theorem Y7g:Calls prog 102 #[Y1A op now flags v] w fun e w'=>Y4p op now flags vs w e w':=by
 have c1:=fun w1=>hid (Y63 op w1)
 have cb:=fun k w1=>hid (Y27 k w1)
 have cg:=fun w1=>hid (Y1O w1)
 have HSL:=hid hsl;obtain⟨sa,sc,rfl,hsl1,hsl2⟩:=hsl;unfold Y5i at c1;unfold Y4p;refine Z1u ?_;intro b1 B1 E1
 cases hf:Y1e op with
 | none =>
  rw[hf]at c1;have HR:=hid (show Yo op now flags vs=(1,-1) by simp[Yo,hf]);go_enter func102,ntmps102;unfold Y1A;go_wp2_with fail;refine(c1 _).out.mono ?_;rintro e w1 ⟨fv,rfl,_,_,hb⟩;have E2:=E1.below hb;have b2:=b1.trans (hb.mono b1.size);go_wp2_with fail;refine(cb _ _).out.mono ?_;rintro e w2 ⟨rfl,hb2⟩;have E3:=E2.below hb2;have b3:=b2.trans (hb2.mono b2.size);have t0:w2.cell? ⟨w.heap.size+1,0,none⟩=some (.int .i64 0):=(E3.cell 0).trans rfl
  have t1:w2.cell? ⟨w.heap.size+1,1,none⟩=some (.int .i64 0):=(E3.cell 1).trans rfl;have v0:=E3.free 0;have v1:=E3.free 1;go_wp2;refine Yej (v:= .agg #[.int .i64 1,.int .i64 (-1)]) Z17 rfl ?_;exact⟨by rw[HR.out];rfl,Ya (Ya b3 Z7 _ _) Z7 _ _⟩
 | some r =>
  rw[hf]at c1;have hmem:=YR hf;have hfine:=YC r hmem;have hfl:=hfine.2.2.2.2.2.1;have hnf:=hfine.2.2.2.2.2.2.1;have hsz:=hfine.2.2.2.2.2.2.2;have hn0:=Y1Q r hmem;clear hfine;simp only[Y2y,Y5P,Yc5]at c1
  have hcases:(Y2D op now flags r.flags=true∧((now=true∧32≤op)∨((now=false∨ ¬32≤op)∧flags<0)∨((now=false∨ ¬32≤op)∧ ¬flags<0∧Y4J flags.toNat r.flags=true)))∨(Y2D op now flags r.flags=false∧(now=false∨ ¬32≤op)∧ ¬flags<0∧Y4J flags.toNat r.flags=false):=by
   unfold Y2D
   cases now<;>by_cases a1:32≤op<;>by_cases a2:flags<0<;>cases a3:Y4J flags.toNat r.flags<;>simp[a1,a2,a3]
  have hand: ¬flags<0→(bits .or .i64 flags (r.flags:Int) != (r.flags:Int))=Y4J flags.toNat r.flags:=fun h=>by
   have:=or_flags flags.toNat r.flags Z7 hfl
   rwa [Ygh Z7]at this
  have Hand:=hid hand;clear hand;have hR3:Y2D op now flags r.flags=true→Yo op now flags vs=(3,-1):=fun h=>by simp[Yo,hf,h]
  have hR7:Y2D op now flags r.flags=false→r.fields.length≠vs.length→Yo op now flags vs=(7,-1):=fun h h2=>by simp[Yo,hf,h,h2]
  have hR2: ∀i,Y2D op now flags r.flags=false→r.fields.length=vs.length→YQ r.fields vs 0=some i→Yo op now flags vs=(2,(i:Int)):=fun i h h2 h3=>by simp[Yo,hf,h,h2,h3]
  have hR0:Y2D op now flags r.flags=false→r.fields.length=vs.length→YQ r.fields vs 0=none→Yo op now flags vs=(0,-1):=fun h h2 h3=>by simp[Yo,hf,h,h2,h3]
  have HR3:=hid hR3;have HR7:=hid hR7;have HR2:=hid hR2;have HR0:=hid hR0;clear hR3 hR7 hR2 hR0;have Hsz:=hid hsz;clear hsz;have Hv:=hid hv;clear hsl2 hv hsl1;go_enter func102,ntmps102;unfold Y1A;go_wp2_with fail;refine(c1 _).out.mono ?_;rintro e w2 ⟨fv,rfl,hfs,_,hb⟩;have E2:=E1.below hb;have B2:=B1.below hb;have b2:=b1.trans (hb.mono b1.size);clear E1 B1 b1 hb;have p0:w2.cell? ⟨w.heap.size,0,none⟩=some (.int .i64 op):=(B2.cell 0).trans rfl
  have p1:w2.cell? ⟨w.heap.size,1,none⟩=some (.bool now):=(B2.cell 1).trans rfl;have p2:w2.cell? ⟨w.heap.size,2,none⟩=some (.int .i64 flags):=(B2.cell 2).trans rfl;have p3:w2.cell? ⟨w.heap.size,3,none⟩=some (.slice sa vs.length sc):=(B2.cell 3).trans rfl;have HFS:=hid hfs;obtain⟨fa,fc,rfl,hfl1,hfl2⟩:=hfs;have HB2:=hid B2;have HE2:=hid E2;clear hfl2 B2 hfl1 E2;rcases hcases with ⟨hw,hc⟩ | ⟨hw,hc⟩
  ·have HR:=hid (HR3.out hw);clear HR3 HR7 HR2 HR0 hw;rcases hc with ⟨rfl,hc⟩ | ⟨rfl | hc1,hc⟩ | ⟨rfl | hc1,hc,he⟩
   ·have hd:=Yel hc;go_wp2_with fail;refine(cb _ _).out.mono ?_;rintro e w9 ⟨rfl,hb9⟩;have E9:=HE2.out.below hb9;have b9:=b2.trans (hb9.mono b2.size);have t0:w9.cell? ⟨w.heap.size+1,0,none⟩=some (.int .i64 0):=(E9.cell 0).trans rfl;have t1:w9.cell? ⟨w.heap.size+1,1,none⟩=some (.int .i64 0):=(E9.cell 1).trans rfl;have v0:=E9.free 0;have v1:=E9.free 1;go_wp2;refine Yej (v:= .agg #[.int .i64 3,.int .i64 (-1)]) Z17 rfl ?_
    exact⟨by rw[HR.out];rfl,Ya (Ya b9 Z7 _ _) Z7 _ _⟩
   ·have hd:=Yel hc;go_wp2_with fail;refine(cb _ _).out.mono ?_;rintro e w9 ⟨rfl,hb9⟩;have E9:=HE2.out.below hb9;have b9:=b2.trans (hb9.mono b2.size);have t0:w9.cell? ⟨w.heap.size+1,0,none⟩=some (.int .i64 0):=(E9.cell 0).trans rfl;have t1:w9.cell? ⟨w.heap.size+1,1,none⟩=some (.int .i64 0):=(E9.cell 1).trans rfl;have v0:=E9.free 0;have v1:=E9.free 1;go_wp2;refine Yej (v:= .agg #[.int .i64 3,.int .i64 (-1)]) Z17 rfl ?_
    exact⟨by rw[HR.out];rfl,Ya (Ya b9 Z7 _ _) Z7 _ _⟩
   ·have hd:=Yel hc;have hd1:decide (32≤op)=false:=Yeh Z7
    cases now
    ·skip
     go_wp2_with fail;refine(cb _ _).out.mono ?_;rintro e w9 ⟨rfl,hb9⟩;have E9:=HE2.out.below hb9;have b9:=b2.trans (hb9.mono b2.size);have t0:w9.cell? ⟨w.heap.size+1,0,none⟩=some (.int .i64 0):=(E9.cell 0).trans rfl;have t1:w9.cell? ⟨w.heap.size+1,1,none⟩=some (.int .i64 0):=(E9.cell 1).trans rfl;have v0:=E9.free 0;have v1:=E9.free 1;go_wp2;refine Yej (v:= .agg #[.int .i64 3,.int .i64 (-1)]) Z17 rfl ?_
     exact⟨by rw[HR.out];rfl,Ya (Ya b9 Z7 _ _) Z7 _ _⟩
    ·skip
     go_wp2_with fail;refine(cb _ _).out.mono ?_;rintro e w9 ⟨rfl,hb9⟩;have E9:=HE2.out.below hb9;have b9:=b2.trans (hb9.mono b2.size);have t0:w9.cell? ⟨w.heap.size+1,0,none⟩=some (.int .i64 0):=(E9.cell 0).trans rfl;have t1:w9.cell? ⟨w.heap.size+1,1,none⟩=some (.int .i64 0):=(E9.cell 1).trans rfl;have v0:=E9.free 0;have v1:=E9.free 1;go_wp2;refine Yej (v:= .agg #[.int .i64 3,.int .i64 (-1)]) Z17 rfl ?_
     exact⟨by rw[HR.out];rfl,Ya (Ya b9 Z7 _ _) Z7 _ _⟩
   ·have hd:decide (flags<0)=false:=Yeh Z7;have ha:=(Hand.out Z7).trans he;go_wp2_with fail;refine(cb _ _).out.mono ?_;rintro e w9 ⟨rfl,hb9⟩;have E9:=HE2.out.below hb9;have b9:=b2.trans (hb9.mono b2.size);have t0:w9.cell? ⟨w.heap.size+1,0,none⟩=some (.int .i64 0):=(E9.cell 0).trans rfl;have t1:w9.cell? ⟨w.heap.size+1,1,none⟩=some (.int .i64 0):=(E9.cell 1).trans rfl;have v0:=E9.free 0;have v1:=E9.free 1
    go_wp2;refine Yej (v:= .agg #[.int .i64 3,.int .i64 (-1)]) Z17 rfl ?_;exact⟨by rw[HR.out];rfl,Ya (Ya b9 Z7 _ _) Z7 _ _⟩
   ·have hd:decide (flags<0)=false:=Yeh Z7;have hd1:decide (32≤op)=false:=Yeh Z7;have ha:=(Hand.out Z7).trans he
    cases now
    ·skip
     go_wp2_with fail;refine(cb _ _).out.mono ?_;rintro e w9 ⟨rfl,hb9⟩;have E9:=HE2.out.below hb9;have b9:=b2.trans (hb9.mono b2.size);have t0:w9.cell? ⟨w.heap.size+1,0,none⟩=some (.int .i64 0):=(E9.cell 0).trans rfl;have t1:w9.cell? ⟨w.heap.size+1,1,none⟩=some (.int .i64 0):=(E9.cell 1).trans rfl;have v0:=E9.free 0;have v1:=E9.free 1;go_wp2;refine Yej (v:= .agg #[.int .i64 3,.int .i64 (-1)]) Z17 rfl ?_
     exact⟨by rw[HR.out];rfl,Ya (Ya b9 Z7 _ _) Z7 _ _⟩
    ·skip
     go_wp2_with fail;refine(cb _ _).out.mono ?_;rintro e w9 ⟨rfl,hb9⟩;have E9:=HE2.out.below hb9;have b9:=b2.trans (hb9.mono b2.size);have t0:w9.cell? ⟨w.heap.size+1,0,none⟩=some (.int .i64 0):=(E9.cell 0).trans rfl;have t1:w9.cell? ⟨w.heap.size+1,1,none⟩=some (.int .i64 0):=(E9.cell 1).trans rfl;have v0:=E9.free 0;have v1:=E9.free 1;go_wp2;refine Yej (v:= .agg #[.int .i64 3,.int .i64 (-1)]) Z17 rfl ?_
     exact⟨by rw[HR.out];rfl,Ya (Ya b9 Z7 _ _) Z7 _ _⟩
  ·clear HR3;have HR7:=hid (HR7.out hw);have HR0:=hid (HR0.out hw);have HR2:=hid (fun i=>HR2.out i hw);clear hw;obtain⟨hc1,hc2,hc3⟩:=hc;have hd:decide (flags<0)=false:=Yeh Z7;have ha:=(Hand.out Z7).trans hc3
   have hdn:now=false∨(now=true∧decide (32≤op)=false):=by
    rcases hc1 with h | h
    ·exact .inl h
    ·cases now
     ·exact .inl rfl
     ·exact .inr ⟨rfl,Yeh Z7⟩
   clear hc1 hc3;by_cases hlen:r.fields.length=vs.length
   ·have hvl:0<vs.length:=Z7;obtain⟨fb,fo,fc',hfe,hfb,hfc⟩:=Y1m HFS.out hn0;obtain⟨vb,vo,vc',hve,hvb,hvc⟩:=Y21 HSL.out hvl;have HFC:=hid hfc;have HVC:=hid hvc
    cases hfe
    cases hve
    clear hfc hvc HR7;rcases hdn with rfl | ⟨rfl,hd1⟩
    ·go_wp2;go_loopw [51] (fun i wr=>Ye6 r vs w2 i wr) (fun i _=>r.fields.length - (intOf i).toNat)
     case atStart=>exact Z1g
     case round =>
      obtain⟨k,hk,rfl,heq,hb⟩:=hrel;have hB:=hb.size;by_cases hlt:k<r.fields.length
      ·obtain⟨f,hfk⟩: ∃f,r.fields[k]?=some f:=⟨r.fields[k],Yec hlt⟩;obtain⟨x,hxk⟩: ∃x,vs[k]?=some x:=⟨vs[k]' Z7,Yec _⟩;obtain⟨q1,q2,q3,q4,q5,q6,q7⟩:=Hsz.out f (Yer hfk);have hx64:=Hv.out x (Yer hxk);rw[Y2Q r.fields vs k f x hfk hxk]at heq;have HF3:=hid (HFC.out k f hfk);have HV3:=hid (HVC.out k x hxk);have cn:=fun w=>hid (Y2x x (f.size:Int) w hx64)
       go_wp2;have hmx:prog.follows .mixedOrders=true:=by kernel_rfl
       have hvb2:vb<w2.heap.size:=Yee hvb b2.size;have hklt:k<vs.length:=Z7;refine YeS (n:=4).1 ?_;refine Y2w (aF:= ?kF0) [(55,.pointer (some ⟨w.heap.size,3,none⟩)),(56,.slice (some ⟨vb,vo,none⟩) vs.length sc),(57,.int .i64 (k:Nat)),(58,.pointer (some ⟨vb,vo+k,none⟩)),(59,.int .u64 (x:Nat)),(60,.slice (some ⟨fb,fo,none⟩) vs.length fc),(61,.int .i64 (k:Nat)),(62,.pointer (some ⟨fb,fo+k * 3,none⟩)),(63,.pointer (some ⟨fb,fo+k * 3+2,none⟩)),(64,.int .i64 (f.size:Nat)),(65,.tuple #[.string (bs (Y8J x (f.size:Int))),.int .i64 (Y5U x (f.size:Int):Nat)]),(54,.tuple #[.string (bs (Y8J x (f.size:Int))),.int .i64 (Y5U x (f.size:Int):Nat)]),(66,.string (bs (Y8J x (f.size:Int)))),(67,.int .i64 (Y5U x (f.size:Int):Nat)),(8,.string (bs (Y8J x (f.size:Int)))),(9,.int .i64 (Y5U x (f.size:Int):Nat))] (fun w'=>Below w2.heap.size w2 w') ?kaf0 hmx (by kernel_rfl) (by kernel_rfl) (fun w w' h hb=>h.trans (hb.mono h.size)) hb.drew ?keach0 ?kgo0
       case kaf0 =>
        simp only[Yn,YeP,Yfn,YeF,Yf4,Yf3];exact rfl
       case keach0 =>
        have z3: ∀w',Below w2.heap.size w2 w'→w'.cell? ⟨w.heap.size,3,none⟩=some (.slice (some ⟨vb,vo,none⟩) vs.length sc):=fun w' h=>(h.cell (p:=⟨w.heap.size,3,none⟩) HB2.out.lt).trans p3
        have zx: ∀w',Below w2.heap.size w2 w'→w'.cell? ⟨vb,vo+k,none⟩=some (.int .u64 (x:Int)):=fun w' h=>(h.cell (p:=⟨vb,vo+k,none⟩) hvb2).trans ((b2.cell (p:=⟨vb,vo+k,none⟩) hvb).trans HV3.out)
        have zs: ∀w',Below w2.heap.size w2 w'→w'.cell? ⟨fb,fo+k * 3+2,none⟩=some (.int .i64 (f.size:Int)):=fun w' h=>(h.cell (p:=⟨fb,fo+k * 3+2,none⟩) hfb).trans HF3.out.2.2
        have hrf: ∀w:World,Below w.heap.size w w:=fun w=>Yea _ w
        have cn:=fun w=>hid (Y2x x (f.size:Int) w hx64)
        clear HF3 HV3 cb cg c1;simp +contextual [Y2K,Y76,go_sem,Oper.about,z3,zx,zs,hrf,hklt]
        exact fun w' h=>⟨trivial,Yez.2 (cn w').out⟩
       case kgo0 =>
        intro w' hb';have E4:=HE2.out.below hb';have b4:=b2.trans (hb'.mono b2.size)
        have hpe:Y5U x (f.size:Int)=if 256 ^ f.size≤x then 4 else 0:=by
         unfold Y5U;rw[Yed Z7,YfL]
        by_cases hbad:256 ^ f.size≤x
        ·rw[Yei hbad]at heq hpe;have HR:=hid (HR2.out k hlen heq);rw[hpe];have t0:w'.cell? ⟨w.heap.size+1,0,none⟩=some (.int .i64 0):=(E4.cell 0).trans rfl;have t1:w'.cell? ⟨w.heap.size+1,1,none⟩=some (.int .i64 0):=(E4.cell 1).trans rfl;have v0:=E4.free 0;have v1:=E4.free 1;go_wp2;refine Yej (v:= .agg #[.int .i64 2,.int .i64 (k:Nat)]) Z17 rfl ?_;exact⟨by rw[HR.out];rfl,Ya (Ya b4 Z7 _ _) Z7 _ _⟩
        ·rw[Yed hbad]at heq hpe;have Heq:=hid heq;rw[hpe];clear hbad heq hfk hxk;go_wp2;go_roundw
         case rel=>exact⟨k+1,by omega,by go_num,Heq.out,hb'⟩
         case measure=>exact Zw
      ·obtain rfl:k=r.fields.length:=Z7;have HR:=hid (HR0.out hlen Z4n);have E4:=HE2.out.below (hb.mono (Ye9 _));have b4:=b2.trans (hb.mono b2.size);go_wp2_with fail;refine(cg _).out.mono ?_;rintro e w9 ⟨rfl,hb9⟩;have E9:=E4.below hb9;have b9:=b4.trans (hb9.mono b4.size);have t0:w9.cell? ⟨w.heap.size+1,0,none⟩=some (.int .i64 0):=(E9.cell 0).trans rfl;have t1:w9.cell? ⟨w.heap.size+1,1,none⟩=some (.int .i64 0):=(E9.cell 1).trans rfl
       have v0:=E9.free 0;have v1:=E9.free 1;go_wp2;refine Yej (v:= .agg #[.int .i64 0,.int .i64 (-1)]) Z17 rfl ?_;exact⟨by rw[HR.out];rfl,Ya (Ya b9 Z7 _ _) Z7 _ _⟩
    ·go_wp2;go_loopw [51] (fun i wr=>Ye6 r vs w2 i wr) (fun i _=>r.fields.length - (intOf i).toNat)
     case atStart=>exact Z1g
     case round =>
      obtain⟨k,hk,rfl,heq,hb⟩:=hrel;have hB:=hb.size;by_cases hlt:k<r.fields.length
      ·obtain⟨f,hfk⟩: ∃f,r.fields[k]?=some f:=⟨r.fields[k],Yec hlt⟩;obtain⟨x,hxk⟩: ∃x,vs[k]?=some x:=⟨vs[k]' Z7,Yec _⟩;obtain⟨q1,q2,q3,q4,q5,q6,q7⟩:=Hsz.out f (Yer hfk);have hx64:=Hv.out x (Yer hxk);rw[Y2Q r.fields vs k f x hfk hxk]at heq;have HF3:=hid (HFC.out k f hfk);have HV3:=hid (HVC.out k x hxk);have cn:=fun w=>hid (Y2x x (f.size:Int) w hx64)
       go_wp2;have hmx:prog.follows .mixedOrders=true:=by kernel_rfl
       have hvb2:vb<w2.heap.size:=Yee hvb b2.size;have hklt:k<vs.length:=Z7;refine YeS (n:=4).1 ?_;refine Y2w (aF:= ?kF1) [(55,.pointer (some ⟨w.heap.size,3,none⟩)),(56,.slice (some ⟨vb,vo,none⟩) vs.length sc),(57,.int .i64 (k:Nat)),(58,.pointer (some ⟨vb,vo+k,none⟩)),(59,.int .u64 (x:Nat)),(60,.slice (some ⟨fb,fo,none⟩) vs.length fc),(61,.int .i64 (k:Nat)),(62,.pointer (some ⟨fb,fo+k * 3,none⟩)),(63,.pointer (some ⟨fb,fo+k * 3+2,none⟩)),(64,.int .i64 (f.size:Nat)),(65,.tuple #[.string (bs (Y8J x (f.size:Int))),.int .i64 (Y5U x (f.size:Int):Nat)]),(54,.tuple #[.string (bs (Y8J x (f.size:Int))),.int .i64 (Y5U x (f.size:Int):Nat)]),(66,.string (bs (Y8J x (f.size:Int)))),(67,.int .i64 (Y5U x (f.size:Int):Nat)),(8,.string (bs (Y8J x (f.size:Int)))),(9,.int .i64 (Y5U x (f.size:Int):Nat))] (fun w'=>Below w2.heap.size w2 w') ?kaf1 hmx (by kernel_rfl) (by kernel_rfl) (fun w w' h hb=>h.trans (hb.mono h.size)) hb.drew ?keach1 ?kgo1
       case kaf1 =>
        simp only[Yn,YeP,Yfn,YeF,Yf4,Yf3];exact rfl
       case keach1 =>
        have z3: ∀w',Below w2.heap.size w2 w'→w'.cell? ⟨w.heap.size,3,none⟩=some (.slice (some ⟨vb,vo,none⟩) vs.length sc):=fun w' h=>(h.cell (p:=⟨w.heap.size,3,none⟩) HB2.out.lt).trans p3
        have zx: ∀w',Below w2.heap.size w2 w'→w'.cell? ⟨vb,vo+k,none⟩=some (.int .u64 (x:Int)):=fun w' h=>(h.cell (p:=⟨vb,vo+k,none⟩) hvb2).trans ((b2.cell (p:=⟨vb,vo+k,none⟩) hvb).trans HV3.out)
        have zs: ∀w',Below w2.heap.size w2 w'→w'.cell? ⟨fb,fo+k * 3+2,none⟩=some (.int .i64 (f.size:Int)):=fun w' h=>(h.cell (p:=⟨fb,fo+k * 3+2,none⟩) hfb).trans HF3.out.2.2
        have hrf: ∀w:World,Below w.heap.size w w:=fun w=>Yea _ w
        have cn:=fun w=>hid (Y2x x (f.size:Int) w hx64)
        clear HF3 HV3 cb cg c1;simp +contextual [Y2K,Y76,go_sem,Oper.about,z3,zx,zs,hrf,hklt]
        exact fun w' h=>⟨trivial,Yez.2 (cn w').out⟩
       case kgo1 =>
        intro w' hb';have E4:=HE2.out.below hb';have b4:=b2.trans (hb'.mono b2.size)
        have hpe:Y5U x (f.size:Int)=if 256 ^ f.size≤x then 4 else 0:=by
         unfold Y5U;rw[Yed Z7,YfL]
        by_cases hbad:256 ^ f.size≤x
        ·rw[Yei hbad]at heq hpe;have HR:=hid (HR2.out k hlen heq);rw[hpe];have t0:w'.cell? ⟨w.heap.size+1,0,none⟩=some (.int .i64 0):=(E4.cell 0).trans rfl;have t1:w'.cell? ⟨w.heap.size+1,1,none⟩=some (.int .i64 0):=(E4.cell 1).trans rfl;have v0:=E4.free 0;have v1:=E4.free 1;go_wp2;refine Yej (v:= .agg #[.int .i64 2,.int .i64 (k:Nat)]) Z17 rfl ?_;exact⟨by rw[HR.out];rfl,Ya (Ya b4 Z7 _ _) Z7 _ _⟩
        ·rw[Yed hbad]at heq hpe;have Heq:=hid heq;rw[hpe];clear hbad heq hfk hxk;go_wp2;go_roundw
         case rel=>exact⟨k+1,by omega,by go_num,Heq.out,hb'⟩
         case measure=>exact Zw
      ·obtain rfl:k=r.fields.length:=Z7;have HR:=hid (HR0.out hlen Z4n);have E4:=HE2.out.below (hb.mono (Ye9 _));have b4:=b2.trans (hb.mono b2.size);go_wp2_with fail;refine(cg _).out.mono ?_;rintro e w9 ⟨rfl,hb9⟩;have E9:=E4.below hb9;have b9:=b4.trans (hb9.mono b4.size);have t0:w9.cell? ⟨w.heap.size+1,0,none⟩=some (.int .i64 0):=(E9.cell 0).trans rfl;have t1:w9.cell? ⟨w.heap.size+1,1,none⟩=some (.int .i64 0):=(E9.cell 1).trans rfl
       have v0:=E9.free 0;have v1:=E9.free 1;go_wp2;refine Yej (v:= .agg #[.int .i64 0,.int .i64 (-1)]) Z17 rfl ?_;exact⟨by rw[HR.out];rfl,Ya (Ya b9 Z7 _ _) Z7 _ _⟩
   ·have HR:=hid (HR7.out hlen);have hli: ¬(r.fields.length:Int)=(vs.length:Int):=Z7;rcases hdn with rfl | ⟨rfl,hd1⟩
    ·skip
     go_wp2_with fail;refine(cb _ _).out.mono ?_;rintro e w9 ⟨rfl,hb9⟩;have E9:=HE2.out.below hb9;have b9:=b2.trans (hb9.mono b2.size);have t0:w9.cell? ⟨w.heap.size+1,0,none⟩=some (.int .i64 0):=(E9.cell 0).trans rfl;have t1:w9.cell? ⟨w.heap.size+1,1,none⟩=some (.int .i64 0):=(E9.cell 1).trans rfl;have v0:=E9.free 0;have v1:=E9.free 1;go_wp2;refine Yej (v:= .agg #[.int .i64 7,.int .i64 (-1)]) Z17 rfl ?_
     exact⟨by rw[HR.out];rfl,Ya (Ya b9 Z7 _ _) Z7 _ _⟩
    ·skip
     go_wp2_with fail;refine(cb _ _).out.mono ?_;rintro e w9 ⟨rfl,hb9⟩;have E9:=HE2.out.below hb9;have b9:=b2.trans (hb9.mono b2.size);have t0:w9.cell? ⟨w.heap.size+1,0,none⟩=some (.int .i64 0):=(E9.cell 0).trans rfl;have t1:w9.cell? ⟨w.heap.size+1,1,none⟩=some (.int .i64 0):=(E9.cell 1).trans rfl;have v0:=E9.free 0;have v1:=E9.free 1;go_wp2;refine Yej (v:= .agg #[.int .i64 7,.int .i64 (-1)]) Z17 rfl ?_
     exact⟨by rw[HR.out];rfl,Ya (Ya b9 Z7 _ _) Z7 _ _⟩
end
end
section
open Go.Proofs.Tryz
open Go Go.RowKit
theorem idx0(x y:Value)(W:World):(Instr.index 231 (.agg #[x,y]) (.int .i64 0)).run prog W= .ok x W:=by rfl
theorem idx1(x y:Value)(W:World):(Instr.index 231 (.agg #[x,y]) (.int .i64 1)).run prog W= .ok y W:=by rfl
structure Y79(w:World)(op:Int)(flags:Int)(v:Value)(vs:List Nat)(av:Value)(n:Nat)(I:Nat→Int×List UInt8)(d:List UInt8):Prop where
 op0: -9223372036854775808≤op
 op1:op≤9223372036854775807
 fl0: -9223372036854775808≤flags
 fl1:flags≤9223372036854775807
 len:vs.length≤9223372036854775807
 fits: ∀x∈vs,x≤18446744073709551615
 vals:Sl w v 1 vs.length (Yb vs)
 ahs:Y7a w av n I
 data:d.length≤9223372036854775807
theorem Y79.below{w w':World}{op flags:Int}{v av:Value}{vs:List Nat}{n:Nat}{I:Nat→Int×List UInt8}{d:List UInt8}(h:Y79 w op flags v vs av n I d)(hb:Below w.heap.size w w'):Y79 w' op flags v vs av n I d:=
 ⟨h.op0,h.op1,h.fl0,h.fl1,h.len,h.fits,h.vals.below (Ye9 _) hb,h.ahs.below hb,h.data⟩
theorem Y4o{w:World}{v:Value}{n:Nat}{I:Nat→Int×List UInt8}(h:Y7a w v n I): ∃a c,v= .slice a n c:=by
 rcases h.2.1 with ⟨rfl,rfl⟩ | ⟨a,cap,rfl⟩
 ·exact⟨_,_,rfl⟩
 ·exact⟨_,_,rfl⟩
theorem Z1p{P Q:Prop}(k:Q)(h:Q→P:=by
 have b1:=(Yea w.heap.size w).alloc (Ye9 _) (.cells #[.int .i64 op,.bool now,.int .i64 flags,.slice sa vs.length sc,.slice aa n ac,.string (bs d)] 63)
 have B1:=Blk.new w 63 #[.int .i64 op,.bool now,.int .i64 flags,.slice sa vs.length sc,.slice aa n ac,.string (bs d)]
 refine fun z_=>?_
 revert B1;revert b1
 exact z_):P:=h k
theorem Z4c{P Q:Prop}(k:Q)(h:Q→P:=by
 have HD:=hid (show Y2L op now flags vs n I d=if(Yo op now flags vs).1≠0 then(Yo op now flags vs).1 else if(Y8y I n 0 0).1≠0 then(Y8y I n 0 0).1 else if 100000<d.length then 4 else 0 from rfl)
 have hdl:=hp.data
 refine fun z_=>?_
 revert hdl;revert HD
 exact z_):P:=h k
theorem Z4D{P:Prop}(h:P:=by
 go_wp2
 rw[Yf5]
 go_wp2
 rw[Yf5]
 go_wp2
 go_ret
 exact⟨by rw[HE.out];rfl,b2⟩):P:=h
theorem Z50{P:Prop}(h:P:=by
 simp[Region.binds]at hdep
 exact Z2x):P:=h
section
variable (op:Int)(now:Bool)(flags:Int)(v:Value)(vs:List Nat)(av:Value)(n:Nat)(I:Nat→Int×List UInt8)(d:List UInt8)(w:World)(hp:Y79 w op flags v vs av n I d)(hg:Y2e w)(hT:AS w)(hP:PT w)
include hp hg hT hP
theorem Y3l:Calls prog 64 #[Y1a op now flags v av d] w fun e w'=>e= .returned (errV 36 (Y2L op now flags vs n I d))∧Below w.heap.size w w':=by
 have c1:=fun w1 (hb:Below w.heap.size w w1)=>hid (Y6q op now flags v vs w1 hp.op0 hp.op1 hp.fl0 hp.fl1 hp.len hp.fits (hp.vals.below (Ye9 _) hb) (hT.below hb (Ye9 _)) (hP.below hb (Ye9 _)))
 have c2:=fun w1 (hb:Below w.heap.size w w1)=>hid (Y9z av n I w1 (hp.ahs.below hb))
 have c3:=fun x k pl w1 (hb:Below w.heap.size w w1) (he:Y1c w1 x k pl)=>hid (Y4Q x k pl w1 (hg.below hb) he)
 refine Z4c ?_;intro HD hdl;obtain⟨aa,ac,rfl⟩:=Y4o hp.ahs;obtain⟨sa,sc,rfl,_⟩:=id hp.vals;unfold Y4d at c1;generalize Y2L op now flags vs n I d=E at *;generalize Yo op now flags vs=rh at *;generalize Y8y I n 0 0=ah at *;obtain⟨k1,p1⟩:=rh;obtain⟨k2,p2⟩:=ah;simp only at c1 c2 HD;have C1:=hid c1;have C2:=hid c2;have C3:=hid c3;clear hg hT hP c1 c2 c3 hp;refine Z1p ?_;intro b1 B1;go_enter func64,ntmps64
 unfold Y1a;go_wp2_with fail;generalize hW1:w.alloc (.cells #[.int .i64 op,.bool now,.int .i64 flags,.slice sa vs.length sc,.slice aa n ac,.string (bs d)] 63)=w1 at *;clear hW1;have hmx:prog.follows .mixedOrders=true:=by kernel_rfl
 refine YeS (n:=4).1 ?_;refine YbH (aF:= ?kA) [7,10,11] (fun t v W=>if t=7 then Y1c W v k1 p1 else if t=10 then Y1c W v k2 p2 else ∃x y,v= .agg #[x,y]∧Y1c W x k1 p1∧Y1c W y k2 p2) [(5,some (.pointer (some ⟨w.heap.size,0,none⟩))),(6,some (Y1A op now flags (.slice sa vs.length sc))),(7,none),(8,some (.pointer (some ⟨w.heap.size,4,none⟩))),(9,some (.slice aa n ac)),(10,none),(11,none),(12,some (.int .i64 0))] (fun W=>Below w1.heap.size w1 W) ?kB hmx (by kernel_rfl) ?kE ?kR (fun w w' h hb=>h.trans (hb.mono h.size)) (Yea _ _).drew ?kC ?kD
 case kB =>
  exact Z1E
 case kE=>kernel_rfl
 case kR =>
  intro t v W W' h hb;revert h;intro h
  split
  ·rename_i h7
   rw[Yei h7]at h;exact h.below hb
  ·rename_i h7
   rw[Yed h7]at h
   split
   ·rename_i h10
    rw[Yei h10]at h;exact h.below hb
   ·rename_i h10
    rw[Yed h10]at h;obtain⟨x,y,rfl,hx,hy⟩:=h;exact⟨x,y,rfl,hx.below hb,hy.below hb⟩
 case kC =>
  intro g;refine⟨?_,?_,?_,?_,?_,?_,?_,?_,trivial⟩
  all_goals refine⟨by simp,fun W h hg=>⟨?_,?_⟩⟩
  all_goals first
   | (simp[go_sem,Oper.about];done)
   | (simp[go_sem,Oper.about];exact trivial)
   | skip
  all_goals
   have hrf: ∀w:World,Below w.heap.size w w:=fun w=>Yea _ w
   have t0:W.cell? ⟨w.heap.size,0,none⟩=some (.int .i64 op):=(h.cell (p:=⟨w.heap.size,0,none⟩) B1.lt).trans ((B1.cell 0).trans rfl);have t1:W.cell? ⟨w.heap.size,1,none⟩=some (.bool now):=(h.cell (p:=⟨w.heap.size,1,none⟩) B1.lt).trans ((B1.cell 1).trans rfl);have t2:W.cell? ⟨w.heap.size,2,none⟩=some (.int .i64 flags):=(h.cell (p:=⟨w.heap.size,2,none⟩) B1.lt).trans ((B1.cell 2).trans rfl);have t3:W.cell? ⟨w.heap.size,3,none⟩=some (.slice sa vs.length sc):=(h.cell (p:=⟨w.heap.size,3,none⟩) B1.lt).trans ((B1.cell 3).trans rfl)
   have t4:W.cell? ⟨w.heap.size,4,none⟩=some (.slice aa n ac):=(h.cell (p:=⟨w.heap.size,4,none⟩) B1.lt).trans ((B1.cell 4).trans rfl)
  all_goals first
   | (simp[Y5h,go_sem,Y1A,hrf];done)
   | (simp[Y5h,go_sem,Y1A,t0,t1,t2,t3,hrf];done)
   | (simp[Y5h,go_sem,t4,hrf];done)
   | skip
  ·have hc:=(C1.out W (b1.trans (h.mono b1.size))).out;unfold Y1A at hc;simp[Y5h,go_sem,Y1A];refine Yez.2 (hc.mono ?_);rintro e w5 ⟨ev,rfl,her,hb⟩;exact⟨ev,rfl,her,hb⟩
  ·have hc:=(C2.out W (b1.trans (h.mono b1.size))).out;simp[Y5h,go_sem];refine Yez.2 (hc.mono ?_);rintro e w5 ⟨⟨ev,rfl,her⟩,hb⟩;exact⟨ev,rfl,her,hb⟩
  ·have h7:Y1c W (g 7) k1 p1:=hg 7 Z2t (by simp[Op.operands]);have h10:Y1c W (g 10) k2 p2:=hg 10 Z2t (by simp[Op.operands]);have HX7:=hid h7;have HX10:=hid h10;clear hg;generalize g 7=x7 at *;generalize g 10=x10 at *
   cases h7<;>cases h10<;> (simp[Y5h,go_sem,hrf];first | exact⟨HX7.out,HX10.out⟩ | exact⟨_,_,⟨rfl,rfl⟩,HX7.out,HX10.out⟩)
 case kD =>
  intro g W hW hg;obtain⟨x,y,hxy,hx,hy⟩: ∃x y,g 11= .agg #[x,y]∧Y1c W x k1 p1∧Y1c W y k2 p2:=hg 11 Z2t;have B2:=B1.below hW;have b2:=b1.trans (hW.mono b1.size);have t5:W.cell? ⟨w.heap.size,5,none⟩=some (.string (bs d)):=(B2.cell 5).trans rfl;have HX:=hid hx;have HY:=hid hy;rw[hxy];generalize g 7=g7;generalize g 10=g10;clear hxy hg;have hci:=(C3.out);have HCI:=hid hci;clear hci;have hi0:=idx0;have hi1:=idx1
  gi_wp2;go_wp2;refine Yf7 3 ?_;rw[Yf5];by_cases hk1:k1=0
  ·subst hk1;obtain rfl:=Y3S hx;by_cases hk2:k2=0
   ·subst hk2;obtain rfl:=Y3S hy;by_cases hd:100000<d.length
    ·have HE:=hid (show E=4 by rw[HD.out,Yed Z2t,Yed Z2t,Yei hd]);have hdd:decide ((100000:Int) < (d.length:Int))=true:=Yel Z7;exact Z4D
    ·have HE:=hid (show E=0 by rw[HD.out,Yed Z2t,Yed Z2t,Yed hd]);have hdd:decide ((100000:Int) < (d.length:Int))=false:=Yeh Z7;exact Z4D
   ·have HE:=hid (show E=k2 by rw[HD.out,Yed Z2t,Yei hk2])
    cases hy with
    | nil=>exact absurd rfl hk2
    | bare k h =>
     go_wp2;rw[Yf5];go_wp2_with fail;refine(HCI.out _ _ _ W b2 HY.out).out.mono ?_;rintro e w3 ⟨rfl,hb3⟩;go_wp2;go_ret;exact⟨by rw[HE.out,errV,Yed hk2];rfl,b2.trans (hb3.mono b2.size)⟩
    | at_ k h pl b e0 e1 =>
     go_wp2;rw[Yf5];go_wp2_with fail;refine(HCI.out _ _ _ W b2 HY.out).out.mono ?_;rintro e w3 ⟨rfl,hb3⟩;go_wp2;go_ret;exact⟨by rw[HE.out,errV,Yed hk2];rfl,b2.trans (hb3.mono b2.size)⟩
  ·have HE:=hid (show E=k1 by rw[HD.out,Yei hk1])
   cases hx with
   | nil=>exact absurd rfl hk1
   | bare k h =>
    go_wp2_with fail;refine(HCI.out _ _ _ W b2 HX.out).out.mono ?_;rintro e w3 ⟨rfl,hb3⟩;go_wp2;go_ret;exact⟨by rw[HE.out,errV,Yed hk1];rfl,b2.trans (hb3.mono b2.size)⟩
   | at_ k h pl b e0 e1 =>
    go_wp2_with fail;refine(HCI.out _ _ _ W b2 HX.out).out.mono ?_;rintro e w3 ⟨rfl,hb3⟩;go_wp2;go_ret;exact⟨by rw[HE.out,errV,Yed hk1];rfl,b2.trans (hb3.mono b2.size)⟩
theorem Y4T:Calls prog 52 #[Y1a op now flags v av d] w fun e w'=>e= .returned (.int .i64 (Y2L op now flags vs n I d:Nat))∧Below w.heap.size w w':=by
 have c1:=fun w1 (hb:Below w.heap.size w w1)=>hid (Y7g op now flags v vs w1 hp.op0 hp.op1 hp.fl0 hp.fl1 hp.len hp.fits (hp.vals.below (Ye9 _) hb))
 have c2:=fun w1 (hb:Below w.heap.size w w1)=>hid (Y81 av n I w1 (hp.ahs.below hb))
 have ci:=fun k pl w1=>hid (Y1u k pl w1)
 refine Z4c ?_;intro HD hdl;obtain⟨aa,ac,rfl⟩:=Y4o hp.ahs;obtain⟨sa,sc,rfl,_⟩:=id hp.vals;unfold Y4p YS Y1A at c1;unfold Y7J at c2;generalize Y2L op now flags vs n I d=E at *;generalize (if(Y8y I n 0 0).1=0 then ahsB I n 0 []else [])=X at *;generalize Yo op now flags vs=rh at *;generalize Y8y I n 0 0=ah at *;obtain⟨k1,p1⟩:=rh;obtain⟨k2,p2⟩:=ah;simp only at c1 c2 HD;unfold YS at c2
 clear hg hT hP hp;refine Z1p ?_;intro b1 B1;go_enter func52,ntmps52;unfold Y1a;go_wp2_with fail;refine(c1 _ b1).out.mono ?_;rintro e w2 ⟨rfl,hb2⟩;have F2:=Blk.new w2 38 #[.int .i64 (k1:Nat),.int .i64 p1];have hA2:=(Yea w2.heap.size w2).alloc (Ye9 _) (.cells #[.int .i64 (k1:Nat),.int .i64 p1] 38);have hb2':=hb2.trans (hA2.mono hb2.size);go_wp2_with fail;refine(ci k1 p1 _).out.mono ?_
 rintro e w3 ⟨rfl,hb3⟩;have F3:=F2.below hb3;have hb3':=hb2'.trans (hb3.mono hb2'.size);have B3:=B1.below hb3';have b3:=b1.trans (hb3'.mono b1.size);by_cases hk1:k1=0
 ·subst hk1;have p4:w3.cell? ⟨w.heap.size,4,none⟩=some (.slice aa n ac):=(B3.cell 4).trans rfl;go_wp2_with fail;refine(c2 _ b3).out.mono ?_;rintro e w4 ⟨rfl,hb4⟩;have F4:=Blk.new w4 38 #[.int .i64 (k2:Nat),.int .i64 p2];have hA4:=(Yea w4.heap.size w4).alloc (Ye9 _) (.cells #[.int .i64 (k2:Nat),.int .i64 p2] 38);have hb4':=hb4.trans (hA4.mono hb4.size);go_wp2_with fail;refine(ci k2 p2 _).out.mono ?_
  rintro e w5 ⟨rfl,hb5⟩;have F5:=F4.below hb5;have hb5':=hb4'.trans (hb5.mono hb4'.size);have B5:=B3.below hb5';have b5:=b3.trans (hb5'.mono b3.size);by_cases hk2:k2=0
  ·subst hk2;have p5:w5.cell? ⟨w.heap.size,5,none⟩=some (.string (bs d)):=(B5.cell 5).trans rfl;by_cases hd:100000<d.length
   ·have HE:=hid (show E=4 by rw[HD.out,Yed Z2t,Yed Z2t,Yei hd]);have hdd:decide ((100000:Int) < (d.length:Int))=true:=Yel Z7;go_wp2;go_ret;exact⟨by rw[HE.out];rfl,b5⟩
   ·have HE:=hid (show E=0 by rw[HD.out,Yed Z2t,Yed Z2t,Yed hd]);have hdd:decide ((100000:Int) < (d.length:Int))=false:=Yeh Z7;go_wp2;go_ret;exact⟨by rw[HE.out];rfl,b5⟩
  ·have HE:=hid (show E=k2 by rw[HD.out,Yed Z2t,Yei hk2]);have hz:decide (k2=0)=false:=Yeh hk2;have f0:w5.cell? ⟨w4.heap.size,0,none⟩=some (.int .i64 (k2:Nat)):=(F5.cell 0).trans rfl;rw[hz];go_wp2;go_ret;exact⟨by rw[HE.out];rfl,b5⟩
 ·have HE:=hid (show E=k1 by rw[HD.out,Yei hk1]);have hz:decide (k1=0)=false:=Yeh hk1;have f0:w3.cell? ⟨w2.heap.size,0,none⟩=some (.int .i64 (k1:Nat)):=(F3.cell 0).trans rfl;rw[hz];go_wp2;go_ret;exact⟨by rw[HE.out];rfl,b3⟩
end
end
section
open Go.Proofs.Tryz
open Go Go.RowKit
theorem str_to(L:List UInt8)(k:Nat)(hk:k≤L.length)(hL:L.length≤1000000)(w:World):
 (Instr.slice 9 (.string (bs L)) none (some (.int .i64 (k:Int))) none).run prog w= .ok (.string (bs (L.take k))) w:=by
 simp[go_sem];intro h;exact Z7
theorem str_from(L:List UInt8)(k:Nat)(hk:k≤L.length)(hL:L.length≤1000000)(w:World):
 (Instr.slice 9 (.string (bs L)) (some (.int .i64 (k:Int))) none none).run prog w= .ok (.string (bs (L.drop k))) w:=by
 simp[go_sem];intro h;exact Z7
def Y5z(op:Int)(now:Bool)(flags:Int)(vs:List Nat)(words data:Int)(w:World)(e:Ending)(w':World):Prop:=
 e= .returned (.tuple #[.string (bs (Y1F op now flags vs words data).1),YS (Y1F op now flags vs words data).2.1 (Y1F op now flags vs words data).2.2])∧Below w.heap.size w w'
def RWrR(r:HR)(vs:List Nat)(L0:List UInt8)(w4:World)(o i:Value)(wr:World):Prop:=
 ∃ (k:Nat) (L:List UInt8),k≤r.fields.length∧i= .int .i64 (k:Nat)∧o= .string (bs L)∧L.length=48∧Y3u r.fields vs L0=Y3u (r.fields.drop k) (vs.drop k) L∧Below w4.heap.size w4 wr
theorem Z0{P Q:Prop}(k:Q)(h:Q→P:=by
 refine Zj ?_;intro W1 b1 B1 X1 hgl hgB z1 K1 V1 hp1 hpd G1 s14 x0 t0 t1 t2 t3 t4 t5 hW1 cR hmm hmf
 rw[hE]at cR
 rw[hcl]at s14
 have HH:=hid h
 have HP:=hid hp
 have HV:=hid hV
 have HB1:=hid B1
 have HX1:=hid X1
 have o0:=hp0.op0
 have o1:=hp0.op1
 have HE:=hid hE
 have CV:=fun(name:List UInt8) (W:World) (hk:Y1 (fun k=>B≤k) w W)=>hid (Y8Y p _ _ W (hp W hk) (hV.all W hk).1 (hV.all W hk).2.1 name)
 refine fun z_=>?_
 revert CV;revert HE;revert o1;revert o0;revert HX1;revert HB1;revert HV;revert HP;revert HH;revert s14;revert cR;revert hmf;revert hmm;revert hW1;revert t5;revert t4;revert t3;revert t2;revert t1;revert t0;revert x0;revert G1;revert hpd;revert hp1;revert V1;revert K1;revert z1;revert hgB;revert hgl;revert X1;revert B1;revert b1;revert W1
 exact z_):P:=h k
theorem Zh{P:Prop}(h:P:=by
 refine Z2Z ?_;intro hrf
 have s1: ∀W,(Instr.slice 9 (.string (bs L)) none (some (.int .i64 (f.at_:Int))) none).run prog W=_:=str_to L f.at_ Z7 Z7
 have s2: ∀W,(Instr.slice 9 (.string (bs L)) (some (.int .i64 ((f.at_:Int) +(f.size:Int)))) none none).run prog W=_:=str_from L (f.at_+f.size) Z7 Z7
 have s3:L.take f.at_ ++ be y f.size ++ L.drop (f.at_+f.size)=Y5p L f.at_ (be y f.size):=by rw[Y5p,hbl]
 have s4:IntKind.i64.wrap ((f.at_:Int) +(f.size:Int))=(f.at_:Int) +(f.size:Int):=ZZ
 have l1:(L.take f.at_).length=f.at_:=Z1X
 have l2:(L.drop (f.at_+f.size)).length=48 - (f.at_+f.size):=by rw[List.length_drop,hL]
 refine⟨?_,?_,?_,?_,?_,?_,?_,?_,?_,?_,?_,?_,?_,?_,trivial⟩
 all_goals refine⟨by simp,fun W h=>⟨by simp[go_sem,Oper.about],?_⟩⟩
 all_goals
  have u1:=(h.cell (p:=⟨wr.heap.size,1,none⟩) hN3.lt).trans y1'
  have u2:=(h.cell (p:=⟨wr.heap.size,2,none⟩) hN3.lt).trans y2'
  clear h
 all_goals first
  | (simp[Y76,go_sem,hrf];done)
  | (simp[Y76,go_sem,hrf,u1];done)
  | (simp[Y76,go_sem,hrf,u2];done)
  | (simp[Y76,go_sem,hrf,s4];done)
  | (simp only[Y76,go_sem];simp[s1 W,hrf];done)
  | (simp only[Y76,go_sem];simp[s2 W,hrf];done)
  | skip
 all_goals simp[Y76,go_sem,hrf,l1,l2,hbl,hL]
 ·rw[Yei Z7]
  exact⟨rfl,hrf W⟩
 ·rw[Yed Z7]
  exact⟨rfl,hrf W⟩
 ·rw[Yei Z7,show((f.at_:Int) +(f.size:Int)).toNat=f.at_+f.size by omega,Yfc (Nat.le_of_eq hL)]
  exact⟨rfl,hrf W⟩
 ·rw[Yed Z7]
  exact⟨by rw[←s3,Yfx],hrf W⟩):P:=h
theorem Zj{P Q:Prop}(k:Q)(h:Q→P:=by
 obtain⟨W1,hW1⟩: ∃W1,(w.alloc (.cells #[.pointer (some ⟨g,0,none⟩)] 52)).alloc (.cells (pkC p (.slice va p.vs.length vc) (.slice aa p.n ac)) 63)=W1:=⟨_,rfl⟩
 have b1:Below w.heap.size w W1:=by rw[←hW1];exact((Yea _ _).alloc (Ye9 _) _).alloc Z2t _
 have B1:Blk W1 (w.heap.size+1) 63 (pkC p (.slice va p.vs.length vc) (.slice aa p.n ac)):=by
  have h:=Blk.new (w.alloc (.cells #[.pointer (some ⟨g,0,none⟩)] 52)) 63 (pkC p (.slice va p.vs.length vc) (.slice aa p.n ac))
  rw[←hW1,show w.heap.size+1=(w.alloc (.cells #[.pointer (some ⟨g,0,none⟩)] 52)).heap.size by simp]
  exact h
 have X1:Blk W1 w.heap.size 52 #[.pointer (some ⟨g,0,none⟩)]:=by rw[←hW1];exact(Blk.new w _ _).below ((Yea _ _).alloc (Ye9 _) _)
 have hgl:=h.blk.lt
 have hgB:=h.gB
 have z1:W1.heap.size=w.heap.size+2:=Z1J
 refine Z4m ?_;intro K1 V1 hp1 hpd
 have cR:=hid (Y4T p.op p.now p.flags (.slice va p.vs.length vc) p.vs (.slice aa p.n ac) p.n p.I p.d W1 hp1 V1.2.2.2 V1.1 V1.2.1)
 have G1:=h.blk.below b1
 have s14:=(G1.cell 14).trans (rfl:_=some (Value.bool s.closed))
 have x0:=(X1.cell 0).trans (rfl:_=some (Value.pointer (some ⟨g,0,none⟩)))
 refine Zo ?_;intro t0 t1 t2 t3
 refine Z1U ?_;intro t4 t5
 unfold pkC at hW1
 unfold Y1a at cR
 have hmm:=@run_makeMap prog
 refine Z32 ?_;intro hmf
 refine fun z_=>?_
 revert hmf;revert hmm;revert cR;revert hW1;revert t5;revert t4;revert t3;revert t2;revert t1;revert t0;revert x0;revert s14;revert G1;revert hpd;revert hp1;revert V1;revert K1;revert z1;revert hgB;revert hgl;revert X1;revert B1;revert b1;revert W1
 exact z_):P:=h k
theorem Zv{P Q:Prop}(k:Q)(h:Q→P:=by
 have hx64:=Hv.out y (Yer hyk)
 have hfit:=HF.out.fits k f y hfk hyk
 rw[Y6e r.fields vs L k f y hfk hyk]at heq
 have Heq:=hid heq
 obtain⟨y0,y1,y2⟩:=HFC.out k f hfk
 have y0:=(hb.cell (p:=⟨fb,fo+k * 3,none⟩) hfb).trans y0
 have y1:=(hb.cell (p:=⟨fb,fo+k * 3+1,none⟩) hfb).trans y1
 have y2:=(hb.cell (p:=⟨fb,fo+k * 3+2,none⟩) hfb).trans y2
 have z0:=((hb.cell (p:=⟨vb,vo+k,none⟩) (Yee hvb b7.size)).trans (b7.cell (p:=⟨vb,vo+k,none⟩) hvb)).trans (HVC.out k y hyk)
 have p3:=(hb.cell (p:=⟨w.heap.size,3,none⟩) hlt7).trans HP3.out
 have hbl:=Y2n y f.size
 have hbn:=hb.alloc hB (.cells #[.string (bs f.name),.int .i64 (f.at_:Int),.int .i64 (f.size:Int)] 225)
 have hN:=Blk.new wr 225 #[.string (bs f.name),.int .i64 (f.at_:Int),.int .i64 (f.size:Int)]
 have q9:vb<wr.heap.size:=Yee hvb (Yeu b7.size hB)
 have q8:w.heap.size<wr.heap.size:=Yee hlt7 hB
 have hklt:k<vs.length:=Z7
 have hbe:Y5U y f.size=0∧Y8J y f.size=be y f.size:=by
  have:Y5U y f.size=0:=Z4v
  exact⟨this,by unfold Y8J;rw[Yei this];rfl⟩
 have cn: ∀w,Hid (Calls prog 104 #[.int .u64 (y:Nat),.int .i64 (f.size:Nat)] w fun e w'=>e= .returned (.tuple #[.string (bs (be y f.size)),.int .i64 0])∧Below w.heap.size w w'):=fun w=>by
  have:=Y2x y (f.size:Int) w hx64
  rw[hbe.1,hbe.2]at this
  exact hid this
 clear heq hbe
 refine fun z_=>?_
 revert cn;revert hklt;revert q8;revert q9;revert hN;revert hbn;revert hbl;revert p3;revert z0;revert y2;revert y1;revert y0;revert Heq;revert hfit;revert hx64
 exact z_):P:=h k
theorem Zx{P:Prop}(h:P:=by
 intro g
 refine⟨?_,?_,?_,?_,?_,?_,?_,?_,?_,?_,?_,?_,?_,trivial⟩
 all_goals refine⟨by simp,fun W h hg=>⟨?_,?_⟩⟩
 all_goals first
  | (simp[go_sem,Oper.about];done)
  | (simp[go_sem,Oper.about];exact trivial)
  | (have z2:=(h.cell (p:=⟨w.heap.size,2,none⟩) B5.lt).trans p2;refine Z2Z ?_;intro hrf;simp[Y5h,go_sem,z2,hx8,hf8,hw8,hrf,h3l,h40,h60];done)
  | skip
 ·refine Z2Z ?_;intro hrf
  simp[Y5h,go_sem]
  exact⟨Blk.new _ _ _,(Yea _ _).alloc (Ye9 _) _⟩
 ·obtain⟨gb,hge,hgb⟩:=hg 55 Z2t (by simp[Op.operands])
  have hcv:=Y4M (P:=prog) W 219 9 5 underlying219 underlying5 underlying9 [x,fx,0,0,wx] 5 gb 5 (0,0) hgb
  simp[Y5h,go_sem,hge]
  rw[show(convert 219 9 (.slice (some ⟨gb,0,none⟩) 5 5)).run prog W=_ from hcv]
  exact Z2D
 ·have hc:=HZ.out W
  simp[Y5h,go_sem]
  refine Yez.2 (hc.mono ?_)
  rintro e w5 ⟨rfl,hb⟩
  exact⟨_,rfl,rfl,hb⟩):P:=h
theorem ZC{P:Prop}(h:P:=by
 have hl5:wr.heap.size≤w6.heap.size:=by rw[←hw5];exact Z2t
 have e5: ∀p:Addr,p.block<wr.heap.size→w6.cell? p=wr.cell? p:=fun p hp=>by rw[←hw5];exact YeG _ _ _ hp
 have z3: ∀w',Below w6.heap.size w6 w'→w'.cell? ⟨w.heap.size,3,none⟩=some (.slice (some ⟨vb,vo,none⟩) vs.length sc):=fun w' h=>(h.cell (p:=⟨w.heap.size,3,none⟩) (Yee q8 hl5)).trans ((e5 _ q8).trans p3)
 have zx: ∀w',Below w6.heap.size w6 w'→w'.cell? ⟨vb,vo+k,none⟩=some (.int .u64 (y:Int)):=fun w' h=>(h.cell (p:=⟨vb,vo+k,none⟩) (Yee q9 hl5)).trans ((e5 _ q9).trans z0)
 have zs: ∀w',Below w6.heap.size w6 w'→w'.cell? ⟨wr.heap.size,2,none⟩=some (.int .i64 (f.size:Int)):=fun w' h=>(h.cell (p:=⟨wr.heap.size,2,none⟩) hN.lt).trans ((hN.cell 2).trans rfl)
 refine Z2Z ?_;intro hrf
 clear y0 y1 y2 z0 p3 Heq
 exact Z4j):P:=h
theorem ZL{P:Prop}(h:P:=by
 ·exact ZP):P:=h
theorem ZP{P:Prop}(h:P:=by
 obtain rfl:k=r.fields.length:=Z7
 rw[Y7b _ _ _ _ (Ye9 _)]at heq
 have E8:=HE7.out.below hb
 go_wp2_with fail
 refine(cg _).out.mono ?_
 rintro e w9 ⟨rfl,hb9⟩
 have E9:=E8.below hb9
 have b9:=b8.trans (hb9.mono b8.size)
 have t0:w9.cell? ⟨w.heap.size+1,0,none⟩=some (.int .i64 0):=(E9.cell 0).trans rfl
 have t1:w9.cell? ⟨w.heap.size+1,1,none⟩=some (.int .i64 0):=(E9.cell 1).trans rfl
 have v0:=E9.free 0
 have v1:=E9.free 1
 go_wp2
 refine Yej (v:= .tuple #[.string (bs L),.agg #[.int .i64 0,.int .i64 (-1)]]) (by simp[results,results54,go_sem,t0,t1]) rfl ?_
 exact⟨by rw[HR.out,heq];rfl,Ya (Ya b9 Z7 _ _) Z7 _ _⟩):P:=h
theorem ZQ{P:Prop}(h:P:=by
 rintro e _ ⟨rfl,rfl⟩
 go_wp2_with fail
 refine(cb 4 _).out.mono ?_
 rintro e w3 ⟨rfl,hb3⟩
 refine Z47 ?_;intro E5 b5 t0 t1 v0 v1
 go_wp2
 refine Yej (v:= .tuple #[.string (bs []),.agg #[.int .i64 4,.int .i64 (-1)]]) (by simp[results,results54,go_sem,t0,t1];rfl) rfl ?_
 exact⟨by rw[HR.out];rfl,Ya (Ya b5 Z7 _ _) Z7 _ _⟩):P:=h
theorem Z21{P Q:Prop}(k:Q)(h:Q→P:=by
 have hmx:prog.follows .mixedOrders=true:=by kernel_rfl
 have hx8:IntKind.u8.wrap (x.toNat:Int)=(x.toNat:Int):=by have:=x.toNat_lt;rw[IntKind.wrap_u8];exact Z7
 have hf8:IntKind.u8.wrap (fx.toNat:Int)=(fx.toNat:Int):=by have:=fx.toNat_lt;rw[IntKind.wrap_u8];exact Z7
 have hw8:IntKind.u8.wrap (wx.toNat:Int)=(wx.toNat:Int):=by have:=wx.toNat_lt;rw[IntKind.wrap_u8];exact Z7
 have h3l:=Y2n data.toNat 3
 have h60:x :: fx :: 0 :: 0 :: wx :: (be data.toNat 3 ++ Z0)=L0:=H48.out
 refine fun z_=>?_
 revert h60;revert h3l;revert hw8;revert hf8;revert hx8;revert hmx
 exact z_):P:=h k
theorem Z2S{P:Prop}(h:P:=by
 intro w7 hb7
 have hbA:=hb9.trans (hb7.mono hb9.size)
 gi_wp2
 go_wp2
 go_roundw
 case rel=>exact⟨k+1,_,by omega,by go_num,rfl,hpl.trans hL,Heq.out,hbA⟩
 case measure=>exact Zw):P:=h
theorem Z39{P Q:Prop}(k:Q)(h:Q→P:=by
 have hN3:=hN.below hb'
 have hb9:=hbn.trans (hb'.mono hbn.size)
 have y1':w'.cell? ⟨wr.heap.size,1,none⟩=some (.int .i64 (f.at_:Int)):=(hN3.cell 1).trans rfl
 have y2':w'.cell? ⟨wr.heap.size,2,none⟩=some (.int .i64 (f.size:Int)):=(hN3.cell 2).trans rfl
 have hpl:=Y5J L f.at_ (be y f.size) Z7
 refine fun z_=>?_
 revert hpl;revert y2';revert y1';revert hb9;revert hN3
 exact z_):P:=h k
theorem Z47{P Q:Prop}(k:Q)(h:Q→P:=by
 have E5:=E4.below hb3
 have b5:=b4.trans (hb3.mono b4.size)
 have t0:w3.cell? ⟨w.heap.size+1,0,none⟩=some (.int .i64 0):=(E5.cell 0).trans rfl
 have t1:w3.cell? ⟨w.heap.size+1,1,none⟩=some (.int .i64 0):=(E5.cell 1).trans rfl
 have v0:=E5.free 0
 have v1:=E5.free 1
 refine fun z_=>?_
 revert v1;revert v0;revert t1;revert t0;revert b5;revert E5
 exact z_):P:=h k
theorem Z4m{P Q:Prop}(k:Q)(h:Q→P:=by
 have K1:Y1 (fun k=>B≤k) w W1:=(Y1.refl _ w).below b1
 have V1:=hV.all W1 K1
 have hp1:=hp W1 K1
 have hpd:pkV p (.slice va p.vs.length vc) (.slice aa p.n ac)=Y1a p.op p.now p.flags (.slice va p.vs.length vc) (.slice aa p.n ac) p.d:=rfl
 refine fun z_=>?_
 revert hpd;revert hp1;revert V1;revert K1
 exact z_):P:=h k
section
variable (op:Int)(now:Bool)(flags:Int)(v:Value)(vs:List Nat)(words data:Int)(w:World)(h0: -9223372036854775808≤op)(h1:op≤9223372036854775807)(g0: -9223372036854775808≤flags)(g1:flags≤9223372036854775807)
 (hn:vs.length≤9223372036854775807) (hv: ∀x∈vs,x≤18446744073709551615) (hsl:Sl w v 1 vs.length (Yb vs))
include h0 h1 g0 g1 hn hv hsl
theorem YbC:Calls prog 54 #[Y1A op now flags v,.int .i64 words,.int .i64 data] w fun e w'=>Y5z op now flags vs words data w e w':=by
 have c1:=fun w1 (hb:Below w.heap.size w w1)=>hid (Y7g op now flags v vs w1 h0 h1 g0 g1 hn hv (hsl.below (Ye9 _) hb))
 have ck:=fun w1=>hid (Y63 op w1)
 have cb:=fun k w1=>hid (Y27 k w1)
 have cg:=fun w1=>hid (Y1O w1)
 have ci:=fun k pl w1=>hid (Y1u k pl w1)
 unfold Y4p at c1;unfold Y5i at ck;unfold Y5z;have HSL:=hid hsl;obtain⟨sa,sc,rfl,hsl1,hsl2⟩:=hsl;clear hsl2;refine Z1u ?_;intro b1 B1 E1;by_cases hz:(Yo op now flags vs).1=0
 ·obtain⟨r,F⟩:=Y43 op now flags vs hz;have hop:=fit_op F;have hmem:=YR F.find;have hn0:=Y1Q r hmem;have hvl:0<vs.length:=by have:=F.len;exact Z7
  have hsz:=(YC r hmem).2.2.2.2.2.2.2;have hnf:=(YC r hmem).2.2.2.2.2.2.1;have ck:=fun w1=>hid ((ck w1).out)
  rw[F.all]at c1;rw[F.find]at ck;simp only[Y2y,Yc5,Y5P,Option.isSome_some]at ck;have HF:=hid F;have hlow:=F.low;have hfl0:=F.flags0;have hfl1:=F.flags1;have hlen:=F.len;have Hsz:=hid hsz;have Hv:=hid hv;clear hsz hv hz hmem F hsl1;unfold YS at c1;go_enter func54,ntmps54;unfold Y1A;go_wp2_with fail;refine(c1 _ b1).out.mono ?_;rintro e w1 ⟨rfl,hb⟩;have E2:=E1.below hb;have B2:=B1.below hb
  have b2:=b1.trans (hb.mono b1.size);have b3:=b2.alloc b2.size (.cells #[.int .i64 (0:Nat),.int .i64 (-1)] 38);have E3:=E2.below ((Yea _ _).alloc (Ye9 _) (.cells #[.int .i64 (0:Nat),.int .i64 (-1)] 38));have B3:=B2.below ((Yea _ _).alloc (Ye9 _) (.cells #[.int .i64 (0:Nat),.int .i64 (-1)] 38));clear hb;go_wp2_with fail;refine(ci 0 (-1) _).out.mono ?_;rintro e w2 ⟨rfl,hb2⟩
  have E4:=E3.below hb2;have B4:=B3.below hb2;have b4:=b3.trans (hb2.mono b3.size);clear B1 B2 B3 E1 E2 E3 b1 b2 b3 hb2 ci c1;by_cases hw:words<0∨255<words∨data<0∨16777215<data
  ·have HR:=hid (show Y1F op now flags vs words data=([],4,-1) by simp only[Y1F,HF.out.all];rw[Yed Z2t,Yei hw]);by_cases hw1:words<0∨255<words
   ·have c4:=fun w=>hid (YZ words 0 255 w hw1)
    clear hw hw1;go_wp2_with fail;refine(c4 _).out.mono ?_;exact ZQ
   ·have c4:=fun w=>hid (YK words 0 255 w Z7 Z7)
    have c5:=fun w=>hid (YZ data 0 16777215 w Z7)
    clear hw hw1;go_wp2_with fail;refine(c4 _).out.mono ?_;rintro e _ ⟨rfl,rfl⟩;go_wp2_with fail;refine(c5 _).out.mono ?_;exact ZQ
  ·refine Z3q ?_;intro q0 q1 q2 q3 HR;have c4:=fun w=>hid (YK words 0 255 w q0 q1)
   have c5:=fun w=>hid (YK data 0 16777215 w q2 q3)
   clear hw;have hE3:Y5U data.toNat 3=0:=Z4v;have hS3:Y8J data.toNat 3=be data.toNat 3:=by unfold Y8J;rw[Yei hE3];rfl
   have c6:=fun w=>hid (Y2x data.toNat 3 w Z7)
   rw[hE3,hS3,Ygh q2]at c6;have p0:w2.cell? ⟨w.heap.size,0,none⟩=some (.int .i64 op):=(B4.cell 0).trans rfl;have p1:w2.cell? ⟨w.heap.size,1,none⟩=some (.bool now):=(B4.cell 1).trans rfl;have hsu:IntKind.u64.wrap data=data:=Z2k;go_wp2_with fail;refine(c4 _).out.mono ?_;rintro e _ ⟨rfl,rfl⟩;go_wp2_with fail;refine(c5 _).out.mono ?_;rintro e _ ⟨rfl,rfl⟩
   have hX: ∃x:UInt8,((x.toNat:Int)=op+if now then 64 else 0)∧x=UInt8.ofNat (op.toNat+if now then 64 else 0):=by
    refine⟨_,?_,rfl⟩
    cases now
    ·exact Zd
    ·have:=hlow rfl;exact Zd
   obtain⟨x,hx,hxe⟩:=hX;have h48: [x,UInt8.ofNat flags.toNat,0,0,UInt8.ofNat words.toNat] ++ be data.toNat 3 ++ List.replicate 40 0=Y58 op now flags words data:=by rw[hxe];rfl
   have hZ: ∃Z0:List UInt8,Z0.length=40∧([x,UInt8.ofNat flags.toNat,0,0,UInt8.ofNat words.toNat] ++ be data.toNat 3 ++ Z0=Y58 op now flags words data)∧ ∀W,Calls prog 105 #[.string ⟨#[0]⟩,.int .i64 40] W fun e w'=>e= .returned (.string (bs Z0))∧Below W.heap.size W w':=
    ⟨List.replicate 40 0,rfl,h48,fun W=>(Tryz.strings_Repeat ⟨#[0]⟩ 40 W Z7 Z16).mono fun e w' h=>h⟩
   obtain⟨Z0,h40,h48,hZ⟩:=hZ;have H48:=hid h48;clear h48;have HZ:=hid hZ;clear hZ;have hL0:=Y3P op now flags words data;have hf8:=YaP flags hfl0 hfl1;have hw8:=YaP words q0 q1;generalize Y58 op now flags words data=L0 at *;generalize UInt8.ofNat flags.toNat=fx at *;generalize UInt8.ofNat words.toNat=wx at *;clear hxe;obtain rfl:flags=(fx.toNat:Int):=hf8.symm;obtain rfl:words=(wx.toNat:Int):=hw8.symm
   cases now
   case' false=>have HX:=hid (show op=(x.toNat:Int) by simpa using hx.symm)
   case' true =>
    have hor:IntKind.i64.wrap (op+64)=op+64:=ZZ;have HX:=hid (show op+64=(x.toNat:Int) by simpa using hx.symm)
   ·clear hx;go_wp2_with fail;refine(c6 _).out.mono ?_;rintro e w3 ⟨rfl,hb3⟩;have E5:=E4.below hb3;have B5:=B4.below hb3;have b5:=b4.trans (hb3.mono b4.size);have p2:w3.cell? ⟨w.heap.size,2,none⟩=some (.int .i64 (fx.toNat:Int)):=(B5.cell 2).trans rfl;clear p0 p1 hb3;go_wp2_with fail;rw[HX.out];refine Z21 ?_;intro hmx hx8 hf8 hw8 h3l h60;refine YeS (n:=4).1 ?_;refine Y45 (aF:= ?kA0) [55] (fun _ v W=> ∃g,v= .slice (some ⟨g,0,none⟩) 5 5∧Blk W g 5 (Y15 [x,fx,0,0,wx])) [(48,some (.int .i64 (x.toNat:Int))),(49,some (.int .u8 (x.toNat:Int))),(50,some (.pointer (some ⟨w.heap.size,2,none⟩))),(51,some (.int .i64 (fx.toNat:Int))),(52,some (.int .u8 (fx.toNat:Int))),(53,some (.int .i64 (wx.toNat:Int))),(54,some (.int .u8 (wx.toNat:Int))),(55,none),(56,some (.string (bs [x,fx,0,0,wx]))),(57,some (.string (bs (be data.toNat 3)))),(58,some (.string (bs ([x,fx,0,0,wx] ++ be data.toNat 3)))),(59,some (.string (bs Z0))),(60,some (.string (bs L0)))] (fun w'=>Below w3.heap.size w3 w') 13 ?kB0 hmx rfl (by kernel_rfl) ?kE0 (fun _ _ _ _ ⟨g,h1,h2⟩ hb=>⟨g,h1,h2.below hb⟩) (fun w w' h hb=>h.trans (hb.mono h.size)) (Yea _ _).drew ?kC0 rfl ?kD0
    case kB0 =>
     exact Z1E
    case kE0=>kernel_rfl
    case kC0 =>
     exact Zx
    case kD0 =>
     intro g w4 hb4 hg;have E6:=E5.below hb4;have B6:=B5.below hb4;have b6:=b5.trans (hb4.mono b5.size);have p0:w4.cell? ⟨w.heap.size,0,none⟩=some (.int .i64 op):=(B6.cell 0).trans rfl;generalize g 55=g55;clear hg hb4 hx8 hf8 hw8 h3l h60;gi_wp2;go_wp2_with fail;refine(ck _).out.mono ?_;rintro e w5 ⟨fv,rfl,hfs,_,hb7⟩;have E7:=E6.below hb7;have B7:=B6.below hb7;have b7:=b6.trans (hb7.mono b6.size);obtain⟨fb,fo,fc,rfl,hfb,hfc⟩:=Y1m hfs hn0
     obtain⟨vb,vo,vc,hve,hvb,hvc⟩:=Y21 HSL.out hvl
     cases hve
     have HFC:=hid hfc;have HVC:=hid hvc;have HB7:=hid B7;have HE7:=hid E7;have p3:w5.cell? ⟨w.heap.size,3,none⟩=some (.slice (some ⟨vb,vo,none⟩) vs.length sc):=(B7.cell 3).trans rfl;have HP3:=hid p3;have hlt7:=B7.lt;clear hfc hvc hfs p0 p2 p3 B4 B5 B6 B7 E4 E5 E6 E7 hb7 ck;go_wp2;go_loopw [12,71] (fun o i wr=>RWrR r vs L0 w5 o i wr) (fun _ i _=>r.fields.length - (intOf i).toNat)
     case atStart=>exact⟨0,L0,by omega,rfl,rfl,hL0,rfl,Yea _ _⟩
     case round =>
      obtain⟨k,L,hk,rfl,rfl,hL,heq,hb⟩:=hrel;have hB:=hb.size;have b8:=b7.trans (hb.mono b7.size);by_cases hlt:k<r.fields.length
      ·refine Z4f ?_;intro f hfk;obtain⟨y,hyk⟩: ∃y,vs[k]?=some y:=⟨vs[k]' Z7,Yec _⟩;obtain⟨_,_,_,_,hat,hs0,hs8⟩:=Hsz.out f (Yer hfk);refine Zv ?_;clear heq hfk hyk cb ck c6;intro hx64 hfit Heq y0 y1 y2 z0 p3 hbl hbn hN q9 q8 hklt cn;go_wp2;generalize hw5:wr.alloc (.cells #[.string (bs f.name),.int .i64 (f.at_:Int),.int .i64 (f.size:Int)] 225)=w6 at *;refine YeS (n:=4).1 ?_
       refine Y2w (aF:= ?kF0) [(77,.pointer (some ⟨w.heap.size,3,none⟩)),(78,.slice (some ⟨vb,vo,none⟩) vs.length sc),(79,.int .i64 (k:Nat)),(80,.pointer (some ⟨vb,vo+k,none⟩)),(81,.int .u64 (y:Nat)),(82,.pointer (some ⟨wr.heap.size,2,none⟩)),(83,.int .i64 (f.size:Nat)),(84,.tuple #[.string (bs (be y f.size)),.int .i64 0]),(76,.tuple #[.string (bs (be y f.size)),.int .i64 0]),(85,.string (bs (be y f.size))),(86,.int .i64 0),(19,.string (bs (be y f.size))),(20,.int .i64 0)] (fun w'=>Below w6.heap.size w6 w') ?kG0 hmx (by kernel_rfl) (by kernel_rfl) (fun w w' h hb=>h.trans (hb.mono h.size)) (Yea _ _).drew ?kH0 ?kI0
       case kG0 =>
        exact Za
       case kH0 =>
        exact ZC
       case kI0 =>
        intro w' hb';refine Z39 ?_;intro hN3 hb9 y1' y2' hpl;clear y0 y1 y2 z0 p3 cn;go_wp2;refine YeS (n:=4).1 ?_;refine Y3K (aF:= ?kJ0) 14 [(87,.string (bs L)),(88,.pointer (some ⟨wr.heap.size,1,none⟩)),(89,.int .i64 (f.at_:Nat)),(90,.string (bs (L.take f.at_))),(91,.string (bs (be y f.size))),(92,.string (bs (L.take f.at_ ++ be y f.size))),(93,.string (bs L)),(94,.pointer (some ⟨wr.heap.size,1,none⟩)),(95,.int .i64 (f.at_:Nat)),(96,.pointer (some ⟨wr.heap.size,2,none⟩)),(97,.int .i64 (f.size:Nat)),(98,.int .i64 ((f.at_+f.size:Nat):Int)),(99,.string (bs (L.drop (f.at_+f.size)))),(100,.string (bs (Y5p L f.at_ (be y f.size))))] (fun W=>Below w'.heap.size w' W) ?kK0 hmx rfl (by kernel_rfl) (by kernel_rfl) (fun w w' h hb=>h.trans (hb.mono h.size)) (Yea _ _).drew ?kL0 rfl ?kM0
        case kK0 =>
         exact Za
        case kL0 =>
         exact Zh
        case kM0 =>
         exact Z2S
      exact ZL
   ·clear hx;go_wp2_with fail;refine(c6 _).out.mono ?_;rintro e w3 ⟨rfl,hb3⟩;have E5:=E4.below hb3;have B5:=B4.below hb3;have b5:=b4.trans (hb3.mono b4.size);have p2:w3.cell? ⟨w.heap.size,2,none⟩=some (.int .i64 (fx.toNat:Int)):=(B5.cell 2).trans rfl;clear p0 p1 hb3;go_wp2_with fail;rw[HX.out];refine Z21 ?_;intro hmx hx8 hf8 hw8 h3l h60;refine YeS (n:=4).1 ?_;refine Y45 (aF:= ?kA1) [55] (fun _ v W=> ∃g,v= .slice (some ⟨g,0,none⟩) 5 5∧Blk W g 5 (Y15 [x,fx,0,0,wx])) [(48,some (.int .i64 (x.toNat:Int))),(49,some (.int .u8 (x.toNat:Int))),(50,some (.pointer (some ⟨w.heap.size,2,none⟩))),(51,some (.int .i64 (fx.toNat:Int))),(52,some (.int .u8 (fx.toNat:Int))),(53,some (.int .i64 (wx.toNat:Int))),(54,some (.int .u8 (wx.toNat:Int))),(55,none),(56,some (.string (bs [x,fx,0,0,wx]))),(57,some (.string (bs (be data.toNat 3)))),(58,some (.string (bs ([x,fx,0,0,wx] ++ be data.toNat 3)))),(59,some (.string (bs Z0))),(60,some (.string (bs L0)))] (fun w'=>Below w3.heap.size w3 w') 13 ?kB1 hmx rfl (by kernel_rfl) ?kE1 (fun _ _ _ _ ⟨g,h1,h2⟩ hb=>⟨g,h1,h2.below hb⟩) (fun w w' h hb=>h.trans (hb.mono h.size)) (Yea _ _).drew ?kC1 rfl ?kD1
    case kB1 =>
     exact Z1E
    case kE1=>kernel_rfl
    case kC1 =>
     exact Zx
    case kD1 =>
     intro g w4 hb4 hg;have E6:=E5.below hb4;have B6:=B5.below hb4;have b6:=b5.trans (hb4.mono b5.size);have p0:w4.cell? ⟨w.heap.size,0,none⟩=some (.int .i64 op):=(B6.cell 0).trans rfl;generalize g 55=g55;clear hg hb4 hx8 hf8 hw8 h3l h60;gi_wp2;go_wp2_with fail;refine(ck _).out.mono ?_;rintro e w5 ⟨fv,rfl,hfs,_,hb7⟩;have E7:=E6.below hb7;have B7:=B6.below hb7;have b7:=b6.trans (hb7.mono b6.size);obtain⟨fb,fo,fc,rfl,hfb,hfc⟩:=Y1m hfs hn0
     obtain⟨vb,vo,vc,hve,hvb,hvc⟩:=Y21 HSL.out hvl
     cases hve
     have HFC:=hid hfc;have HVC:=hid hvc;have HB7:=hid B7;have HE7:=hid E7;have p3:w5.cell? ⟨w.heap.size,3,none⟩=some (.slice (some ⟨vb,vo,none⟩) vs.length sc):=(B7.cell 3).trans rfl;have HP3:=hid p3;have hlt7:=B7.lt;clear hfc hvc hfs p0 p2 p3 B4 B5 B6 B7 E4 E5 E6 E7 hb7 ck;go_wp2;go_loopw [12,71] (fun o i wr=>RWrR r vs L0 w5 o i wr) (fun _ i _=>r.fields.length - (intOf i).toNat)
     case atStart=>exact⟨0,L0,by omega,rfl,rfl,hL0,rfl,Yea _ _⟩
     case round =>
      obtain⟨k,L,hk,rfl,rfl,hL,heq,hb⟩:=hrel;have hB:=hb.size;have b8:=b7.trans (hb.mono b7.size);by_cases hlt:k<r.fields.length
      ·refine Z4f ?_;intro f hfk;obtain⟨y,hyk⟩: ∃y,vs[k]?=some y:=⟨vs[k]' Z7,Yec _⟩;obtain⟨_,_,_,_,hat,hs0,hs8⟩:=Hsz.out f (Yer hfk);refine Zv ?_;clear heq hfk hyk cb ck c6;intro hx64 hfit Heq y0 y1 y2 z0 p3 hbl hbn hN q9 q8 hklt cn;go_wp2;generalize hw5:wr.alloc (.cells #[.string (bs f.name),.int .i64 (f.at_:Int),.int .i64 (f.size:Int)] 225)=w6 at *;refine YeS (n:=4).1 ?_
       refine Y2w (aF:= ?kF1) [(77,.pointer (some ⟨w.heap.size,3,none⟩)),(78,.slice (some ⟨vb,vo,none⟩) vs.length sc),(79,.int .i64 (k:Nat)),(80,.pointer (some ⟨vb,vo+k,none⟩)),(81,.int .u64 (y:Nat)),(82,.pointer (some ⟨wr.heap.size,2,none⟩)),(83,.int .i64 (f.size:Nat)),(84,.tuple #[.string (bs (be y f.size)),.int .i64 0]),(76,.tuple #[.string (bs (be y f.size)),.int .i64 0]),(85,.string (bs (be y f.size))),(86,.int .i64 0),(19,.string (bs (be y f.size))),(20,.int .i64 0)] (fun w'=>Below w6.heap.size w6 w') ?kG1 hmx (by kernel_rfl) (by kernel_rfl) (fun w w' h hb=>h.trans (hb.mono h.size)) (Yea _ _).drew ?kH1 ?kI1
       case kG1 =>
        exact Za
       case kH1 =>
        exact ZC
       case kI1 =>
        intro w' hb';refine Z39 ?_;intro hN3 hb9 y1' y2' hpl;clear y0 y1 y2 z0 p3 cn;go_wp2;refine YeS (n:=4).1 ?_;refine Y3K (aF:= ?kJ1) 14 [(87,.string (bs L)),(88,.pointer (some ⟨wr.heap.size,1,none⟩)),(89,.int .i64 (f.at_:Nat)),(90,.string (bs (L.take f.at_))),(91,.string (bs (be y f.size))),(92,.string (bs (L.take f.at_ ++ be y f.size))),(93,.string (bs L)),(94,.pointer (some ⟨wr.heap.size,1,none⟩)),(95,.int .i64 (f.at_:Nat)),(96,.pointer (some ⟨wr.heap.size,2,none⟩)),(97,.int .i64 (f.size:Nat)),(98,.int .i64 ((f.at_+f.size:Nat):Int)),(99,.string (bs (L.drop (f.at_+f.size)))),(100,.string (bs (Y5p L f.at_ (be y f.size))))] (fun W=>Below w'.heap.size w' W) ?kK1 hmx rfl (by kernel_rfl) (by kernel_rfl) (fun w w' h hb=>h.trans (hb.mono h.size)) (Yea _ _).drew ?kL1 rfl ?kM1
        case kK1 =>
         exact Za
        case kL1 =>
         exact Zh
        case kM1 =>
         exact Z2S
      exact ZL
 ·have HR:=hid (show Y1F op now flags vs words data=([],Yo op now flags vs) by simp[Y1F,hz]);generalize Yo op now flags vs=R at *;obtain⟨y1,y2⟩:=R;have hzd:decide (y1=0)=false:=by simpa using hz
  go_enter func54,ntmps54;unfold Y1A;go_wp2_with fail;refine(c1 _ b1).out.mono ?_;rintro e w1 ⟨rfl,hb⟩;have E2:=E1.below hb;have b2:=b1.trans (hb.mono b1.size);have b3:=b2.alloc b2.size (.cells #[.int .i64 (y1:Nat),.int .i64 y2] 38);have E3:=E2.below ((Yea _ _).alloc (Ye9 _) (.cells #[.int .i64 (y1:Nat),.int .i64 y2] 38));have F3:=Blk.new w1 38 #[.int .i64 (y1:Nat),.int .i64 y2]
  unfold YS;go_wp2_with fail;refine(ci y1 y2 _).out.mono ?_;rintro e w2 ⟨rfl,hb2⟩;have E4:=E3.below hb2;have F4:=F3.below hb2;have b4:=b3.trans (hb2.mono b3.size);have t0:w2.cell? ⟨w.heap.size+1,0,none⟩=some (.int .i64 0):=(E4.cell 0).trans rfl;have t1:w2.cell? ⟨w.heap.size+1,1,none⟩=some (.int .i64 0):=(E4.cell 1).trans rfl;have v0:=E4.free 0;have v1:=E4.free 1;have f0:w2.cell? ⟨w1.heap.size,0,none⟩=some (.int .i64 (y1:Nat)):=(F4.cell 0).trans rfl
  have f1:w2.cell? ⟨w1.heap.size,1,none⟩=some (.int .i64 y2):=(F4.cell 1).trans rfl;rw[hzd];go_wp2_with fail;have hmx:prog.follows .mixedOrders=true:=by kernel_rfl
  refine YeS (n:=4).1 ?_;refine Y3K (aF:= ?mA) 2 [(26,.agg #[.int .i64 (y1:Nat),.int .i64 y2]),(6,.string ⟨#[]⟩)] (fun w'=>Below w2.heap.size w2 w') ?mB hmx rfl (by kernel_rfl) (by kernel_rfl) (fun w w' h hb=>h.trans (hb.mono h.size)) (Yea _ _).drew ?mC rfl ?mD
  case mB =>
   exact Za
  case mC =>
   have z0: ∀w',Below w2.heap.size w2 w'→w'.cell? ⟨w1.heap.size,0,none⟩=some (.int .i64 (y1:Nat)):=fun w' h=>(h.cell (p:=⟨w1.heap.size,0,none⟩) F4.lt).trans f0
   have z1: ∀w',Below w2.heap.size w2 w'→w'.cell? ⟨w1.heap.size,1,none⟩=some (.int .i64 y2):=fun w' h=>(h.cell (p:=⟨w1.heap.size,1,none⟩) F4.lt).trans f1
   refine Z2Z ?_;intro hrf;refine⟨⟨by simp,fun w' h=>⟨?_,?_⟩⟩,⟨by simp,fun w' h=>⟨?_,?_⟩⟩,trivial⟩
   ·simp[go_sem,Oper.about]
   ·have q0:=z0 w' h;have q1:=z1 w' h;clear z0 z1;unfold Y76;simp[go_sem,q0,q1,hrf]
   ·simp[go_sem,Oper.about]
   ·simp[Y76,go_sem,hrf]
  case mD =>
   intro w3 hb3;refine Z47 ?_;intro E5 b5 t0 t1 v0 v1;gi_wp2;go_wp2;refine Yej (v:= .tuple #[.string (bs []),.agg #[.int .i64 (y1:Nat),.int .i64 y2]]) (by simp[results,results54,go_sem,t0,t1];rfl) rfl ?_;exact⟨by rw[HR.out];rfl,Ya (Ya b5 Z7 _ _) Z7 _ _⟩
end
end
section
open Go Go.RowKit
end
section
open Go.Proofs.Tryz
open Go Go.RowKit
theorem YH{W:World}{b b':Nat}{t:TypeId}{cs:Array Value}(h:Blk W b' t cs)(i:Nat)(u:Value)(hn:b'≠b):Blk (W.setCell ⟨b,i,none⟩ u) b' t cs:=(YeN W ⟨b,i,none⟩ u b' hn).trans h
theorem ahsC_at(xs:List (Nat×List UInt8))(k:Nat)(h:k<xs.length):(Y3U xs)[2 * k]?=some (.int .i64 ((xs.getD k (0,[])).1:Nat))∧(Y3U xs)[2 * k+1]?=some (.string (bs (xs.getD k (0,[])).2)):=by
 induction xs generalizing k with
 | nil=>simp at h
 | cons x xs ih =>
  cases k with
  | zero=>simp[Y3U]
  | succ k =>
   have:=ih k Z3o;have e:Y3U (x :: xs)= .int .i64 (x.1:Nat) :: .string (bs x.2) :: Y3U xs:=rfl;rw[e];simp only[show 2 * (k+1)=2 * k+1+1 by omega,show 2 * k+1+1+1=(2 * k+1) +1+1 by omega,YfW,List.getD_cons_succ];exact this
def Y2d(w:World)(p:Nat)(C1 C2 H1 H2 HZ:Array Value)(D:Nat→Bool)(W:World)(x y:Nat)(u5 u6 u9 u10 u11 u12:Value):Prop:=
 (Blk W p 63 C1∧Blk W (p+1) 63 C2∧Below p w W)∧((D 6=true→D 4=true)∧(D 7=true→D 5=true))∧
 ((D 0=true→u9= .pointer (some ⟨p,0,none⟩))∧(D 1=true→u10= .agg H1)∧(D 2=true→u11= .pointer (some ⟨p+1,0,none⟩))∧(D 3=true→u12= .agg H2))∧
 (D 4=true→u5= .pointer (some ⟨x,0,none⟩)∧p+1<x∧Blk W x 60 (if D 6=true then H1 else HZ))∧
 (D 5=true→u6= .pointer (some ⟨y,0,none⟩)∧p+1<y∧Blk W y 60 (if D 7=true then H2 else HZ))∧(D 4=true→D 5=true→x≠y)
section
variable {w:World}{p:Nat}{C1 C2 H1 H2 HZ:Array Value}{D:Nat→Bool}{W:World}{x y:Nat}{u5 u6 u9 u10 u11 u12:Value}(h:Y2d w p C1 C2 H1 H2 HZ D W x y u5 u6 u9 u10 u11 u12)
include h
theorem Y2d.b1:Blk W p 63 C1:=h.1.1
theorem Y2d.b2:Blk W (p+1) 63 C2:=h.1.2.1
theorem Y2d.bw:Below p w W:=h.1.2.2
theorem Y2d.s9(e:D 0=true):u9= .pointer (some ⟨p,0,none⟩):=h.2.2.1.1 e
theorem Y2d.s10(e:D 1=true):u10= .agg H1:=h.2.2.1.2.1 e
theorem Y2d.s11(e:D 2=true):u11= .pointer (some ⟨p+1,0,none⟩):=h.2.2.1.2.2.1 e
theorem Y2d.s12(e:D 3=true):u12= .agg H2:=h.2.2.1.2.2.2 e
theorem Y2d.s5(e:D 4=true):u5= .pointer (some ⟨x,0,none⟩):=(h.2.2.2.1 e).1
theorem Y2d.s6(e:D 5=true):u6= .pointer (some ⟨y,0,none⟩):=(h.2.2.2.2.1 e).1
theorem Y2d.x5(e:D 4=true)(k:D 6=false):Blk W x 60 HZ:=by
 have:=(h.2.2.2.1 e).2.2
 rwa [k,Yed Z2t]at this
theorem Y2d.y5(e:D 5=true)(k:D 7=false):Blk W y 60 HZ:=by
 have:=(h.2.2.2.2.1 e).2.2
 rwa [k,Yed Z2t]at this
theorem Y2d.x6(e:D 4=true)(k:D 6=true):p+1<x∧Blk W x 60 H1:=by
 have:=(h.2.2.2.1 e).2
 rwa [k,Yei rfl]at this
theorem Y2d.y6(e:D 5=true)(k:D 7=true):p+1<y∧Blk W y 60 H2:=by
 have:=(h.2.2.2.2.1 e).2
 rwa [k,Yei rfl]at this
theorem Y2d.op0:Y2d w p C1 C2 H1 H2 HZ (also D 0) W x y u5 u6 (.pointer (some ⟨p,0,none⟩)) u10 u11 u12:=by
 obtain⟨h1,h2,⟨i0,i1,i2,i3⟩,h4,h5,h6⟩:=h;exact⟨h1,h2,⟨fun _=>rfl,i1,i2,i3⟩,h4,h5,h6⟩
theorem Y2d.op1:Y2d w p C1 C2 H1 H2 HZ (also D 1) W x y u5 u6 u9 (.agg H1) u11 u12:=by
 obtain⟨h1,h2,⟨i0,i1,i2,i3⟩,h4,h5,h6⟩:=h;exact⟨h1,h2,⟨i0,fun _=>rfl,i2,i3⟩,h4,h5,h6⟩
theorem Y2d.op2:Y2d w p C1 C2 H1 H2 HZ (also D 2) W x y u5 u6 u9 u10 (.pointer (some ⟨p+1,0,none⟩)) u12:=by
 obtain⟨h1,h2,⟨i0,i1,i2,i3⟩,h4,h5,h6⟩:=h;exact⟨h1,h2,⟨i0,i1,fun _=>rfl,i3⟩,h4,h5,h6⟩
theorem Y2d.op3:Y2d w p C1 C2 H1 H2 HZ (also D 3) W x y u5 u6 u9 u10 u11 (.agg H2):=by
 obtain⟨h1,h2,⟨i0,i1,i2,i3⟩,h4,h5,h6⟩:=h;exact⟨h1,h2,⟨i0,i1,i2,fun _=>rfl⟩,h4,h5,h6⟩
theorem Y2d.op4(h4:D 4=false):Y2d w p C1 C2 H1 H2 HZ (also D 4) (W.alloc (.cells HZ 60)) W.heap.size y (.pointer (some ⟨W.heap.size,0,none⟩)) u6 u9 u10 u11 u12:=by
 obtain⟨⟨p1,p2,hW⟩,⟨h64,h75⟩,i,-,h5,-⟩:=h
 have h6:D 6=false:=by
  cases h:D 6
  ·rfl
  ·rw[h64 h]at h4
   cases h4
 have hA:=(Yea W.heap.size W).alloc (Ye9 _) (.cells HZ 60);have l2:=p2.lt;refine⟨⟨p1.below hA,p2.below hA,hW.alloc Z7 _⟩,⟨fun _=>rfl,h75⟩,i,fun _=>⟨rfl,l2,?_⟩,fun h=> ?_,fun _ h=> ?_⟩
 ·have e:also D 4 6=false:=h6;rw[e];exact Blk.new W _ _
 ·obtain⟨a,b,c⟩:=h5 h;exact⟨a,b,c.below hA⟩
 ·obtain⟨a,b,c⟩:=h5 h;have:=c.lt;exact Z7
theorem Y2d.op5(h5:D 5=false):Y2d w p C1 C2 H1 H2 HZ (also D 5) (W.alloc (.cells HZ 60)) x W.heap.size u5 (.pointer (some ⟨W.heap.size,0,none⟩)) u9 u10 u11 u12:=by
 obtain⟨⟨p1,p2,hW⟩,⟨h64,h75⟩,i,h4,-,-⟩:=h
 have h7:D 7=false:=by
  cases h:D 7
  ·rfl
  ·rw[h75 h]at h5
   cases h5
 have hA:=(Yea W.heap.size W).alloc (Ye9 _) (.cells HZ 60);have l2:=p2.lt;refine⟨⟨p1.below hA,p2.below hA,hW.alloc Z7 _⟩,⟨h64,fun _=>rfl⟩,i,fun h=> ?_,fun _=>⟨rfl,l2,?_⟩,fun h _=> ?_⟩
 ·obtain⟨a,b,c⟩:=h4 h;exact⟨a,b,c.below hA⟩
 ·have e:also D 5 7=false:=h7;rw[e];exact Blk.new W _ _
 ·obtain⟨a,b,c⟩:=h4 h;have:=c.lt;exact Z7
end
theorem YcO{w:World}{p:Nat}{C1 C2 H2:Array Value}{D:Nat→Bool}{W:World}{x y:Nat}{u5 u6 u9 u10 u11 u12:Value}{a0 a1 a2 a3 z0 z1 z2 z3:Value}(h:Y2d w p C1 C2 #[a0,a1,a2,a3] H2 #[z0,z1,z2,z3] D W x y u5 u6 u9 u10 u11 u12)(h4:D 4=true)(h6:D 6=false):
 Y2d w p C1 C2 #[a0,a1,a2,a3] H2 #[z0,z1,z2,z3] (also D 6) ((((W.setCell ⟨x,0,none⟩ a0).setCell ⟨x,1,none⟩ a1).setCell ⟨x,2,none⟩ a2).setCell ⟨x,3,none⟩ a3) x y u5 u6 u9 u10 u11 u12:=by
 obtain⟨⟨p1,p2,hW⟩,⟨h64,h75⟩,i,hx,h5,hxy⟩:=h;obtain⟨rfl,hpx,hB⟩:=hx h4;rw[h6,Yed Z2t]at hB;refine⟨⟨YH (YH (YH (YH p1 0 a0 Z7) 1 a1 Z7) 2 a2 Z7) 3 a3 Z7,YH (YH (YH (YH p2 0 a0 Z7) 1 a1 Z7) 2 a2 Z7) 3 a3 Z7,?_⟩,⟨fun _=>h4,h75⟩,i,fun _=>⟨rfl,hpx,?_⟩,fun h=> ?_,hxy⟩
 ·iterate 4 refine Ya ?_ Z7 _ _
  exact hW
 ·exact(((hB.set 0 a0).set 1 a1).set 2 a2).set 3 a3
 ·obtain⟨a,b,c⟩:=h5 h;have hne:=(hxy h4 h).symm;exact⟨a,b,YH (YH (YH (YH c 0 a0 hne) 1 a1 hne) 2 a2 hne) 3 a3 hne⟩
theorem YcN{w:World}{p:Nat}{C1 C2 H1:Array Value}{D:Nat→Bool}{W:World}{x y:Nat}{u5 u6 u9 u10 u11 u12:Value}{a0 a1 a2 a3 z0 z1 z2 z3:Value}(h:Y2d w p C1 C2 H1 #[a0,a1,a2,a3] #[z0,z1,z2,z3] D W x y u5 u6 u9 u10 u11 u12)(h5:D 5=true)(h7:D 7=false):
 Y2d w p C1 C2 H1 #[a0,a1,a2,a3] #[z0,z1,z2,z3] (also D 7) ((((W.setCell ⟨y,0,none⟩ a0).setCell ⟨y,1,none⟩ a1).setCell ⟨y,2,none⟩ a2).setCell ⟨y,3,none⟩ a3) x y u5 u6 u9 u10 u11 u12:=by
 obtain⟨⟨p1,p2,hW⟩,⟨h64,h75⟩,i,h4,hy,hxy⟩:=h;obtain⟨rfl,hpy,hB⟩:=hy h5;rw[h7,Yed Z2t]at hB;refine⟨⟨YH (YH (YH (YH p1 0 a0 Z7) 1 a1 Z7) 2 a2 Z7) 3 a3 Z7,YH (YH (YH (YH p2 0 a0 Z7) 1 a1 Z7) 2 a2 Z7) 3 a3 Z7,?_⟩,⟨h64,fun _=>h5⟩,i,fun h=> ?_,fun _=>⟨rfl,hpy,?_⟩,hxy⟩
 ·iterate 4 refine Ya ?_ Z7 _ _
  exact hW
 ·obtain⟨a,b,c⟩:=h4 h;have hne:=hxy h h5;exact⟨a,b,YH (YH (YH (YH c 0 a0 hne) 1 a1 hne) 2 a2 hne) 3 a3 hne⟩
 ·exact(((hB.set 0 a0).set 1 a1).set 2 a2).set 3 a3
theorem YcM(op:Int)(now:Bool)(flags:Int)(v1 v2 a1 a2:Value)(vs:List Nat)(xs:List (Nat×List UInt8))(d:List UInt8)(w:World)(hv:vs.length≤1000000)(ha:xs.length≤1000000)(h1:Sl w v1 1 vs.length (Yb vs))(h2:Sl w v2 1 vs.length (Yb vs))(k1:Sl w a1 2 xs.length (Y3U xs))(k2:Sl w a2 2 xs.length (Y3U xs)):
 Calls prog 21 #[Y1a op now flags v1 a1 d,Y1a op now flags v2 a2 d] w fun e w'=>e= .returned (.bool true)∧Below w.heap.size w w':=by
 have hmx:prog.follows .mixedOrders=true:=by kernel_rfl
 have H1:=hid h1;have H2:=hid h2;have K1:=hid k1;have K2:=hid k2;obtain⟨b1,c1,rfl,_⟩:=h1;obtain⟨b2,c2,rfl,_⟩:=h2;obtain⟨e1,f1,rfl,_⟩:=k1;obtain⟨e2,f2,rfl,_⟩:=k2;unfold Y1a;go_enter func21,ntmps21;go_wp2_with fail;have P1:=(Blk.new w 63 #[.int .i64 op,.bool now,.int .i64 flags,.slice b1 vs.length c1,.slice e1 xs.length f1,.string (bs d)]);have hw1:=(Yea w.heap.size w).alloc (Ye9 _) (.cells #[.int .i64 op,.bool now,.int .i64 flags,.slice b1 vs.length c1,.slice e1 xs.length f1,.string (bs d)] 63)
 have hs1:(w.alloc (.cells #[.int .i64 op,.bool now,.int .i64 flags,.slice b1 vs.length c1,.slice e1 xs.length f1,.string (bs d)] 63)).heap.size=w.heap.size+1:=Z2t;generalize w.alloc (.cells #[.int .i64 op,.bool now,.int .i64 flags,.slice b1 vs.length c1,.slice e1 xs.length f1,.string (bs d)] 63)=w1 at *;have P2:=(Blk.new w1 63 #[.int .i64 op,.bool now,.int .i64 flags,.slice b2 vs.length c2,.slice e2 xs.length f2,.string (bs d)])
 have hw2:=(Yea w1.heap.size w1).alloc (Ye9 _) (.cells #[.int .i64 op,.bool now,.int .i64 flags,.slice b2 vs.length c2,.slice e2 xs.length f2,.string (bs d)] 63);have P1:=P1.below hw2;have hw2:=hw1.trans (hw2.mono hw1.size);rw[hs1]at P2;generalize w1.alloc (.cells #[.int .i64 op,.bool now,.int .i64 flags,.slice b2 vs.length c2,.slice e2 xs.length f2,.string (bs d)] 63)=w2 at *;clear hs1 hw1
 have hp2:=P2.lt;refine YeS (n:=4).1 ?_;refine Yaa (fun A0 D A W=> ∃ (x y:Nat) (u5 u6 u9 u10 u11 u12:Value),A=Yn A0 [(5,u5),(6,u6),(9,u9),(10,u10),(11,u11),(12,u12)]∧Y2d w w.heap.size #[.int .i64 op,.bool now,.int .i64 flags,.slice b1 vs.length c1,.slice e1 xs.length f1,.string (bs d)] #[.int .i64 op,.bool now,.int .i64 flags,.slice b2 vs.length c2,.slice e2 xs.length f2,.string (bs d)] #[.int .i64 op,.bool now,.int .i64 flags,.slice b1 vs.length c1] #[.int .i64 op,.bool now,.int .i64 flags,.slice b2 vs.length c2] #[.int .i64 0,.bool false,.int .i64 0,.slice none 0 0] D W x y u5 u6 u9 u10 u11 u12) hmx (by kernel_rfl) ⟨0,0,undef,undef,undef,undef,undef,undef,?_,⟨P1,P2,hw2.drew⟩,by simp,by simp,by simp,by simp,by simp⟩ ?_ ?_
 ·simp only[Yn,YeP,Yfn,YeF,Yf4,Yf3]
 ·refine⟨?_,?_,?_,?_,?_,?_,?_,?_,trivial⟩
  all_goals
   rintro D A W ⟨x,y,u5,u6,u9,u10,u11,u12,rfl,hI⟩ hD hdep;refine⟨by simp[go_sem,Oper.about],?_⟩
  ·simp[Yn,Y4e,go_sem];exact⟨x,y,_,_,_,_,_,_,⟨rfl,rfl,rfl,rfl,rfl,rfl⟩,hI.op0⟩
  ·have h0:D 0=true:=by
    exact Z50
   have e:=hI.s9 h0;subst e;have P1:=hI.b1;have g0:W.cell? ⟨w.heap.size,0,none⟩=some (.int .i64 op):=(P1.cell 0).trans rfl;have g1:W.cell? ⟨w.heap.size,1,none⟩=some (.bool now):=(P1.cell 1).trans rfl;have g2:W.cell? ⟨w.heap.size,2,none⟩=some (.int .i64 flags):=(P1.cell 2).trans rfl;have g3:W.cell? ⟨w.heap.size,3,none⟩=some (.slice b1 vs.length c1):=(P1.cell 3).trans rfl;simp[Yn,Y4e,go_sem,g0,g1,g2,g3]
   exact⟨x,y,_,_,_,_,_,_,⟨rfl,rfl,rfl,rfl,rfl,rfl⟩,hI.op1⟩
  ·simp[Yn,Y4e,go_sem];exact⟨x,y,_,_,_,_,_,_,⟨rfl,rfl,rfl,rfl,rfl,rfl⟩,hI.op2⟩
  ·have h0:D 2=true:=by
    exact Z50
   have e:=hI.s11 h0;subst e;have P1:=hI.b2;have g0:W.cell? ⟨w.heap.size+1,0,none⟩=some (.int .i64 op):=(P1.cell 0).trans rfl;have g1:W.cell? ⟨w.heap.size+1,1,none⟩=some (.bool now):=(P1.cell 1).trans rfl;have g2:W.cell? ⟨w.heap.size+1,2,none⟩=some (.int .i64 flags):=(P1.cell 2).trans rfl;have g3:W.cell? ⟨w.heap.size+1,3,none⟩=some (.slice b2 vs.length c2):=(P1.cell 3).trans rfl;simp[Yn,Y4e,go_sem,g0,g1,g2,g3]
   exact⟨x,y,_,_,_,_,_,_,⟨rfl,rfl,rfl,rfl,rfl,rfl⟩,hI.op3⟩
  ·simp[Yn,Y4e,go_sem];exact⟨_,y,_,_,_,_,_,_,⟨rfl,rfl,rfl,rfl,rfl,rfl⟩,hI.op4 hD⟩
  ·simp[Yn,Y4e,go_sem];exact⟨x,_,_,_,_,_,_,_,⟨rfl,rfl,rfl,rfl,rfl,rfl⟩,hI.op5 hD⟩
  ·simp[Region.binds]at hdep;have d1:D 1=true:=Z2x;have d4:D 4=true:=Z2x;clear hdep;have e:=hI.s10 d1;subst e;have e:=hI.s5 d4;subst e;have hB:=hI.x5 d4 hD;have v0:=hB.free 0;have v1:=hB.free 1;have v2:=hB.free 2;have v3:=hB.free 3;have t0:W.cell? ⟨x,0,none⟩=some (.int .i64 0):=(hB.cell 0).trans rfl;have t1:W.cell? ⟨x,1,none⟩=some (.bool false):=(hB.cell 1).trans rfl;have t2:W.cell? ⟨x,2,none⟩=some (.int .i64 0):=(hB.cell 2).trans rfl
   have t3:W.cell? ⟨x,3,none⟩=some (.slice none 0 0):=(hB.cell 3).trans rfl;simp[Yn,Y4e,go_sem,v0,v1,v2,v3,t0,t1,t2,t3];exact⟨x,y,_,_,_,_,_,_,⟨rfl,rfl,rfl,rfl,rfl,rfl⟩,YcO hI d4 hD⟩
  ·simp[Region.binds]at hdep;have d1:D 3=true:=Z2x;have d5:D 5=true:=Z2x;clear hdep;have e:=hI.s12 d1;subst e;have e:=hI.s6 d5;subst e;have hB:=hI.y5 d5 hD;have v0:=hB.free 0;have v1:=hB.free 1;have v2:=hB.free 2;have v3:=hB.free 3;have t0:W.cell? ⟨y,0,none⟩=some (.int .i64 0):=(hB.cell 0).trans rfl;have t1:W.cell? ⟨y,1,none⟩=some (.bool false):=(hB.cell 1).trans rfl;have t2:W.cell? ⟨y,2,none⟩=some (.int .i64 0):=(hB.cell 2).trans rfl
   have t3:W.cell? ⟨y,3,none⟩=some (.slice none 0 0):=(hB.cell 3).trans rfl;simp[Yn,Y4e,go_sem,v0,v1,v2,v3,t0,t1,t2,t3];exact⟨x,y,_,_,_,_,_,_,⟨rfl,rfl,rfl,rfl,rfl,rfl⟩,YcN hI d5 hD⟩
 ·rintro D A W hall ⟨x,y,u5,u6,u9,u10,u11,u12,rfl,hI⟩;have al: ∀j,j<8→D j=true:=fun j hj=>hall j (by simpa using hj)
  have e:=hI.s9 (al 0 Z7);subst e;have e:=hI.s10 (al 1 Z7);subst e;have e:=hI.s11 (al 2 Z7);subst e;have e:=hI.s12 (al 3 Z7);subst e;have e:=hI.s5 (al 4 Z7);subst e;have e:=hI.s6 (al 5 Z7);subst e;have P1:=hI.b1;have P2:=hI.b2;have hW:=hI.bw;obtain⟨hpx,hBx⟩:=hI.x6 (al 4 Z7) (al 6 Z7);obtain⟨hpy,hBy⟩:=hI.y6 (al 5 Z7) (al 7 Z7);clear hI hall al;simp only[Yn,YeP,Yfn,YeF,Yf4,Yf3]
  have H1:=hid (H1.out.below Z7 hW);have H2:=hid (H2.out.below Z7 hW);have K1:=hid (K1.out.below Z7 hW);have K2:=hid (K2.out.below Z7 hW);have x0:W.cell? ⟨x,0,none⟩=some (.int .i64 op):=(hBx.cell 0).trans rfl;have x1:W.cell? ⟨x,1,none⟩=some (.bool now):=(hBx.cell 1).trans rfl;have x2:W.cell? ⟨x,2,none⟩=some (.int .i64 flags):=(hBx.cell 2).trans rfl;have x3:W.cell? ⟨x,3,none⟩=some (.slice b1 vs.length c1):=(hBx.cell 3).trans rfl
  have y0:W.cell? ⟨y,0,none⟩=some (.int .i64 op):=(hBy.cell 0).trans rfl;have y1:W.cell? ⟨y,1,none⟩=some (.bool now):=(hBy.cell 1).trans rfl;have y2:W.cell? ⟨y,2,none⟩=some (.int .i64 flags):=(hBy.cell 2).trans rfl;have y3:W.cell? ⟨y,3,none⟩=some (.slice b2 vs.length c2):=(hBy.cell 3).trans rfl;have p4:W.cell? ⟨w.heap.size,4,none⟩=some (.slice e1 xs.length f1):=(P1.cell 4).trans rfl;have p5:W.cell? ⟨w.heap.size,5,none⟩=some (.string (bs d)):=(P1.cell 5).trans rfl
  have q4:W.cell? ⟨w.heap.size+1,4,none⟩=some (.slice e2 xs.length f2):=(P2.cell 4).trans rfl;have q5:W.cell? ⟨w.heap.size+1,5,none⟩=some (.string (bs d)):=(P2.cell 5).trans rfl;have HBx:=hid hBx;have HBy:=hid hBy;have HP1:=hid P1;have HP2:=hid P2;clear hBx hBy P1 P2 hpx hpy hw2 hp2;gi_wp2;go_wp2_with fail;go_loopw [7,60] (fun i k wr=> ∃k' q:Nat,k'≤vs.length∧k= .int .i64 k'∧wr=W.drewN q) (fun i k _=>vs.length - (intOf k).toNat)
  case atStart=>exact⟨0,0,by omega,rfl,rfl⟩
  case round =>
   obtain⟨k,q,hk,rfl,rfl⟩:=hrel;by_cases hlt:k<vs.length
   ·obtain⟨t1,o1,c1',he1,hb1,hd1⟩:=Y21 H1.out Z7;obtain⟨t2,o2,c2',he2,hb2,hd2⟩:=Y21 H2.out Z7
    cases he1
    cases he2
    obtain⟨z,hz⟩: ∃z,vs[k]?=some z:=⟨vs[k],Yec hlt⟩;have g1:=hd1 k z hz;have g2:=hd2 k z hz;clear hd1 hd2;go_wp2;go_quiet (fail);go_wp2;go_roundw
    case rel=>exact⟨k+1,_,by omega,by go_num,rfl⟩
    case measure=>exact Zw
   ·go_wp2;clear hlt hk;go_loopw [8,78] (fun i k wr=> ∃k' q:Nat,k'≤xs.length∧k= .int .i64 k'∧wr=W.drewN q) (fun i k _=>xs.length - (intOf k).toNat)
    case atStart=>exact⟨0,q,by omega,rfl,rfl⟩
    case round =>
     clear q;obtain⟨k,q,hk,rfl,rfl⟩:=hrel;by_cases hlt:k<xs.length
     ·obtain⟨b1',c1',he1,hl1,hc1⟩:=K1.out;obtain⟨b2',c2',he2,hl2,hc2⟩:=K2.out
      cases he1
      cases he2
      obtain⟨t1,o1,rfl,hd1⟩:=hc1.resolve_left Z7;obtain⟨t2,o2,rfl,hd2⟩:=hc2.resolve_left Z7;obtain⟨z1,z2⟩:=ahsC_at xs k hlt;have g1:=hd1 _ _ z1;have g2:=hd1 _ _ z2;have g3:=hd2 _ _ z1;have g4:=hd2 _ _ z2;rw[Nat.mul_comm 2 k]at g1 g2 g3 g4;simp only[←YeT]at g2 g4;clear hd1 hd2 hc1 hc2 z1 z2;generalize xs.getD k (0,[])=s at *;obtain⟨s1,s2⟩:=s;simp only at g1 g2 g3 g4;go_wp2;go_quiet (fail)
      go_wp2;go_roundw
      case rel=>exact⟨k+1,_,by omega,by go_num,rfl⟩
      case measure=>exact Zw
     ·go_wp2;go_ret;exact⟨rfl,Yfk hW _⟩
end
end Go.Proofs.YtfadikchijkcfaaGreatDoor
