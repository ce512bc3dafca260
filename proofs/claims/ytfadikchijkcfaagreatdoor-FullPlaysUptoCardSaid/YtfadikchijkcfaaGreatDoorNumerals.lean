/- The number that a value is: by the program. -/
import Derived.Test.YtfadikchijkcfaaGreatDoorParsePure
import Derived.Test.YtfadikchijkcfaaGreatDoorGather
import Derived.Test.YtfadikchijkcfaaGreatDoorSpu
import Derived.Test.YtfadikchijkcfaaGreatDoorRel
import Derived.Deep.QuietTactic
import Derived.BigQuiet
import Derived.Test.YtfadikchijkcfaaGreatDoorPUint
set_option linter.unusedVariables false
set_option linter.unusedSectionVars false
set_option linter.unusedSimpArgs false
set_option maxRecDepth 100000
set_option maxHeartbeats 4000000
namespace Go.Proofs.YtfadikchijkcfaaGreatDoor
section
open Go.Proofs.Tryz
open Go Go.RowKit
theorem zeroSet(w:World):(zeroValue 394).run prog w= .ok (.agg (Array.replicate 256 (.bool false))) w:=by kernel_rfl
theorem cutP_any(l:List UInt8)(w:World):Calls prog 185 #[.string (bs l),.string (bs [48,120])] w fun e w'=>e= .returned (.tuple #[.string (bs (if [48,120].isPrefixOf l=true then l.drop 2 else l)),.bool ([48,120].isPrefixOf l)])∧w=w':=by
 refine(Tryz.strings_CutPrefix (bs l) (bs [48,120]) w).mono ?_;rintro e w' ⟨rfl,rfl⟩;refine⟨?_,rfl⟩;simp[bs,Lib.trimPrefix,Lib.hasPrefix]
theorem Y8d(l:List UInt8)(h:(l.all fun c=>decide (Y1E c<16))=true):Lib.indexAny l [95,43,45]= -1:=by
 induction l with
 | nil=>rfl
 | cons c l ih =>
  rw[List.all_cons,Yf9]at h;have hd:=YaB c (YeE h.1);rw[Lib.indexAny,ih h.2];have: [95,43,45].contains c=false:=by simp[hd.1,hd.2.1,hd.2.2]
  rw[this];rfl
theorem YdW(l:List UInt8)(w:World)(hl:l.length≤1000000)(h:(l.all fun c=>decide (Y1E c<16))=true):
 Calls prog 187 #[.string (bs l),.string (bs [95,43,45])] w fun e w'=>e= .returned (.bool false)∧Below w.heap.size w w':=by
 refine(Tryz.strings_ContainsAny zeroSet (bs l) (bs [95,43,45]) w (by rw[YJ];exact Z7) (by rw[YJ];exact Z2t) ?_ ?_).mono ?_
 ·intro j b hb
  have hm:b∈l:=by
   rw[show(bs l).data.toList=l by simp[bs]]at hb;exact Yer hb
  exact(Y53 b (YeE (Yew.1 h b hm))).2
 ·intro j b hb;rw[show(bs [95,43,45]).data.toList= [95,43,45] by simp[bs]]at hb;have hm:=Yer hb;simp only[Yf0,List.not_mem_nil,or_false]at hm;rcases hm with rfl | rfl | rfl<;>decide
 ·rintro e w' ⟨rfl,hb⟩;refine⟨?_,hb⟩;rw[show(bs l).data.toList=l by simp[bs],show(bs [95,43,45]).data.toList= [95,43,45] by simp[bs],Lib.containsAny,Y8d l h];rfl
theorem Y7k(b:Nat)(l:List UInt8)(h:(puS b 1099511627775 l).2=0):(l.all fun c=>decide (Y1E c<b))=true∧l≠ []∧Y51 b l=some (puS b 1099511627775 l).1:=by
 have hn:Y51 b l=some (puS b 1099511627775 l).1:=by unfold Y51;rw[Yei h]
 refine⟨?_,?_,hn⟩
 ·cases hq:(l.all fun c=>decide (Y1E c<b))with
  | true=>rfl
  | false=>rw[Y89 b l hq]at hn;cases hn
 ·rintro rfl;simp[puS]at h
def Y6Z(o:Option Nat)(w:World)(e:Ending)(w':World):Prop:=
 ∃n:Int,e= .returned (.tuple #[.int .i64 n,.bool o.isSome])∧(∀x,o=some x→n=(x:Int))∧Below w.heap.size w w'
theorem Z3H{P:Prop}(h:P:=by
 intro W9 hW9
 gi_wp2
 go_wp2
 go_ret2
 rw[HOO.out,HNL.out]
 exact⟨_,rfl,(fun z hz=>by cases hz;rfl),hb2.trans (hW9.mono hb2.size)⟩):P:=h
theorem Y4H(l:List UInt8)(w:World)(hl:l.length≤1000000)(hev:EV w):
 Calls prog 137 #[.string (bs l)] w fun e w'=>Y6Z (Y7p l) w e w':=by
 have cc:=fun w=>hid (cutP_any l w)
 have h22:(⟨#[48,120]⟩:ByteArray)=bs [48,120]:=rfl;have h3:(⟨#[95,43,45]⟩:ByteArray)=bs [95,43,45]:=rfl
 cases hp: [48,120].isPrefixOf l
 case true =>
  have hnl:Y7p l=Y51 16 (l.drop 2):=by
   unfold Y7p;rw[Yei (YeE ((Y4Y l).symm.trans hp))]
  rw[hp]at cc;rw[hnl];simp only[Yfw]at cc;obtain⟨t,ht⟩: ∃t,l.drop 2=t:=⟨_,rfl⟩;have htl:t.length≤1000000:=by rw[←ht,List.length_drop];exact Z7
  rw[ht]at cc ⊢;have cs:=hid (YcD 16 16 t w htl hev (fun w=>pu_16_40 t w Z7));have hle:=Yd2 16 1099511627775 t;have hd:=Y7k 16 t;have hno:(puS 16 1099511627775 t).2≠0→Y51 16 t=none:=fun h=>by unfold Y51;rw[Yed h]
  have ca:=fun h w=>hid (YdW t w htl h)
  unfold Ybo at cs;unfold Y6Z;generalize puS 16 1099511627775 t=R at *;obtain⟨x,k⟩:=R;simp only at cs hle hd hno;have HD:=hid hd;have HNO:=hid hno;clear hd hno hnl hp hev;go_enter func137,ntmps137;rw[h22];go_wp2_with fail;refine(cc _).out.mono ?_;rintro e w1 ⟨rfl,rfl⟩;go_wp2_with fail;refine cs.out.mono ?_;rintro e w2 ⟨ev,rfl,⟨hk,rfl⟩ | ⟨hk,N,rfl⟩,hb2⟩
  ·obtain⟨h1,h2,h4⟩:=HD.out hk;have ca:=fun w=>hid ((ca h1 w).out)
   have HNS:=hid h4;clear h1 h2 h4 hk;go_wp2_with fail;refine(ca _).out.mono ?_;rintro e w3 ⟨rfl,hb3⟩;go_wp2;go_ret2;rw[HNS.out];exact⟨_,rfl,fun y hy=>by cases hy;rfl,hb2.trans (hb3.mono hb2.size)⟩
  ·have HN:=hid (HNO.out hk);clear hk ca;go_wp2;go_ret2;rw[HN.out];exact⟨_,rfl,fun y hy=>(by cases hy),hb2⟩
 case false =>
  have hnl:Y7p l=if l≠ [48]∧l[0]?=some 48 then none else Y51 10 l:=by
   unfold Y7p;rw[Yed (YfQ ((Y4Y l).symm.trans hp))]
  rw[hp]at cc;rw[hnl];obtain⟨O,hO⟩: ∃O,(if l≠ [48]∧l[0]?=some 48 then none else Y51 10 l)=O:=⟨_,rfl⟩;rw[hO];have HOO:=hid hO.symm;clear hO;simp only[Bool.false_eq_true,if_false]at cc;have cs:=hid (YcD 10 10 l w hl hev (fun w=>pu_10_40 l w Z7));have hle:=Yd2 10 1099511627775 l;have hd:=Y7k 10 l;have hno:(puS 10 1099511627775 l).2≠0→Y51 10 l=none:=fun h=>by unfold Y51;rw[Yed h]
  have ca:=fun h w=>hid (YdW l w hl h)
  unfold Ybo at cs;unfold Y6Z;generalize puS 10 1099511627775 l=R at *;obtain⟨x,k⟩:=R;simp only at cs hle hd hno;have HD:=hid hd;have HNO:=hid hno;have h48:(⟨#[48]⟩:ByteArray)=bs [48]:=rfl;clear hd hno hnl hp hev;go_enter func137,ntmps137;rw[h22];go_wp2_with fail;refine(cc _).out.mono ?_;rintro e w1 ⟨rfl,rfl⟩;go_wp2_with fail;refine cs.out.mono ?_;rintro e w2 ⟨ev,rfl,⟨hk,rfl⟩ | ⟨hk,N,rfl⟩,hb2⟩
  ·obtain⟨h1,h2,h4⟩:=HD.out hk;have h16:(l.all fun c=>decide (Y1E c<16))=true:=Yew.2 fun c hc=>Yel (by have:=YeE (Yew.1 h1 c hc);exact Z7)
   have ca:=fun w=>(ca h16 w).out
   have hlen:=Ygi.2 h2;obtain⟨y,hy⟩: ∃y,l[0]?=some y:=⟨l[0],Yec hlen⟩;obtain⟨hx1,hx2⟩:=Yek.1 hy;have HNS:=hid h4;clear h1 h2 h4 h16 hk;have hmx:prog.follows .mixedOrders=true:=by kernel_rfl
   have hwx:IntKind.i64.wrap (x:Int)=(x:Int):=ZZ;have d1: ∀W:World,Below w2.heap.size w2 W→Hid (Calls prog 187 #[.string (bs l),.string (bs [95,43,45])] W fun e w'=>e= .returned (.bool false)∧Below w2.heap.size w2 w'):=fun W hW=>hid ((ca W).mono (by rintro e w' ⟨rfl,hb⟩;exact⟨rfl,hW.trans (hb.mono hW.size)⟩))
   clear ca;by_cases hl48:l= [48]
   ·have HNL:=hid (show(if l≠ [48]∧l[0]?=some 48 then none else Y51 10 l)=some x by rw[Yed (by simp[hl48]),HNS.out]);have hbe:(l == [48])=true:=by rw[hl48];rfl
    clear hl48 hy hx2;go_wp2_with fail;refine YeS (n:=4).1 ?_;refine Y46 (aF:= ?kAa) [(35,.int .u64 (x:Int)),(36,.int .i64 (x:Int)),(37,.nilIface),(38,.bool true),(39,.bool true),(40,.string (bs l)),(41,.bool false),(42,.bool true),(43,.bool true),(44,.bool true),(45,.string (bs l)),(46,.bool true),(47,.bool true),(48,undef),(49,undef),(50,undef),(51,.bool true),(52,.bool true),(2,.int .i64 (x:Int)),(3,.bool true)] (fun W=>Below w2.heap.size w2 W) ?kBa hmx (by kernel_rfl) (by kernel_rfl) (Yea _ _).drew ?kCa ?kDa
    case kBa =>
     exact Za
    case kCa =>
     refine⟨?_,?_,?_,?_,?_,?_,?_,?_,?_,?_,?_,?_,?_,?_,?_,?_,?_,?_,?_,?_,trivial⟩
     all_goals refine⟨fun d hd=>by simp at hd<;> (subst hd;simp),?_⟩
     all_goals first
      | refine .inl ⟨by first | exact trivial | exact⟨by simp,rfl⟩,fun W h=>⟨?_,?_⟩⟩
      | refine .inr ⟨⟨by simp,rfl⟩,fun d hd=>by simp at hd<;> (subst hd;rfl),fun W h f hf=>by first | (simp[go_sem,Oper.about]at hf;done) | trivial⟩
      | refine .inr ⟨⟨by simp,rfl⟩,fun d hd=>by simp at hd<;> (subst hd;rfl),fun W h f hf=>trivial⟩
     all_goals first
      | (simp[go_sem,Oper.about];done)
      | (simp[go_sem,Oper.about];exact trivial)
      | skip
     all_goals first
      | (simp[Y9D,go_sem,h,hwx,hbe,h48,hlen];done)
      | (simp[Y9D,go_sem];refine Yez.2 ((d1 _ h).out.mono ?_);rintro e w' ⟨rfl,hb⟩;exact⟨_,rfl,rfl,hb⟩)
      | skip
    case kDa =>
     exact Z3H
   ·have hbe:(l == [48])=false:=Yen.2 hl48;by_cases hy48:y=48
    ·have HNL:=hid (show(if l≠ [48]∧l[0]?=some 48 then none else Y51 10 l)=none by rw[Yei ⟨hl48,by rw[hy,hy48]⟩]);have hyx:l[0]=48:=by rw[hx2,hy48]
     clear hl48 hy hx2;go_wp2_with fail;refine YeS (n:=4).1 ?_;refine Y46 (aF:= ?kAb) [(35,.int .u64 (x:Int)),(36,.int .i64 (x:Int)),(37,.nilIface),(38,.bool true),(39,.bool true),(40,.string (bs l)),(41,.bool false),(42,.bool true),(43,.bool true),(44,.bool true),(45,.string (bs l)),(46,.bool false),(47,.bool false),(48,.string (bs l)),(49,.int .u8 48),(50,.bool false),(51,.bool false),(52,.bool false),(2,.int .i64 (x:Int)),(3,.bool false)] (fun W=>Below w2.heap.size w2 W) ?kBb hmx (by kernel_rfl) (by kernel_rfl) (Yea _ _).drew ?kCb ?kDb
     case kBb =>
      exact Za
     case kCb =>
      refine⟨?_,?_,?_,?_,?_,?_,?_,?_,?_,?_,?_,?_,?_,?_,?_,?_,?_,?_,?_,?_,trivial⟩
      all_goals refine⟨fun d hd=>by simp at hd<;> (subst hd;simp),?_⟩
      all_goals first
       | refine .inl ⟨by first | exact trivial | exact⟨by simp,rfl⟩,fun W h=>⟨?_,?_⟩⟩
       | refine .inr ⟨⟨by simp,rfl⟩,fun d hd=>by simp at hd<;> (subst hd;rfl),fun W h f hf=>by first | (simp[go_sem,Oper.about]at hf;done) | trivial⟩
       | refine .inr ⟨⟨by simp,rfl⟩,fun d hd=>by simp at hd<;> (subst hd;rfl),fun W h f hf=>trivial⟩
      all_goals first
       | (simp[go_sem,Oper.about];done)
       | (simp[go_sem,Oper.about];exact trivial)
       | skip
      all_goals first
       | (simp[Y9D,go_sem,h,hwx,hbe,h48,hlen,hyx];done)
       | (simp[Y9D,go_sem];refine Yez.2 ((d1 _ h).out.mono ?_);rintro e w' ⟨rfl,hb⟩;exact⟨_,rfl,rfl,hb⟩)
       | skip
     case kDb =>
      intro W9 hW9;gi_wp2;go_wp2;go_ret2;rw[HOO.out,HNL.out];exact⟨_,rfl,(fun z hz=>by cases hz),hb2.trans (hW9.mono hb2.size)⟩
    ·have HNL:=hid (show(if l≠ [48]∧l[0]?=some 48 then none else Y51 10 l)=some x by rw[Yed (by rw[hy];simp[hy48]),HNS.out]);have hyx:l[0]=y:=hx2
     have hyn:((y.toNat:Int) == 48)=false:=by
      rw[Yen];intro e;exact hy48 (UInt8.toNat_inj.1 (by show y.toNat=48;exact Z7))
     have hyn2:((y.toNat:Int) !=48)=true:=by rw[bne,hyn];rfl
     clear hl48 hy hx2;go_wp2_with fail;refine YeS (n:=4).1 ?_;refine Y46 (aF:= ?kAc) [(35,.int .u64 (x:Int)),(36,.int .i64 (x:Int)),(37,.nilIface),(38,.bool true),(39,.bool true),(40,.string (bs l)),(41,.bool false),(42,.bool true),(43,.bool true),(44,.bool true),(45,.string (bs l)),(46,.bool false),(47,.bool false),(48,.string (bs l)),(49,.int .u8 (y.toNat:Int)),(50,.bool true),(51,.bool true),(52,.bool true),(2,.int .i64 (x:Int)),(3,.bool true)] (fun W=>Below w2.heap.size w2 W) ?kBc hmx (by kernel_rfl) (by kernel_rfl) (Yea _ _).drew ?kCc ?kDc
     case kBc =>
      exact Za
     case kCc =>
      refine⟨?_,?_,?_,?_,?_,?_,?_,?_,?_,?_,?_,?_,?_,?_,?_,?_,?_,?_,?_,?_,trivial⟩
      all_goals refine⟨fun d hd=>by simp at hd<;> (subst hd;simp),?_⟩
      all_goals first
       | refine .inl ⟨by first | exact trivial | exact⟨by simp,rfl⟩,fun W h=>⟨?_,?_⟩⟩
       | refine .inr ⟨⟨by simp,rfl⟩,fun d hd=>by simp at hd<;> (subst hd;rfl),fun W h f hf=>by first | (simp[go_sem,Oper.about]at hf;done) | trivial⟩
       | refine .inr ⟨⟨by simp,rfl⟩,fun d hd=>by simp at hd<;> (subst hd;rfl),fun W h f hf=>trivial⟩
      all_goals first
       | (simp[go_sem,Oper.about];done)
       | (simp[go_sem,Oper.about];exact trivial)
       | skip
      all_goals first
       | (simp[Y9D,go_sem,h,hwx,hbe,h48,hlen,hyx,hyn,hyn2];done)
       | (simp[Y9D,go_sem];refine Yez.2 ((d1 _ h).out.mono ?_);rintro e w' ⟨rfl,hb⟩;exact⟨_,rfl,rfl,hb⟩)
       | skip
     case kDc =>
      exact Z3H
  ·have HN:=hid (show(if l≠ [48]∧l[0]?=some 48 then none else Y51 10 l)=none by rw[HNO.out hk];split<;>rfl);clear hk ca;go_wp2;go_quiet (fail);go_wp2;go_ret2;rw[HOO.out,HN.out];exact⟨_,rfl,fun y hy=>(by cases hy),Yfk hb2 _⟩
end
section
open Go.Proofs.Tryz
open Go Go.RowKit
section
variable (l:List UInt8)(low high:Int)(w:World)(hl:l.length≤1000000)(h0: -9223372036854775808≤low)(h1:low≤9223372036854775807)(g0: -9223372036854775808≤high)(g1:high≤9223372036854775807)
include hl h0 h1 g0 g1
theorem Y5O(hev:EV w):Calls prog 86 #[.string (bs l),.int .i64 low,.int .i64 high] w fun e w'=>e= .returned (.tuple #[.int .i64 (Y1D l low high).1,errV 36 (Y1D l low high).2])∧Below w.heap.size w w':=by
 have c:=hid (Y4H l w hl hev);unfold Y6Z at c;clear hev
 cases hn:Y7p l with
 | none =>
  have hp:Y1D l low high=(0,3):=by unfold Y1D;rw[hn]
  rw[hp];rw[hn]at c;clear hp hn;go_enter func86,ntmps86;go_wp2_with fail;refine c.out.mono ?_;rintro e w1 ⟨n,rfl,_,hb⟩;go_wp2;go_ret2;exact⟨rfl,hb⟩
 | some x =>
  have hle:=Y88 l x hn;rw[hn]at c;by_cases hr:(x:Int) < low∨high< (x:Int)
  ·have hp:Y1D l low high=(0,2):=by unfold Y1D;rw[hn];exact Yei hr
   rw[hp];clear hp hn;by_cases hr1:(x:Int) < low
   ·go_enter func86,ntmps86;go_wp2_with fail;refine c.out.mono ?_;rintro e w1 ⟨n,rfl,hnx,hb⟩;obtain rfl:=hnx x rfl;clear hr hnx;go_wp2;go_ret2;exact⟨rfl,hb⟩
   ·have hr2:high< (x:Int):=by rcases hr with h | h<;>omega
    go_enter func86,ntmps86;go_wp2_with fail;refine c.out.mono ?_;rintro e w1 ⟨n,rfl,hnx,hb⟩;obtain rfl:=hnx x rfl;clear hr hnx;go_wp2;go_ret2;exact⟨rfl,hb⟩
  ·have hp:Y1D l low high=((x:Int),0):=by unfold Y1D;rw[hn];exact Yed hr
   rw[hp];have hr1:low≤(x:Int):=Z7;have hr2:(x:Int)≤high:=Z7;clear hp hn;go_enter func86,ntmps86;go_wp2_with fail;refine c.out.mono ?_;rintro e w1 ⟨n,rfl,hnx,hb⟩;obtain rfl:=hnx x rfl;clear hr hnx;go_wp2;go_ret2;exact⟨rfl,hb⟩
theorem Y4V:Calls prog 81 #[.string (bs l),.int .i64 low,.int .i64 high] w fun e w'=>e= .returned (.tuple #[.int .i64 (Y1D l low high).1,.int .i64 ((Y1D l low high).2:Nat)])∧Below w.heap.size w w':=by
 have c:=hid (Y42 l w hl)
 cases hn:Y7p l with
 | none =>
  have hp:Y1D l low high=(0,3):=by unfold Y1D;rw[hn]
  rw[hp];rw[hn]at c;simp only[numI]at c;clear hp hn;go_enter func81,ntmps81;go_wp2_with fail;refine c.out.mono ?_;rintro e w1 ⟨rfl,hb⟩;go_wp2;go_ret2;exact⟨rfl,hb⟩
 | some x =>
  have hle:=Y88 l x hn;rw[hn]at c;simp only[numI]at c;by_cases hr:(x:Int) < low∨high< (x:Int)
  ·have hp:Y1D l low high=(0,2):=by unfold Y1D;rw[hn];exact Yei hr
   rw[hp];have cw:=fun w=>hid (YZ (x:Int) low high w Z7)
   clear hp hn;go_enter func81,ntmps81;go_wp2_with fail;refine c.out.mono ?_;rintro e w1 ⟨rfl,hb⟩;go_wp2_with fail;refine(cw _).out.mono ?_;rintro e w2 ⟨rfl,rfl⟩;go_wp2;go_ret2;exact⟨rfl,hb⟩
  ·have hp:Y1D l low high=((x:Int),0):=by unfold Y1D;rw[hn];exact Yed hr
   rw[hp];have cw:=fun w=>hid (YK (x:Int) low high w Z7 Z7)
   clear hp hn;go_enter func81,ntmps81;go_wp2_with fail;refine c.out.mono ?_;rintro e w1 ⟨rfl,hb⟩;go_wp2_with fail;refine(cw _).out.mono ?_;rintro e w2 ⟨rfl,rfl⟩;go_wp2;go_ret2;exact⟨rfl,hb⟩
end
end
end Go.Proofs.YtfadikchijkcfaaGreatDoor
