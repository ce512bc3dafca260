/- What is wrong with pairs, by the document. -/
import Derived.Test.YtfadikchijkcfaaGreatDoorParsePure
import Derived.Test.YtfadikchijkcfaaGreatDoorPairFind
import Derived.Test.YtfadikchijkcfaaGreatDoorGather
import Derived.Test.YtfadikchijkcfaaGreatDoorThick
import Derived.Test.YtfadikchijkcfaaGreatDoorShelfL
import Derived.Test.YtfadikchijkcfaaGreatDoorShelfW
import Derived.Deep.QuietTactic
import Derived.BigQuiet
import Derived.StillTailTactics
set_option linter.unusedVariables false
set_option linter.unusedSectionVars false
set_option linter.unusedSimpArgs false
set_option maxRecDepth 100000
set_option maxHeartbeats 4000000
namespace Go.Proofs.YtfadikchijkcfaaGreatDoor
section
open Go.Proofs.Tryz
open Go.RowKit
def Y3W(l:PL)(w:World)(e:Ending)(w':World):Prop:=e= .returned (YS (Yc l).1 (Yc l).2)∧Below w.heap.size w w'
def RPRightR(l:PL)(w:World)(i:Value)(wr:World):Prop:=
 ∃k:Nat,k≤l.length∧i= .int .i64 (k:Nat)∧Yc l=Y2b (l.drop k) k∧Below w.heap.size w wr∧w.heap.size<wr.heap.size∧
  wr.heap[w.heap.size]?=some (.cells #[.int .i64 0,.int .i64 0] 38 (0,0))
theorem Z1P{P Q:Prop}(k:Q)(h:Q→P:=by
 have q0:w1.cell? ⟨w.heap.size,0,none⟩=some (.int .i64 0):=(hb1.cell (p:=⟨w.heap.size,0,none⟩) Z2t).trans Z2t
 have q1:w1.cell? ⟨w.heap.size,1,none⟩=some (.int .i64 0):=(hb1.cell (p:=⟨w.heap.size,1,none⟩) Z2t).trans Z2t
 have f0:w1.frozen? ⟨w.heap.size,0,none⟩=false:=(hb1.frozen (p:=⟨w.heap.size,0,none⟩) Z2t).trans Z2t
 have f1:w1.frozen? ⟨w.heap.size,1,none⟩=false:=(hb1.frozen (p:=⟨w.heap.size,1,none⟩) Z2t).trans Z2t
 refine fun z_=>?_
 revert f1;revert f0;revert q1;revert q0
 exact z_):P:=h k
theorem Z3m{P:Prop}(h:P:=by
 simp[results,results34,go_sem,q0,q1]):P:=h
theorem Z49{P:Prop}(h:P:=by
 exact((((Yea _ _).alloc (Ye9 _) _).trans (hb1.mono Z2t)).setCell (Ye9 _) _).setCell (Ye9 _) _):P:=h
theorem Y33(v:Value)(l:PL)(w:World)(h:PSl w v l)(hbd:PBd l):
 Calls prog 34 #[v] w fun e w'=>Y3W l w e w':=by
 obtain⟨hn,hlen⟩:=hbd;by_cases h60:60<l.length
 ·have hR:Yc l=(4,-1):=by rw[Yc,Yei h60]
  have HR:=hid hR;clear hR;rcases h.open_ with ⟨rfl,_⟩ | ⟨h0,b,o,c,rfl,_,_⟩
  ·simp at h60
  clear h;have h60':decide ((60:Int) < (l.length:Int))=true:=Yel Z7;go_enter func34,ntmps34;go_wp2_with (go_at_call 71;refine(Y27 _ _).mono ?_;rintro e w1 ⟨rfl,hb1⟩;refine Z1P ?_;intro q0 q1 f0 f1);refine Yej (v:= .agg #[.int .i64 4,.int .i64 (-1)]) Z3m rfl ?_;refine⟨by rw[HR.out];rfl,?_⟩;exact Z49
 have hR:Yc l=Y2b l 0:=by rw[Yc,Yed h60]
 rcases h.open_ with ⟨rfl,a,c,rfl⟩ | ⟨h0,b,o,c,rfl,hbl,hcell⟩
 ·clear h hR hlen;go_enter func34,ntmps34;go_wp2;refine Yf7 1 ?_;rw[Yf5];go_wp2_with (go_at_call 36;refine(Y1O _).mono ?_;rintro e w1 ⟨rfl,hb1⟩;refine Z1P ?_;intro q0 q1 f0 f1);refine Yej (v:= .agg #[.int .i64 0,.int .i64 (-1)]) Z3m rfl ?_;refine⟨rfl,?_⟩;exact Z49
 clear h;have Hcell:=hid hcell;clear hcell;have HR:=hid hR;clear hR;have Hlen:=hid hlen;clear hlen;have h60':decide ((60:Int) < (l.length:Int))=false:=Yeh Z7;go_enter func34,ntmps34;go_wp2;go_loopw [10] (fun i wr=>RPRightR l w i wr) (fun i _=>l.length - (intOf i).toNat)
 case atStart=>exact⟨0,by omega,rfl,by rw[HR.out];rfl,(Yea _ _).alloc (Ye9 _) _,by simp,YeC _ _⟩
 case round =>
  obtain⟨k,hk,rfl,heq,hb,hsz,hblk⟩:=hrel;have hB:=hb.size;refine Z10 ?_;intro q0 q1 f0 f1;by_cases hlt:k<l.length
  ·refine Z1x ?_;intro c0 c1 g0 g1;obtain⟨hd0,hd1⟩:=Hlen.out k;rw[Y5L l k hlt]at heq;clear c0 c1;generalize l.getD k ([],[])=x at *;obtain⟨x1,x2⟩:=x;simp only at *;have c1:=fun w=>hid (YaT x1 w hd0)
   have c2:=fun w=>hid (Y5n x2 w hd1)
   have Hblk:=hid hblk;clear hblk;have hbw:b<wr.heap.size:=Yee hbl hB
   cases hk1:Y2G x1 with
   | false =>
    rw[hk1]at c1;rw[hk1,Yei rfl]at heq;have Heq:=hid heq;clear heq hk1;go_wp2_with (go_at_call 79;refine(c1 _).out.mono ?_;rintro e w1 ⟨rfl,hb1⟩;refine ZJ ?_;intro q0 q1 f0 f1);refine Yej (v:= .agg #[.int .i64 5,.int .i64 (k:Nat)]) Z3m rfl ?_;refine⟨by rw[Heq.out];rfl,((hb.trans (hb1.mono hB)).setCell (Ye9 _) _).setCell (Ye9 _) _⟩
   | true =>
    rw[hk1]at c1;rw[hk1,Yed Z2t]at heq
    cases hv2:YV x2 with
    | false =>
     rw[hv2]at c2;rw[hv2,Yei rfl]at heq;have Heq:=hid heq;clear heq hk1 hv2;go_wp2_with (go_at_call 79;refine(c1 _).out.mono ?_;rintro e w1 ⟨rfl,hb1⟩;refine ZJ ?_;intro q0 q1 f0 f1;have g1:=(hb1.cell (p:=⟨b,o+k * 2+1,none⟩) hbw).trans g1;have hsz:=Yee hsz hb1.size;clear c1);go_wp2_with (go_at_call 80;refine(c2 _).out.mono ?_;rintro e w2 ⟨rfl,hb2⟩;have q0:=(hb2.cell (p:=⟨w.heap.size,0,none⟩) hsz).trans q0;have q1:=(hb2.cell (p:=⟨w.heap.size,1,none⟩) hsz).trans q1;have f0:=(hb2.frozen (p:=⟨w.heap.size,0,none⟩) hsz).trans f0;have f1:=(hb2.frozen (p:=⟨w.heap.size,1,none⟩) hsz).trans f1)
     refine Yej (v:= .agg #[.int .i64 3,.int .i64 (k:Nat)]) Z3m rfl ?_;have hbB:=hb.trans (hb1.mono hB);refine⟨by rw[Heq.out];rfl,((hbB.trans (hb2.mono hbB.size)).setCell (Ye9 _) _).setCell (Ye9 _) _⟩
    | true =>
     rw[hv2]at c2;rw[hv2,Yed Z2t]at heq;have Heq:=hid heq;clear heq hk1 hv2;go_wp2_with (go_at_call 79;refine(c1 _).out.mono ?_;rintro e w1 ⟨rfl,hb1⟩;have g1:=(hb1.cell (p:=⟨b,o+k * 2+1,none⟩) hbw).trans g1;clear c1);go_wp2_with (go_at_call 80;refine(c2 _).out.mono ?_;rintro e w2 ⟨rfl,hb2⟩);have hbB:=hb.trans (hb1.mono hB);have hbC:=hbB.trans (hb2.mono hbB.size);go_roundw
     case rel=>exact⟨k+1,by omega,by go_num,Heq.out,hbC,Yee hsz (Yeu hb1.size hb2.size),(hb2.block _ (Yee hsz hb1.size)).trans ((hb1.block _ hsz).trans Hblk.out)⟩
     case measure=>exact Zw
  ·obtain rfl:k=l.length:=Z7;have Heq:=hid heq;clear heq;have Hblk:=hid hblk;clear hblk;go_wp2_with (go_at_call 36;refine(Y1O _).mono ?_;rintro e w1 ⟨rfl,hb1⟩;refine ZJ ?_;intro q0 q1 f0 f1);refine Yej (v:= .agg #[.int .i64 0,.int .i64 (-1)]) Z3m rfl ?_;refine⟨by rw[Heq.out,YeX];rfl,((hb.trans (hb1.mono hB)).setCell (Ye9 _) _).setCell (Ye9 _) _⟩
end
section
open Go.Proofs.Tryz
open Go.RowKit
def Y1H:PL→List UInt8
 | []=> []
 | p :: l=>(p.1 ++ (61 :: (p.2 ++ [0]))) ++ Y1H l
theorem Y6x(l:PL)(k:Nat)(h:k<l.length):Y1H (l.drop k)=((l.getD k ([],[])).1 ++ (61 :: ((l.getD k ([],[])).2 ++ [0]))) ++ Y1H (l.drop (k+1)):=by
 rw[Y3E l k ([],[]) h,Y1H]
theorem Y9g(l:List UInt8)(h:Y2G l=true):l.length≤63:=by
 unfold Y2G at h;simp at h;exact Z7
theorem Y6H(l:List UInt8)(h:YV l=true):l.length≤255:=by
 unfold YV at h;simp at h;exact Z7
theorem Y96(l:PL)(i:Nat)(h:(Y2b l i).1=0):Y2b l i=(0,-1)∧ ∀k,(l.getD k ([],[])).1.length≤63∧(l.getD k ([],[])).2.length≤255:=by
 induction l generalizing i with
 | nil=>exact⟨rfl,fun k=>by simp⟩
 | cons p l ih =>
  rw[Y2b]at h ⊢;by_cases h1:Y2G p.1=false
  ·rw[Yei h1]at h;simp at h
  ·rw[Yed h1]at h ⊢;by_cases h2:YV p.2=false
   ·rw[Yei h2]at h;simp at h
   ·rw[Yed h2]at h ⊢;obtain⟨e,hk⟩:=ih _ h;refine⟨e,fun k=> ?_⟩
    cases k with
    | zero=>exact⟨Y9g _ Z4q,Y6H _ Z4K⟩
    | succ k=>exact hk k
theorem Y39(l:PL)(h:(Yc l).1=0):Yc l=(0,-1)∧l.length≤60∧ ∀k,(l.getD k ([],[])).1.length≤63∧(l.getD k ([],[])).2.length≤255:=by
 unfold Yc at h ⊢;by_cases h60:60<l.length
 ·rw[Yei h60]at h;simp at h
 ·rw[Yed h60]at h ⊢;have:=Y96 l 0 h;exact⟨this.1,by omega,this.2⟩
def Y5B(l:PL)(w:World)(e:Ending)(w':World):Prop:=
 (∃er,e= .returned (.tuple #[.string (bs (if(Yc l).1=0 then Y1H l else [])),er])∧Y1c w' er (Yc l).1 (Yc l).2)∧Below w.heap.size w w'
def RPPrint(l:PL)(w w1:World)(i:Value)(wr:World):Prop:=
 ∃ (k:Nat) (acc:List UInt8),k≤l.length∧acc.length≤400 * k∧i= .int .i64 (k:Nat)∧Y1H l=acc ++ Y1H (l.drop k)∧
  Lib.IsBuilderF 283 5 w1.heap.size w1.heap.size (Lib.byteCells acc) wr∧Below w1.heap.size w1 wr
theorem Y9R(l:List UInt8):Lib.strCells (bs l)=Lib.byteCells l:=by rw[Lib.strCells_eq];simp[bs]
theorem Y6U(w:World):Lib.IsBuilderF 283 5 w.heap.size w.heap.size [] (w.alloc (.cells #[.pointer none,.slice none 0 0] 283)):=
 .inl ⟨Ye9 _,_,YeC _ _,⟨rfl,.inl ⟨rfl,rfl⟩⟩,by simp[Value.ownBlock]⟩
theorem Yd4(v:Value)(l:PL)(w:World)(h:PSl w v l)(hbd:PBd l):
 Calls prog 117 #[v] w fun e w'=>Y5B l w e w':=by
 have c1:=hid (Y22 v l w h hbd);by_cases hz:(Yc l).1=0
 ·obtain⟨hR,h60,hlen⟩:=Y39 l hz;unfold Y2B at c1;rw[hR]at c1;have HR:=hid hR;clear hR hz;rcases h.open_ with ⟨rfl,a,c,rfl⟩ | ⟨h0,b,o,c,rfl,hbl,hcell⟩
  ·clear h hlen;go_enter func117,ntmps117;go_wp2_with fail;refine c1.out.mono ?_;rintro e w1 ⟨⟨er,rfl,her⟩,hb1⟩;obtain rfl:=Y4L her;go_wp2_with fail;have hbd:=Y6U w1;refine Yf7 1 ?_;rw[Yf5];go_wp2_with fail;refine(Tryz.Builder_String_any_k w1.heap.size w1.heap.size [] _ hbd Z2t).mono ?_;rintro e w2 ⟨rfl,hB2,hb2,_⟩;go_wp2;go_ret2;refine⟨⟨.nilIface,rfl,?_⟩,hb1.trans (((Yea w1.heap.size w1).alloc (Ye9 _) _).trans hb2 |>.mono hb1.size)⟩
   rw[HR.out];exact .nil
  clear h;have Hcell:=hid hcell;clear hcell;have Hlen:=hid hlen;clear hlen;have e61:(⟨#[61]⟩:ByteArray)=bs [61]:=rfl;have e00:(⟨#[0]⟩:ByteArray)=bs [0]:=rfl;go_enter func117,ntmps117;go_wp2_with fail;refine c1.out.mono ?_;rintro e w1 ⟨⟨er,rfl,her⟩,hb1⟩;obtain rfl:=Y4L her;clear c1;go_wp2_with fail;have hbd:=Y6U w1;have hbl1:b<w1.heap.size:=Yee hbl hb1.size;go_loopw [15] (fun i wr=>RPPrint l w w1 i wr) (fun i _=>l.length - (intOf i).toNat)
  case atStart=>exact⟨0,[],by omega,by simp,rfl,rfl,hbd,(Yea _ _).alloc (Ye9 _) _⟩
  case round =>
   obtain⟨k,acc,hk,hac,rfl,heq,hB,hb⟩:=hrel;have hsz:=hb.size;by_cases hlt:k<l.length
   ·obtain⟨c0,c1⟩:=Hcell.out k hlt;have g0:=(hb.cell (p:=⟨b,o+k * 2,none⟩) hbl1).trans ((hb1.cell (p:=⟨b,o+k * 2,none⟩) hbl).trans c0);have g1:=(hb.cell (p:=⟨b,o+k * 2+1,none⟩) hbl1).trans ((hb1.cell (p:=⟨b,o+k * 2+1,none⟩) hbl).trans c1);obtain⟨hd0,hd1⟩:=Hlen.out k;rw[Y6x l k hlt]at heq;clear c0 c1;generalize l.getD k ([],[])=x at *;obtain⟨x1,x2⟩:=x;simp only at *;have Heq:=hid heq;clear heq
    go_wp2_with fail;refine(Tryz.Builder_WriteString_k w1.heap.size w1.heap.size (Lib.byteCells acc) (bs (x1 ++ (61 :: (x2 ++ [0])))) _ (hB.alloc _) ?_ ?_).mono ?_
    ·rw[YJ,Lib.byteCells_length];exact Zd
    ·exact Zd
    rintro e w2 ⟨rfl,hB2,hb2,_⟩;rw[Y9R,←Lib.byteCells_append]at hB2;go_wp2;go_roundw
    case rel=>exact⟨k+1,acc ++ (x1 ++ (61 :: (x2 ++ [0]))),by omega,by simp;omega,by go_num,by rw[Heq.out];simp,.inr hB2,(hb.alloc hsz _).trans hb2⟩
    case measure=>exact Zw
   ·obtain rfl:k=l.length:=Z7;have Heq:=hid heq;clear heq;go_wp2_with fail;refine(Tryz.Builder_String_any_k w1.heap.size w1.heap.size acc _ hB hsz).mono ?_;rintro e w2 ⟨rfl,hB2,hb2,_⟩;go_wp2;go_ret2;refine⟨⟨.nilIface,?_,?_⟩,hb1.trans ((hb.trans hb2).mono hb1.size)⟩
    ·rw[HR.out,Yei rfl,Heq.out,YeX,Y1H,Yfd];rfl
    ·rw[HR.out];exact .nil
 ·unfold Y2B at c1;unfold Y5B;rw[Yed hz];generalize (Yc l).1=k at *;generalize (Yc l).2=pl at *;go_enter func117,ntmps117;go_wp2_with fail;refine c1.out.mono ?_;rintro e w1 ⟨⟨er,rfl,her⟩,hb1⟩;clear c1
  cases her with
  | nil=>exact absurd rfl hz
  | bare k hk =>
   have her:=Y1c.bare (w:=w1) k hk;clear hz hk;go_wp2;go_ret2;exact⟨⟨_,rfl,her⟩,hb1⟩
  | at_ k hk pl b h0 h1 =>
   have her:=Y1c.at_ (w:=w1) k hk pl b h0 h1;clear hz hk h0 h1;go_wp2;go_ret2;exact⟨⟨_,rfl,her⟩,hb1⟩
end
section
open Go.Proofs.Tryz
open Go.RowKit
theorem Y1u(k:Nat)(pl:Int)(w:World):
 Calls prog 10 #[YS k pl] w fun e w'=>e= .returned (.bool (decide (k=0)))∧Below w.heap.size w w':=by
 unfold YS;by_cases hk:k=0
 ·subst hk;go_enter func10,ntmps10;go_wp2;go_ret;exact Z2v
 ·have hb:((k:Int) == 0)=false:=Z1r;rw[Yeh hk];clear hk;go_enter func10,ntmps10;go_wp2;go_ret;exact Z2v
def Y4O(l:PL)(w:World)(e:Ending)(w':World):Prop:=
 e= .returned (.tuple #[.string (bs (if(Yc l).1=0 then Y1H l else [])),YS (Yc l).1 (Yc l).2])∧Below w.heap.size w w'
def RPPrintR(l:PL)(w w1:World)(s i:Value)(wr:World):Prop:=
 ∃ (k:Nat) (acc:List UInt8),k≤l.length∧acc.length≤400 * k∧i= .int .i64 (k:Nat)∧s= .string (bs acc)∧Y1H l=acc ++ Y1H (l.drop k)∧Below w1.heap.size w1 wr
theorem Z3f{P Q:Prop}(k:Q)(h:Q→P:=by
 have q0:w3.cell? ⟨w.heap.size,0,none⟩=some (.int .i64 0):=by {rw[YeJ _ _ _ _ _ _ hb3'];rfl}
 have q1:w3.cell? ⟨w.heap.size,1,none⟩=some (.int .i64 0):=by {rw[YeJ _ _ _ _ _ _ hb3'];rfl}
 have f0:=Yfr w3 w.heap.size 0 _ _ hb3'
 have f1:=Yfr w3 w.heap.size 1 _ _ hb3'
 refine fun z_=>?_
 revert f1;revert f0;revert q1;revert q0
 exact z_):P:=h k
theorem Z41{P Q:Prop}(k:Q)(h:Q→P:=by
 have hbC:=(hA.trans (hb2.mono hA.size))
 have hblk2:=(hbC.block w.heap.size hsz1).trans ((hb1.block _ Z2t).trans Hblk0.out)
 refine fun z_=>?_
 revert hblk2;revert hbC
 exact z_):P:=h k
theorem YbE(v:Value)(l:PL)(w:World)(h:PSl w v l)(hbd:PBd l):
 Calls prog 62 #[v] w fun e w'=>Y4O l w e w':=by
 have c1:=fun w1 (hb:Below w.heap.size w w1)=>hid (Y33 v l w1 (h.below hb) hbd)
 have hb0:Below w.heap.size w (w.alloc (.cells #[.int .i64 0,.int .i64 0] 38)):=(Yea _ _).alloc (Ye9 _) _;have hblk0:=YeC w (.cells #[.int .i64 0,.int .i64 0] 38);have Hblk0:=hid hblk0;clear hblk0;have c3:=fun k pl w=>hid (Y1u k pl w)
 unfold Y3W at c1;unfold Y4O;by_cases hz:(Yc l).1=0
 ·obtain⟨hR,h60,hlen⟩:=Y39 l hz;rw[hR]at c1 ⊢;rw[Yei rfl];clear hz;have HR:=hid hR;clear hR;rcases h.open_ with ⟨rfl,a,c,rfl⟩ | ⟨h0,b,o,c,rfl,hbl,hcell⟩
  ·clear h hlen;go_enter func62,ntmps62;go_wp2_with fail;refine(c1 _ hb0).out.mono ?_;rintro e w1 ⟨rfl,hb1⟩;have hA:=(Yea w1.heap.size w1).alloc (Ye9 _) (.cells #[.int .i64 0,.int .i64 (-1)] 38);have hsz1:w.heap.size<w1.heap.size:=Yee Z2t hb1.size;unfold YS;go_wp2_with fail;refine(c3 0 (-1) _).out.mono ?_;rintro e w2 ⟨rfl,hb2⟩;go_wp2;refine Yf7 1 ?_
   rw[Yf5];refine Z41 ?_;intro hbC hblk2;have hsz2:w.heap.size<w2.heap.size:=Yee hsz1 hbC.size;have Hblk2:=hid hblk2;clear hblk2;go_wp2_with (go_at_call 36;refine(Y1O _).mono ?_;rintro e w3 ⟨rfl,hb3⟩;have hb3':=(hb3.block _ hsz2).trans Hblk2.out;refine Z3f ?_;intro q0 q1 f0 f1;clear hb3');refine Yej (v:= .tuple #[.string (bs []),.agg #[.int .i64 0,.int .i64 (-1)]]) (by simp[results,results62,go_sem,q0,q1];rfl) rfl ?_
   refine⟨rfl,?_⟩;have hbD:=(hb0.trans (hb1.mono hb0.size));have hbE:=hbD.trans (hbC.mono hbD.size);exact((hbE.trans (hb3.mono hbE.size)).setCell (Ye9 _) _).setCell (Ye9 _) _
  clear h;have Hcell:=hid hcell;clear hcell;have Hlen:=hid hlen;clear hlen;have e61:(⟨#[61]⟩:ByteArray)=bs [61]:=rfl;have e00:(⟨#[0]⟩:ByteArray)=bs [0]:=rfl;go_enter func62,ntmps62;go_wp2_with fail;refine(c1 _ hb0).out.mono ?_;rintro e w1 ⟨rfl,hb1⟩;have hA:=(Yea w1.heap.size w1).alloc (Ye9 _) (.cells #[.int .i64 0,.int .i64 (-1)] 38);have hsz1:w.heap.size<w1.heap.size:=Yee Z2t hb1.size
  unfold YS;go_wp2_with fail;refine(c3 0 (-1) _).out.mono ?_;rintro e w2 ⟨rfl,hb2⟩;go_wp2;refine Z41 ?_;intro hbC hblk2;have hsz2:w.heap.size<w2.heap.size:=Yee hsz1 hbC.size;have hbD:=(hb0.trans (hb1.mono hb0.size));have hbE:=hbD.trans (hbC.mono hbD.size);have Hblk2:=hid hblk2;clear hblk2 hA hb1 hb2 hbC hbD;have hbl2:b<w2.heap.size:=Yee hbl hbE.size;go_loopw [5,16] (fun s i wr=>RPPrintR l w w2 s i wr) (fun _ i _=>l.length - (intOf i).toNat)
  case atStart=>exact⟨0,[],by omega,by simp,rfl,rfl,rfl,Yea _ _⟩
  case round =>
   obtain⟨k,acc,hk,hac,rfl,rfl,heq,hb⟩:=hrel;have hsz:=hb.size;by_cases hlt:k<l.length
   ·obtain⟨c0,c1⟩:=Hcell.out k hlt;have g0:=(hb.cell (p:=⟨b,o+k * 2,none⟩) hbl2).trans ((hbE.cell (p:=⟨b,o+k * 2,none⟩) hbl).trans c0);have g1:=(hb.cell (p:=⟨b,o+k * 2+1,none⟩) hbl2).trans ((hbE.cell (p:=⟨b,o+k * 2+1,none⟩) hbl).trans c1);obtain⟨hd0,hd1⟩:=Hlen.out k;rw[Y6x l k hlt]at heq;clear c0 c1;generalize l.getD k ([],[])=x at *;obtain⟨x1,x2⟩:=x;simp only at *;have Heq:=hid heq;clear heq
    have n1: ¬9223372036854775807<x1.length+1:=Z7;have n2: ¬9223372036854775807<x1.length+(1+x2.length):=Z7;have n3: ¬9223372036854775807<x1.length+(1+(x2.length+1)):=Z7;have n4: ¬9223372036854775807<acc.length+(x1.length+(1+(x2.length+1))):=Z7;go_wp2;go_roundw
    case rel=>exact⟨k+1,acc ++ (x1 ++ (61 :: (x2 ++ [0]))),by omega,by simp;omega,by go_num,by simp,by rw[Heq.out];simp,hb.alloc hsz _⟩
    case measure=>exact Zw
   ·obtain rfl:k=l.length:=Z7;have Heq:=hid heq;clear heq;have hsz3:=Yee hsz2 hsz;have Hblk3:=hid ((hb.block _ hsz2).trans Hblk2.out);go_wp2_with (go_at_call 36;refine(Y1O _).mono ?_;rintro e w3 ⟨rfl,hb3⟩;have hb3':=(hb3.block _ hsz3).trans Hblk3.out;refine Z3f ?_;intro q0 q1 f0 f1;clear hb3');refine Yej (v:= .tuple #[.string (bs acc),.agg #[.int .i64 0,.int .i64 (-1)]]) (by simp[results,results62,go_sem,q0,q1]) rfl ?_
    have hbF:=hbE.trans (hb.mono hbE.size);refine⟨?_,((hbF.trans (hb3.mono hbF.size)).setCell (Ye9 _) _).setCell (Ye9 _) _⟩;rw[Heq.out,YeX,Y1H,Yfd];rfl
 ·rw[Yed hz];generalize (Yc l).1=k at *;generalize (Yc l).2=pl at *;go_enter func62,ntmps62;go_wp2_with fail;refine(c1 _ hb0).out.mono ?_;rintro e w1 ⟨rfl,hb1⟩;have c3:=fun w=>c3 k pl w
  rw[Yeh hz]at c3;have hA:=(Yea w1.heap.size w1).alloc (Ye9 _) (.cells #[.int .i64 k,.int .i64 pl] 38);have hblkA:=YeC w1 (.cells #[.int .i64 k,.int .i64 pl] 38);have HblkA:=hid hblkA;clear hblkA;have hsz1:w.heap.size<w1.heap.size:=Yee Z2t hb1.size;unfold YS at *;clear hz;go_wp2_with fail;refine(c3 _).out.mono ?_;rintro e w2 ⟨rfl,hb2⟩;refine Z41 ?_;intro hbC hblk2
  have hblk3:=(hb2.block w1.heap.size Z2t).trans HblkA.out;have q0:w2.cell? ⟨w.heap.size,0,none⟩=some (.int .i64 0):=by rw[YeJ _ _ _ _ _ _ hblk2];rfl
  have q1:w2.cell? ⟨w.heap.size,1,none⟩=some (.int .i64 0):=by rw[YeJ _ _ _ _ _ _ hblk2];rfl
  have f0:w2.frozen? ⟨w.heap.size,0,none⟩=false:=Yfr _ _ _ _ _ hblk2;have f1:w2.frozen? ⟨w.heap.size,1,none⟩=false:=Yfr _ _ _ _ _ hblk2;have p0:w2.cell? ⟨w1.heap.size,0,none⟩=some (.int .i64 k):=by rw[YeJ _ _ _ _ _ _ hblk3];rfl
  have p1:w2.cell? ⟨w1.heap.size,1,none⟩=some (.int .i64 pl):=by rw[YeJ _ _ _ _ _ _ hblk3];rfl
  clear hblk2 hblk3;go_wp2;go_still_tail 2,(by kernel_rfl);change wpList _ _ _ _ _ w2.drew;go_wp2;refine Yej (v:= .tuple #[.string (bs []),.agg #[.int .i64 k,.int .i64 pl]]) (by simp[results,results62,go_sem,q0,q1];rfl) rfl ?_;have hbD:=(hb0.trans (hb1.mono hb0.size));have hbE:=hbD.trans (hbC.mono hbD.size);exact⟨rfl,((hbE.drew).setCell (Ye9 _) _).setCell (Ye9 _) _⟩
end
end Go.Proofs.YtfadikchijkcfaaGreatDoor
