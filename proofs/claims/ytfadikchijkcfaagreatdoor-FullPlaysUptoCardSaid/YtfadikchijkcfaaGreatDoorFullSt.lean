/- What comes of a PDU behind a login: the plain law. -/
import Derived.Test.YtfadikchijkcfaaGreatDoorParsePure
import Derived.Test.YtfadikchijkcfaaGreatDoorHeadRight
import Derived.Test.YtfadikchijkcfaaGreatDoorHeadRdBase
import Derived.Test.YtfadikchijkcfaaGreatDoorListPure
import Derived.Test.YtfadikchijkcfaaGreatDoorTCrowd
import Derived.Test.YtfadikchijkcfaaGreatDoorGather
import Derived.Test.YtfadikchijkcfaaGreatDoorTList
import Derived.Test.YtfadikchijkcfaaGreatDoorNegoAnswer
import Derived.Test.YtfadikchijkcfaaGreatDoorPairPrintR
import Derived.Test.YtfadikchijkcfaaGreatDoorOpen
import Derived.Test.YtfadikchijkcfaaGreatDoorBothN
import Derived.Test.YtfadikchijkcfaaGreatDoorHeadMkR
import Derived.Test.YtfadikchijkcfaaGreatDoorThick
import Derived.Test.YtfadikchijkcfaaGreatDoorHeadFields
import Derived.Deep.QuietTactic
import Derived.BigQuiet
set_option linter.unusedVariables false
set_option linter.unusedSectionVars false
set_option linter.unusedSimpArgs false
set_option maxRecDepth 100000
set_option maxHeartbeats 4000000
namespace Go.Proofs.YtfadikchijkcfaaGreatDoor
section
open Go Go.RowKit
structure FSt where
 rc:PL
 stat:Int
 cmd:Int
 text:List UInt8
 left:List (List UInt8)
 closed:Bool
structure FCf where
 own:PL
 ts:List (List UInt8)
 gs:GL
 name:List UInt8
 disc:Bool
structure An where
 op:Int
 flags:Int
 vs:List Nat
 d:List UInt8
structure PK where
 op:Int
 now:Bool
 flags:Int
 vs:List Nat
 n:Nat
 I:Nat→Int×List UInt8
 d:List UInt8
def PK.v(p:PK)(name:List UInt8):Nat:=(Y3j p.op p.vs name).1
def Y1d:List UInt8:= [67,109,100,83,78]
def Y1t:List UInt8:= [77,97,120,82,101,99,118,68,97,116,97,83,101,103,109,101,110,116,76,101,110,103,116,104]
def Y1s:List UInt8:= [83,101,110,100,84,97,114,103,101,116,115]
def Y1S:List UInt8:= [65,108,108]
def Y6h:List UInt8:= [82,101,106,101,99,116]
def Y26:Nat:=4294967295
def up1(x:Int):Int:=(x+1) % 4294967296
def Y1N(r:PL):Int:=if(Y1D (ofP r Y1t).1 512 20000).2=0 then(Y1D (ofP r Y1t).1 512 20000).1 else 20000
theorem Y5v(l:List UInt8):((Y1D l 512 20000).2=0→512≤(Y1D l 512 20000).1∧(Y1D l 512 20000).1≤20000)∧((Y1D l 512 20000).2≠0→(Y1D l 512 20000).1=0):=by
 unfold Y1D
 cases Y7p l with
 | none=>simp
 | some n =>
  simp only
  split
  ·simp
  ·simp;omega
theorem Y3C(r:PL):512≤Y1N r∧Y1N r≤20000:=by
 unfold Y1N;have h:=Y5v (ofP r Y1t).1
 split
 ·rename_i h0
  exact h.1 h0
 ·exact Z7
def Y34(s:FSt)(p:PK)(reason:Int):FSt×List An:=({s with stat:=up1 s.stat},[⟨63,128,Y4C reason s.stat s.cmd,(Y1F p.op p.now p.flags p.vs 0 (p.d.length:Nat)).1⟩])
def Y7m(s:FSt)(p:PK):FSt×List An:=
 match s.left with
 | []=>(s,[])
 | x :: r=>({s with left:=r,stat:=up1 s.stat},[⟨36,if r= []then 128 else 64,Y5X (p.v Ye) (if r= []then Y26 else 1) s.stat s.cmd,x⟩])
def Y4A(c:FCf)(v:List UInt8):PL:=
 if(v≠Y1S∧c.ts.contains (if v= []then c.name else v)=false)∨(v=Y1S∧c.disc=false)then [(Y1s,Y6h)]else Yy c.gs (if v= []then c.name else v) (decide (v=Y1S)) c.ts
def Y1C(c:FCf):PL→PL
 | []=> []
 | x :: l=>if x.1=Y1s then Y4A c x.2 ++ Y1C c l else Y1C c l
def Y19:PL→PL
 | []=> []
 | x :: l=>if x.1=Y1s then Y19 l else x :: Y19 l
theorem YcX(l:PL):(Y19 l).length≤l.length:=by
 induction l with
 | nil=>exact Ye9 _
 | cons x l ih =>
  unfold Y19
  split
  ·simp;omega
  ·simp;omega
theorem Y7i(l:PL)(k:Nat)(h:k<l.length):Y19 (l.drop k)=if(l.getD k ([],[])).1=Y1s then Y19 (l.drop (k+1))else l.getD k ([],[]) :: Y19 (l.drop (k+1)):=by
 rw[Y3E l k ([],[]) h,Y19]
theorem Y7f(c:FCf)(l:PL)(k:Nat)(h:k<l.length):Y1C c (l.drop k)=if(l.getD k ([],[])).1=Y1s then Y4A c (l.getD k ([],[])).2 ++ Y1C c (l.drop (k+1))else Y1C c (l.drop (k+1)):=by
 rw[Y3E l k ([],[]) h,Y1C]
def Y2f(l:List UInt8)(size:Nat):List (List UInt8):=(List.range (YI size l)).map fun k=>(l.drop (k * size)).take size
def Y5T(c:FCf)(s:FSt)(p:PK)(Y2N last:Bool):FSt×List An:=
 if(Y18 8192 s.text p.d Y2N).2.2.1≠0∨Y2N=last then Y34 {s with left:= [],text:=(Y18 8192 s.text p.d Y2N).1} p 4 else
 if Y2N=true then({s with left:= [],text:=(Y18 8192 s.text p.d Y2N).1,stat:=up1 s.stat},[⟨36,0,Y5X (p.v Ye) Y26 s.stat s.cmd,[]⟩])else
 if(Y84 (Y19 (Y18 8192 s.text p.d Y2N).2.1) s.rc false).1≠0 then Y34 {s with left:= [],text:=(Y18 8192 s.text p.d Y2N).1} p 4 else
 if(Yc (Y1C c (Y18 8192 s.text p.d Y2N).2.1 ++ (Y2T c.own (Y19 (Y18 8192 s.text p.d Y2N).2.1) s.rc false c.disc).1)).1≠0 then
  Y34 {s with left:= [],text:=(Y18 8192 s.text p.d Y2N).1,rc:=(Y2T c.own (Y19 (Y18 8192 s.text p.d Y2N).2.1) s.rc false c.disc).2} p 4 else
 Y7m {s with left:=Y2f (Y1H (Y1C c (Y18 8192 s.text p.d Y2N).2.1 ++ (Y2T c.own (Y19 (Y18 8192 s.text p.d Y2N).2.1) s.rc false c.disc).1)) (Y1N (Y2T c.own (Y19 (Y18 8192 s.text p.d Y2N).2.1) s.rc false c.disc).2).toNat,text:=(Y18 8192 s.text p.d Y2N).1,rc:=(Y2T c.own (Y19 (Y18 8192 s.text p.d Y2N).2.1) s.rc false c.disc).2} p
def Y1V(flags:Int):Bool:=decide (flags / 64 % 2=1)
def Y6G(flags:Int):Bool:=decide (flags / 128 % 2=1)
def Ybl(c:FCf)(s:FSt)(p:PK):FSt×List An:=
 if p.v YB≠Y26 then
  if p.v YB≠1∨s.left= []∨p.d≠ []∨Y1V p.flags=true then Y34 s p 4 else Y7m s p
 else Y5T c s p (Y1V p.flags) (Y6G p.flags)
def nopP(s:FSt)(p:PK):FSt×List An:=
 if p.v Ye=Y26 then(s,[])else({s with stat:=up1 s.stat},[⟨32,128,Y5Z (p.v Y2P) (p.v Ye) s.stat s.cmd,p.d.take (Y1N s.rc).toNat⟩])
def Ydp(s:FSt)(p:PK):FSt×List An:=({s with closed:=true,stat:=up1 s.stat},[⟨38,128,Yah (p.v Ye) s.stat s.cmd,[]⟩])
def doP(c:FCf)(s:FSt)(p:PK):FSt×List An:=if p.op=0 then nopP s p else if p.op=4 then Ybl c s p else Ydp s p
def Y1v(p:PK):Bool:=decide (p.op=0) && decide (p.v Ye=Y26)
def Yu(c:FCf)(s:FSt)(p:PK):FSt×List An×Nat:=
 if s.closed=true then(s,[],6)else
 if Y2L p.op p.now p.flags p.vs p.n p.I p.d≠0 then(s,[],Y2L p.op p.now p.flags p.vs p.n p.I p.d)else
 if p.op≠0∧p.op≠4∧p.op≠6 then((Y34 s p 5).1,(Y34 s p 5).2,0)else
 if p.now=false∧(p.v Y1d:Int)≠s.cmd then((Y34 s p 4).1,(Y34 s p 4).2,0)else
 if p.now=false∧Y1v p=false then((doP c {s with cmd:=up1 s.cmd} p).1,(doP c {s with cmd:=up1 s.cmd} p).2,0)else((doP c s p).1,(doP c s p).2,0)
end
section
open Go.Proofs.Tryz
open Go Go.RowKit
theorem blkG{w w':World}{b:Nat}{T:TypeId}{cs:Array Value}{r:Option Nat}(h:Blk w b T cs)(hg:w.grownBy w' r)(hr:r≠some b):Blk w' b T cs:=(hg.block b h.lt (fun e=>hr e.symm)).trans h
theorem YcQ{w0 w1 w2:World}{base:Nat}{e:TypeId}{size n:Nat}{v u:Value}{xs:List Value}(hown:w0.ownsRow base e size v n xs)(hg:w1.grownBy w2 v.ownBlock)(p:Addr)(hp:p.block<base)(hlt:p.block<w1.heap.size)(h:w1.cell? p=some u):w2.cell? p=some u:=
 (Yfu (hg.block p.block hlt (by intro e;have:=(hown.lt p.block e.symm).1;omega))).trans h
theorem Y3T{w:World}{p:Addr}{u:Value}{o:Obj}(h:w.cell? p=some u):(w.alloc o).cell? p=some u:=
 (Below.cell ((Yea w.heap.size w).alloc (Ye9 _) o) (YfX w p h)).trans h
theorem Y60{W:World}{b:Nat}(hz:W.heap.size=b)(xs:List Value)(t:TypeId): ∀j u,xs[j]?=some u→(W.alloc (.cells xs.toArray t)).cell? ((⟨b,0,none⟩:Addr).add j)=some u:=by
 intro j u hu;subst hz;rw[show(⟨W.heap.size,0,none⟩:Addr).add j=⟨W.heap.size,j,none⟩ by(simp[Addr.add];omega),YeJ _ _ _ _ _ _ (YeC _ _)];simpa using hu
theorem Y9V{W:World}{v:Value}{size n:Nat}{xs:List Value}(h:Sl W v size n xs)(g i:Nat)(u:Value)(hd: ∀b o c,v= .slice (some ⟨b,o,none⟩) n c→n≠0→b≠g):Sl (W.setCell ⟨g,i,none⟩ u) v size n xs:=by
 obtain⟨a,c,rfl,hl,hc⟩:=h;refine⟨a,c,rfl,hl,?_⟩;rcases Nat.eq_zero_or_pos n with h0 | h0
 ·exact Z44
 ·rcases hc with hc | ⟨b,o,rfl,hc⟩
  ·exact Z7
  ·right;have hn:=hd b o c rfl Z7;exact⟨b,o,rfl,fun j x hx=>(World.cell?_setCell_far _ _ _ _ (fun e=>hn e.symm)).trans (hc j x hx)⟩
theorem Y7M{W:World}{v:Value}{xs:List Nat}(h:Sl W v 1 xs.length (Yb xs)){g:Nat}{t:TypeId}{cs:Array Value}(B:Blk W g t cs)(hc: ∀ (i:Nat) (x:Int),cs[i]?≠some (Value.int .u64 x)):
 ∀b o q,v= .slice (some ⟨b,o,none⟩) xs.length q→xs.length≠0→b≠g:=by
 rintro b o q hv h0 rfl;obtain⟨a,c,hv',hl,hcc⟩:=h;rw[hv]at hv'
 cases hv'
 rcases hcc with h1 | ⟨b',o',he,hcc⟩
 ·exact h0 h1
 ·cases he
  have h1:=hcc 0 (.int .u64 (xs[0]' Z7:Nat)) (by simp[Yb,Yec (show 0<xs.length from Z7)]);rw[B.cell]at h1;exact hc _ _ h1
def Y72(op flags:Int)(data:List UInt8)(R:Nat×Int×List Nat)(g:Nat)(cs:Array Value)(w0:World)(e:Ending)(w':World):Prop:=
 ∃v,e= .returned (Y1a (if R.1=0 then op else 0) false (if R.1=0 then flags else 0) v (.slice none 0 0) data)∧Sl w' v 1 R.2.2.length (Yb R.2.2)∧Y1 (fun k=>k=g) w0 w'∧Blk w' g 82 cs
theorem Zz{P Q:Prop}(k:Q)(h:Q→P:=by
 obtain⟨W1,hW1⟩: ∃W1,w.alloc (.cells #[.int .i64 0,.bool false,.int .i64 0,.slice none 0 0,.slice none 0 0,.string ⟨#[]⟩] 63)=W1:=⟨_,rfl⟩
 have k1:Below w.heap.size w W1:=by rw[←hW1];exact Ze
 have P1:Blk W1 w.heap.size 63 #[.int .i64 0,.bool false,.int .i64 0,.slice none 0 0,.slice none 0 0,.string ⟨#[]⟩]:=by rw[←hW1];exact Blk.new _ _ _
 have z1:W1.heap.size=w.heap.size+1:=Z1J
 have B1:=hB.below k1
 refine fun z_=>?_
 revert B1;revert z1;revert P1;revert k1;revert hW1;revert W1
 exact z_):P:=h k
theorem Z14{P:Prop}(h:P:=by
 obtain⟨a,c,h,_⟩:=hsl
 exact⟨a,c,h,trivial⟩):P:=h
section
variable (g:Nat)(p ta ga ua oa:Value)(sn ss:List UInt8)(lim:Int)(name:List UInt8)(disc:Bool)(stat cmd:Int)(gp left:Value)(closed:Bool)
 (op flags:Int) (data:List UInt8) (nv vv:Value) (ns:List (List UInt8)) (vs:List Nat) (w0 w:World)
 (hB:Blk w g 82 (Y14 p ta ga ua oa sn ss lim name disc stat cmd gp left closed)) (hg0:g<w0.heap.size)
 (hs0:0≤stat) (hs1:stat≤4294967295) (hc0:0≤cmd) (hc1:cmd≤4294967295)
 (h0: -9223372036854775808≤op) (h1:op≤9223372036854775807) (g0: -9223372036854775808≤flags) (g1:flags≤9223372036854775807)
 (hn:ns.length≤50) (hm:vs.length≤50) (hv: ∀x∈vs,x≤18446744073709551615) (hb:Below w0.heap.size w0 w)
 (hno:w.ownsRow w0.heap.size 9 1 nv ns.length (strCells ns)) (hvo:w.ownsRow w0.heap.size 106 1 vv vs.length (Yb vs)) (hT:AS w0) (hP:PT w0) (hk: ∀ (st:Int) (i:Nat) (x:Int),(Y14 p ta ga ua oa sn ss lim name disc st cmd gp left closed)[i]?≠some (Value.int .u64 x))
include hB hg0 hs0 hs1 hc0 hc1 h0 h1 g0 g1 hn hm hv hb hno hvo hT hP hk
theorem Y9l(hap:nv.ownBlock=none∨nv.ownBlock≠vv.ownBlock):Calls prog 113 #[.pointer (some ⟨g,0,none⟩),.int .i64 op,.int .i64 flags,.string (bs data),nv,vv] w fun e w' =>
 Y72 op flags data (Y3L op flags (ns ++ Y3G) (vs ++ Y4q stat cmd)) g (Y14 p ta ga ua oa sn ss lim name disc ((stat+1) % 4294967296) cmd gp left closed) w0 e w':=by
 have hmx:prog.follows .mixedOrders=true:=by kernel_rfl
 have ca:=fun W=>hid (Ye3 cmd 31 W hc0 hc1)
 have HNO:=hid hno;have HVO:=hid hvo;refine Zz ?_;intro W1 hW1 k1 P1 z1 B1;have HN1:=hid (Y2 hno k1);have HV1:=hid (Y2 hvo k1);have hbz:=hb.size;clear hno hvo;go_enter func113,ntmps113;go_wp2_with (at_builtin;refine YY rfl (.tmp 15) (.tmp 16) 22 rfl w0.heap.size 9 (.string ⟨#[]⟩) 1 16 underlying22 infoStr0 rfl Z16 nv ns.length (strCells ns) rfl (HN1.out.alloc _) ⟨w.heap.size+1,0,none⟩ 3 3 (strCells Y3G) rfl rfl (Y60 z1 (strCells Y3G) 9) (by simp[Value.oneCell',strCells,Y3G]) ZS Z7 Zd ?_;intro v2 w2 hown2 hgrow2 hat2)
 have a1:Below W1.heap.size W1 (W1.alloc (.cells (strCells Y3G).toArray 9)):=(Yea _ _).alloc (Ye9 _) _;have b1:=hb.trans ((k1.trans (a1.mono k1.size)).mono hbz);have b2:Below w0.heap.size w0 w2:=Yp b1 (HN1.out.alloc _) hgrow2 Zd;have hz2:=hgrow2.size;have B2:Blk w2 g 82 (Y14 p ta ga ua oa sn ss lim name disc stat cmd gp left closed):=blkG (B1.below a1) hgrow2 (by intro e;have:=(HN1.out.lt g e).1;exact Z7)
 have P2:Blk w2 w.heap.size 63 #[.int .i64 0,.bool false,.int .i64 0,.slice none 0 0,.slice none 0 0,.string ⟨#[]⟩]:=blkG (P1.below a1) hgrow2 (by intro e;have:=(HNO.out.lt w.heap.size e).2;exact Z7);have HV2:Hid (w2.ownsRow w0.heap.size 106 1 vv vs.length (Yb vs)):=hid (Y24 (Y2 HV1.out a1) hgrow2 (fun k hk e=>by rcases hap with h | h;rw[h]at e;cases e;exact h (e.trans hk.symm)))
 have HVW:=hid (show vv.ownBlock≠some w.heap.size from fun e=>by have:=(HVO.out.lt w.heap.size e).2;exact Z7);have HN2:=hid hown2
 have HAT:=hid (show ∀k,vv.ownBlock=some k→v2.ownBlock≠some k from fun k hk e=>by
  rcases hat2 with h | h
  ·rw[h]at e;rcases hap with h' | h'
   ·rw[h']at e;cases e
   ·exact h' (e.trans hk.symm)
  ·rw[h]at e;have:=(HVO.out.lt k hk).2;have h9:=Yey e;simp at h9
   omega)
 have HB2:=hid b2;obtain⟨cm,hcm⟩: ∃cm,(cmd+31) % 4294967296=cm:=⟨_,rfl⟩;have hcm0:0≤cm:=Z7;have hcm1:cm≤4294967295:=Z7;rw[hcm]at ca;have ws:IntKind.u64.wrap stat=stat:=Z2k;have wc:IntKind.u64.wrap cmd=cmd:=Z2k;have wm:IntKind.u64.wrap cm=cm:=Z2k;have s10:=(B2.cell 10).trans (rfl:_=some (Value.int .u32 stat));have s11:=(B2.cell 11).trans (rfl:_=some (Value.int .u32 cmd));have hz0:w0.heap.size≤w2.heap.size:=b2.size
 clear hgrow2 hown2 b2 b1 a1 hW1 hB hb HN1 HV1 HNO HVO k1 P1 B1;go_upto_region 2 with fail;have hgz:g<w2.heap.size:=Z7;go_region_held3 (fun w'=>w'.cell? ⟨g,10,none⟩=some (.int .u32 stat)∧w'.cell? ⟨g,11,none⟩=some (.int .u32 cmd))
  (first | exact⟨by assumption,by assumption⟩ | go_keep | exact⟨Y3T (by assumption),Y3T (by assumption)⟩ | exact⟨YcQ HV2.out hgrow8 ⟨g,10,none⟩ hg0 Zd (Y3T (by assumption)),YcQ HV2.out hgrow8 ⟨g,11,none⟩ hg0 Zd (Y3T (by assumption))⟩)
  (first
    | (go_at_call 160;refine(ca _).out.mono ?_;rintro e w7 ⟨rfl,rfl⟩)
    | (refine Y13 rfl (.tmp 18) (.tmp 35) 58 (by rfl) w0.heap.size 106 (.int .u64 0) 1 8 underlying58 Yap rfl (by decide) vv vs.length (Yb vs) (by simp[Act.eval]) ((Y2 HV2.out (Yea _ _).drew).alloc _) ⟨w2.heap.size,0,none⟩ 3 3 [.int .u64 stat,.int .u64 cmd,.int .u64 cm] (by simp[Act.eval]) rfl (Y60 rfl _ 106) (by simp[Value.oneCell']) (by unfold maxLen;omega) (by omega) (by simp;omega) ?_;intro v8 w8 hown8 hgrow8 _))
 have HV8:w8.ownsRow w0.heap.size 106 1 v8 (vs ++ Y4q stat cmd).length (Yb (vs ++ Y4q stat cmd)):=by
  have e1:(vs ++ Y4q stat cmd).length=vs.length+3:=by simp[Y4q]
  have e2:Yb (vs ++ Y4q stat cmd)=Yb vs ++ [.int .u64 stat,.int .u64 cmd,.int .u64 cm]:=by
   simp only[Yb,Yfi,Y4q,YeY,YfH];rw[hcm];rw[show((stat.toNat:Nat):Int)=stat by omega,show((cmd.toNat:Nat):Int)=cmd by omega,show((cm.toNat:Nat):Int)=cm by omega]
  rw[e1,e2];exact hown8
 have hownA:(w2.drew.alloc (.cells #[.int .u64 stat,.int .u64 cmd,.int .u64 cm] 106)).ownsRow w0.heap.size 106 1 vv vs.length (Yb vs):=(Y2 HV2.out (Yea _ _).drew).alloc _;have bA:Below w2.heap.size w2 (w2.drew.alloc (.cells #[.int .u64 stat,.int .u64 cmd,.int .u64 cm] 106)):=(Yea _ _).drew.alloc (Ye9 _) _;have b8:Below w0.heap.size w0 w8:=Yp (HB2.out.trans (bA.mono hz0)) hownA hgrow8 Zd
 have N8:w8.ownsRow w0.heap.size 9 1 v2 (ns ++ Y3G).length (strCells (ns ++ Y3G)):=by
  have e1:(ns ++ Y3G).length=ns.length+3:=by simp[Y3G]
  have e2:strCells (ns ++ Y3G)=strCells ns ++ strCells Y3G:=by simp[strCells]
  rw[e1,e2];exact Y24 (Y2 HN2.out bA) hgrow8 (fun k hk e=>HAT.out k e hk)
 have B8:Blk w8 g 82 (Y14 p ta ga ua oa sn ss lim name disc stat cmd gp left closed):=blkG (B2.below bA) hgrow8 (by intro e;have:=(hownA.lt g e).1;exact Z7);have P8:Blk w8 w.heap.size 63 #[.int .i64 0,.bool false,.int .i64 0,.slice none 0 0,.slice none 0 0,.string ⟨#[]⟩]:=blkG (P2.below bA) hgrow8 (HVW.out);have cm:=hid (make_any op flags v2 v8 (ns ++ Y3G) (vs ++ Y4q stat cmd) w8 h0 h1 g0 g1 (by simp[Y3G];exact Z7) (by simp[Y4q];exact Z7) ?hvv (Y3x N8) (Y3x HV8) (hT.below b8 (Ye9 _)) (hP.below b8 (Ye9 _)))
 case hvv =>
  intro x hx;rcases YfN.1 hx with h | h
  ·exact hv x h
  ·simp only[Y4q,Yf0,List.not_mem_nil,or_false]at h;rcases h with rfl | rfl | rfl<;>omega
 unfold Ybs Y1A at cm;have HK:=hid hk;clear hk;obtain⟨R,hR⟩: ∃R,Y3L op flags (ns ++ Y3G) (vs ++ Y4q stat cmd)=R:=⟨_,rfl⟩;rw[hR]at cm;have HR:=hid hR;clear hR;clear hown8 hgrow8 HV8 N8 HV2 HN2 HAT hownA B2 P2 s10 s11 hT hP hv HB2 bA;go_wp2_with fail;refine cm.out.mono ?_;rintro e w9 ⟨v,ev,rfl,-,hsl,hb9⟩;have B9:=B8.below hb9;have P9:=P8.below hb9;have b9:=b8.trans (hb9.mono b8.size);obtain⟨sa,sc,rfl,-⟩: ∃sa sc,v= .slice sa R.2.2.length sc∧True:=Z14
 obtain⟨o',ho'⟩: ∃o',(if R.1=0 then op else 0)=o':=⟨_,rfl⟩;obtain⟨f',hf'⟩: ∃f',(if R.1=0 then flags else 0)=f':=⟨_,rfl⟩;rw[ho',hf'];have HO':=hid ho';have HF':=hid hf';clear ho' hf' cm;obtain⟨W10,hW10⟩: ∃W10,w9.alloc (.cells #[.int .i64 o',.bool false,.int .i64 f',.slice sa R.2.2.length sc] 60)=W10:=⟨_,rfl⟩;have k10:Below w9.heap.size w9 W10:=by rw[←hW10];exact Ze
 have H10:Blk W10 w9.heap.size 60 #[.int .i64 o',.bool false,.int .i64 f',.slice sa R.2.2.length sc]:=by rw[←hW10];exact Blk.new _ _ _
 have B10:=B9.below k10;have P10:=P9.below k10;have b10:=b9.trans (k10.mono b9.size);have hPl:=P9.lt;have hsl10:=hsl.below Z7 k10;have s10:=(B10.cell 10).trans (rfl:_=some (Value.int .u32 stat));have f10:=B10.free 10;have hw:IntKind.u32.wrap (stat+1)=(stat+1) % 4294967296:=by rw[Yfo]
 obtain⟨W11,hW11⟩: ∃W11,W10.setCell ⟨g,10,none⟩ (.int .u32 ((stat+1) % 4294967296))=W11:=⟨_,rfl⟩;have B11:Blk W11 g 82 (Y14 p ta ga ua oa sn ss lim name disc ((stat+1) % 4294967296) cmd gp left closed):=by rw[←hW11];exact B10.set 10 _
 have H11:Blk W11 w9.heap.size 60 #[.int .i64 o',.bool false,.int .i64 f',.slice sa R.2.2.length sc]:=by rw[←hW11];exact Y1k H10 10 _ Z7
 have P11:Blk W11 w.heap.size 63 #[.int .i64 0,.bool false,.int .i64 0,.slice none 0 0,.slice none 0 0,.string ⟨#[]⟩]:=by rw[←hW11];exact Y1k P10 10 _ Z7
 have x0:=(H11.cell 0).trans (rfl:_=some (Value.int .i64 o'));have x1:=(H11.cell 1).trans (rfl:_=some (Value.bool false));have x2:=(H11.cell 2).trans (rfl:_=some (Value.int .i64 f'));have x3:=(H11.cell 3).trans (rfl:_=some (Value.slice sa R.2.2.length sc));have y0:=(P11.cell 0).trans (rfl:_=some (Value.int .i64 0));have y1:=(P11.cell 1).trans (rfl:_=some (Value.bool false));have y2:=(P11.cell 2).trans (rfl:_=some (Value.int .i64 0))
 have y3:=(P11.cell 3).trans (rfl:_=some (Value.slice none 0 0));have y4:=(P11.cell 4).trans (rfl:_=some (Value.slice none 0 0));have y5:=(P11.cell 5).trans (rfl:_=some (Value.string ⟨#[]⟩));have v0:=P11.free 0;have v1:=P11.free 1;have v2':=P11.free 2;have v3:=P11.free 3;have v4:=P11.free 4;have v5:=P11.free 5;have HB11:=hid B11;have HP11:=hid P11;have HSL:=hid hsl10;have HB10:=hid B10;clear B9 P9 B10 P10 H10 H11 P11 B11 hsl hsl10 B8 P8
 go_wp2;obtain⟨W12,hW12⟩: ∃W12,((((((W11.setCell ⟨w.heap.size,0,none⟩ (.int .i64 o')).setCell ⟨w.heap.size,1,none⟩ (.bool false)).setCell ⟨w.heap.size,2,none⟩ (.int .i64 f')).setCell ⟨w.heap.size,3,none⟩ (.slice sa R.2.2.length sc)).setCell ⟨w.heap.size,4,none⟩ (.slice none 0 0)).setCell ⟨w.heap.size,5,none⟩ (.string (bs data)))=W12:=⟨_,rfl⟩
 have T0:Blk W12 w.heap.size 63 #[.int .i64 o',.bool false,.int .i64 f',.slice sa R.2.2.length sc,.slice none 0 0,.string (bs data)]:=by
  rw[←hW12];exact(((((HP11.out.set 0 _).set 1 _).set 2 _).set 3 _).set 4 _).set 5 _
 have B12:Blk W12 g 82 (Y14 p ta ga ua oa sn ss lim name disc ((stat+1) % 4294967296) cmd gp left closed):=by
  rw[←hW12]
  iterate 6 refine Y1k ?_ _ _ Z7
  exact HB11.out
 have e1:=(T0.cell 0).trans (rfl:_=some (Value.int .i64 o'));have e2:=(T0.cell 1).trans (rfl:_=some (Value.bool false));have e3:=(T0.cell 2).trans (rfl:_=some (Value.int .i64 f'));have e4:=(T0.cell 3).trans (rfl:_=some (Value.slice sa R.2.2.length sc));have e5:=(T0.cell 4).trans (rfl:_=some (Value.slice none 0 0));have e6:=(T0.cell 5).trans (rfl:_=some (Value.string (bs data)))
 have KS:Y1 (fun k=>k=g) w0 W12:=by
  rw[←hW12,←hW11];have k0:Y1 (fun k=>k=g) w0 W10:=⟨b10.os,b10.tape,b10.output,b10.size,fun k hk _=>b10.block k hk⟩;exact((((((k0.set _ _ (.inl rfl)).set _ _ (.inr hbz)).set _ _ (.inr hbz)).set _ _ (.inr hbz)).set _ _ (.inr hbz)).set _ _ (.inr hbz)).set _ _ (.inr hbz)
 have S12:Sl W12 (.slice sa R.2.2.length sc) 1 R.2.2.length (Yb R.2.2):=by
  rw[←hW12]
  have S11:Sl W11 (.slice sa R.2.2.length sc) 1 R.2.2.length (Yb R.2.2):=by
   rw[←hW11];refine Y9V HSL.out g 10 _ (Y7M HSL.out (g:=g) (t:=82) (cs:=Y14 p ta ga ua oa sn ss lim name disc stat cmd gp left closed) HB10.out (HK.out stat))
  have hfar:=Y7M S11 HP11.out (fun i x h=>by rcases i with _ | _ | _ | _ | _ | _ | i<;>simp at h)
  iterate 6 refine Y9V ?_ _ _ _ hfar
  exact S11
 rw[hW12];clear hW12 hW11 hW10;refine Yej (v:=Y1a o' false f' (.slice sa R.2.2.length sc) (.slice none 0 0) data) (by simp[results,results113,go_sem,Y1a,e1,e2,e3,e4,e5,e6]) rfl ?_;rw[HR.out];exact⟨_,by rw[HO'.out,HF'.out],S12,KS,B12⟩
end
end
section
open Go.Proofs.Tryz
open Go Go.RowKit
def Y4t(reason:Int)(h:List UInt8):Nat:=if reason<0∨255<reason then 2 else if h.length≠48 then 4 else 0
theorem Y93{reason:Int}{h:List UInt8}(e:Y4t reason h=0):0≤reason∧reason≤255∧h.length=48:=by
 unfold Y4t at e
 split at e
 ·cases e
 ·split at e
  ·cases e
  ·exact Z7
theorem Y2l{w:World}{B:Nat}(hB:B≤w.heap.size)(e:TypeId)(xs:List Value)(n:Nat)(hn:xs.length=n)(hm:n≤1000000):(w.alloc (.cells xs.toArray e)).ownsRow B e 1 (.slice (some ⟨w.heap.size,0,none⟩) n n) n xs:=
 ⟨by omega,.inr ⟨w.heap.size,n,xs.toArray,rfl,hB,YeC _ _,Ye9 _,by unfold maxLen;omega,by simp;omega,by simp[Yfc,hn]⟩⟩
def Y6d(g:Nat)(cs:Int→Array Value)(stat cmd:Int)(h:List UInt8)(reason:Int)(w:World)(e:Ending)(w':World):Prop:=
 ∃v,e= .returned (.tuple #[Y1a (if Y4t reason h=0 then 63 else 0) false (if Y4t reason h=0 then 128 else 0) v (.slice none 0 0) (if Y4t reason h=0 then h else []),errV 36 (Y4t reason h)])∧
  Sl w' v 1 (if Y4t reason h=0 then Y4C reason stat cmd else []).length (Yb (if Y4t reason h=0 then Y4C reason stat cmd else []))∧Y1 (fun k=>k=g) w w'∧Blk w' g 82 (cs (if Y4t reason h=0 then(stat+1) % 4294967296 else stat))
theorem ZE{P Q:Prop}(k:Q)(h:Q→P:=by
 have y0:=(P5.cell 0).trans (rfl:_=some (Value.int .i64 0))
 have y1:=(P5.cell 1).trans (rfl:_=some (Value.bool false))
 have y2:=(P5.cell 2).trans (rfl:_=some (Value.int .i64 0))
 have y3:=(P5.cell 3).trans (rfl:_=some (Value.slice none 0 0))
 have y4:=(P5.cell 4).trans (rfl:_=some (Value.slice none 0 0))
 have y5:=(P5.cell 5).trans (rfl:_=some (Value.string ⟨#[]⟩))
 have v0:=P5.free 0
 have v1:=P5.free 1
 have v2:=P5.free 2
 have v3:=P5.free 3
 have v4:=P5.free 4
 have v5:=P5.free 5
 obtain⟨W6,hW6⟩: ∃W6,((((((w5.setCell ⟨w.heap.size,0,none⟩ (.int .i64 63)).setCell ⟨w.heap.size,1,none⟩ (.bool false)).setCell ⟨w.heap.size,2,none⟩ (.int .i64 128)).setCell ⟨w.heap.size,3,none⟩ (.slice sa (Y4C reason stat cmd).length sc)).setCell ⟨w.heap.size,4,none⟩ (.slice none 0 0)).setCell ⟨w.heap.size,5,none⟩ (.string (bs h)))=W6:=⟨_,rfl⟩
 have T0:Blk W6 w.heap.size 63 #[.int .i64 63,.bool false,.int .i64 128,.slice sa (Y4C reason stat cmd).length sc,.slice none 0 0,.string (bs h)]:=by
  rw[←hW6]
  exact(((((P5.set 0 _).set 1 _).set 2 _).set 3 _).set 4 _).set 5 _
 refine fun z_=>?_
 revert T0;revert hW6;revert W6;revert v5;revert v4;revert v3;revert v2;revert v1;revert v0;revert y5;revert y4;revert y3;revert y2;revert y1;revert y0
 exact z_):P:=h k
theorem ZI{P Q:Prop}(k:Q)(h:Q→P:=by
 have y0:=(P1.cell 0).trans (rfl:_=some (Value.int .i64 0))
 have y1:=(P1.cell 1).trans (rfl:_=some (Value.bool false))
 have y2:=(P1.cell 2).trans (rfl:_=some (Value.int .i64 0))
 have y3:=(P1.cell 3).trans (rfl:_=some (Value.slice none 0 0))
 have y4:=(P1.cell 4).trans (rfl:_=some (Value.slice none 0 0))
 have y5:=(P1.cell 5).trans (rfl:_=some (Value.string ⟨#[]⟩))
 have v0:=P1.free 0
 have v1:=P1.free 1
 have v2:=P1.free 2
 have v3:=P1.free 3
 have v4:=P1.free 4
 have v5:=P1.free 5
 obtain⟨W2,hW2⟩: ∃W2,((((((W1.setCell ⟨w.heap.size,0,none⟩ (.int .i64 0)).setCell ⟨w.heap.size,1,none⟩ (.bool false)).setCell ⟨w.heap.size,2,none⟩ (.int .i64 0)).setCell ⟨w.heap.size,3,none⟩ (.slice none 0 0)).setCell ⟨w.heap.size,4,none⟩ (.slice none 0 0)).setCell ⟨w.heap.size,5,none⟩ (.string ⟨#[]⟩))=W2:=⟨_,rfl⟩
 have T0:Blk W2 w.heap.size 63 #[.int .i64 0,.bool false,.int .i64 0,.slice none 0 0,.slice none 0 0,.string ⟨#[]⟩]:=by
  rw[←hW2]
  exact(((((P1.set 0 _).set 1 _).set 2 _).set 3 _).set 4 _).set 5 _
 refine fun z_=>?_
 revert T0;revert hW2;revert W2;revert v5;revert v4;revert v3;revert v2;revert v1;revert v0;revert y5;revert y4;revert y3;revert y2;revert y1;revert y0
 exact z_):P:=h k
theorem Z1c{P Q:Prop}(k:Q)(h:Q→P:=by
 have K2:Y1 (fun k=>k=g) w W2:=by
  rw[←hW2]
  exact(((((((Y1.refl _ w).below k1).set _ _ (.inr (Ye9 _))).set _ _ (.inr (Ye9 _))).set _ _ (.inr (Ye9 _))).set _ _ (.inr (Ye9 _))).set _ _ (.inr (Ye9 _))).set _ _ (.inr (Ye9 _))
 have e1:=(T0.cell 0).trans (rfl:_=some (Value.int .i64 0))
 have e2:=(T0.cell 1).trans (rfl:_=some (Value.bool false))
 have e3:=(T0.cell 2).trans (rfl:_=some (Value.int .i64 0))
 have e4:=(T0.cell 3).trans (rfl:_=some (Value.slice none 0 0))
 have e5:=(T0.cell 4).trans (rfl:_=some (Value.slice none 0 0))
 have e6:=(T0.cell 5).trans (rfl:_=some (Value.string ⟨#[]⟩))
 have HK:=hid K2
 have HB2:=hid B2
 refine fun z_=>?_
 revert HB2;revert HK;revert e6;revert e5;revert e4;revert e3;revert e2;revert e1;revert K2
 exact z_):P:=h k
theorem Z1h{P Q:Prop}(k:Q)(h:Q→P:=by
 have K6:Y1 (fun k=>k=g) w W6:=by
  rw[←hW6]
  exact(((((KS.set _ _ (.inr (Ye9 _))).set _ _ (.inr (Ye9 _))).set _ _ (.inr (Ye9 _))).set _ _ (.inr (Ye9 _))).set _ _ (.inr (Ye9 _))).set _ _ (.inr (Ye9 _))
 have S6:Sl W6 (.slice sa (Y4C reason stat cmd).length sc) 1 (Y4C reason stat cmd).length (Yb (Y4C reason stat cmd)):=by
  rw[←hW6]
  have hfar:=Y7M hsl P5 (fun i x h=>by rcases i with _ | _ | _ | _ | _ | _ | i<;>simp at h)
  iterate 6 refine Y9V ?_ _ _ _ hfar
  exact hsl
 refine fun z_=>?_
 revert S6;revert K6
 exact z_):P:=h k
theorem Z29{P:Prop}(h:P:=by
 go_enter func120,ntmps120
 go_wp2
 refine Yej (v:= .tuple #[Y1a 0 false 0 (.slice none 0 0) (.slice none 0 0) [],.iface 36 (.int .i64 2)]) (by simp[results,results120,go_sem,Y1a,e1,e2,e3,e4,e5,e6];rfl) rfl ?_
 exact⟨_,rfl,Y2g _ _,HK.out,HB2.out⟩):P:=h
theorem Z2e{P Q:Prop}(k:Q)(h:Q→P:=by
 have e1:=(T0.cell 0).trans (rfl:_=some (Value.int .i64 63))
 have e2:=(T0.cell 1).trans (rfl:_=some (Value.bool false))
 have e3:=(T0.cell 2).trans (rfl:_=some (Value.int .i64 128))
 have e4:=(T0.cell 3).trans (rfl:_=some (Value.slice sa (Y4C reason stat cmd).length sc))
 have e5:=(T0.cell 4).trans (rfl:_=some (Value.slice none 0 0))
 have e6:=(T0.cell 5).trans (rfl:_=some (Value.string (bs h)))
 have HK6:=hid K6
 have HB6:=hid B6
 refine fun z_=>?_
 revert HB6;revert HK6;revert e6;revert e5;revert e4;revert e3;revert e2;revert e1
 exact z_):P:=h k
theorem Z4u{P:Prop}(h:P:=by
 simp[Value.ownBlock]
 exact Z7):P:=h
section
variable (g:Nat)(p ta ga ua oa:Value)(sn ss:List UInt8)(lim:Int)(name:List UInt8)(disc:Bool)(stat cmd:Int)(gp left:Value)(closed:Bool)(h:List UInt8)(reason:Int)(w:World)
 (hB:Blk w g 82 (Y14 p ta ga ua oa sn ss lim name disc stat cmd gp left closed))
 (hs0:0≤stat) (hs1:stat≤4294967295) (hc0:0≤cmd) (hc1:cmd≤4294967295)
 (hT:AS w) (hP:PT w) (hk: ∀ (st:Int) (i:Nat) (x:Int),(Y14 p ta ga ua oa sn ss lim name disc st cmd gp left closed)[i]?≠some (Value.int .u64 x))
include hB hs0 hs1 hc0 hc1 hT hP hk
theorem Yav:Calls prog 120 #[.pointer (some ⟨g,0,none⟩),.string (bs h),.int .i64 reason] w fun e w' =>
 Y6d g (fun st=>Y14 p ta ga ua oa sn ss lim name disc st cmd gp left closed) stat cmd h reason w e w':=by
 refine Zz ?_;intro W1 hW1 k1 P1 z1 B1;have hgl:=hB.lt;by_cases hbad:Y4t reason h≠0
 ·refine ZI ?_;intro y0 y1 y2 y3 y4 y5 v0 v1 v2 v3 v4 v5 W2 hW2 T0
  have B2:Blk W2 g 82 (Y14 p ta ga ua oa sn ss lim name disc stat cmd gp left closed):=by
   rw[←hW2]
   iterate 6 refine Y1k ?_ _ _ Z7
   exact B1
  refine Z1c ?_;intro K2 e1 e2 e3 e4 e5 e6 HK HB2;clear hB hT hP hk B1 P1 K2 B2 T0;unfold Y6d;by_cases hr:reason<0∨255<reason
  ·have hE:Y4t reason h=2:=by unfold Y4t;rw[Yei hr]
   rw[hE];simp only[Yed (show ¬(2:Nat)=0 from Z7)];by_cases ha:reason<0
   ·exact Z29
   ·have hb:255<reason:=Z7;exact Z29
  ·have hr2:h.length≠48:=by
    intro hl;apply hbad;unfold Y4t;rw[Yed hr,Yed Z7]
   have hE:Y4t reason h=4:=by unfold Y4t;rw[Yed hr,Yei hr2]
   rw[hE];simp only[Yed (show ¬(4:Nat)=0 from Z7)];have ha: ¬reason<0:=Z7;have hb: ¬255<reason:=Z7;have hl:((h.length:Int) !=48)=true:=Zd;clear hbad hr2;go_enter func120,ntmps120;go_wp2;refine Yej (v:= .tuple #[Y1a 0 false 0 (.slice none 0 0) (.slice none 0 0) [],.iface 36 (.int .i64 4)]) (by simp[results,results120,go_sem,Y1a,e1,e2,e3,e4,e5,e6];rfl) rfl ?_;exact⟨_,rfl,Y2g _ _,HK.out,HB2.out⟩
 ·have hE:Y4t reason h=0:=Yfa hbad;obtain⟨a0,a1,hl⟩:=Y93 hE;have ha: ¬reason<0:=Z7;have hb: ¬255<reason:=Z7;have hl2:((h.length:Int) !=48)=false:=Zd;unfold Y6d;rw[hE];simp only[Yfw];clear hbad hE;obtain⟨rn,hrn⟩: ∃rn:Nat,reason=(rn:Int):=⟨reason.toNat,by omega⟩;have wr:IntKind.u64.wrap reason=reason:=Z2k;obtain⟨W2,hW2⟩: ∃W2,W1.alloc (.cells #[.string ⟨#[82,101,97,115,111,110]⟩,.string ⟨#[73,84,84]⟩] 9)=W2:=⟨_,rfl⟩
  have k2:Below W1.heap.size W1 W2:=Z4F;have N2:W2.ownsRow W1.heap.size 9 1 (.slice (some ⟨W1.heap.size,0,none⟩) 2 2) 2 (strCells [Y4m,Ye]):=by rw[←hW2];exact Y2l (Ye9 _) _ _ 2 rfl Z7
  have z2:W2.heap.size=w.heap.size+2:=by rw[←hW2];simp[z1]
  obtain⟨W3,hW3⟩: ∃W3,W2.alloc (.cells #[.int .u64 reason,.int .u64 4294967295] 106)=W3:=⟨_,rfl⟩;have k3:Below W2.heap.size W2 W3:=by rw[←hW3];exact Ze
  have b3:=k2.trans (k3.mono k2.size)
  have V3:W3.ownsRow W1.heap.size 106 1 (.slice (some ⟨W2.heap.size,0,none⟩) 2 2) 2 (Yb [reason.toNat,4294967295]):=by
   rw[←hW3,show Yb [reason.toNat,4294967295]= [.int .u64 reason,.int .u64 4294967295] by simp[Yb];omega];exact Y2l Z7 _ _ 2 rfl Z7
  have N3:=Y2 N2 k3;have B3:=(B1.below k2).below k3;have cm:=hid (Y9l g p ta ga ua oa sn ss lim name disc stat cmd gp left closed 63 128 h _ _ [Y4m,Ye] [reason.toNat,4294967295] W1 W3 B3 Z7 hs0 hs1 hc0 hc1 Z7 Z7 Z7 Z7 Z2t Z2t Zd b3 N3 V3 (hT.below k1 (Ye9 _)) (hP.below k1 (Ye9 _)) hk (.inr Z4u));rw[make_rej stat cmd hs0 hs1 hc0 hc1 reason a0 a1]at cm;unfold Y72 at cm
  simp only[Yfw]at cm;have HP1:=hid P1;have HK1:=hid (Y1.below (Y1.refl (fun k=>k=g) w) k1);rw[z1,z2]at cm;clear hT hP hk hB B1 N2 N3 V3 B3 k2 k3 hrn a0 a1 P1 b3;go_enter func120,ntmps120;go_wp2_with fail;refine cm.out.mono ?_;rintro e w5 ⟨v,rfl,hsl,hK,hB5⟩;have P5:=hK.blk HP1.out Z7;have h5:=P5.lt;have KS:Y1 (fun k=>k=g) w w5:=HK1.out.trans hK (fun i hi=> .inl hi);obtain⟨sa,sc,rfl,-⟩: ∃sa sc,v= .slice sa (Y4C reason stat cmd).length sc∧True:=Z14
  refine ZE ?_;intro y0 y1 y2 y3 y4 y5 v0 v1 v2 v3 v4 v5 W6 hW6 T0
  have B6:Blk W6 g 82 (Y14 p ta ga ua oa sn ss lim name disc ((stat+1) % 4294967296) cmd gp left closed):=by
   rw[←hW6]
   iterate 6 refine Y1k ?_ _ _ Z7
   exact hB5
  refine Z1h ?_;intro K6 S6;refine Z2e ?_;intro e1 e2 e3 e4 e5 e6 HK6 HB6;have HS6:=hid S6;clear cm hsl hK hB5 P5 KS T0 K6 B6 S6 HP1;generalize hRL:Y4C reason stat cmd=RL at *;have HRL:=hid hRL;clear hRL;unfold Y1a;go_wp2;refine Yej (v:= .tuple #[Y1a 63 false 128 (.slice sa RL.length sc) (.slice none 0 0) h,.nilIface]) (by simp[results,results120,go_sem,Y1a,e1,e2,e3,e4,e5,e6]) rfl ?_
  exact⟨_,rfl,by rw[HRL.out];exact HS6.out,HK6.out,HB6.out⟩
end
end
section
open Go.Proofs.Tryz
open Go Go.RowKit
theorem YdI(g:Nat)(stat cmd:Int)(w:World)(h10:w.cell? ⟨g,10,none⟩=some (.int .u32 stat))(h11:w.cell? ⟨g,11,none⟩=some (.int .u32 cmd)):
 Calls prog 18 #[.pointer (some ⟨g,0,none⟩)] w fun e w'=>e= .returned (.tuple #[.int .u32 stat,.int .u32 cmd])∧Below w.heap.size w w':=by
 go_enter func18,ntmps18;go_wp2;go_quiet (fail);go_wp2;go_ret2;exact⟨rfl,Yfk (Yea _ _) _⟩
theorem Ym{w:World}{a b:Nat}{T U:TypeId}{cs ds:Array Value}(h:Blk w a T cs)(k:Blk w b U ds)(hn:T≠U):a≠b:=by
 rintro rfl;unfold Blk at h k;rw[h]at k;simp only[YeO,Obj.cells.injEq]at k;exact hn k.2.1
theorem sl_keptS{S:Nat→Prop}{a w:World}{v:Value}{size n:Nat}{cs:List Value}(h:Sl a v size n cs)(hk:Y1 S a w)(hf: ∀b o q,v= .slice (some ⟨b,o,none⟩) n q→n≠0→ ¬S b):Sl w v size n cs:=by
 obtain⟨x,c,rfl,hl,hc⟩:=h;refine⟨x,c,rfl,hl,?_⟩;rcases Nat.eq_zero_or_pos n with h0 | h0
 ·exact Z44
 ·rcases hc with hc | ⟨b,o,rfl,hc⟩
  ·exact Z7
  ·exact .inr ⟨b,o,rfl,fun j u hu=>hk.cell (hc j u hu) (hf b o c rfl Z7)⟩
end
section
open Go Go.RowKit
def Y2p(w:World)(B:Nat)(v:Value)(l:List (List UInt8)):Prop:=
 ∃a c,v= .slice a l.length c∧l.length≤c∧c≤9223372036854775807∧(l.length=0∨ ∃b o cs,B≤b∧a=some ⟨b,o,none⟩∧Blk w b 9 cs∧ ∀ (j:Nat) (s:List UInt8),l[j]?=some s→cs[o+j]?=some (.string (bs s)))
theorem Y2p.nil(w:World)(B:Nat):Y2p w B (.slice none 0 0) []:=⟨none,0,rfl,by simp,by omega,.inl rfl⟩
theorem Y2p.kept{S:Nat→Prop}{w w':World}{B:Nat}{v:Value}{l:List (List UInt8)}(h:Y2p w B v l)(K:Y1 S w w')(hS: ∀b cs,Blk w b 9 cs→ ¬S b):Y2p w' B v l:=by
 obtain⟨a,c,hv,hl,hc,hx⟩:=h;refine⟨a,c,hv,hl,hc,?_⟩;rcases hx with hx | ⟨b,o,cs,hb,ha,hB,hcs⟩
 ·exact .inl hx
 ·exact .inr ⟨b,o,cs,hb,ha,K.blk hB (hS b cs hB),hcs⟩
def SF(g gp gn:Nat)(rv:Value)(k:Nat):Prop:=k=g∨k=gp∨k=gn∨rv.ownBlock=some k
structure Yl(T TG TN:TypeId)(w:World)(B g gp gn:Nat)(ov rv lv ta ga ua oa:Value)(sn ss:List UInt8)(lim:Int)(c:FCf)(s:FSt):Prop where
 blk:Blk w g T (Y14 (.pointer (some ⟨gn,0,none⟩)) ta ga ua oa sn ss lim c.name c.disc s.stat s.cmd (.pointer (some ⟨gp,0,none⟩)) lv s.closed)
 gat:Blk w gp TG #[.string (bs s.text),.int .i64 8192]
 neg:Blk w gn TN #[ov,rv]
 hov:PSl w ov c.own
 hrv:w.ownsRow B 78 2 rv s.rc.length (Y0 s.rc)
 sg:rv.ownBlock≠some gn
 so:Y3h ov c.own (SF g gp gn rv)
 lft:Y2p w B lv s.left
 gB:B≤g
 gpB:B≤gp
 gnB:B≤gn
 tl:s.text.length≤8192
 s0:0≤s.stat
 s1:s.stat≤4294967295
 c0:0≤s.cmd
 c1:s.cmd≤4294967295
 cf: ∀ (x:Int),ta≠ .int .u64 x∧ga≠ .int .u64 x∧ua≠ .int .u64 x∧oa≠ .int .u64 x
theorem Z2a{P:Prop}(h:P:=by
 intro e
 rcases h.2 with ⟨rfl,_⟩ | ⟨q,cap,cur,rfl,hb,hg,_⟩
 ·simp[Value.ownBlock]at e
 ·have hq:q=b:=by simpa[Value.ownBlock]using e
  subst hq
  unfold Blk at k
  rw[hg]at k
  simp only[YeO,Obj.cells.injEq]at k
  exact hn k.2.1.symm):P:=h
section
variable {T TG TN:TypeId}{w w':World}{B g gp gn:Nat}{ov rv lv ta ga ua oa:Value}{sn ss:List UInt8}{lim:Int}{c:FCf}{s:FSt}
theorem Yl.kept{S:Nat→Prop}(h:Yl T TG TN w B g gp gn ov rv lv ta ga ua oa sn ss lim c s)(K:Y1 S w w')(h1: ¬S g)(h2: ¬S gp)(h3: ¬S gn)(h4: ∀q,rv.ownBlock=some q→ ¬S q)(h5:Y3h ov c.own S)(h6: ∀b cs,Blk w b 9 cs→ ¬S b):
 Yl T TG TN w' B g gp gn ov rv lv ta ga ua oa sn ss lim c s:=
 ⟨K.blk h.blk h1,K.blk h.gat h2,K.blk h.neg h3,h.hov.kept h5 K,by
   rcases h.hrv.2 with h0 | ⟨q,cap,cur,hv,hb,hg,hx⟩
   ·exact⟨h.hrv.1,.inl h0⟩
   ·have hlt:q<w.heap.size:=by
     rcases YeU q w.heap.size with h1 | h1
     ·exact h1
     ·rw[YeA h1]at hg;cases hg
    exact⟨h.hrv.1,.inr ⟨q,cap,cur,hv,hb,(K.block q hlt (h4 q (by rw[hv];rfl))).trans hg,hx⟩⟩,h.sg,h.so,h.lft.kept K h6,h.gB,h.gpB,h.gnB,h.tl,h.s0,h.s1,h.c0,h.c1,h.cf⟩
theorem Yl.below(h:Yl T TG TN w B g gp gn ov rv lv ta ga ua oa sn ss lim c s)(hb:Below w.heap.size w w'):Yl T TG TN w' B g gp gn ov rv lv ta ga ua oa sn ss lim c s:=
 h.kept (S:=fun k=>w.heap.size≤k) ⟨hb.os,hb.tape,hb.output,hb.size,fun k hk _=>hb.block k hk⟩ (by have:=h.blk.lt;omega) (by have:=h.gat.lt;omega) (by have:=h.neg.lt;omega) (fun q hq=>by have:=(h.hrv.lt q hq).2;omega)
  (Y3h.new h.hov (fun k hk=>hk)) (fun b cs hB=>by have:=hB.lt;omega)
theorem Yl.far(h:Yl T TG TN w B g gp gn ov rv lv ta ga ua oa sn ss lim c s)(st cm:Int)(cl:Bool)(i:Nat)(x:Int):
 (Y14 (.pointer (some ⟨gn,0,none⟩)) ta ga ua oa sn ss lim c.name c.disc st cm (.pointer (some ⟨gp,0,none⟩)) lv cl)[i]?≠some (Value.int .u64 x):=by
 intro hx;have hm:=Array.mem_of_getElem? hx;obtain⟨a,b,d,e⟩:=h.cf x;obtain⟨la,lc,rfl,_⟩:=h.lft;simp[Y14,Ne.symm a,Ne.symm b,Ne.symm d,Ne.symm e]at hm
theorem Yl.own(h:Yl T TG TN w B g gp gn ov rv lv ta ga ua oa sn ss lim c s)(K:Y1 (fun k=>k=g) w w')(st cm:Int)(lv':Value)(l':List (List UInt8))(cl:Bool)
 (hB:Blk w' g T (Y14 (.pointer (some ⟨gn,0,none⟩)) ta ga ua oa sn ss lim c.name c.disc st cm (.pointer (some ⟨gp,0,none⟩)) lv' cl)) (hL:Y2p w' B lv' l') (s0:0≤st) (s1:st≤4294967295) (c0:0≤cm) (c1:cm≤4294967295)
 (n1:T≠TG) (n2:T≠TN) (n3:T≠78):Yl T TG TN w' B g gp gn ov rv lv' ta ga ua oa sn ss lim c {s with stat:=st,cmd:=cm,left:=l',closed:=cl}:=by
 have hrv:w'.ownsRow B 78 2 rv s.rc.length (Y0 s.rc):=by
  rcases h.hrv.2 with h0 | ⟨q,cap,cur,hv,hb,hg,hx⟩
  ·exact⟨h.hrv.1,.inl h0⟩
  ·have hlt:q<w.heap.size:=by
    rcases YeU q w.heap.size with h1 | h1
    ·exact h1
    ·rw[YeA h1]at hg;cases hg
   refine⟨h.hrv.1,.inr ⟨q,cap,cur,hv,hb,(K.block q hlt (fun e=> ?_)).trans hg,hx⟩⟩
   have e:q=g:=e
   subst e
   have:=h.blk
   unfold Blk at this
   rw[hg]at this
   simp only[YeO,Obj.cells.injEq]at this
   exact n3 this.2.1.symm
 exact⟨hB,K.blk h.gat (Ym h.blk h.gat n1).symm,K.blk h.neg (Ym h.blk h.neg n2).symm,h.hov.kept (h.so.mono fun k hk=> .inl hk) K,hrv,h.sg,h.so,hL,h.gB,h.gpB,h.gnB,h.tl,s0,s1,c0,c1,h.cf⟩
theorem Y41{U:TypeId}{b:Nat}{cs:Array Value}(h:w.ownsRow B 78 2 rv s.rc.length (Y0 s.rc))(k:Blk w b U cs)(hn:U≠78):rv.ownBlock≠some b:=by
 exact Z2a
end
def Y74(w:World)(v:Value)(l:List An):Prop:=
 (l= []∧v= .slice none 0 0)∨ ∃x b va,l= [x]∧v= .slice (some ⟨b,0,none⟩) 1 1∧Blk w b 63 #[.int .i64 x.op,.bool false,.int .i64 x.flags,va,.slice none 0 0,.string (bs x.d)]∧Sl w va 1 x.vs.length (Yb x.vs)
theorem Y74.below{w w':World}{v:Value}{l:List An}(h:Y74 w v l)(hb:Below w.heap.size w w'):Y74 w' v l:=by
 rcases h with h | ⟨x,b,va,h1,h2,h3,h4⟩
 ·exact .inl h
 ·exact .inr ⟨x,b,va,h1,h2,h3.below hb,h4.below (Ye9 _) hb⟩
theorem Y5y{w:World}{op flags:Int}{va:Value}{d:List UInt8}{vs:List Nat}(h:Sl w va 1 vs.length (Yb vs)):
 Y74 (w.alloc (.cells #[.int .i64 op,.bool false,.int .i64 flags,va,.slice none 0 0,.string (bs d)] 63)) (.slice (some ⟨w.heap.size,0,none⟩) 1 1) [⟨op,flags,vs,d⟩]:=
 .inr ⟨_,w.heap.size,va,rfl,rfl,Blk.new _ _ _,h.below (Ye9 _) ((Yea _ _).alloc (Ye9 _) _)⟩
end
end Go.Proofs.YtfadikchijkcfaaGreatDoor
