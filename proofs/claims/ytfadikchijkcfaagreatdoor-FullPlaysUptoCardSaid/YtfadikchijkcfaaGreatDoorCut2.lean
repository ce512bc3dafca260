/- strings.Index, Cut and Split at a separator of one byte. -/
import Derived.Test.YtfadikchijkcfaaGreatDoorListPure
import Derived.Test.YtfadikchijkcfaaGreatDoorParsePure
import Derived.Test.YtfadikchijkcfaaGreatDoorShelfL
import Derived.Deep.QuietTactic
import Derived.BigQuiet
import Derived.WalkSmall
set_option linter.unusedVariables false
set_option linter.unusedSectionVars false
set_option linter.unusedSimpArgs false
set_option maxRecDepth 100000
set_option maxHeartbeats 1000000
namespace Go.Proofs.YtfadikchijkcfaaGreatDoor
section
open Go.Proofs.Tryz
open Go.RowKit
theorem Y9Z(l:List (List UInt8)):Y4B l=(l.map fun x=>Value.string (bs x)).toArray:=rfl
theorem Y6l(l:List UInt8)(c:UInt8)(w:World):
 Calls prog 147 #[.string (bs l),.string (bs [c])] w fun e w'=>e= .returned (.int .i64 (Lib.indexByte l c))∧w'=w:=by
 have:=Tryz.strings_Index_one (bs l) c w;simpa[bs]using this
theorem Yao(l:List UInt8)(c:UInt8)(w:World):
 Calls prog 195 #[.string (bs l),.string (bs [c])] w fun e w'=>e= .returned (.int .i64 (Lib.indexByte l c))∧w'=w:=by
 have:=Tryz.stringslite_Index_one (bs l) c w;simpa[bs]using this
theorem Y9Y(l:List UInt8)(c:UInt8)(w:World):
 Calls prog 194 #[.string (bs l),.string (bs [c])] w fun e w'=>e= .returned (.int .i64 (l.count c:Nat))∧w'=w:=by
 have:=Tryz.strings_Count_one (bs l) c w;simpa[bs,Lib.countByte]using this
theorem Ydo{P:Program}(t e:TypeId)(ht:P.underlying t=some (.slice e))(hi:(P.info? e).map (fun i=>(i.zero,i.size,i.bytes))=some (some (.string ⟨#[]⟩),1,16))(n:Nat)(h:n≤17592186044416)(w:World):
 (Instr.makeSlice t (.int .i64 (n:Int)) (.int .i64 (n:Int))).run P w= .ok (.slice (some ⟨w.heap.size,0,none⟩) n n) (w.alloc (.cells (Y4B (List.replicate n [])) e)):=by
 obtain⟨i,h1,h2,h3,h4⟩:=Ygn hi;have:=run_make (P:=P) w t e i (.string ⟨#[]⟩) ht h1 h2 .i64 .i64 (n:Int) (n:Int) Z7 Z7 (by rw[h4];exact Z7) Z7;rw[this,h3];simp[madeCells,Y4B,Value.cells,List.map_replicate]
 congr 3
 apply Array.ext
 ·exact Z2t
 ·intro k _ _;simp[Nat.mod_one]
theorem Z3k{P Q:Prop}(k:Q)(h:Q→P:=by
 have s1:IntKind.i64.wrap ((i:Int) +1)=(i:Int) +1:=ZZ
 have s2:(0:Int)≤(i:Int) +1:=Z7
 have s3:((i:Int) +1).toNat=i+1:=Z7
 refine fun z_=>?_
 revert s3;revert s2;revert s1
 exact z_):P:=h k
end
section
open Go.Proofs.Tryz
open Go Go.RowKit
def AS(w:World):Prop:=Lib.TabIs prog w "strings.asciiSpace" .u8 Lib.asciiSpaceTab
theorem Ye1:prog.globalNamed "strings.asciiSpace" =some 1:=by kernel_rfl
theorem AS.lt{w:World}(h:AS w):1<w.heap.size:=by
 have:=Lib.TabIs.cell h Ye1 0 (by rw[Lib.asciiSpaceTab_length];exact Z7);exact Yeb this
theorem AS.below{w w':World}{B:Nat}(h:AS w)(hb:Below B w w')(hB:w.heap.size≤B):AS w':=var?_below hb Ye1 (Yee h.lt hB) h
theorem Y7y(l:List UInt8)(w:World)(hl:l.length<4294967281)(ha: ∀b∈l,b.toNat<128)(h:AS w):
 Calls prog 135 #[.string (bs l)] w fun e w'=>e= .returned (.slice (some ⟨w.heap.size,0,none⟩) (Lib.fields l).length (Lib.fields l).length)∧w'=w.alloc (.cells ((Lib.fields l).map fun x=>Value.string (bs x)).toArray 9):=
 Tryz.strings_Fields (bs l) w (by rw[YJ];exact hl) (fun j b hb=>ha b (Yer hb)) h
theorem YaE(w:World)(e:TypeId)(s:ByteArray):Below w.heap.size w (Lib.bytesWorld w e s):=
 ⟨rfl,rfl,rfl,by rw[Lib.bytesWorld_size];omega,fun k hk=>Lib.bytesWorld_at_old w e s k hk⟩
theorem Y68(l:List UInt8)(n:Int)(w:World)(hl:l.length≤18)(h:Lib.atoi l=some n):
 Calls prog 136 #[.string (bs l)] w fun e w'=>e= .returned (.tuple #[.int .i64 n,.nilIface])∧Below w.heap.size w w':=by
 refine(Tryz.strconv_Atoi (bs l) n (by rw[YJ];exact hl) h w).mono ?_;rintro e w' ⟨rfl,t,rfl⟩;exact⟨rfl,YaE _ _ _⟩
theorem Zt{P:Prop}(h:P:=by
 simp only
 exact Z7):P:=h
theorem Z4r{P Q:Prop}(k:Q)(h:Q→P:=by
 have hb:Below A.heap.size A (A.alloc o):=(Yea _ _).alloc (Ye9 _) _
 refine fun z_=>?_
 revert hb
 exact z_):P:=h k
end
section
open Go.Proofs.Tryz
open Go.RowKit
theorem infoStr1:(prog.info? 9).map (fun i=>(i.zero,i.size,i.bytes))=some (some (.string ⟨#[]⟩),1,16):=by kernel_rfl
def RGen(c:UInt8)(l:List UInt8)(w:World)(s i:Value)(wr:World):Prop:=
 ∃ (ds:List (List UInt8)) (r:List UInt8),ds.length+r.count c=l.count c∧r.length≤l.length∧s= .string (bs r)∧i= .int .i64 (ds.length:Nat)∧Yg c l=ds ++ Yg c r∧
  wr=w.alloc (.cells (Y4B (ds ++ List.replicate (r.count c+1) [])) 9)
theorem Y8f(c:UInt8)(l:List UInt8)(w:World)(hl:l.length≤1099511627776):
 Calls prog 146 #[.string (bs l),.string (bs [c]),.int .i64 0,.int .i64 (-1)] w fun e w' =>
  e= .returned (.slice (some ⟨w.heap.size,0,none⟩) (l.count c+1) (l.count c+1))∧w'=w.alloc (.cells (Y4B (Yg c l)) 9):=by
 have c1:=fun l w=>hid (Y9Y l c w)
 have c2:=fun l w=>hid (Y6l l c w)
 have hcl:l.count c≤l.length:=YfG;have hmin:min (l.count c:Int) (l.length:Int)=(l.count c:Int):=Z7;have hmk: ∀w,(Instr.makeSlice 22 (.int .i64 ((l.count c:Int) +1)) (.int .i64 ((l.count c:Int) +1))).run prog w= .ok (.slice (some ⟨w.heap.size,0,none⟩) (l.count c+1) (l.count c+1)) (w.alloc (.cells (Y4B (List.replicate (l.count c+1) [])) 9)):=fun w=>Ydo (P:=prog) 22 9 underlying22 infoStr1 (l.count c+1) Z7 w
 have hsp:Yg c l= [] ++ Yg c l:=rfl;have Hsp:=hid hsp;clear hsp;generalize hn:l.count c=n at *;have Hn:=hid hn;clear hn;have c1l:=c1 l;rw[Hn.out]at c1l;clear c1;go_enter func146,ntmps146;go_wp2_with (go_at_call 194;refine(c1l _).out.mono ?_;rintro e w1 ⟨rfl,rfl⟩);have hs1:IntKind.i64.wrap ((n:Int) +1 - 1)=(n:Int):=ZZ;go_loopw [0,10] (fun s i wr=>RGen c l w1 s i wr) (fun _ i _=>n - (intOf i).toNat)
 case atStart=>exact⟨[],l,by simp,by omega,rfl,rfl,Hsp.out,by rw[Hn.out];rfl⟩
 case round =>
  obtain⟨ds,r,hcnt,hrl,rfl,rfl,heq,rfl⟩:=hrel;rw[Hn.out]at hcnt;have Heq:=hid heq;clear heq;have c2r:=c2 r;rcases Y2H r c with ⟨h1,h2⟩ | ⟨i,h1,hi,h3,h4⟩
  ·have h0:r.count c=0:=List.count_eq_zero_of_not_mem h2;have hs:=Y31 c r h2;rw[h0]at hcnt ⊢
   have hset:(Y4B (ds ++ [[]])).setIfInBounds ds.length (.string (bs r))=Y4B (Yg c l):=by
    have:=YaQ ds 0 r;rw[Heq.out,hs];show(Y4B (ds ++ [[]])).setIfInBounds ds.length (.string ⟨r.toArray⟩)=_
    exact Z2Y
   have hg:(Y4B (ds ++ [[]]))[ds.length]?=some (.string (bs [])):=by rw[Y7Q _ _ Z2t];simp[bs]
   clear h1 h2 hs h0 c2 c2r;have Hset:=hid hset;clear hset;obtain rfl:ds.length=n:=Z7;go_wp2;go_ret;refine⟨rfl,?_⟩;rw[Hset.out]
  ·have h0:=YdS c r i h3 h4;have hs:=Y3w c r i h3 h4;rw[h1]at c2r;have hset:=YaQ ds ((r.drop (i+1)).count c+1) (r.take i);rw[←h0]at hset;rw[hs]at Heq;have Hset:=hid hset;have H0:=hid h0;clear h3 h4 h1 hset hs c2 h0;have hlt:(ds.length:Int) < (n:Int):=by have:=H0.out;exact Z7
   refine Z3k ?_;intro s1 s2 s3;have s4:(i:Int) +1≤(r.length:Int):=Z7;have s5:(i:Int)≤(r.length:Int):=Z7;have s6:(ds.length:Int) < (n:Int) +1:=Z7
   have hg:(Y4B (ds ++ List.replicate (r.count c+1) []))[ds.length]?=some (.string (bs [])):=by
    rw[Y7Q _ _ Z2t];simp[bs]
   go_wp2_with (go_at_call 147;refine(c2r _).out.mono ?_;rintro e w1 ⟨rfl,rfl⟩);go_roundw
   case rel =>
    refine⟨ds ++ [r.take i],r.drop (i+1),by rw[Yem,Yfp,Hn.out];have:=H0.out;omega,by simp;omega,rfl,by simp,by rw[Heq.out];simp,?_⟩;rw[←H0.out];exact Yeg (fun a=>w1.alloc (.cells a 9)) Hset.out
   case measure=>exact Zw
theorem Y4h(c:UInt8)(l:List UInt8)(w:World)(hl:l.length≤1099511627776):
 Calls prog 93 #[.string (bs l),.string (bs [c])] w fun e w' =>
  e= .returned (.slice (some ⟨w.heap.size,0,none⟩) (Yg c l).length (Yg c l).length)∧w'=w.alloc (.cells (Y4B (Yg c l)) 9):=by
 have c1:=fun w=>hid (Y8f c l w hl)
 rw[Y1K];generalize l.count c=n at *;generalize Yg c l=ps at *;go_enter func93,ntmps93;go_wp2_with (go_at_call 146;refine(c1 _).out.mono ?_;rintro e w1 ⟨rfl,rfl⟩);go_ret;exact⟨rfl,rfl⟩
end
section
open Go.Proofs.Tryz
open Go.RowKit
def Y73(c:UInt8)(l:List UInt8)(w:World)(e:Ending)(w':World):Prop:=
 e= .returned (.tuple #[.string (bs (Y1T c l).1),.string (bs (Y1T c l).2.1),.bool (Y1T c l).2.2])∧ ∃n,w'=w.drewN n
theorem Z3U{P:Prop}(h:P:=by
 simp[go_sem]):P:=h
theorem Yds(l:List UInt8)(c:UInt8)(w:World)(hl:l.length≤9223372036854775807):
 Calls prog 237 #[.string (bs l),.string (bs [c])] w fun e w'=>Y73 c l w e w':=by
 have c1:=fun w=>hid (Yao l c w)
 rcases Y2H l c with ⟨h1,h2⟩ | ⟨i,h1,hi,h3,h4⟩
 ·rw[h1]at c1;have hc:=hid (Y5e c l h2);clear h1 h2;go_enter func237,ntmps237;go_wp2_with (go_at_call 195;refine(c1 _).out.mono ?_;rintro e w1 ⟨rfl,rfl⟩);go_ret3;refine⟨?_,0,rfl⟩;rw[hc.out];rfl
 ·rw[h1]at c1;have hc:=hid (Y67 c l i h3 h4);clear h1 h3 h4;refine Z3k ?_;intro s1 s2 s3;have s4:(i:Int) +1≤(l.length:Int):=Z7;have s5:(i:Int)≤(l.length:Int):=Z7;go_enter func237,ntmps237;go_wp2_with (go_at_call 195;refine(c1 _).out.mono ?_;rintro e w1 ⟨rfl,rfl⟩);go_quiet (fail);go_wp2;go_ret3;refine⟨?_,_,rfl⟩;rw[hc.out];exact Z3U
theorem Ybg(l:List UInt8)(c:UInt8)(w:World)(hl:l.length≤9223372036854775807):
 Calls prog 203 #[.string (bs l),.string (bs [c])] w fun e w'=>Y73 c l w e w':=by
 have c1:=fun w=>hid (Yds l c w hl)
 unfold Y73 at c1 ⊢;generalize Y1T c l=r at *;obtain⟨r1,r2,r3⟩:=r;simp only at c1 ⊢;go_enter func203,ntmps203;go_wp2_with (go_at_call 237;refine(c1 _).out.mono ?_;rintro e w1 ⟨rfl,n,rfl⟩);go_ret3;exact⟨rfl,_,rfl⟩
end
end Go.Proofs.YtfadikchijkcfaaGreatDoor
