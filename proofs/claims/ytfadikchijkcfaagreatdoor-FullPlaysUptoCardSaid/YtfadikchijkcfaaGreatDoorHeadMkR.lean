/- What each name has: a map of strings. -/
import Derived.Test.YtfadikchijkcfaaGreatDoorParsePure
import Derived.Test.YtfadikchijkcfaaGreatDoorField
import Derived.Test.YtfadikchijkcfaaGreatDoorHeadRight
import Derived.Test.YtfadikchijkcfaaGreatDoorChecked
import Derived.StringKeys
import Derived.WideKeyEntry
import Derived.Test.YtfadikchijkcfaaGreatDoorHeadRdBase
import Derived.Deep.RegionHeld
import Derived.Test.YtfadikchijkcfaaGreatDoorListPure
import Derived.Test.YtfadikchijkcfaaGreatDoorCut2
import Derived.Test.YtfadikchijkcfaaGreatDoorRel
import Derived.Test.YtfadikchijkcfaaGreatDoorSame
import Derived.Test.YtfadikchijkcfaaGreatDoorOpen
set_option linter.unusedVariables false
set_option linter.unusedSectionVars false
set_option linter.unusedSimpArgs false
set_option maxRecDepth 100000
set_option maxHeartbeats 4000000
namespace Go.Proofs.YtfadikchijkcfaaGreatDoor
section
open Go.Proofs.Tryz
open Go Go.RowKit Go.Maps
theorem strLaw:Keyed prog 9:=string_keyed underlying9
theorem Ycv(w:World):(zeroValue 106).run prog w= .ok (.int .u64 0) w:=by kernel_rfl
def nmF(g:List UInt8→Nat)(v:Value):Value:=match v with | .string b=> .int .u64 (g b.data.toList:Nat) | _=> .int .u64 0
abbrev Y1n(w:World)(b n:Nat)(g:List UInt8→Nat):Prop:=Y16 w prog 9 106 (.lit (.int .u64 0)) b n (nmF g)
theorem Yay(x:Nat)(h:x≤18446744073709551615): ∃p,plainElem (H:=Unit) prog 106 (.int .u64 (x:Int))=some (.lit (.int .u64 (x:Int)),p):=
 ⟨[],plainElem_int underlying106 (WalkArith.wf_u64 (by omega))⟩
theorem YcB(s:List UInt8)(h:s.length≤9223372036854775807):keyOf prog 9 (.string (bs s))=some (.string s):=by
 exact Z3O
theorem Y1n.made(w:World):Y1n (w.alloc (.map #[] 0)) w.heap.size 0 (fun _=>0):=
 (Y16.made w (.int .u64 0) _ (Yay 0 (by omega))).fn fun v kl h=>by cases v<;>rfl
theorem Y1n.look{w:World}{b n:Nat}{g:List UInt8→Nat}(h:Y1n w b n g)(s:List UInt8)(hs:s.length≤9223372036854775807):
 (Instr.lookup 155 (.map (some b)) (.string (bs s)) false).run prog w= .ok (.int .u64 (g s:Nat)) w:=by
 have:=Y16.look h strLaw underlying155 (Ycv w) (Yay 0 Z7) (YcB s hs);rw[this];simp[nmF,bs]
theorem Y1n.put{w:World}{b n:Nat}{g:List UInt8→Nat}(h:Y1n w b n g)(hn:n<1000000)(s:List UInt8)(hs:s.length≤9223372036854775807)(x:Nat)(hx:x≤18446744073709551615):
 ∃w',(Instr.mapUpdate 155 (.map (some b)) (.string (bs s)) (.int .u64 (x:Int))).run prog w= .ok () w'∧Y1n w' b (n+1) (Y2C g s x)∧w.grownBy w' (some b):=by
 obtain⟨w',hr,hf,hg⟩:=Y16.put h strLaw underlying155 ZS (YcB s hs) ⟨_,Yay x hx⟩;refine⟨w',hr,hf _ (by simp[nmF,Y2C,bs]) (fun v hv=> ?_),hg⟩
 cases v<;>try rfl
 rename_i t
 simp only[nmF,Y2C];rw[Yed];intro e;apply hv;rw[←e]
 cases t
 simp[bs]
end
section
open Go.Proofs.Tryz
open Go Go.RowKit Go.Maps
open Go.ChangeMaps (heap_setBlock_same heap_setBlock_other)
open Go.WideMaps (string_law)
def PendN(w1:World)(b n:Nat)(g:List UInt8→Nat)(s:List UInt8)(st:Nat):Prop:=
 ∃ (es1:Array MapEntry) (c1:Nat),w1.heap[b]?=some (.map es1 c1)∧ ∀ (w2:World) (x:Nat),x≤18446744073709551615→w2.heap[b]?=some (.map es1 c1)→
  ∃w3,(Instr.entryStore 155 (.map (some b)) (goInt st) (.int .u64 (x:Int))).run prog w2= .ok () w3∧Y1n w3 b (n+1) (Y2C g s x)∧w2.grownBy w3 (some b)
theorem Y1n.entry{w:World}{b n:Nat}{g:List UInt8→Nat}(h:Y1n w b n g)(hn:n<1000000)(s:List UInt8)(hs:s.length≤9223372036854775807):
 ∃ (v0:Value) (st:Nat) (w1:World),(Instr.mapEntry 155 (.map (some b)) (.string (bs s))).run prog w= .ok (.tuple #[v0,goInt st]) w1∧w.grownBy w1 (some b)∧PendN w1 b n g s st:=by
 have h':=h;obtain⟨D,h1,⟨es,clock,hb,F,hsz,hD⟩,h3⟩:=h';obtain⟨v0,st,es1,c1,hrun,_,hst⟩:=WideElems.entry_then_store (string_law underlying9) underlying155 Ycv hb F (YcB s hs);refine⟨v0,st,_,hrun,⟨rfl,rfl,rfl,by simp[ChangeMaps.setBlock],fun i _ hi=>heap_setBlock_other hb _ (fun e=>hi (by rw[e]))⟩,es1,c1,heap_setBlock_same hb _,fun w2 x hx hw2=> ?_⟩;obtain⟨es',c',r1,r2⟩:=hst w2 (.int .u64 (x:Int)) hw2
 obtain⟨w',hr,hN,hg⟩:=Y1n.put h hn s hs x hx;rw[r2]at hr
 have he:w'=ChangeMaps.setBlock w b (.map es' c'):=by
  simp only[Result.ok.injEq,true_and]at hr;exact hr.symm
 refine⟨_,r1,Y16.same (w:=w') hN ?_,⟨rfl,rfl,rfl,by simp[ChangeMaps.setBlock],fun i _ hi=>heap_setBlock_other hw2 _ (fun e=>hi (by rw[e]))⟩⟩;rw[he];exact(heap_setBlock_same hw2 _).trans (heap_setBlock_same hb _).symm
end
section
open Go.Proofs.Tryz
open Go Go.RowKit
def strCells(ns:List (List UInt8)):List Value:=ns.map fun s=> .string (bs s)
theorem YcA{w:World}{v:Value}{ns:List (List UInt8)}(h:Sl w v 1 ns.length (strCells ns))(hn:0<ns.length):
 ∃b o c,v= .slice (some ⟨b,o,none⟩) ns.length c∧b<w.heap.size∧ ∀ (k:Nat) (s:List UInt8),ns[k]?=some s→w.cell? ⟨b,o+k,none⟩=some (.string (bs s)):=by
 obtain⟨a,c,rfl,hl,h | ⟨b,o,rfl,hc⟩⟩:=h
 ·exact Z7
 ·have hk: ∀ (k:Nat) (s:List UInt8),ns[k]?=some s→w.cell? ⟨b,o+k,none⟩=some (.string (bs s)):=fun k s hs=>hc k _ (by rw[strCells,YeR,hs];rfl)
  exact⟨b,o,c,rfl,YfX w ⟨b,o+0,none⟩ (hk 0 _ (Yec hn)),hk⟩
theorem make_u64(n:Nat)(h:n≤1000)(w:World):
 (Instr.makeSlice 58 (.int .i64 (n:Int)) (.int .i64 (n:Int))).run prog w= .ok (.slice (some ⟨w.heap.size,0,none⟩) n n) (w.alloc (.cells (Yb (List.replicate n 0)).toArray 106)):=by
 obtain⟨i,h1,h2,h3,h4⟩:=Ygn Yap;have:=run_make (P:=prog) w 58 106 i (.int .u64 0) underlying58 h1 h2 .i64 .i64 (n:Int) (n:Int) Z7 Z7 (by rw[h4];exact Z7) Z7;rw[this,h3];simp[madeCells,Yb,Value.cells,List.map_replicate]
 congr 3
 apply Array.ext
 ·exact Z2t
 ·intro j h5 h6;simp[Nat.mod_one]
theorem blk_sl{W:World}{V:Nat}{t:TypeId}{xs:List Nat}(h:Blk W V t (Yb xs).toArray):Sl W (.slice (some ⟨V,0,none⟩) xs.length xs.length) 1 xs.length (Yb xs):=
 ⟨_,_,rfl,by simp[Yb],.inr ⟨V,0,rfl,fun j u hu=>by rw[YfP,h.cell j];simpa using hu⟩⟩
theorem Y2R{w w':World}{h m:Nat}{t:TypeId}{cs:Array Value}(B:Blk w h t cs)(hg:w.grownBy w' (some m))(hne:h≠m):Blk w' h t cs:=
 (hg.block h B.lt (fun e=>hne (Yey e))).trans B
def Ybs(op flags:Int)(R:Nat×Int×List Nat)(w:World)(e:Ending)(w':World):Prop:=
 ∃v ev,e= .returned (.tuple #[Y1A (if R.1=0 then op else 0) false (if R.1=0 then flags else 0) v,ev])∧Y1c w' ev R.1 R.2.1∧Sl w' v 1 R.2.2.length (Yb R.2.2)∧Below w.heap.size w w'
def RMk(fs:List FR)(vs:List Nat)(ns:List (List UInt8))(V:Nat)(w5:World)(i:Value)(wr:World):Prop:=
 ∃ (k:Nat) (g:List UInt8→Nat),k≤ns.length∧i= .int .i64 (k:Nat)∧mkG fs vs ns 0 (fun _=>0)=mkG fs vs (ns.drop k) k g∧(∀m,g m≤18446744073709551615)∧Blk wr V 106 (Yb (fs.map fun f=>g f.name)).toArray∧w5.grownBy wr (some V)
def RMi(fs:List FR)(n:List UInt8)(wo:World)(a i:Value)(wi:World):Prop:=
 ∃j:Nat,j≤fs.length∧i= .int .i64 (j:Nat)∧a= .int .i64 (atN fs n j)∧Below wo.heap.size wo wi
theorem set_vals(fs:List FR)(hd:(fs.map FR.name).Nodup)(g:List UInt8→Nat)(n:List UInt8)(x p:Nat)(h:(fs[p]?.map FR.name)=some n):
 (Yb (fs.map fun f=>g f.name)).toArray.setIfInBounds p (.int .u64 (x:Int))=(Yb (fs.map fun f=>Y2C g n x f.name)).toArray:=by
 rw[map_setN fs hd g n x p h,YeF];simp[Yb,List.map_set]
theorem Z2f{P:Prop}(h:P:=by
 simp[results,results127,go_sem,t0,t1,t2,t3]
 rfl):P:=h
section
variable (op flags:Int)(nv vv:Value)(ns:List (List UInt8))(vs:List Nat)(w:World)(h0: -9223372036854775808≤op)(h1:op≤9223372036854775807)(g0: -9223372036854775808≤flags)(g1:flags≤9223372036854775807)
 (hn:ns.length≤60) (hm:vs.length≤60) (hv: ∀x∈vs,x≤18446744073709551615) (hns:Sl w nv 1 ns.length (strCells ns)) (hvs:Sl w vv 1 vs.length (Yb vs)) (hT:AS w) (hP:PT w)
include h0 h1 g0 g1 hn hm hv hns hvs hT hP
theorem make_any:Calls prog 127 #[.int .i64 op,.int .i64 flags,nv,vv] w fun e w'=>Ybs op flags (Y3L op flags ns vs) w e w':=by
 have c2:=fun w1 (hb:Below w.heap.size w w1)=>hid (Y3O op h0 h1 w1 (hT.below hb (Ye9 _)) (hP.below hb (Ye9 _)))
 have c3:=fun v xs w1 hn hv (hb:Below w.heap.size w w1) (hsl:Sl w1 v 1 xs.length (Yb xs))=>hid (Y6q op false flags v xs w1 h0 h1 g0 g1 hn hv hsl (hT.below hb (Ye9 _)) (hP.below hb (Ye9 _)))
 have C3:=hid c3;unfold Y2X at c2;have HNS:=hid hns;have HVS:=hid hvs;obtain⟨na,nc,rfl,_⟩:=hns;obtain⟨va,vc,rfl,_⟩:=hvs;have Hv:=hid hv;clear hT hP c3 hv;have b1:=(Yea w.heap.size w).alloc (Ye9 _) (.cells #[.int .i64 0,.bool false,.int .i64 0,.slice none 0 0] 60);have B1:=Blk.new w 60 #[.int .i64 0,.bool false,.int .i64 0,.slice none 0 0];have hC2:=(c2 _ b1).out;clear c2
 cases hf:Y1e op with
 | none =>
  rw[hf]at hC2;have HR:=hid (show Y3L op flags ns vs=(1,-1,[]) by unfold Y3L;rw[hf]);have HC2:=hid hC2;clear hC2;go_enter func127,ntmps127;go_wp2_with fail;refine HC2.out.mono ?_;rintro e w2 ⟨fv,rfl,_,hnil,hb2⟩;obtain rfl:=hnil (by trivial);have B2:=B1.below hb2;have b2:=b1.trans (hb2.mono b1.size);have v0:=B2.free 0;have v1:=B2.free 1;have v2:=B2.free 2;have v3:=B2.free 3;have t0:w2.cell? ⟨w.heap.size,0,none⟩=some (.int .i64 0):=(B2.cell 0).trans rfl
  have t1:w2.cell? ⟨w.heap.size,1,none⟩=some (.bool false):=(B2.cell 1).trans rfl;have t2:w2.cell? ⟨w.heap.size,2,none⟩=some (.int .i64 0):=(B2.cell 2).trans rfl;have t3:w2.cell? ⟨w.heap.size,3,none⟩=some (.slice none 0 0):=(B2.cell 3).trans rfl;simp only[HErr,hE,errV];go_wp2;refine Yej (v:= .tuple #[Y1A 0 false 0 (.slice none 0 0),.iface 36 (.int .i64 1)]) Z2f rfl ?_;refine⟨_,_,by rw[HR.out];rfl,by rw[HR.out];exact .bare 1 Z7,by rw[HR.out];exact Y2g _ _,?_⟩
  iterate 4 refine Ya ?_ (Ye9 w.heap.size) _ _
  exact b2
 | some r =>
  rw[hf]at hC2;have hmem:=YR hf;have hn0:=Y1Q r hmem;have hnf:=(YC r hmem).2.2.2.2.2.2.1;have Hnd:=hid (Yaj r hmem);have HR:=hid (show Y3L op flags ns vs=_ by unfold Y3L;rw[hf]);simp only[HErr,hE,errV,Y2y]at hC2;have HC2:=hid hC2;clear hC2;go_enter func127,ntmps127;go_wp2_with fail;refine HC2.out.mono ?_;rintro e w2 ⟨fv,rfl,hfs,_,hb2⟩;have B2:=B1.below hb2
  have b2:=b1.trans (hb2.mono b1.size);obtain⟨fb,fo,fc,rfl,hfb,hfc⟩:=Y1m hfs hn0;have HFC:=hid hfc;have hmk:=make_u64 r.fields.length Z7;have hlt2:=B2.lt;have BV:=Blk.new w2 106 (Yb (List.replicate r.fields.length 0)).toArray;have hA1:=(Yea w2.heap.size w2).alloc (Ye9 _) (.cells (Yb (List.replicate r.fields.length 0)).toArray 106);have hA2:=hA1.alloc hA1.size (.cells #[.int .i64 op,.bool false,.int .i64 flags,.slice (some ⟨w2.heap.size,0,none⟩) r.fields.length r.fields.length] 60)
  have BH:=Blk.new (w2.alloc (.cells (Yb (List.replicate r.fields.length 0)).toArray 106)) 60 #[.int .i64 op,.bool false,.int .i64 flags,.slice (some ⟨w2.heap.size,0,none⟩) r.fields.length r.fields.length];have BV:=BV.below ((Yea _ _).alloc (Ye9 _) (.cells #[.int .i64 op,.bool false,.int .i64 flags,.slice (some ⟨w2.heap.size,0,none⟩) r.fields.length r.fields.length] 60));simp only[YeI]at BH
  have B4:=B2.below hA2;have b4:=b2.trans (hA2.mono b2.size);clear hfc hfs HC2 B1 b1 hb2 hf;go_wp2_with fail;generalize hW5:(w2.alloc (.cells (Yb (List.replicate r.fields.length 0)).toArray 106)).alloc (.cells #[.int .i64 op,.bool false,.int .i64 flags,.slice (some ⟨w2.heap.size,0,none⟩) r.fields.length r.fields.length] 60)=W5 at *;have hs5:W5.heap.size=w2.heap.size+2:=by rw[←hW5];exact Z2t
  have BV:Blk W5 w2.heap.size 106 (Yb (r.fields.map fun f=>(fun _:List UInt8=>(0:Nat)) f.name)).toArray:=by
   have e:r.fields.map (fun f=>(fun _:List UInt8=>(0:Nat)) f.name)=List.replicate r.fields.length 0:=by
    simp[List.map_const']
   rw[e];exact BV
  clear hW5 hA1 hmk;go_loopw [36] (fun i wr=>RMk r.fields vs ns w2.heap.size W5 i wr) (fun i _=>ns.length - (intOf i).toNat)
  case atStart=>exact⟨0,_,by omega,rfl,rfl,fun _=>by simp,BV,Y1p _ _⟩
  case round =>
   rename World=>wo
   obtain⟨k,g,hk,rfl,heq,hgb,hBV,hO⟩:=hrel;have hsz:=hO.size;have hbw:=Y2W b4 hO b2.size b4.size;have hBr:=Y2R B4 hO Z7;have hBH:=Y2R BH hO Z7;by_cases hlt:k<ns.length
   ·obtain⟨n,hnk⟩: ∃n,ns[k]?=some n:=⟨ns[k],Yec hlt⟩;rw[mkG_drop r.fields vs ns k g n hnk]at heq;obtain⟨nb,no,nc',hne,hnb,hnc⟩:=YcA HNS.out Z7
    cases hne
    have hnb2:nb<W5.heap.size:=Yee hnb b4.size;have z0:=((Y1i hO (p:=⟨nb,no+k,none⟩) hnb2 (by show nb≠_;exact Z7)).trans (b4.cell (p:=⟨nb,no+k,none⟩) hnb)).trans (hnc k n hnk);have Heq:=hid heq;have Hgb:=hid hgb;clear heq hgb hnk hnc;go_wp2;go_loopw [15,43] (fun a i wi=>RMi r.fields n wo a i wi) (fun _ i _=>r.fields.length - (intOf i).toNat)
    case atStart=>exact Z1g
    case round =>
     obtain⟨j,hj,rfl,rfl,hbi⟩:=hrel;have hsi:=hbi.size;by_cases hjl:j<r.fields.length
     ·obtain⟨f,hfk⟩: ∃f,r.fields[j]?=some f:=⟨r.fields[j],Yec hjl⟩;obtain⟨y0,y1,y2⟩:=HFC.out j f hfk;have hfb5:fb<W5.heap.size:=Z7;have hfbo:fb<wo.heap.size:=Z7;have hfv:fb≠w2.heap.size:=Z7;have y0:=(hbi.cell (p:=⟨fb,fo+j * 3,none⟩) hfbo).trans ((Y1i hO (p:=⟨fb,fo+j * 3,none⟩) hfb5 hfv).trans ((hA2.cell (p:=⟨fb,fo+j * 3,none⟩) hfb).trans y0));have y1:=(hbi.cell (p:=⟨fb,fo+j * 3+1,none⟩) hfbo).trans ((Y1i hO (p:=⟨fb,fo+j * 3+1,none⟩) hfb5 hfv).trans ((hA2.cell (p:=⟨fb,fo+j * 3+1,none⟩) hfb).trans y1))
      have y2:=(hbi.cell (p:=⟨fb,fo+j * 3+2,none⟩) hfbo).trans ((Y1i hO (p:=⟨fb,fo+j * 3+2,none⟩) hfb5 hfv).trans ((hA2.cell (p:=⟨fb,fo+j * 3+2,none⟩) hfb).trans y2));have Hst:=hid (Ybk r.fields n j f hfk);have q8:w.heap.size<wr.heap.size:=Z7;clear hfk;by_cases hname:f.name=n
      ·have hbe:(f.name == n)=true:=Z3Q;have Hat:=hid (show atN r.fields n (j+1)=(j:Int) by rw[Hst.out,Yei hname]);go_wp2;go_roundw
       case rel=>exact⟨j+1,by omega,by go_num,by rw[Hat.out],hbi.alloc hsi _⟩
       case measure=>exact Zw
      ·have hbe:(f.name == n)=false:=Z3Q;have Hat:=hid (show atN r.fields n (j+1)=atN r.fields n j by rw[Hst.out,Yed hname]);go_wp2;go_roundw
       case rel=>exact⟨j+1,by omega,by go_num,by rw[Hat.out],hbi.alloc hsi _⟩
       case measure=>exact Zw
     ·obtain rfl:j=r.fields.length:=Z7;have hBr2:=hBr.below hbi;have hbw2:=hbw.trans (hbi.mono hbw.size)
      have hcs:(hasN r.fields n r.fields.length=false∧atN r.fields n r.fields.length<0)∨(hasN r.fields n r.fields.length=true∧ ∃p:Nat,p<r.fields.length∧atN r.fields n r.fields.length=(p:Int)∧(r.fields[p]?.map FR.name)=some n):=by
       have h1:=hasN_at r.fields n r.fields.length (Ye9 _);have h2:=Ye0 r.fields n r.fields.length;by_cases h:0≤atN r.fields n r.fields.length
       ·right;obtain⟨p,hp⟩:=YfU h;exact⟨by rw[h1,Yel h],p,by omega,hp,atN_name _ _ _ _ (Ye9 _) hp⟩
       ·left;exact⟨by rw[h1,Yeh h],by omega⟩
      rcases hcs with ⟨hh,ha⟩ | ⟨hh,p,hp,ha,hpn⟩
      ·have HRf:=hid (show Y3L op flags ns vs=(5,-1,[]) by
        rw[HR.out,Heq.out,Yei hh];rfl)
       have hd:=Yel ha;generalize atN r.fields n r.fields.length=ai at *;clear hh;have v0:=hBr2.free 0;have v1:=hBr2.free 1;have v2:=hBr2.free 2;have v3:=hBr2.free 3;have t0:World.cell? _ ⟨w.heap.size,0,none⟩=some (.int .i64 0):=(hBr2.cell 0).trans rfl;have t1:World.cell? _ ⟨w.heap.size,1,none⟩=some (.bool false):=(hBr2.cell 1).trans rfl;have t2:World.cell? _ ⟨w.heap.size,2,none⟩=some (.int .i64 0):=(hBr2.cell 2).trans rfl
       have t3:World.cell? _ ⟨w.heap.size,3,none⟩=some (.slice none 0 0):=(hBr2.cell 3).trans rfl;go_wp2;refine Yej (v:= .tuple #[Y1A 0 false 0 (.slice none 0 0),.iface 36 (.int .i64 5)]) Z2f rfl ?_;refine⟨_,_,by rw[HRf.out];rfl,by rw[HRf.out];exact .bare 5 Z7,by rw[HRf.out];exact Y2g _ _,?_⟩
       iterate 4 refine Ya ?_ (Ye9 w.heap.size) _ _
       exact hbw2
      ·have heq2:=Heq.out;rw[Yed (by rw[hh];exact Z2t)]at heq2;have Heq2:=hid heq2;clear heq2;rw[ha];have hd:decide ((p:Int) < 0)=false:=Yeh Z7;clear hh ha;by_cases hkv:k<vs.length
       ·obtain⟨x,hx⟩: ∃x,vs[k]?=some x:=⟨vs[k],Yec hkv⟩;obtain⟨vb,vo,vc',hve,hvb,hvc⟩:=Y21 HVS.out Z7
        cases hve
        have hvb2:vb<W5.heap.size:=Yee hvb b4.size;have zx:=(hbi.cell (p:=⟨vb,vo+k,none⟩) (Yee hvb2 hsz)).trans (((Y1i hO (p:=⟨vb,vo+k,none⟩) hvb2 (by show vb≠_;exact Z7)).trans (b4.cell (p:=⟨vb,vo+k,none⟩) hvb)).trans (hvc k x hx));have hx64:=Hv.out x (Yer hx);have heq3:=Heq2.out;rw[hx]at heq3;have Heq3:=hid heq3;clear heq3;have hd2:decide ((vs.length:Int)≤(k:Int))=false:=Yeh Z7
        have hBV2:=hBV.below hbi;have hBH2:=hBH.below hbi;have Hset:=hid (set_vals r.fields Hnd.out g n x p hpn);clear hx hvc hpn;go_wp2;have hmx:prog.follows .mixedOrders=true:=by kernel_rfl
        refine YeS (n:=4).1 ?_;refine Y3K (aF:= ?kA) 8 [(66,.pointer (some ⟨w2.heap.size+1,3,none⟩)),(67,.slice (some ⟨w2.heap.size,0,none⟩) r.fields.length r.fields.length),(68,.int .i64 (p:Int)),(69,.slice (some ⟨vb,vo,none⟩) vs.length vc),(70,.int .i64 (k:Int)),(71,.pointer (some ⟨vb,vo+k,none⟩)),(72,.int .u64 (x:Int)),(73,.pointer (some ⟨w2.heap.size,p,none⟩))] (fun W=>Below wr.heap.size wr W) ?kB hmx rfl (by kernel_rfl) (by kernel_rfl) (fun w w' h hb=>h.trans (hb.mono h.size)) (Yea _ _).drew ?kC rfl ?kD
        case kB =>
         simp only[Yn,YeP,Yfn,YeF,Yf4,Yf3];exact rfl
        case kC =>
         have hrf: ∀w:World,Below w.heap.size w w:=fun w=>Yea _ w
         have p3:wr.cell? ⟨w2.heap.size+1,3,none⟩=some (.slice (some ⟨w2.heap.size,0,none⟩) r.fields.length r.fields.length):=(hBH2.cell 3).trans rfl;refine⟨?_,?_,?_,?_,?_,?_,?_,?_,trivial⟩
         all_goals refine⟨by simp,fun W h=>⟨by simp[go_sem,Oper.about],?_⟩⟩
         all_goals
          have u1:=(h.cell (p:=⟨vb,vo+k,none⟩) (by show vb < _;exact Z7)).trans zx;have u2:=(h.cell (p:=⟨w2.heap.size+1,3,none⟩) hBH2.lt).trans p3;clear h
         all_goals first
          | (simp[Y76,go_sem,hrf];done)
          | (simp[Y76,go_sem,hrf,u1];done)
          | (simp[Y76,go_sem,hrf,u2];done)
          | (simp[Y76,go_sem,hrf,hkv];done)
          | (simp[Y76,go_sem,hrf,hp];done)
          | skip
        case kD =>
         intro W hW;have hBV3:=hBV2.below hW;have fz:=hBV3.free p
         have tz:W.cell? ⟨w2.heap.size,p,none⟩=some (.int .u64 (g (r.fields[p]).name:Nat)):=by
          rw[hBV3.cell p];simp[Yb,hp]
         gi_wp2;have hbW:=hbi.trans (hW.mono hsi);have hg1:W5.grownBy W (some w2.heap.size):=Y1L hO ⟨hbW.os,hbW.tape,hbW.output,hbW.size,fun i hi _=>hbW.block i hi⟩;have hg2:W5.grownBy (W.setCell ⟨w2.heap.size,p,none⟩ (.int .u64 (x:Int))) (some w2.heap.size):=Y1L hg1 ⟨rfl,rfl,rfl,by simp[World.setCell],fun i _ hi=>YeN W ⟨w2.heap.size,p,none⟩ _ i (fun e=>hi (by rw[e]))⟩
         have hBV4:=hBV3.set p (.int .u64 (x:Int));rw[Hset.out]at hBV4;go_wp2;go_roundw
         case rel=>exact⟨k+1,_,by omega,by go_num,Heq3.out,fun m=>by
          unfold Y2C
          split
          ·exact hx64
          ·exact Hgb.out m,hBV4,hg2⟩
         case measure=>exact Zw
       ·have HRf:=hid (show Y3L op flags ns vs=(7,-1,[]) by
         have h:=Heq2.out;rw[Yfq (by omega)]at h
         rw[HR.out,h];rfl)
        have hd2:decide ((vs.length:Int)≤(k:Int))=true:=Yel Z7;have v0:=hBr2.free 0;have v1:=hBr2.free 1;have v2:=hBr2.free 2;have v3:=hBr2.free 3;have t0:World.cell? _ ⟨w.heap.size,0,none⟩=some (.int .i64 0):=(hBr2.cell 0).trans rfl;have t1:World.cell? _ ⟨w.heap.size,1,none⟩=some (.bool false):=(hBr2.cell 1).trans rfl;have t2:World.cell? _ ⟨w.heap.size,2,none⟩=some (.int .i64 0):=(hBr2.cell 2).trans rfl
        have t3:World.cell? _ ⟨w.heap.size,3,none⟩=some (.slice none 0 0):=(hBr2.cell 3).trans rfl;go_wp2;refine Yej (v:= .tuple #[Y1A 0 false 0 (.slice none 0 0),.iface 36 (.int .i64 7)]) Z2f rfl ?_;refine⟨_,_,by rw[HRf.out];rfl,by rw[HRf.out];exact .bare 7 Z7,by rw[HRf.out];exact Y2g _ _,?_⟩
        iterate 4 refine Ya ?_ (Ye9 w.heap.size) _ _
        exact hbw2
   ·obtain rfl:k=ns.length:=Z7;rw[mkG_end r.fields vs ns _ g (Ye9 _)]at heq
    have HRx:=hid (show Y3L op flags ns vs=if(Yo op false flags (r.fields.map fun f=>g f.name)).1≠0 then((Yo op false flags (r.fields.map fun f=>g f.name)).1,(Yo op false flags (r.fields.map fun f=>g f.name)).2,[])else(0,-1,r.fields.map fun f=>g f.name) by
     rw[HR.out,heq];rfl)
    have hvl:(r.fields.map fun f=>g f.name).length=r.fields.length:=Z2t
    have hvb: ∀x∈r.fields.map (fun f=>g f.name),x≤18446744073709551615:=by
     intro x hx;obtain⟨f,_,rfl⟩:=Yg4.1 hx;exact hgb _
    have hsl:=blk_sl hBV;have d3:=(C3.out _ _ wo Z7 hvb hbw hsl).out;rw[hvl]at d3 hsl;unfold Y4d at d3;unfold Y1A at d3;have D3:=hid d3;have HBV:=hid hBV;have HSL:=hid hsl;generalize r.fields.map (fun f=>g f.name)=xs at *;have p0:wo.cell? ⟨w2.heap.size+1,0,none⟩=some (.int .i64 op):=(hBH.cell 0).trans rfl;have p1:wo.cell? ⟨w2.heap.size+1,1,none⟩=some (.bool false):=(hBH.cell 1).trans rfl;have p2:wo.cell? ⟨w2.heap.size+1,2,none⟩=some (.int .i64 flags):=(hBH.cell 2).trans rfl
    have p3:wo.cell? ⟨w2.heap.size+1,3,none⟩=some (.slice (some ⟨w2.heap.size,0,none⟩) r.fields.length r.fields.length):=(hBH.cell 3).trans rfl;clear d3 hvb hgb heq hBV hsl C3;go_wp2_with fail;refine D3.out.mono ?_;rintro e W9 ⟨ev,rfl,her,hb9⟩;have hBr9:=hBr.below hb9;have hBH9:=hBH.below hb9;have b9:=hbw.trans (hb9.mono hbw.size);have hsl9:=HSL.out.below (Ye9 _) hb9;have HBV9:=hid (HBV.out.below hb9)
    clear p0 p1 p2 p3 D3;have v0:=hBr9.free 0;have v1:=hBr9.free 1;have v2:=hBr9.free 2;have v3:=hBr9.free 3;have t0:World.cell? _ ⟨w.heap.size,0,none⟩=some (.int .i64 0):=(hBr9.cell 0).trans rfl;have t1:World.cell? _ ⟨w.heap.size,1,none⟩=some (.bool false):=(hBr9.cell 1).trans rfl;have t2:World.cell? _ ⟨w.heap.size,2,none⟩=some (.int .i64 0):=(hBr9.cell 2).trans rfl;have t3:World.cell? _ ⟨w.heap.size,3,none⟩=some (.slice none 0 0):=(hBr9.cell 3).trans rfl
    by_cases hk0:(Yo op false flags xs).1=0
    ·have HRf:=hid (show Y3L op flags ns vs=(0,-1,xs) by rw[HRx.out,Yed (by simp[hk0])]);rw[hk0]at her;obtain rfl:=Y3S her;have p0:W9.cell? ⟨w2.heap.size+1,0,none⟩=some (.int .i64 op):=(hBH9.cell 0).trans rfl;have p1:W9.cell? ⟨w2.heap.size+1,1,none⟩=some (.bool false):=(hBH9.cell 1).trans rfl;have p2:W9.cell? ⟨w2.heap.size+1,2,none⟩=some (.int .i64 flags):=(hBH9.cell 2).trans rfl;have p3:W9.cell? ⟨w2.heap.size+1,3,none⟩=some (.slice (some ⟨w2.heap.size,0,none⟩) r.fields.length r.fields.length):=(hBH9.cell 3).trans rfl
     go_wp2;refine Yej (v:= .tuple #[Y1A op false flags (.slice (some ⟨w2.heap.size,0,none⟩) r.fields.length r.fields.length),.nilIface]) Z2f rfl ?_;have hne0:w.heap.size≠w2.heap.size:=Z7;have hBV9:=HBV9.out;have hfar: ∀ (W:World) (i:Nat) (u:Value),Blk W w2.heap.size 106 (Yb xs).toArray→Blk (W.setCell ⟨w.heap.size,i,none⟩ u) w2.heap.size 106 (Yb xs).toArray:=fun W i u h=>(YeN W ⟨w.heap.size,i,none⟩ u w2.heap.size (fun e=>hne0 e.symm)).trans h
     have hs8:=blk_sl (hfar _ 3 (.slice (some ⟨w2.heap.size,0,none⟩) r.fields.length r.fields.length) (hfar _ 2 (.int .i64 flags) (hfar _ 1 (.bool false) (hfar _ 0 (.int .i64 op) hBV9))));rw[hvl]at hs8;refine⟨_,_,by rw[HRf.out,Yei rfl,Yei rfl],by rw[HRf.out];exact .nil,by rw[HRf.out];rw[show xs.length=r.fields.length from hvl];exact hs8,?_⟩
     iterate 4 refine Ya ?_ (Ye9 w.heap.size) _ _
     exact b9
    ·have HRf:=hid (show Y3L op flags ns vs=((Yo op false flags xs).1,(Yo op false flags xs).2,[]) by rw[HRx.out,Yei hk0]);generalize Yo op false flags xs=rh at *;obtain⟨rk,rp⟩:=rh;simp only at her hk0 HRf
     cases her with
     | nil=>exact absurd rfl hk0
     | bare k2 h =>
      go_wp2;refine Yej (v:= .tuple #[Y1A 0 false 0 (.slice none 0 0),.iface 36 (.int .i64 (rk:Int))]) Z2f rfl ?_;refine⟨_,_,by rw[HRf.out,Yed hk0,Yed hk0],by rw[HRf.out];exact .bare rk h,by rw[HRf.out];exact Y2g _ _,?_⟩
      iterate 4 refine Ya ?_ (Ye9 w.heap.size) _ _
      exact b9
     | at_ k2 h pl b e0 e1 =>
      have hbn:w.heap.size≠b:=by
       rintro rfl;have:=t1.symm.trans e1;simp at this
      go_wp2;refine Yej (v:= .tuple #[Y1A 0 false 0 (.slice none 0 0),.iface 120 (.pointer (some ⟨b,0,none⟩))]) Z2f rfl ?_;refine⟨_,_,by rw[HRf.out,Yed hk0,Yed hk0],by rw[HRf.out];refine .at_ rk h rp b ?_ ?_<;> (rw[World.cell?_setCell_far _ _ _ _ hbn,World.cell?_setCell_far _ _ _ _ hbn,World.cell?_setCell_far _ _ _ _ hbn,World.cell?_setCell_far _ _ _ _ hbn];assumption),by rw[HRf.out];exact Y2g _ _,?_⟩
      iterate 4 refine Ya ?_ (Ye9 w.heap.size) _ _
      exact b9
end
end
section
open Go.Proofs.Tryz
open Go Go.RowKit
theorem Yar{w w1 w2:World}{r:Option Nat}(h:w.grownBy w1 r)(h2:w1.grownBy w2 r):w.grownBy w2 r:=
 ⟨h2.os.trans h.os,h2.tape.trans h.tape,h2.output.trans h.output,Yeu h.size h2.size,fun k hk hne=>(h2.block k (Yee hk h.size) hne).trans (h.block k hk hne)⟩
theorem Y5l(c:UInt8)(l:List UInt8): ∀x∈Yg c l,x.length≤l.length:=by
 induction l with
 | nil=>intro x hx;simp[Yg]at hx;simp[hx]
 | cons b l ih =>
  intro x hx;rw[Yg]at hx
  split at hx
  ·rcases Yf0.1 hx with rfl | h
   ·simp
   ·exact Nat.le_succ_of_le (ih x h)
  ·split at hx
   ·rw[Yfs.1 hx];simp
   ·rename_i p ps heq
    rcases Yf0.1 hx with rfl | h
    ·have:=ih p (by rw[heq];exact List.mem_cons_self);simp;omega
    ·exact Nat.le_succ_of_le (ih x (by rw[heq];exact List.mem_cons_of_mem _ h))
def RL(ps:List (List UInt8))(i:Value):Prop:=
 ∃ (k:Nat) (seen:List (List UInt8)),k≤ps.length∧i= .int .i64 (k:Nat)∧(∀y,seen.contains y=(ps.take k).contains y)∧okW [] ps=okW seen (ps.drop k)
def RLj(ps:List (List UInt8))(x:List UInt8)(k:Nat)(j:Value):Prop:=
 ∃m:Nat,m≤k∧j= .int .i64 (m:Nat)∧ ∀y∈ps.take m,y≠x
theorem Ydq{s:List UInt8}(h:okW [] (Yg 44 s)=false):Y4G s=([],3):=by
 unfold Y4G;rw[Yed (by rw[h];exact Z2t)]
theorem YbY{s:List UInt8}(h:okW [] (Yg 44 s)=true):Y4G s=(Yg 44 s,0):=by
 unfold Y4G;rw[Yei h]
def Y9F(R:List (List UInt8)×Nat)(w:World)(e:Ending)(w':World):Prop:=
 ∃v,e= .returned (.tuple #[v,.int .i64 (R.2:Nat)])∧Sl w' v 1 R.1.length (strCells R.1)∧Below w.heap.size w w'
def Y8H(R:List (List UInt8)×Nat)(w:World)(e:Ending)(w':World):Prop:=
 ∃v,e= .returned (.tuple #[v,errV 36 R.2])∧Sl w' v 1 R.1.length (strCells R.1)∧Below w.heap.size w w'
theorem sl_arr(w:World)(ps:List (List UInt8)):Sl (w.alloc (.cells (Y4B ps) 9)) (.slice (some ⟨w.heap.size,0,none⟩) ps.length ps.length) 1 ps.length (strCells ps):=by
 refine⟨_,_,rfl,by simp[strCells],.inr ⟨w.heap.size,0,rfl,fun j u hu=> ?_⟩⟩;rw[YfP,YeJ _ _ _ _ _ _ (YeC _ _),Y9Z];simpa[strCells]using hu
theorem Y8x(w:World)(ps:List (List UInt8))(j:Nat)(x:List UInt8)(h:ps[j]?=some x):(w.alloc (.cells (Y4B ps) 9)).cell? ⟨w.heap.size,j,none⟩=some (.string (bs x)):=by
 rw[YeJ _ _ _ _ _ _ (YeC _ _),Y9Z];simp[h]
theorem Z31{P:Prop}(h:P:=by
 intro z hz
 rw[Yeq hy1,hy2]at hz
 rcases YfN.1 hz with h | h
 ·exact hno z h
 ·rw[Yfs.1 h]
  exact fun e=>hxy e.symm):P:=h
theorem Z3t{P Q:Prop}(k:Q)(h:Q→P:=by
 have c:=fun w=>hid (Y4h 44 s w Z7)
 have h44:(⟨#[44]⟩:ByteArray)=bs [44]:=rfl
 have hpl:(Yg 44 s).length≤s.length+1:=by rw[Y1K];have:=YfG (a:=(44:UInt8)) (l:=s);exact Z7
 have hbad:=hid (fun h=>@Ydq s h)
 have hgood:=hid (fun h=>@YbY s h)
 refine fun z_=>?_
 revert hgood;revert hbad;revert hpl;revert h44;revert c
 exact z_):P:=h k
theorem YcT(s:List UInt8)(w:World)(hl:s.length≤1000000):Calls prog 82 #[.string (bs s)] w fun e w'=>Y9F (Y4G s) w e w':=by
 refine Z3t ?_;intro c h44 hpl hbad hgood;obtain⟨P,hP⟩: ∃P,Y4G s=P:=⟨_,rfl⟩;rw[hP]at hbad hgood ⊢;clear hP;have HSL:=hid (sl_arr w (Yg 44 s));have HAC:=hid (Y8x w (Yg 44 s));generalize Yg 44 s=ps at *;have hpn:ps.length≤1000001:=Z7;clear hpl;go_enter func82,ntmps82;rw[h44];go_wp2_with fail;refine(c _).out.mono ?_;rintro e w1 ⟨rfl,rfl⟩;have hbW:Below w.heap.size w (w.alloc (.cells (Y4B ps) 9)):=(Yea _ _).alloc (Ye9 _) _
 generalize hW1:w.alloc (.cells (Y4B ps) 9)=W1 at *;clear hW1 c;have HBW:=hid hbW;clear hbW;go_wp2;go_loop [13] (fun i=>RL ps i) (fun i=>ps.length - (intOf i).toNat)
 case atStart=>exact⟨0,[],by omega,rfl,by simp,rfl⟩
 case round =>
  obtain⟨k,seen,hk,rfl,hse,hok⟩:=hrel;by_cases hlt:k<ps.length
  ·obtain⟨x,hx⟩: ∃x,ps[k]?=some x:=⟨ps[k],Yec hlt⟩;have hc:=HAC.out k x hx;have hst:=okW_at ps k hk seen x hx hse;have hnx:=Y8W ps k seen x hx hse;rw[hst]at hok;have HOK:=hid hok;have HSE:=hid hse;have HNX:=hid hnx;have HX:=hid hx;clear hok hst hse hnx hx;go_wp2;go_loop [22] (fun j=>RLj ps x k j) (fun j=>k - (intOf j).toNat)
   case atStart=>exact⟨0,by omega,rfl,by simp⟩
   case round =>
    obtain⟨m,hm,rfl,hno⟩:=hrel;by_cases hmk:m<k
    ·obtain⟨y,hy⟩: ∃y,ps[m]?=some y:=⟨ps[m],Yec Z7⟩;have hcy:=HAC.out m y hy;obtain⟨hy1,hy2⟩:=Yek.1 hy;by_cases hxy:x=y
     ·have hcon:(ps.take k).contains x=true:=by
       rw[Yfj,hxy,←hy2];exact List.mem_take_iff_getElem.2 ⟨m,by omega,rfl⟩
      have hf:okW [] ps=false:=by rw[HOK.out,hcon];exact Z2t
      have HR:=hid (hbad.out hf);have hbe:(x == y)=true:=by simpa using hxy
      clear hno hy hy1 hy2 hcon hf hxy;go_wp2;go_ret2;rw[HR.out];exact⟨_,rfl,Y2g _ _,HBW.out⟩
     ·have hbe:(x == y)=false:=by simpa using hxy
      have hn2: ∀z∈ps.take (m+1),z≠x:=by
       exact Z31
      have HN2:=hid hn2;clear hno hy hy1 hy2 hxy hn2;go_wp2;go_round
      case rel=>exact⟨m+1,by omega,by go_num,HN2.out⟩
      case measure=>exact Zw
    ·obtain rfl:m=k:=Z7
     have hcon:(ps.take m).contains x=false:=by
      cases hq:(ps.take m).contains x with
      | false=>rfl
      | true=>exact absurd rfl (hno x (Yfj.1 hq))
     have HC:=hid hcon;clear hno hcon
     cases x with
     | nil =>
      have HR:=hid (hbad.out (show okW [] ps=false by rw[HOK.out];exact Z2t));go_wp2;go_ret2;rw[HR.out];exact⟨_,rfl,Y2g _ _,HBW.out⟩
     | cons a x =>
      have hem:(a :: x).isEmpty=false:=rfl;have HO2:=hid (show okW [] ps=okW ((a :: x) :: seen) (ps.drop (m+1)) by rw[HOK.out,HC.out];exact Z2t);go_wp2;go_round
      case rel=>exact⟨m+1,(a :: x) :: seen,by omega,by go_num,HNX.out,HO2.out⟩
      case measure=>exact Zw
  ·obtain rfl:k=ps.length:=Z7;have ht:okW [] ps=true:=by rw[hok,Ydi _ _ _ (Ye9 _)]
   have HR:=hid (hgood.out ht);clear hok ht hse;go_wp2;go_ret2;rw[HR.out];exact⟨_,rfl,HSL.out,HBW.out⟩
def RLk(ps:List (List UInt8))(b:Nat)(W2:World)(i:Value)(wr:World):Prop:=
 ∃ (k:Nat) (seen:List (List UInt8)),k≤ps.length∧i= .int .i64 (k:Nat)∧(∀y,seen.contains y=(ps.take k).contains y)∧okW [] ps=okW seen (ps.drop k)∧Y1X wr b k seen∧W2.grownBy wr (some b)
theorem Y8b(s:List UInt8)(w:World)(hl:s.length≤100000):Calls prog 87 #[.string (bs s)] w fun e w'=>Y8H (Y4G s) w e w':=by
 refine Z3t ?_;intro c h44 hpl hbad hgood;have hlen:=hid (fun x (hx:x∈Yg 44 s)=>Y5l 44 s x hx);obtain⟨P,hP⟩: ∃P,Y4G s=P:=⟨_,rfl⟩;rw[hP]at hbad hgood ⊢;clear hP;have HSL:=hid (sl_arr w (Yg 44 s));have HAC:=hid (Y8x w (Yg 44 s));generalize Yg 44 s=ps at *;have hpn:ps.length≤100001:=Z7;have hmm:=@run_makeMap prog;clear hpl;go_enter func87,ntmps87;rw[h44];go_wp2_with fail
 refine(c _).out.mono ?_;rintro e w1 ⟨rfl,rfl⟩;have hbW:Below w.heap.size w (w.alloc (.cells (Y4B ps) 9)):=(Yea _ _).alloc (Ye9 _) _;have hsW:(w.alloc (.cells (Y4B ps) 9)).heap.size=w.heap.size+1:=Z2t;generalize hW1:w.alloc (.cells (Y4B ps) 9)=W1 at *;clear hW1 c;have HBW:=hid hbW;clear hbW;have HSW:=hid hsW;clear hsW;have hM0:=hid (Y1X.made W1);have hb2:=hid ((Yea W1.heap.size W1).alloc (Ye9 _) (.map #[] 0))
 go_wp2;go_loopw [13] (fun i wr=>RLk ps W1.heap.size (W1.alloc (.map #[] 0)) i wr) (fun i _=>ps.length - (intOf i).toNat)
 case atStart=>exact⟨0,[],by omega,rfl,by simp,rfl,hM0.out,⟨rfl,rfl,rfl,Ye9 _,fun _ _ _=>rfl⟩⟩
 case round =>
  obtain⟨k,seen,hk,rfl,hse,hok,hM,hg⟩:=hrel;have hwW:=HSW.out;have hbr:Below w.heap.size w wr:=((HBW.out.trans (hb2.out.mono HBW.out.size)).grown hg (by have:=HBW.out.size;exact Zd) (fun k hk=>by cases hk;exact Z7));have HBR:=hid hbr;clear hbr
  have hcl: ∀ (j:Nat) (x:List UInt8),ps[j]?=some x→wr.cell? ⟨w.heap.size,j,none⟩=some (.string (bs x)):=fun j x hx =>
   hg.cell ((hb2.out.cell (p:=⟨w.heap.size,j,none⟩) Zd).trans (HAC.out j x hx)) Zd
  by_cases hlt:k<ps.length
  ·obtain⟨x,hx⟩: ∃x,ps[k]?=some x:=⟨ps[k],Yec hlt⟩;have hc:=hcl k x hx;have hxl:=hlen.out x (Yer hx);have hst:=okW_at ps k hk seen x hx hse;have hnx:=Y8W ps k seen x hx hse;rw[hst,←hse]at hok;have hlk:=hM.look x Z7;obtain⟨w5,hr5,hM5,hg5⟩:=hM.put Z7 x Z7;have HOK:=hid hok;have HNX:=hid hnx;have HM5:=hid hM5;have HG5:=hid hg5;have HG:=hid hg;clear hok hst hse hnx hx hM hM5 hg5 hg hcl hM0 hmm hwW
   cases x with
   | nil =>
    have HR:=hid (hbad.out (show okW [] ps=false by rw[HOK.out];exact Z2t));clear hr5;go_wp2;go_ret2;rw[HR.out];exact⟨_,rfl,Y2g _ _,HBR.out⟩
   | cons a x =>
    have hem:(a :: x).isEmpty=false:=rfl
    cases hq:seen.contains (a :: x)with
    | true =>
     have HR:=hid (hbad.out (show okW [] ps=false by rw[HOK.out,hq];exact Z2t));rw[hq]at hlk;clear hr5 hq;go_wp2;go_ret2;rw[HR.out];exact⟨_,rfl,Y2g _ _,HBR.out⟩
    | false =>
     have HO2:=hid (show okW [] ps=okW ((a :: x) :: seen) (ps.drop (k+1)) by rw[HOK.out,hq];exact Z2t);rw[hq]at hlk;clear hq;go_wp2;go_roundw
     case rel=>exact⟨k+1,(a :: x) :: seen,by omega,by go_num,HNX.out,HO2.out,HM5.out,Yar HG.out HG5.out⟩
     case measure=>exact Zw
  ·obtain rfl:k=ps.length:=Z7;have ht:okW [] ps=true:=by rw[hok,Ydi _ _ _ (Ye9 _)]
   have HR:=hid (hgood.out ht);have hsl:=HSL.out.below (Ye9 _) hb2.out
   have hsl2:Sl wr (.slice (some ⟨w.heap.size,0,none⟩) ps.length ps.length) 1 ps.length (strCells ps):=by
    refine⟨_,_,rfl,by simp[strCells],.inr ⟨w.heap.size,0,rfl,fun j u hu=> ?_⟩⟩;rw[YfP];have hj:j<ps.length:=by have:=(Yek.1 hu).1;simpa[strCells]using this
    rw[hcl j ps[j] (Yec hj)];simpa[strCells,hj]using hu
   have HS2:=hid hsl2;clear hok ht hse hM hg hcl hsl hsl2 hM0 hmm hwW;go_wp2;go_ret2;rw[HR.out];exact⟨_,rfl,HS2.out,HBR.out⟩
end
section
open Go Go.RowKit
theorem u64_snoc(xs:List Nat)(k x:Nat)(h:xs[k]?=some x):Yb (xs.take (k+1))=Yb (xs.take k) ++ [.int .u64 (x:Int)]:=by
 refine Z43 ?_;intro h1 h2;rw[Yeq h1,h2,Yb,Yb,Yfi];rfl
theorem Yb4{h:Nat}{W w:World}(k:Y1Z h W w){b:Nat}{t:TypeId}{cs:Array Value}(B:Blk W b t cs)(hn:b≠h):Blk w b t cs:=(k.keep b B.lt hn).trans B
section
variable {H:Nat}{ht:TypeId}{hc r1 f1:Array Value}{base:Nat}{sl:Value}{n:Nat}{cs:List Value}{w W W':World}{d:Nat→Bool}
end
section
variable (op flags:Int)(nv vv:Value)(ns:List (List UInt8))(vs:List Nat)(w:World)(h0: -9223372036854775808≤op)(h1:op≤9223372036854775807)(g0: -9223372036854775808≤flags)(g1:flags≤9223372036854775807)
 (hn:ns.length≤60) (hm:vs.length≤60) (hv: ∀x∈vs,x≤18446744073709551615) (hnl: ∀s∈ns,s.length≤9223372036854775807) (hns:Sl w nv 1 ns.length (strCells ns)) (hvs:Sl w vv 1 vs.length (Yb vs))
include h0 h1 g0 g1 hn hm hv hnl hns hvs
end
end
end Go.Proofs.YtfadikchijkcfaaGreatDoor
