/- All keys that are known: by the program and by the document. -/
import Derived.Test.YtfadikchijkcfaaGreatDoorParsePure
import Derived.Test.YtfadikchijkcfaaGreatDoorCut2
import Derived.Test.YtfadikchijkcfaaGreatDoorHeadFields
import Derived.Test.YtfadikchijkcfaaGreatDoorKeyPure
import Derived.Test.YtfadikchijkcfaaGreatDoorShelfL
import Derived.Test.YtfadikchijkcfaaGreatDoorField
set_option linter.unusedVariables false
set_option linter.unusedSectionVars false
set_option linter.unusedSimpArgs false
set_option maxRecDepth 100000
set_option maxHeartbeats 4000000
namespace Go.Proofs.YtfadikchijkcfaaGreatDoor
section
open Go Go.RowKit Go.Shelf
attribute [local go_sem] Oper.semAt_some
theorem Yc1{pre:List (List UInt8)}{x:List UInt8}(h:pre ++ [x] <+: Yg 124 Y4I): ∃k,Yh[pre.length]?=some k∧x=k.text∧pre=(Yh.take pre.length).map KR.text:=by
 rw[Y8V]at h;obtain⟨t,ht⟩:=h
 have hl:pre.length<Yh.length:=by
  have:=Yeg List.length ht;simp at this;exact Z7
 refine⟨Yh[pre.length],by simp[hl],?_,?_⟩
 ·have:=Yeg (·[pre.length]?) ht;simpa[List.getElem?_append,hl]using this
 ·have:=Yeg (·.take pre.length) ht;simpa[List.map_take]using this
theorem kt_len:Y4I.length≤1099511627776:=by decide
end
section
open Go.Proofs.Tryz
open Go Go.RowKit
def KR.cells(k:KR):List Value:= [.string (bs k.name),.int .i64 (YA k.lk:Int),.int .i64 (YA k.ll:Int),.int .i64 (YA k.lh:Int),.string (bs k.dv),.bool (k.no == [78]),.bool (k.lo == [76])]
def Y6a:List Value:=Yh.flatMap KR.cells
theorem flat7(l:List KR)(i:Nat)(k:KR)(h:l[i]?=some k)(j:Nat)(hj:j<7):(l.flatMap KR.cells)[i * 7+j]?= (k.cells)[j]?:=by
 induction l generalizing i with
 | nil=>simp at h
 | cons x l ih =>
  rw[YfK]
  cases i with
  | zero =>
   simp only[YeZ,YeO]at h;subst h;rw[Yfl (by simp[KR.cells];exact Z7)];simp
  | succ i =>
   rw[Yfv (by simp[KR.cells];exact Z7),show(i+1) * 7+j - (KR.cells x).length=i * 7+j by simp[KR.cells];omega];exact ih i Z3o
def Y9H(w:World)(e:Ending)(w':World):Prop:=
 e= .returned (.slice (some ⟨w.heap.size,0,none⟩) 18 18)∧w'=w.alloc (.cells Y6a.toArray 131)
theorem Ydt(w:World):Calls prog 89 #[] w fun e w'=>Y9H w e w':=by
 go_enter func89,ntmps89;go_wp2;go_ret;exact⟨rfl,Yeg (fun c=>w.alloc (.cells c _)) (by kernel_rfl)⟩
end
section
open Go.Proofs.Tryz
open Go Go.RowKit
theorem Y2c(w:World)(i:Nat)(k:KR)(h:Yh[i]?=some k)(j:Nat)(hj:j<7):(w.alloc (.cells Y6a.toArray 131)).cell? ⟨w.heap.size,i * 7+j,none⟩=(k.cells)[j]?:=by
 rw[YeJ _ _ _ _ _ _ (YeC _ _),Yf1];exact flat7 Yh i k h j hj
def K7(W:World)(g:Nat):Prop:= ∀i k,Yh[i]?=some k→W.cell? ⟨g,i * 7,none⟩=some (.string (bs k.name))∧W.cell? ⟨g,i * 7+1,none⟩=some (.int .i64 (YA k.lk:Int))∧W.cell? ⟨g,i * 7+2,none⟩=some (.int .i64 (YA k.ll:Int))∧W.cell? ⟨g,i * 7+3,none⟩=some (.int .i64 (YA k.lh:Int))∧W.cell? ⟨g,i * 7+4,none⟩=some (.string (bs k.dv))∧W.cell? ⟨g,i * 7+5,none⟩=some (.bool (k.no == [78]))∧W.cell? ⟨g,i * 7+6,none⟩=some (.bool (k.lo == [76]))
theorem k7_known(w:World):K7 (w.alloc (.cells Y6a.toArray 131)) w.heap.size:=fun i k h =>
 ⟨Y2c w i k h 0 (by omega),Y2c w i k h 1 (by omega),Y2c w i k h 2 (by omega),Y2c w i k h 3 (by omega),Y2c w i k h 4 (by omega),Y2c w i k h 5 (by omega),Y2c w i k h 6 (by omega)⟩
theorem K7.below{W W':World}{g:Nat}(h:K7 W g){B:Nat}(hb:Below B W W')(hg:g<B):K7 W' g:=fun i k hk=>by
 obtain⟨a0,a1,a2,a3,a4,a5,a6⟩:=h i k hk
 exact⟨(hb.cell (p:=⟨g,i * 7,none⟩) hg).trans a0,(hb.cell (p:=⟨g,i * 7+1,none⟩) hg).trans a1,(hb.cell (p:=⟨g,i * 7+2,none⟩) hg).trans a2,(hb.cell (p:=⟨g,i * 7+3,none⟩) hg).trans a3,(hb.cell (p:=⟨g,i * 7+4,none⟩) hg).trans a4,(hb.cell (p:=⟨g,i * 7+5,none⟩) hg).trans a5,(hb.cell (p:=⟨g,i * 7+6,none⟩) hg).trans a6⟩
def Y2s:Option KR→Value
 | none=> .agg #[.string (bs []),.int .i64 0,.int .i64 0,.int .i64 0,.string (bs []),.bool false,.bool false]
 | some k=> .agg k.cells.toArray
def Y2t:Option KR→Nat
 | none=>5
 | some _=>0
theorem Y7v{name:List UInt8}{i:Nat}{k:KR}(h:Yh[i]?=some k)(hn: ∀x∈Yh.take i,x.name≠name)(he:k.name=name):Y2j Yh name=some k:=by
 refine Z43 ?_;intro h1 h2
 have hs:Yh=Yh.take i ++ k :: Yh.drop (i+1):=by
  rw[←h2,List.getElem_cons_drop,YfA]
 rw[hs,Y2j,List.find?_append];have hn0:(Yh.take i).find? (fun k=>k.name == name)=none:=Yg2.2 fun x hx=>by simpa using hn x hx
 rw[hn0];simp[he]
theorem Y7w{name:List UInt8}(hn: ∀x∈Yh,x.name≠name):Y2j Yh name=none:=Yg2.2 fun x hx=>by simpa using hn x hx
def RKeyOf(name:List UInt8)(w w1:World)(i:Value)(wr:World):Prop:=
 ∃k:Nat,k≤18∧i= .int .i64 (k:Nat)∧(∀x∈Yh.take k,x.name≠name)∧Blk wr w.heap.size 131 #[.string (bs []),.int .i64 0,.int .i64 0,.int .i64 0,.string (bs []),.bool false,.bool false]∧Below w1.heap.size w1 wr
theorem Y56(name:List UInt8)(w:World):Calls prog 43 #[.string (bs name)] w fun e w'=>e= .returned (.tuple #[Y2s (Y2j Yh name),.int .i64 (Y2t (Y2j Yh name):Nat)])∧Below w.heap.size w w':=by
 go_enter func43,ntmps43;have c1:=fun w=>hid (Ydt w)
 obtain⟨w1,hw1⟩: ∃w1,w.alloc (.cells #[.string (bs []),.int .i64 0,.int .i64 0,.int .i64 0,.string (bs []),.bool false,.bool false] 131)=w1:=⟨_,rfl⟩;have hBlk:Blk w1 w.heap.size 131 #[.string (bs []),.int .i64 0,.int .i64 0,.int .i64 0,.string (bs []),.bool false,.bool false]:=by rw[←hw1];exact Blk.new _ _ _
 have hs1:w1.heap.size=w.heap.size+1:=by rw[←hw1];exact Z2t
 have hb1:Below w.heap.size w w1:=by rw[←hw1];exact Ze
 have hK:=k7_known w1;have c1:=c1 w1;unfold Y9H at c1;obtain⟨w2,hw2⟩: ∃w2,w1.alloc (.cells Y6a.toArray 131)=w2:=⟨_,rfl⟩;rw[hw2]at hK c1;have hs2:w2.heap.size=w.heap.size+2:=by rw[←hw2];exact Zd
 have hb2:Below w1.heap.size w1 w2:=by rw[←hw2];exact Ze
 have HBlk:=hid (hBlk.below hb2);have HK:=hid hK;clear hK hw2 hBlk;rw[hs1]at HK c1;go_wp2_with (first | (go_at_call 89;change Calls _ _ _ (w.alloc (.cells #[.string (bs []),.int .i64 0,.int .i64 0,.int .i64 0,.string (bs []),.bool false,.bool false] 131)) _;rw[hw1];refine c1.out.mono ?_;rintro e w' ⟨rfl,rfl⟩));clear hw1 c1;go_loopw [8] (fun i wr=>RKeyOf name w w' i wr) (fun i _=>18 - (intOf i).toNat)
 case atStart=>exact⟨0,by omega,rfl,by simp,HBlk.out,Yea _ _⟩
 case round =>
  obtain⟨k,hk,rfl,hno,hblk,hb⟩:=hrel;have hB:=hb.size;have HB:=hid hblk;have hzlt:w.heap.size<wr.heap.size:=Z7;have hzne: ¬w.heap.size=wr.heap.size:=Z7;have q0:=hblk.free 0;have q1:=hblk.free 1;have q2:=hblk.free 2;have q3:=hblk.free 3;have q4:=hblk.free 4;have q5:=hblk.free 5;have q6:=hblk.free 6;have p0:wr.cell? ⟨w.heap.size,0,none⟩=some (.string (bs [])):=(hblk.cell 0).trans rfl;have p1:wr.cell? ⟨w.heap.size,1,none⟩=some (.int .i64 0):=(hblk.cell 1).trans rfl
  have p2:wr.cell? ⟨w.heap.size,2,none⟩=some (.int .i64 0):=(hblk.cell 2).trans rfl;have p3:wr.cell? ⟨w.heap.size,3,none⟩=some (.int .i64 0):=(hblk.cell 3).trans rfl;have p4:wr.cell? ⟨w.heap.size,4,none⟩=some (.string (bs [])):=(hblk.cell 4).trans rfl;have p5:wr.cell? ⟨w.heap.size,5,none⟩=some (.bool false):=(hblk.cell 5).trans rfl;have p6:wr.cell? ⟨w.heap.size,6,none⟩=some (.bool false):=(hblk.cell 6).trans rfl
  clear hblk;by_cases hlt:k<18
  ·obtain⟨kr,hkr⟩: ∃kr,Yh[k]?=some kr:=⟨Yh[k]'(by show k<18;exact hlt),Yec _⟩;obtain⟨a0,a1,a2,a3,a4,a5,a6⟩:=(HK.out.below hb Z7) k kr hkr;by_cases hname:kr.name=name
   ·have Hf:=hid (Y7v hkr hno hname);have he:(kr.name == name)=true:=Z3Q;clear hkr;go_wp2;refine Yej (v:= .tuple #[.agg kr.cells.toArray,.int .i64 0]) (by simp[results,results43,go_sem,p0,p1,p2,p3,p4,p5,p6,hzlt,KR.cells,hname]) rfl ?_;refine⟨by rw[Hf.out];rfl,?_⟩;have hb':Below w.heap.size w wr:=hb1.trans ((hb2.mono Z7).trans (hb.mono Z7));refine Ygw ?_ (by simp[World.setCell];exact Z7) _
    iterate 7 refine Ya ?_ (Ye9 w.heap.size) _ _
    exact hb'
   ·have he:(kr.name == name)=false:=Z3Q
    have hno': ∀x∈Yh.take (k+1),x.name≠name:=by
     obtain⟨h1,h2⟩:=Yek.1 hkr;rw[Yeq h1,h2];intro x hx;rcases YfN.1 hx with hx | hx
     ·exact hno x hx
     ·rw[Yfs.1 hx];exact hname
    have Hno:=hid hno';clear hno hno' hkr;go_wp2;go_roundw
    case rel=>exact⟨k+1,by omega,by go_num,Hno.out,HB.out.below ((Yea _ _).alloc (Ye9 _) _),hb.alloc hB _⟩
    case measure=>exact Zw
  ·obtain rfl:k=18:=Z7;have Hf:=hid (Y7w (name:=name) (by rw[show(18:Nat)=Yh.length from rfl,Yex]at hno;exact hno));clear hno;go_wp2;refine Yej (v:= .tuple #[.agg #[.string (bs []),.int .i64 0,.int .i64 0,.int .i64 0,.string (bs []),.bool false,.bool false],.int .i64 5]) (by simp[results,results43,go_sem,p0,p1,p2,p3,p4,p5,p6];rfl) rfl ?_;refine⟨by rw[Hf.out];rfl,?_⟩
   have hb':Below w.heap.size w wr:=hb1.trans ((hb2.mono Z7).trans (hb.mono Z7))
   iterate 7 refine Ya ?_ (Ye9 w.heap.size) _ _
   exact hb'
end
section
open Go.Proofs.Tryz
open Go Go.RowKit Go.Shelf
attribute [local go_sem] Oper.semAt_some
def Y9L:Array Value:= #[.string (bs []),.int .i64 0,.int .i64 0,.int .i64 0,.string (bs []),.bool false,.bool false]
structure IOf(base b:Nat)(name:List UInt8)(w0:World)(pre:List (List UInt8))(W:World):Prop where
 below:Below base w0 W
 nm:Blk W base 9 #[.string (bs name)]
 res:Blk W (base+1) 131 Y9L
 err:Blk W (base+2) 43 #[.nilIface]
 no: ∀x∈Yh.take pre.length,x.name≠name
 lt:b+2<W.heap.size
structure XOf(base b:Nat)(name:List UInt8)(w0:World)(j:Code)(pre:List (List UInt8))(W:World):Prop where
 ret:j= .ret
 below:Below base w0 W
 ok: ∃k,Y2j Yh name=some k∧Blk W (base+1) 131 k.cells.toArray
 err:Blk W (base+2) 43 #[.nilIface]
theorem YcC(base b B:Nat)(name:List UInt8)(w0:World)(h1:base+2<b)(h2:b+2<B)(h3:base≤w0.heap.size):Y5S B b (IOf base b name w0):=by
 refine⟨?_,?_,?_⟩
 ·rintro s A o ⟨a1,a2,a3,a4,a5,a6⟩;refine Z4r ?_;intro hb;exact⟨a1.alloc (Yeu h3 a1.size) _,a2.below hb,a3.below hb,a4.below hb,a5,by rw[YeI];omega⟩
 ·rintro s A l o o' ⟨a1,a2,a3,a4,a5,a6⟩ hl hl' ho;exact⟨Y2J a1 Z7 _,YP a2 hl' ho o',YP a3 hl' ho o',YP a4 hl' ho o',a5,by simpa using a6⟩
 ·rintro s A u ⟨a1,a2,a3,a4,a5,a6⟩;exact⟨Ya a1 Z7 _ _,a2.far Zt u,a3.far Zt u,a4.far Zt u,a5,by simpa[World.setCell]using a6⟩
theorem YbA(base b B:Nat)(name:List UInt8)(w0:World)(j:Code)(h1:base+2<b)(h2:b+2<B)(h3:base≤w0.heap.size):Y5S B b (XOf base b name w0 j):=by
 refine⟨?_,?_,?_⟩
 ·rintro s A o ⟨a1,a2,⟨k,hk,a3⟩,a4⟩;refine Z4r ?_;intro hb;exact⟨a1,a2.alloc (Yeu h3 a2.size) _,⟨k,hk,a3.below hb⟩,a4.below hb⟩
 ·rintro s A l o o' ⟨a1,a2,⟨k,hk,a3⟩,a4⟩ hl hl' ho;exact⟨a1,Y2J a2 Z7 _,⟨k,hk,YP a3 hl' ho o'⟩,YP a4 hl' ho o'⟩
 ·rintro s A u ⟨a1,a2,⟨k,hk,a3⟩,a4⟩;exact⟨a1,Ya a2 Z7 _ _,⟨k,hk,a3.far Zt u⟩,a4.far Zt u⟩
def Y7G(name:List UInt8)(w:World)(e:Ending)(w':World):Prop:=
 e= .returned (.tuple #[Y2s (Y2j Yh name),errV 36 (Y2t (Y2j Yh name))])∧Below w.heap.size w w'
def nArr(k:KR)(j:Nat):Array Value:= #[.int .i64 (if 0<j then(YA k.lk:Int)else 0),.int .i64 (if 1<j then(YA k.ll:Int)else 0),.int .i64 (if 2<j then(YA k.lh:Int)else 0)]
theorem of_end{B r r2:Nat}{T T2:TypeId}{wr:World}(v0 v1 v2 v3 v4 v5 v6 e e0:Value)(o:Obj)(h1:Blk wr r T Y9L)(h2:Blk wr r2 T2 #[e0])(hne:r≠r2)(hr:B≤r)(hr2:B≤r2):
 let W6:=(((((((((wr.setCell ⟨r,0,none⟩ v0).setCell ⟨r,1,none⟩ v1).setCell ⟨r,2,none⟩ v2).setCell ⟨r,3,none⟩ v3).setCell ⟨r,4,none⟩ v4).setCell ⟨r,5,none⟩ v5).setCell ⟨r,6,none⟩ v6).setCell ⟨r2,0,none⟩ e).alloc o).drew
 KeepsOthers wr W6∧Below B wr W6∧Blk W6 r T #[v0,v1,v2,v3,v4,v5,v6]∧Blk W6 r2 T2 #[e]:=by
 intro W6
 have hlt:=h1.lt
 refine⟨?_,?_,?_,?_⟩
 ·refine KeepsOthers.trans ?_ (KeepsOthers.drew _)
  refine KeepsOthers.trans ?_ (KeepsOthers.alloc _ _)
  iterate 8 refine KeepsOthers.trans ?_ (KeepsOthers.setCell _ _ _)
  exact KeepsOthers.refl _
 ·refine Below.drew ?_
  refine Ygw ?_ (by simp[World.setCell];omega) _
  refine Ya ?_ hr2 _ _
  iterate 7 refine Ya ?_ hr _ _
  exact Yea _ _
 ·have h:=((((((((h1.set 0 v0).set 1 v1).set 2 v2).set 3 v3).set 4 v4).set 5 v5).set 6 v6).far (p:=⟨r2,0,none⟩) hne e)
  exact h.below (((Yea _ _).alloc (Ye9 _) _).drew)
 ·have h:=(((((((h2.far (p:=⟨r,0,none⟩) hne.symm v0).far (p:=⟨r,1,none⟩) hne.symm v1).far (p:=⟨r,2,none⟩) hne.symm v2).far (p:=⟨r,3,none⟩) hne.symm v3).far (p:=⟨r,4,none⟩) hne.symm v4).far (p:=⟨r,5,none⟩) hne.symm v5).far (p:=⟨r,6,none⟩) hne.symm v6).set 0 e
  exact h.below (((Yea _ _).alloc (Ye9 _) _).drew)
theorem of_end0{B r r2 D:Nat}{T T2:TypeId}{wr:World}(v0 v1 v2 v3 v4 v5 v6 e e0:Value)(ob:Obj)(h1:Blk wr r T Y9L)(h2:Blk wr r2 T2 #[e0])(hD:wr.heap[D]?=some ob)(hob:ob.isCells=false)(hne:r≠r2)(hr:B≤r)(hr2:B≤r2):
 ∃W6,((((((((wr.setCell ⟨r,0,none⟩ v0).setCell ⟨r,1,none⟩ v1).setCell ⟨r,2,none⟩ v2).setCell ⟨r,3,none⟩ v3).setCell ⟨r,4,none⟩ v4).setCell ⟨r,5,none⟩ v5).setCell ⟨r,6,none⟩ v6).setCell ⟨r2,0,none⟩ e)=W6∧
 W6.heap[D]?=some ob∧Below B wr W6∧Blk W6 r T #[v0,v1,v2,v3,v4,v5,v6]∧Blk W6 r2 T2 #[e]:=by
 refine⟨_,rfl,?_,?_,?_,?_⟩
 ·have d1:D≠r:=by rintro rfl;unfold Blk at h1;rw[h1]at hD;cases hD;cases hob
  have d2:D≠r2:=by rintro rfl;unfold Blk at h2;rw[h2]at hD;cases hD;cases hob
  rw[YeN _ _ _ _ d2]
  iterate 7 rw[YeN _ _ _ _ d1]
  exact hD
 ·refine Ya ?_ hr2 _ _
  iterate 7 refine Ya ?_ hr _ _
  exact Yea _ _
 ·exact((((((((h1.set 0 v0).set 1 v1).set 2 v2).set 3 v3).set 4 v4).set 5 v5).set 6 v6).far (p:=⟨r2,0,none⟩) hne e)
 ·exact(((((((h2.far (p:=⟨r,0,none⟩) hne.symm v0).far (p:=⟨r,1,none⟩) hne.symm v1).far (p:=⟨r,2,none⟩) hne.symm v2).far (p:=⟨r,3,none⟩) hne.symm v3).far (p:=⟨r,4,none⟩) hne.symm v4).far (p:=⟨r,5,none⟩) hne.symm v5).far (p:=⟨r,6,none⟩) hne.symm v6).set 0 e
def ROf(k:KR)(W W2:World)(i:Value)(wr:World):Prop:=
 ∃j:Nat,j≤3∧i= .int .i64 (j:Nat)∧Blk wr (W.heap.size+1) 259 (nArr k j)∧Below (W.heap.size+1) W2 wr
theorem Z4o{P:Prop}(h:P:=by
 rw[←hW2]
 exact Z2t):P:=h
theorem Y99(name:List UInt8)(w:World)(hT:AS w):Calls prog 85 #[.string (bs name)] w fun e w'=>Y7G name w e w':=by
 have c1: ∀ (s:ByteArray) (h:s=bs Y4I) (w:World),Hid (Calls prog 134 #[.string s,.string (bs [124])] w (Y8C w Y4I 124)):=by
  rintro s rfl w;exact hid (Y4S Y4I 124 w)
 have c2:=fun(k:KR) (hk:k∈Yh) (w:World) (h:AS w)=>hid (Y7y k.text w (by have:=(Y55 k hk).2.2.1;exact Z7) (Y55 k hk).2.1 h)
 have c3:=fun l n w h1 h2=>hid (Y68 l n w h1 h2)
 refine(Yez (n:=3)).1 ?_;refine callsIn_of_wp_marks func85 rfl trivial ?_ rfl;simp only[ntmps85,List.size_toArray,YeH,YeV,Nat.reduceAdd,Nat.reduceSub,Array.replicate_succ,Array.replicate_zero,List.push_toArray,List.append_toArray,List.nil_append,Yg0];gi_wp2_with (refine⟨trivial,?_⟩;gi_at_call 134;refine(Yez.2 (c1 _ (by kernel_rfl) _).out).mono ?_;rintro e w1 ⟨b,hb,rfl,hB,hbl⟩)
 simp only[YeI]at hb;have hb2:=(Yeo.1 hB.2.2).1;have hsz1:w.heap.size+3≤w1.heap.size:=Z7;have r0:=(Blk.new w 9 #[.string (bs name)]);have r1:=(Blk.new (w.alloc (.cells #[.string (bs name)] 9)) 131 Y9L);have r2:=(Blk.new ((w.alloc (.cells #[.string (bs name)] 9)).alloc (.cells Y9L 131)) 43 #[.nilIface]);have r1':=r1.below ((Yea _ _).alloc (Ye9 _) (.cells #[.nilIface] 43))
 have r0':=(r0.below ((Yea _ _).alloc (Ye9 _) (.cells Y9L 131))).below ((Yea _ _).alloc (Ye9 _) (.cells #[.nilIface] 43));have r0:=r0'.below hbl;have r1:=r1'.below hbl;have r2:=r2.below hbl;simp only[YeI]at r0 r1 r2;have hb0:Below w.heap.size w w1:=((((Yea _ w).alloc (Ye9 _) _).alloc Z2t _).alloc Zd _).trans (hbl.mono Zd);clear r1' r0' hbl
 refine Y6r 124 Y4I kt_len b rfl hB rfl (IOf w.heap.size b name w) (XOf w.heap.size b name w) (YcC _ _ _ _ _ Z7 hb2 (Ye9 _)) (fun j=>YbA _ _ _ _ _ _ Z7 hb2 (Ye9 _)) ⟨hb0,r0,r1,r2,by simp,hb2⟩
  (fun x=> {tmps:= #[.string (bs name),.pointer (some ⟨w.heap.size,0,none⟩),.pointer (some ⟨w.heap.size+1,0,none⟩),.pointer (some ⟨w.heap.size+2,0,none⟩),.string (bs x),undef,undef,undef,undef,.func (.func 216) #[] #[.pointer (some ⟨b+1,0,none⟩),.pointer (some ⟨b,0,none⟩),.pointer (some ⟨b+2,0,none⟩)],.string (bs x),undef,undef,undef,undef,undef,undef,undef,undef,undef,undef,undef,undef,undef,undef,undef,undef,undef,undef,undef,undef,undef,undef,undef,undef,undef,undef,undef,undef,undef,undef,undef,undef,undef,undef,undef,undef,undef,undef,undef,undef,undef,undef,undef,undef,undef,undef,undef,undef],defers:= []}) ?assign ?body ?done ?stop
 case assign =>
  intro l x W K hK;gi_wp2;exact hK
 case body =>
  rintro lp pre x W ⟨i1,i2,i3,i4,i5,i6⟩ hpre;obtain⟨k,hk,rfl,hpr⟩:=Yc1 hpre;have hkm:=Yer hk;obtain⟨f1,f2,f3,f4,f5,f6,f7,f8,f9,f10,f11⟩:=Y55 k hkm;have c2:=c2 k hkm W (hT.below i1 (Ye9 _));rw[f1]at c2;simp only[KR.words,YeY,YfH,YeH,YeV,Nat.reduceAdd]at c2;have p0:W.cell? ⟨w.heap.size,0,none⟩=some (.string (bs name)):=(i2.cell 0).trans rfl
  have HT:=hid hT;have hp0:w.heap.size<W.heap.size:=Z7;have hsW:=i1.size;have hmx:prog.follows .mixedOrders=true:=by kernel_rfl
  clear f2 f10 hpr hpre c1 hT;by_cases hname:k.name=name
  ·have Hf:=hid (Y7v hk i5 hname);subst hname;clear i5 hk;gi_wp2_with (refine⟨trivial,?_⟩;gi_at_call 135;refine(CallsIn.inRound lp (Yez.2 c2.out)).mono ?_;rintro e w1 ⟨rfl,rfl⟩);refine Y5I {tmps:= #[.string (bs k.name),.pointer (some ⟨w.heap.size,0,none⟩),.pointer (some ⟨w.heap.size+1,0,none⟩),.pointer (some ⟨w.heap.size+2,0,none⟩),.string (bs k.text),.slice (some ⟨W.heap.size,0,none⟩) 7 7,undef,undef,undef,.func (.func 216) #[] #[.pointer (some ⟨b+1,0,none⟩),.pointer (some ⟨b,0,none⟩),.pointer (some ⟨b+2,0,none⟩)],.string (bs k.text),.string (bs k.text),.slice (some ⟨W.heap.size,0,none⟩) 7 7,.slice (some ⟨W.heap.size,0,none⟩) 7 7,.pointer (some ⟨W.heap.size,0,none⟩),.string (bs k.name),.string (bs k.name),.bool false,undef,undef,undef,undef,undef,undef,undef,undef,undef,undef,undef,undef,undef,undef,undef,undef,undef,undef,undef,undef,undef,undef,undef,undef,undef,undef,undef,undef,undef,undef,undef,undef,undef,undef,undef,undef,undef,undef,undef,undef,undef],defers:= []} hmx (by kernel_rfl) rfl ?ag ?each ?go
   case ag=>simp[Y5D,Y20]
   case each =>
    simp[Y2K,go_sem,Oper.about,p0,hp0]
   case go =>
    gi_wp2;obtain⟨W2,hW2⟩: ∃W2,((W.alloc (.cells #[.string (bs k.name),.string (bs k.lk),.string (bs k.ll),.string (bs k.lh),.string (bs k.dflt),.string (bs k.no),.string (bs k.lo)] 9)).alloc (.cells #[.int .i64 0,.int .i64 0,.int .i64 0] 259)).drew=W2:=⟨_,rfl⟩;have hbW:Below W.heap.size W W2:=by rw[←hW2];exact(((Yea _ _).alloc (Ye9 _) _).alloc Z2t _).drew
    have hbn:Blk W2 (W.heap.size+1) 259 (nArr k 0):=by rw[←hW2];exact(show Blk ((W.alloc _).alloc _) _ _ _ by simpa[nArr]using Blk.new (W.alloc _) _ _)
    have hbw:Blk W2 W.heap.size 9 #[.string (bs k.name),.string (bs k.lk),.string (bs k.ll),.string (bs k.lh),.string (bs k.dflt),.string (bs k.no),.string (bs k.lo)]:=by
     rw[←hW2];exact(Blk.new W _ _).below (((Yea _ _).alloc (Ye9 _) _).drew)
    have hs2:W2.heap.size=W.heap.size+2:=Z4o;rw[hW2];clear hW2;gi_loopw [18] (fun i wr=>ROf k W W2 i wr) (fun i _=>3 - (intOf i).toNat)
    case atStart=>exact⟨0,by omega,rfl,hbn,Yea _ _⟩
    case round =>
     obtain⟨j,hj,rfl,hN,hb⟩:=hrel;have hB:=hb.size;have hn1:W.heap.size+1<wr.heap.size:=Z7;have hbw':Blk wr W.heap.size 9 #[.string (bs k.name),.string (bs k.lk),.string (bs k.ll),.string (bs k.lh),.string (bs k.dflt),.string (bs k.no),.string (bs k.lo)]:=(hb.block W.heap.size Z7).trans hbw;have x1:wr.cell? ⟨W.heap.size,1,none⟩=some (.string (bs k.lk)):=(hbw'.cell 1).trans rfl;have x2:wr.cell? ⟨W.heap.size,2,none⟩=some (.string (bs k.ll)):=(hbw'.cell 2).trans rfl
     have x3:wr.cell? ⟨W.heap.size,3,none⟩=some (.string (bs k.lh)):=(hbw'.cell 3).trans rfl;have HN:=hid hN;have HB:=hid hb;clear hN hb;rcases(by omega:j=0∨j=1∨j=2∨j=3)with rfl | rfl | rfl | rfl
     ·have c3:=c3 k.lk _ wr f7 f4;have y:wr.cell? ⟨W.heap.size+1,0,none⟩=some (.int .i64 0):=(HN.out.cell 0).trans rfl;have z:=HN.out.free 0;gi_wp2_with (refine⟨trivial,?_⟩;gi_at_call 136;refine(CallsIn.inRound lp (Yez.2 c3.out)).mono ?_;rintro e w4 ⟨rfl,hb4⟩;have y4:=(hb4.cell (p:=⟨W.heap.size+1,0,none⟩) hn1).trans y;have z4:=(hb4.frozen (p:=⟨W.heap.size+1,0,none⟩) hn1).trans z);go_roundw
      case rel=>exact⟨0+1,by omega,by go_num,(HN.out.below hb4).set 0 _,Ya (HB.out.trans (hb4.mono Z7)) (Ye9 _) _ _⟩
      case measure=>simp[intOf]
     ·have c3:=c3 k.ll _ wr f8 f5;have y:wr.cell? ⟨W.heap.size+1,1,none⟩=some (.int .i64 0):=(HN.out.cell 1).trans rfl;have z:=HN.out.free 1;gi_wp2_with (refine⟨trivial,?_⟩;gi_at_call 136;refine(CallsIn.inRound lp (Yez.2 c3.out)).mono ?_;rintro e w4 ⟨rfl,hb4⟩;have y4:=(hb4.cell (p:=⟨W.heap.size+1,1,none⟩) hn1).trans y;have z4:=(hb4.frozen (p:=⟨W.heap.size+1,1,none⟩) hn1).trans z);go_roundw
      case rel=>exact⟨1+1,by omega,by go_num,(HN.out.below hb4).set 1 _,Ya (HB.out.trans (hb4.mono Z7)) (Ye9 _) _ _⟩
      case measure=>simp[intOf]
     ·have c3:=c3 k.lh _ wr f9 f6;have y:wr.cell? ⟨W.heap.size+1,2,none⟩=some (.int .i64 0):=(HN.out.cell 2).trans rfl;have z:=HN.out.free 2;gi_wp2_with (refine⟨trivial,?_⟩;gi_at_call 136;refine(CallsIn.inRound lp (Yez.2 c3.out)).mono ?_;rintro e w4 ⟨rfl,hb4⟩;have y4:=(hb4.cell (p:=⟨W.heap.size+1,2,none⟩) hn1).trans y;have z4:=(hb4.frozen (p:=⟨W.heap.size+1,2,none⟩) hn1).trans z);go_roundw
      case rel=>exact⟨2+1,by omega,by go_num,(HN.out.below hb4).set 2 _,Ya (HB.out.trans (hb4.mono Z7)) (Ye9 _) _ _⟩
      case measure=>simp[intOf]
     ·have y0:wr.cell? ⟨W.heap.size+1,0,none⟩=some (.int .i64 (YA k.lk:Int)):=(HN.out.cell 0).trans rfl;have y1:wr.cell? ⟨W.heap.size+1,1,none⟩=some (.int .i64 (YA k.ll:Int)):=(HN.out.cell 1).trans rfl;have y2:wr.cell? ⟨W.heap.size+1,2,none⟩=some (.int .i64 (YA k.lh:Int)):=(HN.out.cell 2).trans rfl;have x4:wr.cell? ⟨W.heap.size,4,none⟩=some (.string (bs k.dflt)):=(hbw'.cell 4).trans rfl;have x5:wr.cell? ⟨W.heap.size,5,none⟩=some (.string (bs k.no)):=(hbw'.cell 5).trans rfl
      have x6:wr.cell? ⟨W.heap.size,6,none⟩=some (.string (bs k.lo)):=(hbw'.cell 6).trans rfl;have x0:wr.cell? ⟨w.heap.size,0,none⟩=some (.string (bs k.name)):=(HB.out.cell (p:=⟨w.heap.size,0,none⟩) Zt).trans ((hbW.cell (p:=⟨w.heap.size,0,none⟩) hp0).trans p0);have q0:w.heap.size<wr.heap.size:=Z7;have q1:W.heap.size<wr.heap.size:=Z7;gi_wp2;refine Ya9 19 20 {tmps:= #[.string (bs k.name),.pointer (some ⟨w.heap.size,0,none⟩),.pointer (some ⟨w.heap.size+1,0,none⟩),.pointer (some ⟨w.heap.size+2,0,none⟩),.string (bs k.text),.slice (some ⟨W.heap.size,0,none⟩) 7 7,.pointer (some ⟨W.heap.size+1,0,none⟩),u7,.pointer (some ⟨wr.heap.size,0,none⟩),.func (.func 216) #[] #[.pointer (some ⟨b+1,0,none⟩),.pointer (some ⟨b,0,none⟩),.pointer (some ⟨b+2,0,none⟩)],.string (bs k.text),.string (bs k.text),.slice (some ⟨W.heap.size,0,none⟩) 7 7,.slice (some ⟨W.heap.size,0,none⟩) 7 7,.pointer (some ⟨W.heap.size,0,none⟩),.string (bs k.name),.string (bs k.name),.bool false,.int .i64 ((3:Nat):Int),.bool false,u20,u21,u22,u23,u24,u25,u26,u27,u28,u29,u30,u31,u32,.string (bs k.name),.pointer (some ⟨W.heap.size+1,0,none⟩),.int .i64 (YA k.lk:Int),.pointer (some ⟨W.heap.size+1,1,none⟩),.int .i64 (YA k.ll:Int),.pointer (some ⟨W.heap.size+1,2,none⟩),.int .i64 (YA k.lh:Int),.slice (some ⟨W.heap.size,0,none⟩) 7 7,.pointer (some ⟨W.heap.size,4,none⟩),.string (bs k.dflt),.slice (some ⟨W.heap.size,0,none⟩) 7 7,.pointer (some ⟨W.heap.size,5,none⟩),.string (bs k.no),.bool (k.no == [78]),.slice (some ⟨W.heap.size,0,none⟩) 7 7,.pointer (some ⟨W.heap.size,6,none⟩),.string (bs k.lo),.bool (k.lo == [76]),.agg #[.string (bs k.name),.int .i64 (YA k.lk:Int),.int .i64 (YA k.ll:Int),.int .i64 (YA k.lh:Int),.string (bs k.dflt),.bool (k.no == [78]),.bool (k.lo == [76])],undef,undef,undef,undef,undef,undef,undef],defers:= []} (wr.drew.alloc (.cells #[.string ⟨#[]⟩,.int .i64 0,.int .i64 0,.int .i64 0,.string ⟨#[]⟩,.bool false,.bool false] 131)) hmx (by kernel_rfl) Z7 Z16 rfl rfl rfl ?ag ?each ?go
      case ag=>simp[Y5D,Y20]
      case each =>
       simp[Y2K,go_sem,Oper.about,x0,x4,x5,x6,y0,y1,y2,q0,q1,hn1]
      case go =>
       have hB2:=hbW.size;have hres:Blk wr (w.heap.size+1) 131 Y9L:=(HB.out.block _ Z7).trans ((hbW.block _ Z7).trans i3);have herr:Blk wr (w.heap.size+2) 43 #[.nilIface]:=(HB.out.block _ Z7).trans ((hbW.block _ Z7).trans i4);have q2:w.heap.size+1<wr.heap.size:=Z7;have q3:w.heap.size+2<wr.heap.size:=Z7;have t0:wr.cell? ⟨w.heap.size+1,0,none⟩=some (.string (bs [])):=(hres.cell 0).trans rfl;have t1:wr.cell? ⟨w.heap.size+1,1,none⟩=some (.int .i64 0):=(hres.cell 1).trans rfl
       have t2:wr.cell? ⟨w.heap.size+1,2,none⟩=some (.int .i64 0):=(hres.cell 2).trans rfl;have t3:wr.cell? ⟨w.heap.size+1,3,none⟩=some (.int .i64 0):=(hres.cell 3).trans rfl;have t4:wr.cell? ⟨w.heap.size+1,4,none⟩=some (.string (bs [])):=(hres.cell 4).trans rfl;have t5:wr.cell? ⟨w.heap.size+1,5,none⟩=some (.bool false):=(hres.cell 5).trans rfl;have t6:wr.cell? ⟨w.heap.size+1,6,none⟩=some (.bool false):=(hres.cell 6).trans rfl
       have t7:wr.cell? ⟨w.heap.size+2,0,none⟩=some .nilIface:=(herr.cell 0).trans rfl;have v0:=hres.free 0;have v1:=hres.free 1;have v2:=hres.free 2;have v3:=hres.free 3;have v4:=hres.free 4;have v5:=hres.free 5;have v6:=hres.free 6;have v7:=herr.free 0;have HR:=hid hres;have HE:=hid herr;clear hres herr;by_cases hdf:k.dflt= [45]
       ·have hde:(k.dflt == [45])=true:=by simpa using hdf
        rw[hdf];gi_wp2;obtain⟨n1,n2,n3,n4⟩:=of_end (B:=w.heap.size) (.string (bs k.name)) (.int .i64 (YA k.lk:Int)) (.int .i64 (YA k.ll:Int)) (.int .i64 (YA k.lh:Int)) (.string ⟨#[]⟩) (.bool (k.no == [78])) (.bool (k.lo == [76])) .nilIface .nilIface (.cells #[.string (bs k.name),.int .i64 (YA k.lk:Int),.int .i64 (YA k.ll:Int),.int .i64 (YA k.lh:Int),.string ⟨#[]⟩,.bool (k.no == [78]),.bool (k.lo == [76])] 131) HR.out HE.out Z7 Z7 Z7
        have hbr:Below W.heap.size W wr:=hbW.trans (HB.out.mono Z7);refine⟨(Y2E hbr).trans n1,rfl,(i1.trans (hbr.mono hsW)).trans n2,⟨k,Hf.out,?_⟩,n4⟩;have hcs:k.cells.toArray= #[.string (bs k.name),.int .i64 (YA k.lk:Int),.int .i64 (YA k.ll:Int),.int .i64 (YA k.lh:Int),.string ⟨#[]⟩,.bool (k.no == [78]),.bool (k.lo == [76])]:=by simp[KR.cells,KR.dv,hdf];rfl
        rw[hcs];exact n3
       ·have hde:(k.dflt == [45])=false:=by simpa using hdf
        gi_wp2;obtain⟨n1,n2,n3,n4⟩:=of_end (B:=w.heap.size) (.string (bs k.name)) (.int .i64 (YA k.lk:Int)) (.int .i64 (YA k.ll:Int)) (.int .i64 (YA k.lh:Int)) (.string (bs k.dflt)) (.bool (k.no == [78])) (.bool (k.lo == [76])) .nilIface .nilIface (.cells #[.string (bs k.name),.int .i64 (YA k.lk:Int),.int .i64 (YA k.ll:Int),.int .i64 (YA k.lh:Int),.string (bs k.dflt),.bool (k.no == [78]),.bool (k.lo == [76])] 131) HR.out HE.out Z7 Z7 Z7
        have hbr:Below W.heap.size W wr:=hbW.trans (HB.out.mono Z7);refine⟨(Y2E hbr).trans n1,rfl,(i1.trans (hbr.mono hsW)).trans n2,⟨k,Hf.out,?_⟩,n4⟩;have hcs:k.cells.toArray= #[.string (bs k.name),.int .i64 (YA k.lk:Int),.int .i64 (YA k.ll:Int),.int .i64 (YA k.lh:Int),.string (bs k.dflt),.bool (k.no == [78]),.bool (k.lo == [76])]:=by simp[KR.cells,KR.dv,hdf]
        rw[hcs];exact n3
  ·have he:(k.name == name)=false:=Z3Q;gi_wp2_with (refine⟨trivial,?_⟩;gi_at_call 135;refine(CallsIn.inRound lp (Yez.2 c2.out)).mono ?_;rintro e w1 ⟨rfl,rfl⟩);refine Y5I {tmps:= #[.string (bs name),.pointer (some ⟨w.heap.size,0,none⟩),.pointer (some ⟨w.heap.size+1,0,none⟩),.pointer (some ⟨w.heap.size+2,0,none⟩),.string (bs k.text),.slice (some ⟨W.heap.size,0,none⟩) 7 7,undef,undef,undef,.func (.func 216) #[] #[.pointer (some ⟨b+1,0,none⟩),.pointer (some ⟨b,0,none⟩),.pointer (some ⟨b+2,0,none⟩)],.string (bs k.text),.string (bs k.text),.slice (some ⟨W.heap.size,0,none⟩) 7 7,.slice (some ⟨W.heap.size,0,none⟩) 7 7,.pointer (some ⟨W.heap.size,0,none⟩),.string (bs k.name),.string (bs name),.bool true,undef,undef,undef,undef,undef,undef,undef,undef,undef,undef,undef,undef,undef,undef,undef,undef,undef,undef,undef,undef,undef,undef,undef,undef,undef,undef,undef,undef,undef,undef,undef,undef,undef,undef,undef,undef,undef,undef,undef,undef,undef],defers:= []} hmx (by kernel_rfl) rfl ?ag ?each ?go
   case ag=>simp[Y5D,Y20]
   case each =>
    simp[Y2K,go_sem,Oper.about,he,p0,hp0]
   case go =>
    gi_wp2;have hbW:Below W.heap.size W (W.alloc (.cells #[.string (bs k.name),.string (bs k.lk),.string (bs k.ll),.string (bs k.lh),.string (bs k.dflt),.string (bs k.no),.string (bs k.lo)] 9)).drew:=((Yea _ _).alloc (Ye9 _) _).drew;refine⟨Y2E hbW,Y9f hbW i6,i1.trans (hbW.mono hsW),i2.below hbW,i3.below hbW,i4.below hbW,?_,by simp;omega⟩;rw[Yem,Yfp]
    obtain⟨h1,h2⟩:=Yek.1 hk;rw[Yeq h1,h2];intro x hx;rcases YfN.1 hx with hx | hx
    ·exact i5 x hx
    ·rw[Yfs.1 hx];exact hname
 case done =>
  rintro D W hD ⟨i1,i2,i3,i4,i5,i6⟩ hK;have t0:W.cell? ⟨w.heap.size+1,0,none⟩=some (.string (bs [])):=(i3.cell 0).trans rfl;have t1:W.cell? ⟨w.heap.size+1,1,none⟩=some (.int .i64 0):=(i3.cell 1).trans rfl;have t2:W.cell? ⟨w.heap.size+1,2,none⟩=some (.int .i64 0):=(i3.cell 2).trans rfl;have t3:W.cell? ⟨w.heap.size+1,3,none⟩=some (.int .i64 0):=(i3.cell 3).trans rfl;have t4:W.cell? ⟨w.heap.size+1,4,none⟩=some (.string (bs [])):=(i3.cell 4).trans rfl
  have t5:W.cell? ⟨w.heap.size+1,5,none⟩=some (.bool false):=(i3.cell 5).trans rfl;have t6:W.cell? ⟨w.heap.size+1,6,none⟩=some (.bool false):=(i3.cell 6).trans rfl;have t7:W.cell? ⟨w.heap.size+2,0,none⟩=some .nilIface:=(i4.cell 0).trans rfl;have v0:=i3.free 0;have v1:=i3.free 1;have v2:=i3.free 2;have v3:=i3.free 3;have v4:=i3.free 4;have v5:=i3.free 5;have v6:=i3.free 6;have v7:=i4.free 0;gi_wp2;obtain⟨W6,hW6,n1,n2,n3,n4⟩:=of_end0 (B:=w.heap.size) (.string ⟨#[]⟩) (.int .i64 0) (.int .i64 0) (.int .i64 0) (.string ⟨#[]⟩) (.bool false) (.bool false) (.iface 36 (.int .i64 5)) .nilIface _ i3 i4 hK rfl Z7 Z7 Z7
  rw[hW6];refine⟨by simp,.inl ⟨_,_,rfl,run_takeDeferred n1,?_⟩⟩;have s0: ∀o',(W6.putObj D o').cell? ⟨w.heap.size+1,0,none⟩=some (.string (bs [])):=fun o'=>((YP n3 n1 rfl o').cell 0).trans rfl
  have s1: ∀o',(W6.putObj D o').cell? ⟨w.heap.size+1,1,none⟩=some (.int .i64 0):=fun o'=>((YP n3 n1 rfl o').cell 1).trans rfl
  have s2: ∀o',(W6.putObj D o').cell? ⟨w.heap.size+1,2,none⟩=some (.int .i64 0):=fun o'=>((YP n3 n1 rfl o').cell 2).trans rfl
  have s3: ∀o',(W6.putObj D o').cell? ⟨w.heap.size+1,3,none⟩=some (.int .i64 0):=fun o'=>((YP n3 n1 rfl o').cell 3).trans rfl
  have s4: ∀o',(W6.putObj D o').cell? ⟨w.heap.size+1,4,none⟩=some (.string (bs [])):=fun o'=>((YP n3 n1 rfl o').cell 4).trans rfl
  have s5: ∀o',(W6.putObj D o').cell? ⟨w.heap.size+1,5,none⟩=some (.bool false):=fun o'=>((YP n3 n1 rfl o').cell 5).trans rfl
  have s6: ∀o',(W6.putObj D o').cell? ⟨w.heap.size+1,6,none⟩=some (.bool false):=fun o'=>((YP n3 n1 rfl o').cell 6).trans rfl
  have s7: ∀o',(W6.putObj D o').cell? ⟨w.heap.size+1+1,0,none⟩=some (.iface 36 (.int .i64 5)):=fun o'=>((YP n4 n1 rfl o').cell 0).trans rfl
  refine⟨.tuple #[.agg #[.string (bs []),.int .i64 0,.int .i64 0,.int .i64 0,.string (bs []),.bool false,.bool false],.iface 36 (.int .i64 5)],by simp[results,results85,go_sem,s0,s1,s2,s3,s4,s5,s6,s7],?_,?_⟩
  ·rw[Y7w (name:=name) (by rw[Y8V,List.length_map,Yex]at i5;exact i5)];rfl
  ·exact Y2J (i1.trans n2) Z7 _
 case stop =>
  rintro D j pre W hD ⟨rfl,i2,⟨k,hk,i3⟩,i4⟩ hK;gi_wp2;refine⟨by simp,.inl ⟨_,_,rfl,run_takeDeferred hK,?_⟩⟩;have s0: ∀o',(W.putObj D o').cell? ⟨w.heap.size+1,0,none⟩=some (.string (bs k.name)):=fun o'=>((YP i3 hK rfl o').cell 0).trans rfl
  have s1: ∀o',(W.putObj D o').cell? ⟨w.heap.size+1,1,none⟩=some (.int .i64 (YA k.lk:Int)):=fun o'=>((YP i3 hK rfl o').cell 1).trans rfl
  have s2: ∀o',(W.putObj D o').cell? ⟨w.heap.size+1,2,none⟩=some (.int .i64 (YA k.ll:Int)):=fun o'=>((YP i3 hK rfl o').cell 2).trans rfl
  have s3: ∀o',(W.putObj D o').cell? ⟨w.heap.size+1,3,none⟩=some (.int .i64 (YA k.lh:Int)):=fun o'=>((YP i3 hK rfl o').cell 3).trans rfl
  have s4: ∀o',(W.putObj D o').cell? ⟨w.heap.size+1,4,none⟩=some (.string (bs k.dv)):=fun o'=>((YP i3 hK rfl o').cell 4).trans rfl
  have s5: ∀o',(W.putObj D o').cell? ⟨w.heap.size+1,5,none⟩=some (.bool (k.no == [78])):=fun o'=>((YP i3 hK rfl o').cell 5).trans rfl
  have s6: ∀o',(W.putObj D o').cell? ⟨w.heap.size+1,6,none⟩=some (.bool (k.lo == [76])):=fun o'=>((YP i3 hK rfl o').cell 6).trans rfl
  have s7: ∀o',(W.putObj D o').cell? ⟨w.heap.size+1+1,0,none⟩=some .nilIface:=fun o'=>((YP i4 hK rfl o').cell 0).trans rfl
  refine⟨.tuple #[.agg k.cells.toArray,.nilIface],by simp[results,results85,go_sem,s0,s1,s2,s3,s4,s5,s6,s7,KR.cells],?_,?_⟩
  ·rw[hk];rfl
  ·exact Y2J i2 Z7 _
end
end Go.Proofs.YtfadikchijkcfaaGreatDoor
