/- What is known of a PDU: by the document. -/
import Derived.Test.YtfadikchijkcfaaGreatDoorParsePure
import Derived.Test.YtfadikchijkcfaaGreatDoorKinds
import Derived.Deep.QuietTactic
import Derived.BigQuiet
set_option linter.unusedVariables false
set_option linter.unusedSectionVars false
set_option linter.unusedSimpArgs false
set_option maxRecDepth 100000
set_option maxHeartbeats 4000000
namespace Go.Proofs.YtfadikchijkcfaaGreatDoor
open Go.Proofs.Tryz
open Go Go.RowKit
def Yc5:Option HR→List UInt8 | none=> [] | some r=>r.name
def Y5P:Option HR→Nat | none=>0 | some r=>r.flags
def Y2y:Option HR→List FR | none=> [] | some r=>r.fields
theorem FS.sl{base:Nat}{w:World}{v:Value}{l:List FR}(h:FS base w v l):Sl w v 3 l.length (Y17 l):=by
 obtain⟨g,rfl,_,hB⟩:=h;refine⟨_,_,rfl,?_,.inr ⟨g,0,rfl,fun j u hu=> ?_⟩⟩
 ·clear hB;unfold Y17
  induction l with
  | nil=>rfl
  | cons f l ih=>rw[YfK,Yem,ih];simp[FR.cells];omega
 ·rw[YfP,hB.cell j];simpa using hu
def Y5i(op:Int)(w:World)(e:Ending)(w':World):Prop:=
 ∃v,e= .returned (.tuple #[.string (bs (Yc5 (Y1e op))),.int .i64 (Y5P (Y1e op):Nat),v,.bool (Y1e op).isSome])∧Sl w' v 3 (Y2y (Y1e op)).length (Y17 (Y2y (Y1e op)))∧(Y1e op=none→v= .slice none 0 0)∧Below w.heap.size w w'
theorem Ybb{op:Int}{i:Nat}{r:HR}(h:Yd[i]?=some r)(hn: ∀x∈Yd.take i,(x.op:Int)≠op)(he:(r.op:Int)=op):Y1e op=some r:=by
 refine Z43 ?_;intro h1 h2
 have hs:Yd=Yd.take i ++ r :: Yd.drop (i+1):=by
  rw[←h2,List.getElem_cons_drop,YfA]
 rw[Y1e,hs,List.find?_append];have hn0:(Yd.take i).find? (fun r=>decide ((r.op:Int)=op))=none:=Yg2.2 fun x hx=>by simpa using hn x hx
 rw[hn0];simp[he]
theorem Y7x{op:Int}(hn: ∀x∈Yd,(x.op:Int)≠op):Y1e op=none:=Yg2.2 fun x hx=>by simpa using hn x hx
theorem Ycy{op:Int}{k:Nat}{r:HR}(h:Yd[k]?=some r)(hn: ∀x∈Yd.take k,(x.op:Int)≠op)(he:(r.op:Int)≠op): ∀x∈Yd.take (k+1),(x.op:Int)≠op:=by
 refine Z43 ?_;intro h1 h2;rw[Yeq h1,h2];intro x hx;rcases YfN.1 hx with hx | hx
 ·exact hn x hx
 ·rw[Yfs.1 hx];exact he
theorem zip4(l:List HR)(ss:List Value)(h:ss.length=l.length)(i:Nat)(r:HR)(s:Value)(hr:l[i]?=some r)(hs:ss[i]?=some s)(j:Nat)(hj:j<4):
 ((l.zip ss).flatMap fun x=> [Value.int .i64 (x.1.op:Int),.string (bs x.1.name),.int .i64 (x.1.flags:Int),x.2])[i * 4+j]?= [Value.int .i64 (r.op:Int),.string (bs r.name),.int .i64 (r.flags:Int),s][j]?:=by
 induction l generalizing i ss with
 | nil=>simp at hr
 | cons x l ih =>
  cases ss with
  | nil=>simp at h
  | cons y ss =>
   rw[List.zip_cons_cons,YfK]
   cases i with
   | zero =>
    simp only[YeZ,YeO]at hr hs;subst hr hs;rw[Yfl Zd];simp
   | succ i =>
    rw[Yfv Zd];have e:(i+1) * 4+j - [Value.int .i64 (x.op:Int),.string (bs x.name),.int .i64 (x.flags:Int),y].length=i * 4+j:=Zd;rw[e];exact ih ss Z3o i (by simpa using hr) (by simpa using hs)
def RKind(op:Int)(w1:World)(i:Value)(wr:World):Prop:=
 ∃k:Nat,k≤18∧i= .int .i64 (k:Nat)∧(∀x∈Yd.take k,(x.op:Int)≠op)∧Below w1.heap.size w1 wr
theorem Y63(op:Int)(w:World):Calls prog 106 #[.int .i64 op] w fun e w'=>Y5i op w e w':=by
 have c1:=fun w=>hid (Ydu w)
 go_enter func106,ntmps106;go_wp2_with (go_at_call 155;refine(c1 _).out.mono ?_;rintro e w1 ⟨v,rfl,⟨g,ss,rfl,hg,hss,hfs,hB⟩,hb1⟩);have HFS:=hid hfs;have HBB:=hid hB;clear hfs hB;go_loopw [10] (fun i wr=>RKind op w1 i wr) (fun i _=>18 - (intOf i).toNat)
 case atStart=>exact⟨0,by omega,rfl,by simp,Yea _ _⟩
 case round =>
  obtain⟨k,hk,rfl,hno,hb⟩:=hrel;have hB:=hb.size;by_cases hlt:k<18
  ·obtain⟨r,hr⟩: ∃r,Yd[k]?=some r:=⟨Yd[k]'(by show k<18;exact hlt),Yec _⟩;obtain⟨s,hs⟩: ∃s,ss[k]?=some s:=⟨ss[k]' Z7,Yec _⟩
   have hcell: ∀j,j<4→wr.cell? ⟨g,k * 4+j,none⟩= [Value.int .i64 (r.op:Int),.string (bs r.name),.int .i64 (r.flags:Int),s][j]?:=fun j hj=>by
    rw[(hb.cell (p:=⟨g,k * 4+j,none⟩) HBB.out.lt),HBB.out.cell,Yf1];exact zip4 Yd ss (by rw[hss];rfl) k r s hr hs j hj
   have a0:wr.cell? ⟨g,k * 4,none⟩=some (.int .i64 (r.op:Int)):=hcell 0 Z7;have a1:wr.cell? ⟨g,k * 4+1,none⟩=some (.string (bs r.name)):=hcell 1 Z7;have a2:wr.cell? ⟨g,k * 4+2,none⟩=some (.int .i64 (r.flags:Int)):=hcell 2 Z7;have a3:wr.cell? ⟨g,k * 4+3,none⟩=some s:=hcell 3 Z7;have hfs:=(HFS.out k r s hr hs);obtain⟨g2,hsv,hg2,hB2⟩:=id hfs;have HF:=hid hfs;by_cases hop:(r.op:Int)=op
   ·have Hf:=hid (Ybb hr hno hop);clear hcell hr hs hno hfs;subst hop;subst hsv;go_wp2;go_quiet (skip);go_wp2;refine Yej (v:= .tuple #[.string (bs r.name),.int .i64 (r.flags:Int),.slice (some ⟨g2,0,none⟩) r.fields.length r.fields.length,.bool true]) (by simp[results,results106,go_sem]) rfl ?_;have hfin:=Yfk (hb.alloc hB (.cells #[.int .i64 (r.op:Int),.string (bs r.name),.int .i64 (r.flags:Int),.slice (some ⟨g2,0,none⟩) r.fields.length r.fields.length] 289)) nq
    refine⟨.slice (some ⟨g2,0,none⟩) r.fields.length r.fields.length,by rw[Hf.out];rfl,?_,(by rw[Hf.out];exact Z35),hb1.trans (hfin.mono hb1.size)⟩;rw[Hf.out];exact(HF.out.below hfin).sl
   ·have Hno:=hid (Ycy hr hno hop);clear hcell hr hs hno hfs;subst hsv;go_wp2;go_roundw
    case rel=>exact⟨k+1,by omega,by go_num,Hno.out,hb.alloc hB _⟩
    case measure=>exact Zw
  ·obtain rfl:k=18:=Z7;have Hf:=hid (Y7x (op:=op) (by rw[show(18:Nat)=Yd.length from rfl,Yex]at hno;exact hno));clear hno;go_wp2;refine Yej (v:= .tuple #[.string (bs []),.int .i64 0,.slice none 0 0,.bool false]) (by simp[results,results106,go_sem];rfl) rfl ?_;refine⟨.slice none 0 0,by rw[Hf.out];rfl,?_,fun _=>rfl,hb1.trans (hb.mono hb1.size)⟩;rw[Hf.out];exact Y2g _ _
end Go.Proofs.YtfadikchijkcfaaGreatDoor
