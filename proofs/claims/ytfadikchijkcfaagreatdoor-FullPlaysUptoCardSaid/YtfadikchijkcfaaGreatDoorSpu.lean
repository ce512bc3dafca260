/- strconv.ParseUint of a base and forty bits. -/
import Derived.Test.YtfadikchijkcfaaGreatDoorParsePure
import Derived.Test.YtfadikchijkcfaaGreatDoorPUint
import Derived.Test.YtfadikchijkcfaaGreatDoorAhsIn
import Derived.Test.YtfadikchijkcfaaGreatDoorShelfL
set_option linter.unusedVariables false
set_option linter.unusedSectionVars false
set_option linter.unusedSimpArgs false
set_option maxRecDepth 100000
namespace Go.Proofs.YtfadikchijkcfaaGreatDoor
open Go.Proofs.Tryz
open Go Go.RowKit
theorem puG_kind(base max:Nat)(l:List UInt8)(n:Nat):(puG base max l n).2=0∨(puG base max l n).2=1∨(puG base max l n).2=2:=by
 induction l generalizing n with
 | nil=>exact .inl rfl
 | cons c l ih =>
  rw[puG]
  split
  ·exact .inr (.inr rfl)
  ·split
   ·exact .inr (.inl rfl)
   ·exact ih _
theorem puS_kind(base max:Nat)(l:List UInt8):(puS base max l).2=0∨(puS base max l).2=1∨(puS base max l).2=2:=by
 unfold puS
 split
 ·exact .inr (.inr rfl)
 ·exact puG_kind _ _ _ _
def Ybo(R:Nat×Nat)(w:World)(e:Ending)(w':World):Prop:=
 ∃ev,e= .returned (.tuple #[.int .u64 (R.1:Nat),ev])∧((R.2=0∧ev= .nilIface)∨(R.2≠0∧ ∃N,ev= .iface 361 (.pointer (some ⟨N,0,none⟩))))∧Below w.heap.size w w'
theorem Z2s{P:Prop}(h:P:=by
 have H1:=hid h1
 clear h1
 go_wp2_with fail
 refine(ct _ _ H1.out (.inr ⟨te,pe,rfl⟩)).out.mono ?_
 rintro e w2 ⟨N,rfl,_,_,hb2⟩
 go_wp2
 go_ret2
 exact⟨_,rfl,.inr ⟨by omega,N,rfl⟩,hb1.trans (hb2.mono hb1.size)⟩):P:=h
theorem YcD(base:Int)(b:Nat)(l:List UInt8)(w:World)(hl:l.length≤1000000)(hev:EV w)
 (hc: ∀w,Calls prog 224 #[.string (bs l),.int .i64 base,.int .i64 40] w fun e w'=>Y7E (puS b 1099511627775 l) w e w'):
 Calls prog 186 #[.string (bs l),.int .i64 base,.int .i64 40] w fun e w'=>Ybo (puS b 1099511627775 l) w e w':=by
 have c:=hid (hc w);have hk:=puS_kind b 1099511627775 l;have HEV:=hid hev;clear hc hev;unfold Ybo;unfold Y7E at c;generalize puS b 1099511627775 l=R at *;obtain⟨x,k⟩:=R;simp only at c hk ⊢;rcases hk with rfl | rfl | rfl
 ·rw[YN]at c;go_enter func186,ntmps186;go_wp2_with fail;refine c.out.mono ?_;rintro e w1 ⟨rfl,hb1⟩;go_wp2;go_ret2;exact⟨_,rfl,.inl ⟨trivial,rfl⟩,hb1⟩
 ·rw[Y1o _ 1 Z7]at c;have ct:=fun ev w1 (hv:w1.cell? ⟨6,0,none⟩=some ev) h=>hid (Tryz.strconv_toError_range ⟨#[80,97,114,115,101,85,105,110,116]⟩ (bs l) base 40 ev w1 (by rw[YJ];exact Z7) hv h)
  go_enter func186,ntmps186;go_wp2_with fail;refine c.out.mono ?_;rintro e w1 ⟨rfl,hb1⟩;obtain⟨_,⟨te,pe,h1⟩⟩:=HEV.out.below hb1;exact Z2s
 ·rw[Y1o _ 2 Z7]at c;have ct:=fun ev w1 (hv:w1.cell? ⟨5,0,none⟩=some ev) h=>hid (Tryz.strconv_toError_syntax ⟨#[80,97,114,115,101,85,105,110,116]⟩ (bs l) base 40 ev w1 (by rw[YJ];exact Z7) hv h)
  go_enter func186,ntmps186;go_wp2_with fail;refine c.out.mono ?_;rintro e w1 ⟨rfl,hb1⟩;obtain⟨⟨te,pe,h1⟩,_⟩:=HEV.out.below hb1;exact Z2s
end Go.Proofs.YtfadikchijkcfaaGreatDoor
