/- Bytes in fours: Pad, Padded, Unpad of the program and of the document answer alike. -/
import Derived.Test.YtfadikchijkcfaaGreatDoorProg
import Derived.Test.YtfadikchijkcfaaGreatDoorParsePure
import Derived.Deep.QuietTactic
import Derived.BigQuiet
import Derived.Test.YtfadikchijkcfaaGreatDoorPUint
set_option linter.unusedVariables false
set_option linter.unusedSectionVars false
set_option linter.unusedSimpArgs false
set_option maxRecDepth 100000
namespace Go.Proofs.YtfadikchijkcfaaGreatDoor
section
open Go.Proofs.Tryz
open Go.RowKit
def Y97(n:Nat):Nat:=(4 - n % 4) % 4
def padI(n:Int):Int:=if n<0 then 0 else(4 - n % 4) % 4
theorem Yaf(n:Nat):Y97 n<4:=by unfold Y97;omega
theorem padI_nat(n:Nat):padI n=Y97 n:=by unfold padI Y97;rw[Yed (by omega)];omega
theorem pad_any(n:Int)(w:World)(h0: -9223372036854775808≤n)(h1:n≤9223372036854775807):
 Calls prog 158 #[.int .i64 n] w fun e w'=>e= .returned (.int .i64 (padI n))∧w=w':=by
 by_cases hn:n<0
 ·go_enter func158,ntmps158;go_wp2;go_ret;exact⟨Y80 (by unfold padI;rw[Yei hn]),rfl⟩
 ·go_enter func158,ntmps158;go_wp2;go_ret;refine⟨Y80 ?_,rfl⟩;rw[show(3:Int)=((3:Nat):Int)from rfl,i64_mask (-n) 3 2 rfl Z7];unfold padI;rw[Yed Z7];exact Z7
theorem pad_nat(n:Nat)(w:World)(h1:n≤9223372036854775807):
 Calls prog 158 #[.int .i64 n] w fun e w'=>e= .returned (.int .i64 (Y97 n:Nat))∧w=w':=by
 have:=pad_any n w Z7 Z7
 rwa [padI_nat]at this
def Y7n(l:List UInt8):List UInt8:=l ++ List.replicate (Y97 l.length) 0
theorem Ya4(l:List UInt8)(w:World)(h1:l.length≤1000000):
 Calls prog 149 #[.string (bs l)] w fun e w'=>e= .returned (.string (bs (Y7n l)))∧w=w':=by
 have hp:=Yaf l.length;have hz:(⟨#[0]⟩:ByteArray)=bs [0]:=rfl;have e:Y7n l=l ++ List.replicate (Y97 l.length) 0:=rfl;rw[e];clear e
 have hm: ∀k,k≤Y97 l.length→((((l.length:Int) +(k:Int)) % 4 !=0)=true ↔ k<Y97 l.length):=by
  intro k hk;unfold Y97 at *;rw[Ygt];exact Z7
 have Hm:=hid hm;clear hm;generalize Y97 l.length=p at *;go_enter func149,ntmps149;go_wp2;go_loop [0] (fun s=> ∃k:Nat,k≤p∧s= .string (bs (l ++ List.replicate k 0))) (fun s=>l.length+p - Y7d s)
 case atStart=>exact⟨0,by omega,by simp⟩
 case round =>
  obtain⟨k,hk,rfl⟩:=hrel;have hlen:(l ++ List.replicate k (0:UInt8)).length=l.length+k:=Z2t;have hrs:l ++ List.replicate (k+1) (0:UInt8)=(l ++ List.replicate k 0) ++ [0]:=by rw[List.replicate_succ',Yfx]
  have Hrs:=hid hrs;clear hrs;by_cases hlt:k<p
  ·have hb:=(Hm.out k hk).2 hlt;generalize l ++ List.replicate k (0:UInt8)=x at *;go_wp2;go_round
   case rel=>exact⟨k+1,by omega,by rw[Hrs.out]⟩
   case measure=>simp[Y7d,YJ];exact Z7
  ·have hb:(((l.length:Int) +(k:Int)) % 4 !=0)=false:=by
    rw[Bool.eq_false_iff]
    exact fun h=>hlt ((Hm.out k hk).1 h)
   obtain rfl:k=p:=Z7;generalize hx:l ++ List.replicate k (0:UInt8)=x at *;have Hx:=hid hx;clear hx;go_wp2;go_ret;exact⟨by rw[Hx.out];rfl,rfl⟩
end
section
open Go.Proofs.Tryz
open Go.RowKit
def vOk(b:UInt8):Bool:=decide (32≤b.toNat) && decide (b.toNat≤126)
def YV(l:List UInt8):Bool:=l.all vOk && decide (l.length≤255)
theorem Y4x(l:List UInt8)(k:Nat)(h:k<l.length)(p:UInt8→Bool)(hf:p l[k]=false):l.all p=false:=by
 rw[List.all_eq_false];exact⟨l[k],YfD h,by simp[hf]⟩
theorem Z2X{P:Prop}(h:P:=by
 go_roundw
 case rel=>exact Z3T
 case measure=>exact Zw):P:=h
theorem Z3u{P:Prop}(h:P:=by
 have hf:=Y4x l k hlt vOk (by simp[vOk];exact Z7)
 have Hf:=hid hf
 clear hf
 go_wp2
 go_ret
 exact⟨by rw[YV,Hf.out];rfl,rfl⟩):P:=h
theorem Z3T{P:Prop}(h:P:=by
 exact⟨k+1,by omega,by go_num,by intro j h hj;rcases Nat.lt_succ_iff_lt_or_eq.1 hj with h' | rfl;exact Hall.out j h h';simp[vOk];omega,trivial⟩):P:=h
theorem Z4p{P:Prop}(h:P:=by
 rw[Yew]
 intro x hx
 obtain⟨j,hj,rfl⟩:=List.getElem_of_mem hx
 exact Hall.out j hj Z7):P:=h
theorem Z4A{P Q:Prop}(k:Q)(h:Q→P:=by
 have ha:l.all vOk=true:=by
  exact Z4p
 have Ha:=hid ha
 clear ha
 refine fun z_=>?_
 revert Ha
 exact z_):P:=h k
theorem Y8P(l:List UInt8)(w:World)(hl:l.length≤9223372036854775807):
 Calls prog 84 #[.string (bs l)] w fun e w'=>e= .returned (.bool (YV l))∧w'=w:=by
 go_enter func84,ntmps84;go_wp2;go_loopw [6] (fun i wr=> ∃k:Nat,k≤l.length∧i= .int .i64 k∧(∀j (h:j<l.length),j<k→vOk l[j]=true)∧wr=w) (fun i _=>l.length - (intOf i).toNat)
 case atStart=>exact⟨0,by omega,rfl,by intro j _ h;omega,rfl⟩
 case round =>
  obtain⟨k,hk,rfl,hall,rfl⟩:=hrel;have Hall:=hid hall;clear hall;by_cases hlt:k<l.length
  ·have hx:l[k].toNat<256:=l[k].toNat_lt;have hi:(k:Int) < (l.length:Int):=Z7;by_cases h1:l[k].toNat<32
   ·exact Z3u
   ·by_cases h2:126<l[k].toNat
    ·exact Z3u
    ·go_wp2;exact Z2X
  ·refine Z4A ?_;intro Ha;obtain rfl:k=l.length:=Z7;go_wp2;go_ret;refine⟨?_,rfl⟩;rw[YV,Ha.out];exact Zd
theorem Z56{P Q:Prop}(k:Q)(h:Q→P:=by
 have hcell': ∀j (h:j<l.length),w1.cell? ⟨w.heap.size,j,none⟩=some (.int .u8 (l[j].toNat:Nat)):=fun j h=>(hcell j (by rw[YJ];exact h)).trans rfl
 have Hcell:=hid hcell'
 clear hcell'
 refine fun z_=>?_
 revert Hcell
 exact z_):P:=h k
theorem Y5n(l:List UInt8)(w:World)(hl:l.length≤9223372036854775807):
 Calls prog 80 #[.string (bs l)] w fun e w'=>e= .returned (.bool (YV l))∧Below w.heap.size w w':=by
 refine Z28 ?_;intro cv;obtain⟨cp,w1,hrun,hcp,hcell,hb1,hsz1,_⟩:=cv w;rw[YJ]at hrun;refine Z56 ?_;clear cv hcell;intro Hcell;go_enter func80,ntmps80;go_wp2;go_loopw [8] (fun i wr=> ∃k:Nat,k≤l.length∧i= .int .i64 k∧(∀j (h:j<l.length),j<k→vOk l[j]=true)∧wr=w1) (fun i _=>l.length - (intOf i).toNat)
 case atStart=>exact⟨0,by omega,rfl,by intro j _ h;omega,rfl⟩
 case round =>
  obtain⟨k,hk,rfl,hall,rfl⟩:=hrel;have Hall:=hid hall;clear hall;by_cases hlt:k<l.length
  ·have hx:l[k].toNat<256:=l[k].toNat_lt;have hc:=Hcell.out k hlt;by_cases h1:l[k].toNat<32∨126<l[k].toNat
   ·have hf:=Y4x l k hlt vOk (by simp[vOk];exact Z7);have Hf:=hid hf;clear hf;have c1:=fun w=>hid (YZ (l[k].toNat:Nat) 32 126 w Z7)
    go_wp2_with (go_at_call 100;refine(c1 _).out.mono ?_;rintro e w2 ⟨rfl,rfl⟩);go_ret;exact⟨by rw[YV,Hf.out];rfl,hb1⟩
   ·have c1:=fun w=>hid (YK (l[k].toNat:Nat) 32 126 w Z7 Z7)
    go_wp2_with (go_at_call 100;refine(c1 _).out.mono ?_;rintro e w2 ⟨rfl,rfl⟩);exact Z2X
  ·refine Z4A ?_;intro Ha;obtain rfl:k=l.length:=Z7;go_wp2;go_ret;refine⟨?_,hb1⟩;rw[YV,Ha.out];exact Zd
end
section
open Go.Proofs.Tryz
open Go Go.RowKit
def YF(s:List UInt8):Bool:=decide (1≤s.length) && decide (s.length≤100) && YV s
theorem Z3e{P:Prop}(h:P:=by
 go_wp2
 go_ret
 exact⟨by rw[HE.out];rfl,Yea _ _⟩):P:=h
section
variable (s:List UInt8)(w:World)(hl:s.length≤1048576)
include hl
theorem Y4g:Calls prog 101 #[.string (bs s),.int .i64 100] w fun e w'=>e= .returned (.bool (YF s))∧Below w.heap.size w w':=by
 by_cases h0:s.length=0
 ·have HE:=hid (show YF s=false by unfold YF;rw[Yeh Z7];rfl);have hem:(s == [])=true:=by cases s<;>simp_all
  clear h0;go_enter func101,ntmps101;exact Z3e
 ·have hem:(s == [])=false:=by cases s<;>simp_all
  by_cases h1:s.length≤100
  ·have HE:=hid (show YF s=YV s by unfold YF;rw[Yel Z7,Yel h1];rfl);have hle:decide ((s.length:Int)≤100)=true:=Yel Z7;have cv:=hid (Y8P s w Z7);generalize YV s=r at *;clear h0;go_enter func101,ntmps101;go_wp2_with fail;refine cv.out.mono ?_;rintro e w1 ⟨rfl,hb1⟩;subst hb1;exact Z3e
  ·have HE:=hid (show YF s=false by unfold YF;rw[Yeh h1];exact Z2t);have hle:decide ((s.length:Int)≤100)=false:=Yeh Z7;clear h0;go_enter func101,ntmps101;exact Z3e
theorem Y2V:Calls prog 98 #[.string (bs s)] w fun e w'=>e= .returned (.bool (YF s))∧Below w.heap.size w w':=by
 by_cases h1:1≤s.length∧s.length≤100
 ·have HE:=hid (show YF s=YV s by unfold YF;rw[Yel h1.1,Yel h1.2];rfl);have cw:=hid (YK (s.length:Int) 1 100 w Z7 Z7);have cv:=fun w=>hid (Y5n s w Z7)
  generalize YV s=r at *;clear h1;go_enter func98,ntmps98;go_wp2_with fail;refine cw.out.mono ?_;rintro e w1 ⟨rfl,hw1⟩;subst hw1;go_wp2_with fail;refine(cv _).out.mono ?_;rintro e w2 ⟨rfl,hb2⟩;go_wp2;go_ret;exact⟨by rw[HE.out];rfl,hb2⟩
 ·have hE:YF s=false:=by
   unfold YF;by_cases h:1≤s.length
   ·rw[Yeh (show ¬s.length≤100 from Z7)];exact Z2t
   ·rw[Yeh h];rfl
  have HE:=hid hE;clear hE;have cw:=hid (YZ (s.length:Int) 1 100 w Z7);clear h1;go_enter func98,ntmps98;go_wp2_with fail;refine cw.out.mono ?_;rintro e w1 ⟨rfl,hw1⟩;subst hw1;exact Z3e
end
end
section
open Go.RowKit
end
section
open Go.RowKit
end
end Go.Proofs.YtfadikchijkcfaaGreatDoor
