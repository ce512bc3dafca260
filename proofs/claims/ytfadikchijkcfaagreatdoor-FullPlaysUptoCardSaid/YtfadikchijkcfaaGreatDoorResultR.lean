/- Whether a value may be one of a key: by the program and by the document. -/
import Derived.Test.YtfadikchijkcfaaGreatDoorParsePure
import Derived.Test.YtfadikchijkcfaaGreatDoorYes
import Derived.Test.YtfadikchijkcfaaGreatDoorKeyOf
import Derived.Test.YtfadikchijkcfaaGreatDoorNumerals
import Derived.Test.YtfadikchijkcfaaGreatDoorHeadMkR
import Derived.Test.YtfadikchijkcfaaGreatDoorHeadFields
import Derived.Test.YtfadikchijkcfaaGreatDoorShelfL
set_option linter.unusedVariables false
set_option linter.unusedSectionVars false
set_option linter.unusedSimpArgs false
set_option maxRecDepth 100000
set_option maxHeartbeats 8000000
namespace Go.Proofs.YtfadikchijkcfaaGreatDoor
section
open Go.Proofs.Tryz
open Go Go.RowKit
theorem Y3M: ∀k∈Yh,YA k.lk=1∨YA k.lk=2∨YA k.lk=3∨YA k.lk=4∨YA k.lk=5∨YA k.lk=6∨YA k.lk=7:=by decide +kernel
theorem Y9m{name v:List UInt8}(h:Y2j Yh name=none):Y2i name v=5:=by unfold Y2i;rw[h]
theorem Y6M{name v:List UInt8}{k:KR}(h:Y2j Yh name=some k):Y2i name v=Y3Q k v:=by unfold Y2i;rw[h]
theorem Z3p{P:Prop}(h:P:=by
 rw[HR.out,Yed (by rintro(h | h) <;>contradiction)]):P:=h
theorem Z4l{P:Prop}(h:P:=by
 rw[HE.out]at h0
 exact h0):P:=h
section
variable (name v:List UInt8)(w:World)(hv:v.length≤100000)
include hv
theorem Y65(hT:AS w)(hev:EV w):Calls prog 39 #[.string (bs name),.string (bs v)] w fun e w'=>e= .returned (errV 36 (Y2i name v))∧Below w.heap.size w w':=by
 have c1:=Y99 name w hT;unfold Y7G at c1
 cases hf:Y2j Yh name with
 | none =>
  rw[hf]at c1;simp only[Y2s,Y2t]at c1;rw[Y1o _ _ Z7]at c1;rw[Y9m hf,Y1o _ _ Z7];have C1:=hid c1;clear c1 hT hev;go_enter func39,ntmps39;go_wp2_with fail;refine C1.out.mono ?_;rintro e w1 ⟨rfl,hb1⟩;go_wp2;go_ret;exact⟨rfl,hb1.alloc hb1.size _⟩
 | some k =>
  have hk:k∈Yh:=Yfy hf;obtain⟨-,-,-,-,-,-,-,-,-,-,hl1,hl2,hl3⟩:=Y55 k hk;rw[hf]at c1;simp only[Y2s,Y2t,KR.cells]at c1;rw[YN]at c1;have cn:=fun w1 (hb:Below w.heap.size w w1)=>hid (Y5O v (YA k.ll:Int) (YA k.lh:Int) w1 Z7 Z7 Z7 Z7 Z7 (hev.below hb))
  have cl:=fun w1=>hid (Y8b v w1 hv)
  unfold Y8H at cl;have C1:=hid c1;clear c1 hT hev;have hk7:=Y3M k hk;have HR:=hid (show Y3Q k v=if YA k.lk=1∨YA k.lk=2 then(if v=Y5j∨v=noL then 0 else 3)else if YA k.lk=3∨YA k.lk=4∨YA k.lk=7 then(Y1D v (YA k.ll) (YA k.lh)).2 else if YA k.lk=5 then(Y4G v).2 else if v= []then 3 else 0 from rfl);rw[Y6M hf];generalize Y3Q k v=R at *;generalize Y1D v (YA k.ll:Int) (YA k.lh:Int)=N at *
  obtain⟨n,nk⟩:=N;generalize Y4G v=L at *;obtain⟨ls,lk⟩:=L;simp only at cn cl HR;generalize YA k.lk=K at *;generalize YA k.ll=K1 at *;generalize YA k.lh=K2 at *;generalize k.name=kn at *;generalize k.dv=kd at *;generalize (k.no == [78])=kb1 at *;generalize (k.lo == [76])=kb2 at *;clear hf hk;go_enter func39,ntmps39;go_wp2_with fail;refine C1.out.mono ?_;rintro e w1 ⟨rfl,hb1⟩;clear C1
  have hsz:=hb1.size;have hb2:=hb1.alloc hsz (.cells #[.string (bs kn),.int .i64 (K:Int),.int .i64 (K1:Int),.int .i64 (K2:Int),.string (bs kd),.bool kb1,.bool kb2] 131);have hy:(⟨#[89,101,115]⟩:ByteArray)=bs Y5j:=rfl;have hn:(⟨#[78,111]⟩:ByteArray)=bs noL:=rfl;have he:(⟨#[]⟩:ByteArray)=bs []:=rfl;rcases hk7 with rfl | rfl | rfl | rfl | rfl | rfl | rfl
  ·simp only[true_or,Yfw]at HR;by_cases h1:v=Y5j
   ·have hR:R=0:=by rw[HR.out,Yei (.inl h1)]
    clear HR;subst h1;go_wp2;go_ret;exact⟨by rw[hR];rfl,hb2⟩
   ·by_cases h2:v=noL
    ·have hR:R=0:=by rw[HR.out,Yei (.inr h2)]
     clear HR;subst h2;go_wp2;go_ret;exact⟨by rw[hR];rfl,hb2⟩
    ·have hR:R=3:=Z3p;clear HR;have n1:(v == Y5j)=false:=Z4q;have n2:(v == noL)=false:=Z4K;go_wp2;go_ret;exact⟨by rw[hR];rfl,hb2⟩
  ·simp only[or_true,Yfw]at HR;by_cases h1:v=Y5j
   ·have hR:R=0:=by rw[HR.out,Yei (.inl h1)]
    clear HR;subst h1;go_wp2;go_ret;exact⟨by rw[hR];rfl,hb2⟩
   ·by_cases h2:v=noL
    ·have hR:R=0:=by rw[HR.out,Yei (.inr h2)]
     clear HR;subst h2;go_wp2;go_ret;exact⟨by rw[hR];rfl,hb2⟩
    ·have hR:R=3:=Z3p;clear HR;have n1:(v == Y5j)=false:=Z4q;have n2:(v == noL)=false:=Z4K;go_wp2;go_ret;exact⟨by rw[hR];rfl,hb2⟩
  ·have hR:R=nk:=by rw[HR.out];rfl
   clear HR;go_wp2_with fail;refine(cn _ hb2).out.mono ?_;rintro e w3 ⟨rfl,hb3⟩;go_wp2;go_ret;exact⟨by rw[hR];rfl,hb2.trans (hb3.mono hb2.size)⟩
  ·have hR:R=nk:=by rw[HR.out];rfl
   clear HR;go_wp2_with fail;refine(cn _ hb2).out.mono ?_;rintro e w3 ⟨rfl,hb3⟩;go_wp2;go_ret;exact⟨by rw[hR];rfl,hb2.trans (hb3.mono hb2.size)⟩
  ·have hR:R=lk:=by rw[HR.out];rfl
   clear HR;go_wp2_with fail;refine(cl _).out.mono ?_;rintro e w3 ⟨v3,rfl,-,hb3⟩;go_wp2;go_ret;exact⟨by rw[hR];rfl,hb2.trans (hb3.mono hb2.size)⟩
  ·by_cases h1:v= []
   ·have hR:R=3:=by rw[HR.out];simp[h1]
    clear HR;subst h1;go_wp2;go_ret;exact⟨by rw[hR];rfl,hb2⟩
   ·have hR:R=0:=by rw[HR.out];simp[h1]
    clear HR;have n1:(v == [])=false:=Z4q;go_wp2;go_ret;exact⟨by rw[hR];rfl,hb2⟩
  ·have hR:R=nk:=by rw[HR.out];rfl
   clear HR;go_wp2_with fail;refine(cn _ hb2).out.mono ?_;rintro e w3 ⟨rfl,hb3⟩;go_wp2;go_ret;exact⟨by rw[hR];rfl,hb2.trans (hb3.mono hb2.size)⟩
theorem Y4X:Calls prog 35 #[.string (bs name),.string (bs v)] w fun e w'=>e= .returned (.int .i64 (Y2i name v:Nat))∧Below w.heap.size w w':=by
 have c1:=Y56 name w
 cases hf:Y2j Yh name with
 | none =>
  rw[hf]at c1;simp only[Y2s,Y2t]at c1;rw[Y9m hf];have C1:=hid c1;clear c1;go_enter func35,ntmps35;go_wp2_with fail;refine C1.out.mono ?_;rintro e w1 ⟨rfl,hb1⟩;go_wp2;go_ret;exact⟨rfl,hb1.alloc hb1.size _⟩
 | some k =>
  have hk:k∈Yh:=Yfy hf;obtain⟨-,-,-,-,-,-,-,-,-,-,hl1,hl2,hl3⟩:=Y55 k hk;rw[hf]at c1;simp only[Y2s,Y2t,KR.cells]at c1;have cn:=fun w1=>hid (Y4V v (YA k.ll:Int) (YA k.lh:Int) w1 Z7 Z7 Z7 Z7 Z7)
  have cl:=fun w1=>hid (YcT v w1 Z7)
  unfold Y9F at cl;have C1:=hid c1;clear c1;have hk7:=Y3M k hk;have HR:=hid (show Y3Q k v=if YA k.lk=1∨YA k.lk=2 then(if v=Y5j∨v=noL then 0 else 3)else if YA k.lk=3∨YA k.lk=4∨YA k.lk=7 then(Y1D v (YA k.ll) (YA k.lh)).2 else if YA k.lk=5 then(Y4G v).2 else if v= []then 3 else 0 from rfl);rw[Y6M hf];generalize Y3Q k v=R at *;generalize Y1D v (YA k.ll:Int) (YA k.lh:Int)=N at *
  obtain⟨n,nk⟩:=N;generalize Y4G v=L at *;obtain⟨ls,lk⟩:=L;simp only at cn cl HR;generalize YA k.lk=K at *;generalize YA k.ll=K1 at *;generalize YA k.lh=K2 at *;generalize k.name=kn at *;generalize k.dv=kd at *;generalize (k.no == [78])=kb1 at *;generalize (k.lo == [76])=kb2 at *;clear hf hk;go_enter func35,ntmps35;go_wp2_with fail;refine C1.out.mono ?_;rintro e w1 ⟨rfl,hb1⟩;clear C1
  have hsz:=hb1.size;have hb2:=hb1.alloc hsz (.cells #[.string (bs kn),.int .i64 (K:Int),.int .i64 (K1:Int),.int .i64 (K2:Int),.string (bs kd),.bool kb1,.bool kb2] 131);have hy:(⟨#[89,101,115]⟩:ByteArray)=bs Y5j:=rfl;have hn:(⟨#[78,111]⟩:ByteArray)=bs noL:=rfl;have he:(⟨#[]⟩:ByteArray)=bs []:=rfl;rcases hk7 with rfl | rfl | rfl | rfl | rfl | rfl | rfl
  ·simp only[true_or,Yfw]at HR;by_cases h1:v=Y5j
   ·have hR:R=0:=by rw[HR.out,Yei (.inl h1)]
    clear HR;subst h1;go_wp2;go_ret;exact⟨by rw[hR];rfl,hb2⟩
   ·by_cases h2:v=noL
    ·have hR:R=0:=by rw[HR.out,Yei (.inr h2)]
     clear HR;subst h2;go_wp2;go_ret;exact⟨by rw[hR];rfl,hb2⟩
    ·have hR:R=3:=Z3p;clear HR;have n1:(v == Y5j)=false:=Z4q;have n2:(v == noL)=false:=Z4K;go_wp2;go_ret;exact⟨by rw[hR];rfl,hb2⟩
  ·simp only[or_true,Yfw]at HR;by_cases h1:v=Y5j
   ·have hR:R=0:=by rw[HR.out,Yei (.inl h1)]
    clear HR;subst h1;go_wp2;go_ret;exact⟨by rw[hR];rfl,hb2⟩
   ·by_cases h2:v=noL
    ·have hR:R=0:=by rw[HR.out,Yei (.inr h2)]
     clear HR;subst h2;go_wp2;go_ret;exact⟨by rw[hR];rfl,hb2⟩
    ·have hR:R=3:=Z3p;clear HR;have n1:(v == Y5j)=false:=Z4q;have n2:(v == noL)=false:=Z4K;go_wp2;go_ret;exact⟨by rw[hR];rfl,hb2⟩
  ·have hR:R=nk:=by rw[HR.out];rfl
   clear HR;go_wp2_with fail;refine(cn _).out.mono ?_;rintro e w3 ⟨rfl,hb3⟩;go_wp2;go_ret;exact⟨by rw[hR];rfl,hb2.trans (hb3.mono hb2.size)⟩
  ·have hR:R=nk:=by rw[HR.out];rfl
   clear HR;go_wp2_with fail;refine(cn _).out.mono ?_;rintro e w3 ⟨rfl,hb3⟩;go_wp2;go_ret;exact⟨by rw[hR];rfl,hb2.trans (hb3.mono hb2.size)⟩
  ·have hR:R=lk:=by rw[HR.out];rfl
   clear HR;go_wp2_with fail;refine(cl _).out.mono ?_;rintro e w3 ⟨v3,rfl,-,hb3⟩;go_wp2;go_ret;exact⟨by rw[hR];rfl,hb2.trans (hb3.mono hb2.size)⟩
  ·by_cases h1:v= []
   ·have hR:R=3:=by rw[HR.out];simp[h1]
    clear HR;subst h1;go_wp2;go_ret;exact⟨by rw[hR];rfl,hb2⟩
   ·have hR:R=0:=by rw[HR.out];simp[h1]
    clear HR;have n1:(v == [])=false:=Z4q;go_wp2;go_ret;exact⟨by rw[hR];rfl,hb2⟩
  ·have hR:R=nk:=by rw[HR.out];rfl
   clear HR;go_wp2_with fail;refine(cn _).out.mono ?_;rintro e w3 ⟨rfl,hb3⟩;go_wp2;go_ret;exact⟨by rw[hR];rfl,hb2.trans (hb3.mono hb2.size)⟩
end
end
section
open Go.Proofs.Tryz
open Go Go.RowKit
theorem idxS0(x y:Value)(W:World):(Instr.index 277 (.agg #[x,y]) (.int .i64 0)).run prog W= .ok x W:=by rfl
theorem idxS1(x y:Value)(W:World):(Instr.index 277 (.agg #[x,y]) (.int .i64 1)).run prog W= .ok y W:=by rfl
theorem Y91{name offer own:List UInt8}(h:Y2i name offer≠0):Y75 name offer own=([],Y2i name offer):=by
 unfold Y2i at h ⊢;unfold Y75
 cases hf:Y2j Yh name with
 | none=>rfl
 | some k =>
  rw[hf]at h;simp only at h ⊢
  first | done | rw[Yei h]
theorem Y90{name offer own:List UInt8}(h1:Y2i name offer=0)(h:Y2i name own≠0):Y75 name offer own=([],Y2i name own):=by
 unfold Y2i at h h1 ⊢;unfold Y75
 cases hf:Y2j Yh name with
 | none=>(rw[hf]at h1) <;>cases h1
 | some k =>
  rw[hf]at h h1;simp only at h h1 ⊢;rw[Yed Z7]
  first | done | rw[Yei h]
theorem Y8Z{name offer own:List UInt8}(h1:Y2i name offer=0)(h2:Y2i name own=0): ∃k,Y2j Yh name=some k∧k∈Yh∧Y3Q k offer=0∧Y3Q k own=0∧Y75 name offer own=resK k offer own:=by
 unfold Y2i at h1 h2;unfold Y75
 cases hf:Y2j Yh name with
 | none=>rw[hf]at h1;cases h1
 | some k =>
  rw[hf]at h1 h2;simp only at h1 h2;refine⟨k,rfl,Yfy hf,h1,h2,?_⟩;simp only;rw[Yed Z7,Yed Z7]
theorem Y8o{k:KR}{v:List UInt8}(hk:k.kind=1∨k.kind=2)(h:Y3Q k v=0):v=Y5j∨v=noL:=by
 unfold Y3Q at h;rw[Yei hk]at h;by_cases hv:v=Y5j∨v=noL
 ·exact hv
 ·rw[Yed hv]at h
  cases h
theorem Y64{k:KR}{v:List UInt8}(hk:k.kind=3∨k.kind=4)(h:Y3Q k v=0): ∃a,Y7p v=some a∧Yct v=a∧a≤1099511627775:=by
 unfold Y3Q at h;rw[Yed Z7,Yei Z7]at h;unfold Y1D at h
 cases hn:Y7p v with
 | none=>rw[hn]at h;cases h
 | some a=>exact⟨a,rfl,by unfold Yct;rw[hn];rfl,Y88 v a hn⟩
theorem Y9n{k:KR}{v:List UInt8}(hk:k.kind=5)(h:Y3Q k v=0):Y4G v=(Yg 44 v,0):=by
 unfold Y3Q at h;rw[Yed Z7,Yed Z7,Yei hk]at h;unfold Y4G at h ⊢
 split
 ·rfl
 ·rename_i hq
  rw[Yed hq]at h
  cases h
def RF(has l:List (List UInt8))(W:World)(i:Value)(wr:World):Prop:=
 ∃k:Nat,k≤l.length∧i= .int .i64 (k:Nat)∧Y1W has l=Y1W has (l.drop k)∧wr=W
def RFj(has:List (List UInt8))(x:List UInt8)(W:World)(j:Value)(wr:World):Prop:=
 ∃m:Nat,m≤has.length∧j= .int .i64 (m:Nat)∧(∀y∈has.take m,y≠x)∧wr=W
theorem sl_str{W:World}{v:Value}{l:List (List UInt8)}(h:Sl W v 1 l.length (strCells l)): ∃a c,v= .slice a l.length c∧(l.length=0∨ ∃b o,a=some ⟨b,o,none⟩∧ ∀k x,l[k]?=some x→W.cell? ⟨b,o+k,none⟩=some (.string (bs x))):=by
 obtain⟨a,c,rfl,hl,hc⟩:=h;refine⟨a,c,rfl,?_⟩;rcases hc with hc | ⟨b,o,rfl,hc⟩
 ·exact .inl hc
 ·exact .inr ⟨b,o,rfl,fun k x hx=>hc k _ (by simp[strCells,hx])⟩
theorem Z22{P:Prop}(h:P:=by
 have e1:=HN1.out a ha
 have e2:=HN2.out b hb
 subst e1 e2
 go_wp2_with fail
 refine(ci _ Z7 Z7 _ hb6).out.mono ?_
 rintro e w7 ⟨rfl,hb7⟩
 go_wp2
 go_ret2
 refine⟨?_,hb6.trans (hb7.mono hb6.size)⟩
 rw[HRK.out,hao,hbo]
 simp[YN]
 first | done | rfl):P:=h
theorem Z24{P Q:Prop}(k:Q)(h:Q→P:=by
 have hb3:=hb2.trans (hb3.mono hb2.size)
 have hK3:=Blk.new w3 131 #[.string (bs k.name),.int .i64 (YA k.lk:Int),.int .i64 (YA k.ll:Int),.int .i64 (YA k.lh:Int),.string (bs k.dv),.bool (k.no == [78]),.bool (k.lo == [76])]
 have hb4:=hb3.alloc hb3.size (.cells #[.string (bs k.name),.int .i64 (YA k.lk:Int),.int .i64 (YA k.ll:Int),.int .i64 (YA k.lh:Int),.string (bs k.dv),.bool (k.no == [78]),.bool (k.lo == [76])] 131)
 refine fun z_=>?_
 revert hb4;revert hK3;revert hb3
 exact z_):P:=h k
theorem Z40{P:Prop}(h:P:=by
 first | exact rfl | trivial):P:=h
section
variable (name offer own:List UInt8)(w:World)(h1:offer.length≤100000)(h2:own.length≤100000)
include h1 h2
theorem YbF(hT:AS w)(hP:PT w)(hev:EV w):Calls prog 96 #[.string (bs name),.string (bs offer),.string (bs own)] w fun e w' =>
 e= .returned (.tuple #[.string (bs (Y75 name offer own).1),errV 36 (Y75 name offer own).2])∧Below w.heap.size w w':=by
 have cf1:=hid (Y65 name offer w h1 hT hev);have cf2:=fun w1 (hb:Below w.heap.size w w1)=>hid (Y65 name own w1 h2 (hT.below hb (Ye9 _)) (hev.below hb))
 have hbad1:=hid (fun h=>@Y91 name offer own h);have hbad2:=hid (fun ha h=>@Y90 name offer own ha h);have hgood:=hid (fun ha h=>@Y8Z name offer own ha h);have co:=fun w1 (hb:Below w.heap.size w w1)=>hid (Y99 name w1 (hT.below hb (Ye9 _)))
 have cn1:=fun w1 (hb:Below w.heap.size w w1)=>hid (Y4H offer w1 Z7 (hev.below hb))
 have cn2:=fun w1 (hb:Below w.heap.size w w1)=>hid (Y4H own w1 Z7 (hev.below hb))
 have cl1:=fun w1=>hid (Y8b offer w1 h1)
 have cl2:=fun w1=>hid (Y8b own w1 h2)
 have cy:=fun b w1=>hid (yes_any b w1)
 have ci:=fun n h0 h3 w1 (hb:Below w.heap.size w w1)=>hid (Y3n n h0 h3 w1 (hP.below hb (Ye9 _)))
 unfold Y7G at co;unfold Y6Z at cn1 cn2;unfold Y8H at cl1 cl2;generalize Y75 name offer own=R at *;generalize hF1:Y2i name offer=F1 at *;generalize hF2:Y2i name own=F2 at *;clear hF1 hF2 hT hP hev;have hi0:=idxS0;have hi1:=idxS1;have hb0:=Yea w.heap.size w;go_enter func96,ntmps96;go_wp2;refine Yf7 3 ?_;rw[Yf5];by_cases hf1:F1=0
 ·subst hf1;rw[YN]at cf1;go_wp2_with fail;refine cf1.out.mono ?_;rintro e w1 ⟨rfl,hb1⟩;go_wp2;rw[Yf5];by_cases hf2:F2=0
  ·subst hf2;obtain⟨k,hfk,hkm,hk1,hk2,hR⟩:=hgood.out Z40 Z40;clear hgood hbad1 hbad2;rw[hfk]at co;simp only[Y2s,Y2t,KR.cells,YN]at co;have cf2:=cf2 _ hb1;rw[YN]at cf2;go_wp2_with fail;refine cf2.out.mono ?_;rintro e w2 ⟨rfl,hb2⟩;have hb2:=hb1.trans (hb2.mono hb1.size);go_wp2;rw[Yf5];go_wp2_with fail;refine(co _ hb2).out.mono ?_;rintro e w3 ⟨rfl,hb3⟩;refine Z24 ?_;intro hb3 hK3 hb4
   go_wp2_with fail;generalize w3.alloc (.cells #[.string (bs k.name),.int .i64 (YA k.lk:Int),.int .i64 (YA k.ll:Int),.int .i64 (YA k.lh:Int),.string (bs k.dv),.bool (k.no == [78]),.bool (k.lo == [76])] 131)=w4 at *;refine(cn1 _ hb4).out.mono ?_;rintro e w5 ⟨n1,rfl,hn1,hb5⟩;have hK5:=hK3.below hb5;have hb5:=hb4.trans (hb5.mono hb4.size);go_wp2_with fail;refine(cn2 _ hb5).out.mono ?_;rintro e w6 ⟨n2,rfl,hn2,hb6⟩
   have hK6:=hK5.below hb6;have hb6:=hb5.trans (hb6.mono hb5.size);clear hK3 hK5 co cn1 cn2 cf1 cf2 hb1 hb2 hb3 hb4 hb5;have hkc:w6.cell? ⟨w3.heap.size,1,none⟩=some (.int .i64 (YA k.lk:Int)):=(hK6.cell 1).trans rfl;clear hK6;have hk7:=Y3M k hkm;have HN1:=hid hn1;have HN2:=hid hn2;clear hn1 hn2 hi0 hi1;have hRk:=hR;unfold resK at hRk;have Hy1:=hid (fun h=>@Y8o k offer h hk1);have Hy2:=hid (fun h=>@Y8o k own h hk2)
   have Hm1:=hid (fun h=>@Y64 k offer h hk1);have Hm2:=hid (fun h=>@Y64 k own h hk2);have Hl1:=hid (fun h=>@Y9n k offer h hk1);have Hl2:=hid (fun h=>@Y9n k own h hk2);change R=if k.kind=1 then _ else _ at hRk;have HRK:=hid hRk;clear hR hRk hk1 hk2;generalize w3.heap.size=g at *;have hkk:YA k.lk=k.kind:=rfl;rw[hkk]at hkc hk7;generalize k.kind=K at *;rcases hk7 with rfl | rfl | rfl | rfl | rfl | rfl | rfl
   ·rcases Hy1.out (.inl rfl)with rfl | rfl<;>rcases Hy2.out (.inl rfl)with rfl | rfl
    all_goals
     go_wp2_with fail;refine(cy _ _).out.mono ?_;rintro e w7 ⟨rfl,hb7⟩;go_wp2;go_ret2;exact⟨by rw[HRK.out];rfl,hb6.trans (hb7.mono hb6.size)⟩
   ·rcases Hy1.out (.inr rfl)with rfl | rfl<;>rcases Hy2.out (.inr rfl)with rfl | rfl
    all_goals
     go_wp2_with fail;refine(cy _ _).out.mono ?_;rintro e w7 ⟨rfl,hb7⟩;go_wp2;go_ret2;exact⟨by rw[HRK.out];rfl,hb6.trans (hb7.mono hb6.size)⟩
   ·obtain⟨a,ha,hao,hab⟩:=Hm1.out (.inl rfl);obtain⟨b,hb,hbo,hbb⟩:=Hm2.out (.inl rfl);exact Z22
   ·obtain⟨a,ha,hao,hab⟩:=Hm1.out (.inr rfl);obtain⟨b,hb,hbo,hbb⟩:=Hm2.out (.inr rfl);exact Z22
   ·have hl1:=Hl1.out rfl;have hl2:=Hl2.out rfl;rw[hl1]at cl1;rw[hl2]at cl2;simp only[YN]at cl1 cl2;have hr:=HRK.out;simp at hr;have hn1:(Yg 44 offer).length≤1000000:=by rw[Y1K];have:=YfG (a:=(44:UInt8)) (l:=offer);exact Z7
    have hn2:(Yg 44 own).length≤1000000:=by rw[Y1K];have:=YfG (a:=(44:UInt8)) (l:=own);exact Z7
    clear hl1 hl2 HRK;generalize Yg 44 offer=L at *;generalize Yg 44 own=H at *;go_wp2_with fail;refine(cl2 _).out.mono ?_;rintro e w7 ⟨v2,rfl,hv2,hb7⟩;have hb8:=hb6.trans (hb7.mono hb6.size);go_wp2_with fail;refine(cl1 _).out.mono ?_;rintro e w8 ⟨v1,rfl,hv1,hb9⟩;have hv2:=hv2.below Z7 hb9;have hb9:=hb8.trans (hb9.mono hb8.size);obtain⟨a1,q1,rfl,hc1⟩:=sl_str hv1;obtain⟨a2,q2,rfl,hc2⟩:=sl_str hv2
    clear hv1 hv2 cl1 cl2;have HC1:=hid hc1;have HC2:=hid hc2;have HR:=hid hr;clear hc1 hc2 hr;go_wp2;go_loopw [99] (fun i wr=>RF H L w8 i wr) (fun i _=>L.length - (intOf i).toNat)
    case atStart=>exact Z4X
    case round =>
     obtain⟨k,hk,rfl,hst,rfl⟩:=hrel;by_cases hlt:k<L.length
     ·obtain⟨x,hx⟩: ∃x,L[k]?=some x:=⟨L[k],Yec hlt⟩;obtain⟨b1,o1,rfl,hcc⟩:=HC1.out.resolve_left Z7;have hcx:=hcc k x hx;rw[Y5Q H L k x hx]at hst;have HST:=hid hst;clear hst hcc hx;go_wp2;go_loopw [105] (fun j wr2=>RFj H x wr j wr2) (fun j _=>H.length - (intOf j).toNat)
      case atStart=>exact⟨0,by omega,rfl,by simp,rfl⟩
      case round =>
       obtain⟨m,hm,rfl,hno,rfl⟩:=hrel;by_cases hmk:m<H.length
       ·obtain⟨y,hy⟩: ∃y,H[m]?=some y:=⟨H[m],Yec hmk⟩;obtain⟨b2,o2,rfl,hcc2⟩:=HC2.out.resolve_left Z7;have hcy:=hcc2 m y hy;obtain⟨hy1,hy2⟩:=Yek.1 hy;by_cases hxy:x=y
        ·have hcon:H.contains x=true:=by
          rw[Yfj,hxy,←hy2];exact YfD hy1
         have hrr:R=(x,0):=by rw[HR.out,HST.out,hcon];rfl
         have hbe:(x == y)=true:=by simpa using hxy
         clear hno hy hy1 hy2 hcon hxy hcc2;go_wp2;go_ret2;exact⟨by rw[hrr];rfl,hb9⟩
        ·have hbe:(x == y)=false:=by simpa using hxy
         have hn2: ∀z∈H.take (m+1),z≠x:=by
          exact Z31
         have HNO:=hid hn2;clear hno hy hy1 hy2 hxy hn2 hcc2;go_wp2;go_roundw
         case rel=>exact⟨m+1,by omega,by go_num,HNO.out,rfl⟩
         case measure=>exact Zw
       ·obtain rfl:m=H.length:=Z7
        have hcon:H.contains x=false:=by
         cases hq:H.contains x with
         | false=>rfl
         | true=>exact absurd rfl (hno x (by rw[Yex];exact Yfj.1 hq))
        have hst:=HST.out;rw[hcon]at hst;have HS2:=hid (show Y1W H L=Y1W H (L.drop (k+1)) by rw[hst];rfl);clear hno hcon hst HST;go_wp2;go_roundw
        case rel=>exact⟨k+1,by omega,by go_num,HS2.out,rfl⟩
        case measure=>exact Zw
     ·obtain rfl:k=L.length:=Z7;have hrr:R=([],8):=by rw[HR.out,hst,Y6O _ _ _ (Ye9 _)]
      clear hst;go_wp2;go_ret2;exact⟨by rw[hrr];rfl,hb9⟩
   ·go_wp2;go_ret2;exact⟨by rw[HRK.out];rfl,hb6⟩
   ·go_wp2;go_ret2;exact⟨by rw[HRK.out];rfl,hb6⟩
  ·rw[Y1o _ _ Z7]at cf2;have hRb:=hbad2.out Z40 hf2;go_wp2_with fail;refine(cf2 _ hb1).out.mono ?_;rintro e w2 ⟨rfl,hb2⟩;go_wp2;go_ret2;exact⟨by rw[hRb,Y1o _ _ Z7];rfl,hb1.trans (hb2.mono hb1.size)⟩
 ·rw[Y1o _ _ Z7]at cf1;have hRb:=hbad1.out hf1;go_wp2_with fail;refine cf1.out.mono ?_;rintro e w1 ⟨rfl,hb1⟩;go_wp2;go_ret2;exact⟨by rw[hRb,Y1o _ _ Z7];rfl,hb1⟩
end
end
section
open Go.Proofs.Tryz
open Go Go.RowKit
def ML(w:World):Prop:= ∃m,w.cell? ⟨3,0,none⟩=some (.int .i64 m)
theorem ML.below{w w':World}(h:ML w)(hb:Below w.heap.size w w'):ML w':=by
 obtain⟨m,hm⟩:=h;exact⟨m,(hb.cell (p:=⟨3,0,none⟩) (Yeb hm)).trans hm⟩
theorem Y9c{w:World}(h:w.ShapedOpen prog):ML w:=Tryz.laysM144.s1_3 w h
theorem Y9t(s sub:List UInt8)(w:World)(hs:s.length≤1000000)(hm:ML w):
 Calls prog 94 #[.string (bs s),.string (bs sub)] w fun e w'=>e= .returned (.bool (Lib.contains s sub))∧w=w':=by
 obtain⟨m,hm⟩:=hm;refine(Tryz.strings_Contains (bs s) (bs sub) m w (by rw[YJ];exact Z7) hm).mono ?_;rintro e w' ⟨rfl,rfl⟩;exact⟨rfl,rfl⟩
theorem Z15{P:Prop}(h:P:=by
 rw[ha]at cn1
 rw[hb]at cn2
 simp only[numI]at cn1 cn2
 go_wp2_with fail
 refine(cn1 _).out.mono ?_
 rintro e w5 ⟨rfl,hb5⟩
 have hb5:=hb4.trans (hb5.mono hb4.size)
 go_wp2_with fail
 refine(cn2 _).out.mono ?_
 rintro e w6 ⟨rfl,hb6⟩
 have hb6:=hb5.trans (hb6.mono hb5.size)
 go_wp2_with fail
 refine(ci _ Z7 Z7 _ hb6).out.mono ?_
 rintro e w7 ⟨rfl,hb7⟩
 go_wp2
 go_ret2
 refine⟨?_,hb6.trans (hb7.mono hb6.size)⟩
 rw[HRK.out,hao,hbo]
 first | done | rfl | (simp;done) | (simp;rfl)):P:=h
section
variable (name offer own:List UInt8)(w:World)(h1:offer.length≤100000)(h2:own.length≤100000)
include h1 h2
theorem Ya3(hP:PT w)(hM:ML w):Calls prog 45 #[.string (bs name),.string (bs offer),.string (bs own)] w fun e w' =>
 e= .returned (.tuple #[.string (bs (Y75 name offer own).1),.int .i64 ((Y75 name offer own).2:Nat)])∧Below w.heap.size w w':=by
 have cf1:=hid (Y4X name offer w h1);have cf2:=fun w1=>hid (Y4X name own w1 h2)
 have hbad1:=hid (fun h=>@Y91 name offer own h);have hbad2:=hid (fun ha h=>@Y90 name offer own ha h);have hgood:=hid (fun ha h=>@Y8Z name offer own ha h);have co:=fun w1=>hid (Y56 name w1)
 have cn1:=fun w1=>hid (Y42 offer w1 Z7)
 have cn2:=fun w1=>hid (Y42 own w1 Z7)
 have cs:=fun w1=>hid (Y4h 44 offer w1 Z7)
 have cc:=fun s sub w1 hs (hb:Below w.heap.size w w1)=>hid (Y9t s sub w1 hs (hM.below hb))
 have ci:=fun n h0 h3 w1 (hb:Below w.heap.size w w1)=>hid (Y3n n h0 h3 w1 (hP.below hb (Ye9 _)))
 generalize Y75 name offer own=R at *;generalize hF1:Y2i name offer=F1 at *;generalize hF2:Y2i name own=F2 at *;clear hF1 hF2 hP hM;have hb0:=Yea w.heap.size w;go_enter func45,ntmps45;go_wp2_with fail;refine cf1.out.mono ?_;rintro e w1 ⟨rfl,hb1⟩;by_cases hf1:F1=0
 ·subst hf1;go_wp2_with fail;refine(cf2 _).out.mono ?_;rintro e w2 ⟨rfl,hb2⟩;have hb2:=hb1.trans (hb2.mono hb1.size);by_cases hf2:F2=0
  ·subst hf2;obtain⟨k,hfk,hkm,hk1,hk2,hR⟩:=hgood.out Z40 Z40;clear hgood hbad1 hbad2;rw[hfk]at co;simp only[Y2s,Y2t,KR.cells]at co;go_wp2_with fail;refine(co _).out.mono ?_;rintro e w3 ⟨rfl,hb3⟩;refine Z24 ?_;intro hb3 hK3 hb4;have hkc:(w3.alloc (.cells #[.string (bs k.name),.int .i64 (YA k.lk:Int),.int .i64 (YA k.ll:Int),.int .i64 (YA k.lh:Int),.string (bs k.dv),.bool (k.no == [78]),.bool (k.lo == [76])] 131)).cell? ⟨w3.heap.size,1,none⟩=some (.int .i64 (YA k.lk:Int)):=(hK3.cell 1).trans rfl
   clear hK3;have hk7:=Y3M k hkm;have hRk:=hR;unfold resK at hRk;have Hy1:=hid (fun h=>@Y8o k offer h hk1);have Hy2:=hid (fun h=>@Y8o k own h hk2);have Hm1:=hid (fun h=>@Y64 k offer h hk1);have Hm2:=hid (fun h=>@Y64 k own h hk2);change R=if k.kind=1 then _ else _ at hRk;have HRK:=hid hRk;have hsl:(⟨#[47]⟩:ByteArray)=bs [47]:=rfl;have hcm:(⟨#[44]⟩:ByteArray)=bs [44]:=rfl;clear hR hRk hk1 hk2 co cf1 cf2 hb1 hb2 hb3
   have hkk:YA k.lk=k.kind:=rfl;rw[hkk]at hkc hk7 hb4 ⊢;generalize k.kind=K at *;rcases hk7 with rfl | rfl | rfl | rfl | rfl | rfl | rfl
   ·rcases Hy1.out (.inl rfl)with rfl | rfl<;>rcases Hy2.out (.inl rfl)with rfl | rfl
    all_goals
     go_wp2;go_ret2;exact⟨by rw[HRK.out];rfl,hb4⟩
   ·rcases Hy1.out (.inr rfl)with rfl | rfl<;>rcases Hy2.out (.inr rfl)with rfl | rfl
    all_goals
     go_wp2;go_ret2;exact⟨by rw[HRK.out];rfl,hb4⟩
   ·obtain⟨a,ha,hao,hab⟩:=Hm1.out (.inl rfl);obtain⟨b,hb,hbo,hbb⟩:=Hm2.out (.inl rfl);exact Z15
   ·obtain⟨a,ha,hao,hab⟩:=Hm1.out (.inr rfl);obtain⟨b,hb,hbo,hbb⟩:=Hm2.out (.inr rfl);exact Z15
   ·have hr:=HRK.out;simp at hr;have hn1:(Yg 44 offer).length≤1000000:=by rw[Y1K];have:=YfG (a:=(44:UInt8)) (l:=offer);exact Z7
    have hsz:=fun x hx=>Y5l 44 offer x hx
    have hfr:=fun x hx=>YbB 44 offer.length offer (Ye9 _) x hx
    have hcw:=fun x hx=>Y8t own x hx
    have HAC:=hid (fun W=>Y8x W (Yg 44 offer));have HSZ:=hid hsz;have HFR:=hid hfr;have HCW:=hid hcw;clear HRK hsz hfr hcw;generalize Yg 44 offer=L at *;generalize Yg 44 own=H at *;go_wp2_with fail;refine(cs _).out.mono ?_;rintro e w8 ⟨rfl,rfl⟩;have hb9:=hb4.alloc hb4.size (.cells (Y4B L) 9);have had:=HAC.out (w3.alloc (.cells #[.string (bs k.name),.int .i64 ((5:Nat):Int),.int .i64 (YA k.ll:Int),.int .i64 (YA k.lh:Int),.string (bs k.dv),.bool (k.no == [78]),.bool (k.lo == [76])] 131))
    have hs3:(w3.alloc (.cells #[.string (bs k.name),.int .i64 ((5:Nat):Int),.int .i64 (YA k.ll:Int),.int .i64 (YA k.lh:Int),.string (bs k.dv),.bool (k.no == [78]),.bool (k.lo == [76])] 131)).heap.size=w3.heap.size+1:=Z2t;simp only[hs3]at had;have HAD:=hid had;clear had hs3;have HR:=hid hr;clear hr HAC;have HB9:=hid hb9;clear hb9;generalize hW9:(w3.alloc (.cells #[.string (bs k.name),.int .i64 ((5:Nat):Int),.int .i64 (YA k.ll:Int),.int .i64 (YA k.lh:Int),.string (bs k.dv),.bool (k.no == [78]),.bool (k.lo == [76])] 131)).alloc (.cells (Y4B L) 9)=W9 at *
    clear hW9;have hb9:=HB9.out;go_wp2;go_loopw [67] (fun i wr=>RF H L W9 i wr) (fun i _=>L.length - (intOf i).toNat)
    case atStart=>exact Z4X
    case round =>
     obtain⟨q,hq,rfl,hst,rfl⟩:=hrel;by_cases hlt:q<L.length
     ·obtain⟨x,hx⟩: ∃x,L[q]?=some x:=⟨L[q],Yec hlt⟩;have hxm:x∈L:=Yer hx;have hcx:=HAD.out q x hx;have hxl:=HSZ.out x hxm;have hct:=HCW.out x (HFR.out x hxm);rw[Y5Q H L q x hx,←hct]at hst;have HST:=hid hst;clear hst hx hxm hct;go_wp2_with fail;refine(cc _ _ _ ?_ HB9.out).out.mono ?_
      ·exact Zd
      rintro e w10 ⟨rfl,rfl⟩
      cases hcon:Lib.contains (44 :: (own ++ [44])) (44 :: (x ++ [44]))with
      | true =>
       have hrr:R=(x,0):=by rw[HR.out,HST.out,hcon];rfl
       clear hcon;go_wp2;go_ret2;exact⟨by rw[hrr];rfl,HB9.out⟩
      | false =>
       have hst:=HST.out;rw[hcon]at hst;have HS2:=hid (show Y1W H L=Y1W H (L.drop (q+1)) by rw[hst];rfl);clear hcon hst HST;go_wp2;go_roundw
       case rel=>exact⟨q+1,by omega,by go_num,HS2.out,rfl⟩
       case measure=>exact Zw
     ·obtain rfl:q=L.length:=Z7;have hrr:R=([],8):=by rw[HR.out,hst,Y6O _ _ _ (Ye9 _)]
      clear hst;go_wp2;go_ret2;exact⟨by rw[hrr];rfl,HB9.out⟩
   ·go_wp2;go_ret2;exact⟨by rw[HRK.out];rfl,hb4⟩
   ·go_wp2;go_ret2;exact⟨by rw[HRK.out];rfl,hb4⟩
  ·have hRb:=hbad2.out Z40 hf2;go_wp2;go_ret2;exact⟨by rw[hRb];rfl,hb2⟩
 ·have hRb:=hbad1.out hf1;go_wp2;go_ret2;exact⟨by rw[hRb];rfl,hb1⟩
end
end
end Go.Proofs.YtfadikchijkcfaaGreatDoor
