/- What comes of an offer: plain laws. -/
import Derived.Test.YtfadikchijkcfaaGreatDoorParsePure
import Derived.Test.YtfadikchijkcfaaGreatDoorKeyPure
import Derived.Test.YtfadikchijkcfaaGreatDoorListPure
import Derived.Lib.IndexMore
import Derived.Lib.ItoaNum
import Derived.Test.YtfadikchijkcfaaGreatDoorField
import Derived.Test.YtfadikchijkcfaaGreatDoorChecked
set_option linter.unusedVariables false
set_option linter.unusedSectionVars false
set_option linter.unusedSimpArgs false
namespace Go.Proofs.YtfadikchijkcfaaGreatDoor
section
open Go
theorem Y8A(c:UInt8)(p r a s:List UInt8)(hp:c ∉ p)(h:p ++ c :: r=a ++ c :: s): ∃a',a=p ++ a'∧a' ++ c :: s=c :: r:=by
 induction p generalizing a with
 | nil=>exact⟨a,rfl,h.symm⟩
 | cons d p ih =>
  cases a with
  | nil =>
   have:=(Yga h).1;exact absurd (by simp[this]) hp
  | cons e a =>
   obtain⟨h1,h2⟩:=Yga h;obtain⟨a',rfl,h3⟩:=ih a (fun hc=>hp (by simp[hc])) h2;exact⟨a',by rw[h1];rfl,h3⟩
theorem Y7A(c:UInt8)(p r q s:List UInt8)(hp:c ∉ p)(hq:c ∉ q)(h:p ++ c :: r=q ++ c :: s):p=q:=by
 obtain⟨a,rfl,h2⟩:=Y8A c p r q s hp h
 cases a with
 | nil=>simp
 | cons d a =>
  have:=(Yga h2).1;exact absurd (by simp[this]) hq
theorem occ_iff(s sub:List UInt8):Lib.contains s sub=true ↔ ∃a b,s=a ++ sub ++ b:=by
 unfold Lib.contains;rw[decide_eq_true_iff];constructor
 ·intro h;rcases Lib.index_spec s sub with ⟨h1,_⟩ | ⟨i,_,_,h3,_⟩
  ·exact Z7
  ·obtain⟨b,hb⟩:=List.isPrefixOf_iff_prefix.1 h3;exact⟨s.take i,b,by rw[Yfx,hb,YfA]⟩
 ·rintro⟨a,b,rfl⟩;rcases Lib.index_spec (a ++ sub ++ b) sub with ⟨_,h2⟩ | ⟨i,h1,_⟩
  ·have:=h2 a.length Z2t;unfold Lib.occAt at this;rw[Yfx,List.drop_left]at this;rw[List.isPrefixOf_iff_prefix.2 ⟨b,rfl⟩]at this
   cases this
  ·exact Z7
theorem word_in(c:UInt8)(x:List UInt8)(hx:c ∉ x): ∀ (n:Nat) (l:List UInt8),l.length≤n→((∃a b,c :: (l ++ [c])=a ++ (c :: (x ++ [c])) ++ b) ↔ x∈Yg c l):=by
 intro n
 induction n with
 | zero =>
  intro l hl;have:l= []:=YeK Z7;subst this;have hs:Yg c []= [[]]:=rfl;rw[hs];constructor
  ·rintro⟨a,b,h⟩;have h2:=Yeg List.length h;have:x.length=0:=by simp at h2;exact Z7
   simp[YeK this]
  ·intro h;have:x= []:=Z3o;subst this;exact⟨[],[],by simp⟩
 | succ n ih =>
  intro l hl;rcases Y2H l c with ⟨_,hn⟩ | ⟨i,_,hi,h3,h4⟩
  ·rw[Y31 c l hn];constructor
   ·rintro⟨a,b,h⟩
    cases a with
    | nil =>
     have h2:=(Yga h).2;have:l ++ c :: []=x ++ c :: b:=Z4K;simp[Y7A c l [] x b hn hx this]
    | cons d a =>
     have h2:=(Yga h).2;have h3:l ++ c :: []=a ++ c :: (x ++ [c] ++ b):=Z4K;obtain⟨a',rfl,h4⟩:=Y8A c l [] a _ hn h3;have h5:=Yeg List.length h4;simp at h5;omega
   ·intro h;have:x=l:=Z3o;subst this;exact⟨[],[],by simp⟩
  ·rw[Y3w c l i h3 h4];have hlen:(l.drop (i+1)).length≤n:=Zd;have ih':=ih (l.drop (i+1)) hlen;generalize l.take i=p at *;generalize l.drop (i+1)=r at *;subst h3;rw[Yf0,←ih'];constructor
   ·rintro⟨a,b,h⟩
    cases a with
    | nil =>
     have h2:=(Yga h).2;have:p ++ c :: (r ++ [c])=x ++ c :: b:=Z4K;exact .inl (Y7A c p _ x b h4 hx this).symm
    | cons d a =>
     have h2:=(Yga h).2;have h3:p ++ c :: (r ++ [c])=a ++ c :: (x ++ [c] ++ b):=Z4K;obtain⟨a',rfl,h5⟩:=Y8A c p _ a _ h4 h3;exact .inr ⟨a',b,by rw[←h5];simp⟩
   ·rintro(rfl | ⟨a,b,h⟩)
    ·exact⟨[],r ++ [c],by simp⟩
    ·refine⟨c :: p ++ a,b,?_⟩;have:c :: ((p ++ c :: r) ++ [c])=c :: p ++ (c :: (r ++ [c])):=Z2t;rw[this,h];simp
theorem Y8t(own x:List UInt8)(hx:(44:UInt8) ∉ x):Lib.contains (44 :: (own ++ [44])) (44 :: (x ++ [44]))=(Yg 44 own).contains x:=by
 rw[Yg3,occ_iff,word_in 44 x hx own.length own (Ye9 _)];exact Z2t
theorem YbB(c:UInt8): ∀ (n:Nat) (l:List UInt8),l.length≤n→ ∀x∈Yg c l,c ∉ x:=by
 intro n
 induction n with
 | zero =>
  intro l hl x hx;have:l= []:=YeK Z7;subst this;have:x= []:=by simpa[Yg]using hx
  subst this;simp
 | succ n ih =>
  intro l hl x hx;rcases Y2H l c with ⟨_,hn⟩ | ⟨i,_,hi,h3,h4⟩
  ·rw[Y31 c l hn]at hx;have:x=l:=by simpa using hx
   subst this;exact hn
  ·rw[Y3w c l i h3 h4,Yf0]at hx;rcases hx with rfl | hx
   ·exact h4
   ·exact ih _ Zd x hx
def Y5j:List UInt8:= [89,101,115]
def noL:List UInt8:= [78,111]
def KR.kind(k:KR):Nat:=YA k.lk
def Y3Q(k:KR)(v:List UInt8):Nat:=
 if k.kind=1∨k.kind=2 then(if v=Y5j∨v=noL then 0 else 3)else
 if k.kind=3∨k.kind=4∨k.kind=7 then(Y1D v (YA k.ll) (YA k.lh)).2 else
 if k.kind=5 then(Y4G v).2 else if v= []then 3 else 0
def Y2i(name v:List UInt8):Nat:=match Y2j Yh name with | none=>5 | some k=>Y3Q k v
def Y1W(has:List (List UInt8)):List (List UInt8)→List UInt8×Nat
 | []=>([],8)
 | x :: l=>if has.contains x then(x,0)else Y1W has l
theorem Y5Q(has l:List (List UInt8))(k:Nat)(x:List UInt8)(h:l[k]?=some x):Y1W has (l.drop k)=if has.contains x then(x,0)else Y1W has (l.drop (k+1)):=by
 refine Z43 ?_;intro h1 h2;rw[Yev h1,h2,Y1W]
theorem Y6O(has l:List (List UInt8))(k:Nat)(h:l.length≤k):Y1W has (l.drop k)=([],8):=by
 rw[Yff h,Y1W]
def Yct(l:List UInt8):Nat:=(Y7p l).getD 0
def resK(k:KR)(offer own:List UInt8):List UInt8×Nat:=
 if k.kind=1 then(if offer=Y5j∧own=Y5j then Y5j else noL,0)else
 if k.kind=2 then(if offer=Y5j∨own=Y5j then Y5j else noL,0)else
 if k.kind=3 then(Lib.itoa (min (Yct offer:Int) (Yct own:Int)),0)else
 if k.kind=4 then(Lib.itoa (max (Yct offer:Int) (Yct own:Int)),0)else
 if k.kind=5 then Y1W (Yg 44 own) (Yg 44 offer)else(offer,0)
def Y75(name offer own:List UInt8):List UInt8×Nat:=
 match Y2j Yh name with
 | none=>([],5)
 | some k=>if Y3Q k offer≠0 then([],Y3Q k offer)else if Y3Q k own≠0 then([],Y3Q k own)else resK k offer own
end
section
open Go.Proofs.Tryz
open Go Go.RowKit Go.Maps
theorem Y8w:Keyed prog 4:=bool_keyed underlying4
theorem zeroStrY(w:World):(zeroValue 9).run prog w= .ok (.string (bs [])) w:=by kernel_rfl
theorem Y8q(s:List UInt8)(h:s.length≤100): ∃d p,plainElem (H:=Unit) prog 9 (.string (bs s))=some (d,p):=
 ⟨_,_,plainElem_string underlying9 (by rw[YJ];unfold maxLen;omega)⟩
def yesT(b:Bool):List UInt8:=if b then Y5j else noL
def yesF1:Value→Value | .bool true=> .string (bs Y5j) | _=> .string (bs [])
def yesF2:Value→Value | .bool true=> .string (bs Y5j) | .bool false=> .string (bs noL) | _=> .string (bs [])
theorem yes_any(b:Bool)(w:World):Calls prog 148 #[.bool b] w fun e w'=>e= .returned (.string (bs (yesT b)))∧Below w.heap.size w w':=by
 obtain⟨z,hz⟩: ∃z,∃p,plainElem (H:=Unit) prog 9 (.string (bs []))=some (z,p):=by
  obtain⟨d,p,h⟩:=Y8q [] Z2t;exact⟨d,p,h⟩
 obtain⟨w1,r1,m1,g1⟩:=Y16.put (T:=336) (Y16.made (P:=prog) (K:=4) (E:=9) w (.string (bs [])) z hz) Y8w underlying336 ZS (keyOf_bool_mk underlying4 true) (Y8q Y5j Z16)
 have m1:=m1 yesF1 rfl (fun v hv=>by
  cases v<;>try rfl
  rename_i q
  cases q
  ·rfl
  ·exact absurd rfl hv)
 obtain⟨w2,r2,m2,g2⟩:=Y16.put (T:=336) m1 Y8w underlying336 ZS (keyOf_bool_mk underlying4 false) (Y8q noL Z16)
 have m2:=m2 yesF2 rfl (fun v hv=>by
  cases v<;>try rfl
  rename_i q
  cases q
  ·exact absurd rfl hv
  ·rfl)
 have hl:=Y16.look m2 (T:=336) Y8w underlying336 (zeroStrY w2) hz (keyOf_bool_mk underlying4 b);have hy:(⟨#[89,101,115]⟩:ByteArray)=bs Y5j:=rfl;have hn:(⟨#[78,111]⟩:ByteArray)=bs noL:=rfl;have hv:yesF2 (.bool b)= .string (bs (yesT b)):=by cases b<;>rfl
 rw[hv]at hl
 have hB:Below w.heap.size w w2:=by
  have h0:=(Yea w.heap.size w).alloc (Ye9 _) (.map #[] 0);refine⟨g2.os.trans (g1.os.trans h0.os),g2.tape.trans (g1.tape.trans h0.tape),g2.output.trans (g1.output.trans h0.output),Yeu h0.size (Yeu g1.size g2.size),fun k hk=> ?_⟩;have hk1:k< (w.alloc (.map #[] 0)).heap.size:=Yee hk h0.size;have hne:some k≠some w.heap.size:=by intro e;cases e;exact Z7
  exact(g2.block k (Yee hk1 g1.size) hne).trans ((g1.block k hk1 hne).trans (h0.block k hk))
 have hmm:=@run_makeMap prog;clear m1 m2 g1 g2 hz hv;go_enter func148,ntmps148;go_wp2;go_ret;exact⟨rfl,hB⟩
end
end Go.Proofs.YtfadikchijkcfaaGreatDoor
