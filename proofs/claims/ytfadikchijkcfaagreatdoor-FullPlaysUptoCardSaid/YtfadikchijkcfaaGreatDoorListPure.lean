/- Texts cut at a byte: plain laws. -/
import Derived.Test.YtfadikchijkcfaaGreatDoorParsePure
import Derived.Lib.Bytealg
set_option linter.unusedVariables false
set_option linter.unusedSectionVars false
set_option linter.unusedSimpArgs false
set_option maxRecDepth 100000
namespace Go.Proofs.YtfadikchijkcfaaGreatDoor
section
open Go
def Yg(c:UInt8):List UInt8→List (List UInt8)
 | []=> [[]]
 | b :: l=>if b=c then [] :: Yg c l else match Yg c l with | []=> [[b]] | p :: ps=>(b :: p) :: ps
theorem Y4R(c:UInt8)(l:List UInt8):Yg c l≠ []:=by
 cases l with
 | nil=>simp[Yg]
 | cons b l =>
  rw[Yg]
  split
  ·simp
  ·split<;>simp
theorem Y31(c:UInt8)(l:List UInt8)(h:c ∉ l):Yg c l= [l]:=by
 induction l with
 | nil=>rfl
 | cons b l ih =>
  have hb: ¬b=c:=fun e=>h (by simp[e])
  have hl:c ∉ l:=fun e=>h (by simp[e])
  rw[Yg,Yed hb,ih hl]
theorem Y9T(c:UInt8)(p l:List UInt8)(h:c ∉ p):Yg c (p ++ c :: l)=p :: Yg c l:=by
 induction p with
 | nil=>simp[Yg]
 | cons b p ih =>
  have hb: ¬b=c:=fun e=>h (by simp[e])
  have hl:c ∉ p:=fun e=>h (by simp[e])
  rw[Yg0,Yg,Yed hb,ih hl]
theorem Y2H(l:List UInt8)(c:UInt8):(Lib.indexByte l c= -1∧c ∉ l)∨ ∃ (i:Nat),Lib.indexByte l c=(i:Int)∧i<l.length∧l=l.take i ++ c :: l.drop (i+1)∧c ∉ l.take i:=by
 induction l with
 | nil=>left;exact⟨rfl,by simp⟩
 | cons b l ih =>
  rw[Lib.indexByte];by_cases hb:b=c
  ·right;subst hb;exact⟨0,by simp,by simp,by simp,by simp⟩
  ·have hb':(b == c)=false:=by simpa using hb
   rcases ih with ⟨h1,h2⟩ | ⟨i,h1,h2,h3,h4⟩
   ·left;rw[hb',h1];refine⟨by simp,?_⟩;simp only[Yf0,not_or];exact⟨fun e=>hb e.symm,h2⟩
   ·right;rw[hb',h1];have hne:((i:Int) == -1)=false:=Z1r;refine⟨i+1,by rw[hne];simp,by simp;omega,?_,?_⟩
    ·simp only[YfV,List.drop_succ_cons,Yg0];rw[←h3]
    ·simp only[YfV,Yf0,not_or];exact⟨fun e=>hb e.symm,h4⟩
theorem Y3w(c:UInt8)(l:List UInt8)(i:Nat)(h3:l=l.take i ++ c :: l.drop (i+1))(h4:c ∉ l.take i):Yg c l=l.take i :: Yg c (l.drop (i+1)):=by
 have:=Y9T c (l.take i) (l.drop (i+1)) h4
 rwa [←h3]at this
theorem YdS(c:UInt8)(l:List UInt8)(i:Nat)(h3:l=l.take i ++ c :: l.drop (i+1))(h4:c ∉ l.take i):l.count c=(l.drop (i+1)).count c+1:=by
 have h:l.count c=(l.take i ++ c :: l.drop (i+1)).count c:=Yeg _ h3;rw[h,List.count_append,List.count_eq_zero_of_not_mem h4,List.count_cons_self];exact Z7
theorem Y1K(c:UInt8)(l:List UInt8):(Yg c l).length=l.count c+1:=by
 induction l with
 | nil=>rfl
 | cons b l ih =>
  rw[Yg];by_cases hb:b=c
  ·subst hb;rw[Yei rfl,YeH,ih,List.count_cons_self]
  ·rw[Yed hb,List.count_cons_of_ne hb,←ih];have:=Y4R c l
   split
   ·rename_i h
    exact absurd h this
   ·rename_i h
    rw[h];simp
def Y1T(c:UInt8):List UInt8→List UInt8×List UInt8×Bool
 | []=>([],[],false)
 | b :: l=>if b=c then([],l,true)else(b :: (Y1T c l).1,(Y1T c l).2)
theorem Y5e(c:UInt8)(l:List UInt8)(h:c ∉ l):Y1T c l=(l,[],false):=by
 induction l with
 | nil=>rfl
 | cons b l ih =>
  have hb: ¬b=c:=fun e=>h (by simp[e])
  rw[Y1T,Yed hb,ih (fun e=>h (by simp[e]))]
theorem YdR(c:UInt8)(p l:List UInt8)(h:c ∉ p):Y1T c (p ++ c :: l)=(p,l,true):=by
 induction p with
 | nil=>simp[Y1T]
 | cons b p ih =>
  have hb: ¬b=c:=fun e=>h (by simp[e])
  rw[Yg0,Y1T,Yed hb,ih (fun e=>h (by simp[e]))]
theorem Y67(c:UInt8)(l:List UInt8)(i:Nat)(h3:l=l.take i ++ c :: l.drop (i+1))(h4:c ∉ l.take i):Y1T c l=(l.take i,l.drop (i+1),true):=by
 have:=YdR c (l.take i) (l.drop (i+1)) h4
 rwa [←h3]at this
theorem Ycm(c:UInt8)(l:List UInt8):Yg c l=if(Y1T c l).2.2 then(Y1T c l).1 :: Yg c (Y1T c l).2.1 else [l]:=by
 rcases Y2H l c with ⟨_,h⟩ | ⟨i,_,_,h3,h4⟩
 ·rw[Y5e c l h,Y31 c l h];rfl
 ·rw[Y67 c l i h3 h4,Y3w c l i h3 h4];rfl
theorem Z35{P:Prop}(h:P:=by
 intro h
 cases h):P:=h
theorem Y6S(c:UInt8)(l:List UInt8):(Y1T c l).2.2=true→(Y1T c l).1.length+(Y1T c l).2.1.length+1=l.length:=by
 rcases Y2H l c with ⟨_,h⟩ | ⟨i,_,hi,h3,h4⟩
 ·rw[Y5e c l h];exact Z35
 ·rw[Y67 c l i h3 h4];intro _;exact Zd
def Y4B(l:List (List UInt8)):Array Value:=(l.map fun x=>Value.string ⟨x.toArray⟩).toArray
theorem Y7Q(l:List (List UInt8))(i:Nat)(h:i<l.length):(Y4B l)[i]?=some (.string ⟨l[i].toArray⟩):=by simp[Y4B,h]
theorem YaQ(ds:List (List UInt8))(m:Nat)(x:List UInt8):(Y4B (ds ++ List.replicate (m+1) [])).setIfInBounds ds.length (.string ⟨x.toArray⟩)=Y4B ((ds ++ [x]) ++ List.replicate m []):=by
 simp[Y4B,List.replicate_succ]
end
section
open Go Go.RowKit
def Y51(base:Nat)(l:List UInt8):Option Nat:=if(puS base 1099511627775 l).2=0 then some (puS base 1099511627775 l).1 else none
def Y9a(base:Nat):List UInt8→Nat→Option Nat
 | [],n=>some n
 | c :: l,n=>if 1099511627776≤n * base+Y1E c then none else Y9a base l (n * base+Y1E c)
theorem numG_puG(base:Nat)(l:List UInt8)(n:Nat)(h:(l.all fun c=>decide (Y1E c<base))=true):
 Y9a base l n=if(puG base 1099511627775 l n).2=0 then some (puG base 1099511627775 l n).1 else none:=by
 induction l generalizing n with
 | nil=>rfl
 | cons c l ih =>
  rw[List.all_cons,Yf9]at h;have h1: ¬base≤Y1E c:=by have:=YeE h.1;exact Z7
  rw[Y9a,puG,Yed h1];by_cases h2:1099511627776≤n * base+Y1E c
  ·rw[Yei h2,Yei (show 1099511627775<n * base+Y1E c from Z7)];rfl
  ·rw[Yed h2,Yed (show ¬1099511627775<n * base+Y1E c from Z7)];exact ih _ h.2
theorem Y6A(base:Nat)(l:List UInt8)(h:(l.all fun c=>decide (Y1E c<base))=true)(hne:l≠ []):Y51 base l=Y9a base l 0:=by
 rw[numG_puG base l 0 h];unfold Y51 puS;rw[Yed hne]
theorem puG_not(base M:Nat)(l:List UInt8)(n:Nat)(h:(l.all fun c=>decide (Y1E c<base))=false):(puG base M l n).2≠0:=by
 induction l generalizing n with
 | nil=>cases h
 | cons c l ih =>
  rw[puG];by_cases h1:base≤Y1E c
  ·rw[Yei h1];simp
  ·rw[Yed h1]
   split
   ·simp
   ·refine ih _ ?_;rw[List.all_cons,Yel Z7,Bool.true_and]at h;exact h
theorem Y89(base:Nat)(l:List UInt8)(h:(l.all fun c=>decide (Y1E c<base))=false):Y51 base l=none:=by
 unfold Y51 puS;by_cases hl:l= []
 ·rw[Yei hl];rfl
 ·rw[Yed hl,Yed (puG_not base _ l 0 h)]
def Y7p(l:List UInt8):Option Nat:=
 if l.take 2= [48,120]then Y51 16 (l.drop 2)else if l≠ [48]∧l[0]?=some 48 then none else Y51 10 l
theorem Yd2(base max:Nat)(l:List UInt8):(puS base max l).1≤max:=by
 unfold puS
 split
 ·exact Ygu _
 ·exact puG_le _ _ _ _ (Ygu _)
theorem Ydl(base:Nat)(l:List UInt8)(x:Nat)(h:Y51 base l=some x):x≤1099511627775:=by
 unfold Y51 at h;by_cases hz:(puS base 1099511627775 l).2=0
 ·rw[Yei hz]at h;rw[←Yey h];exact Yd2 _ _ _
 ·rw[Yed hz]at h
  cases h
theorem Y88(l:List UInt8)(x:Nat)(h:Y7p l=some x):x≤1099511627775:=by
 unfold Y7p at h
 split at h
 ·exact Ydl _ _ _ h
 ·split at h
  ·cases h
  ·exact Ydl _ _ _ h
def Ycl:List UInt8:= [48,49,50,51,52,53,54,55,56,57]
def YbW:List UInt8:=Ycl ++ [97,98,99,100,101,102]
def Y5x:List UInt8:=YbW ++ [65,66,67,68,69,70]
def lowA(c:UInt8):UInt8:=if 65≤c.toNat∧c.toNat≤90 then UInt8.ofNat (c.toNat+32)else c
theorem Y8R(p:UInt8→Prop)(h: ∀n:Fin 256,p (UInt8.ofNat n.val))(c:UInt8):p c:=by
 have:=h ⟨c.toNat,c.toNat_lt⟩;exact Z2Y
theorem YdO(c:UInt8):decide (Lib.indexByte Ycl c<0)= !decide (Y1E c<10):=Y8R (fun c=>decide (Lib.indexByte Ycl c<0)= !decide (Y1E c<10)) (by decide +kernel) c
theorem YdA(c:UInt8):decide (Lib.indexByte Y5x c<0)= !decide (Y1E c<16):=Y8R (fun c=>decide (Lib.indexByte Y5x c<0)= !decide (Y1E c<16)) (by decide +kernel) c
theorem Y53(c:UInt8):Y1E c<16→Lib.indexByte YbW (lowA c)=(Y1E c:Nat)∧c.toNat<128:=Y8R (fun c=>Y1E c<16→Lib.indexByte YbW (lowA c)=(Y1E c:Nat)∧c.toNat<128) (by decide +kernel) c
theorem YaB(c:UInt8):Y1E c<16→ ¬c=95∧ ¬c=43∧ ¬c=45:=Y8R (fun c=>Y1E c<16→ ¬c=95∧ ¬c=43∧ ¬c=45) (by decide +kernel) c
def Y1D(l:List UInt8)(low high:Int):Int×Nat:=
 match Y7p l with
 | none=>(0,3)
 | some n=>if(n:Int) < low∨high< (n:Int)then(0,2)else(n,0)
end
section
open Go
def okW:List (List UInt8)→List (List UInt8)→Bool
 | _,[]=>true
 | seen,x :: l=> !(x == []) && !(seen.contains x) && okW (x :: seen) l
def Y4G(s:List UInt8):List (List UInt8)×Nat:=if okW [] (Yg 44 s)=true then(Yg 44 s,0)else([],3)
theorem okW_step(seen l:List (List UInt8))(k:Nat)(x:List UInt8)(h:l[k]?=some x):okW seen (l.drop k)=(!(x == []) && !(seen.contains x) && okW (x :: seen) (l.drop (k+1))):=by
 refine Z43 ?_;intro h1 h2;rw[Yev h1,h2,okW]
theorem Ydi(seen l:List (List UInt8))(k:Nat)(h:l.length≤k):okW seen (l.drop k)=true:=by
 rw[Yff h,okW]
theorem okW_at(l:List (List UInt8))(k:Nat)(hk:k≤l.length)(seen:List (List UInt8))(x:List UInt8)(hx:l[k]?=some x)(hs: ∀y,seen.contains y=(l.take k).contains y):
 okW seen (l.drop k)=(!(x == []) && !((l.take k).contains x) && okW (x :: seen) (l.drop (k+1))):=by
 rw[okW_step seen l k x hx,hs x]
theorem Y8W(l:List (List UInt8))(k:Nat)(seen:List (List UInt8))(x:List UInt8)(hx:l[k]?=some x)(hs: ∀y,seen.contains y=(l.take k).contains y): ∀y,(x :: seen).contains y=(l.take (k+1)).contains y:=by
 intro y;obtain⟨h1,h2⟩:=Yek.1 hx;rw[Yeq h1,h2];rw[YeM,hs y];simp only[List.contains_eq_mem,YfN,Yfs];rw[Yg3];simp;constructor
 ·rintro(h | h)
  ·exact .inr h
  ·exact .inl h
 ·rintro(h | h)
  ·exact .inr h
  ·exact .inl h
end
end Go.Proofs.YtfadikchijkcfaaGreatDoor
