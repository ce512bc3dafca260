/- strings.IndexByte, and a cut at a byte. -/
import Derived.Test.YtfadikchijkcfaaGreatDoorProg
import Derived.Test.YtfadikchijkcfaaGreatDoorParsePure
import Derived.Lib.Bytealg
import Derived.Stop.Asserts
import Derived.RowKitTokens
import Derived.Deep.SlicePairs
import Derived.OpenShut
set_option linter.unusedVariables false
set_option linter.unusedSectionVars false
set_option linter.unusedSimpArgs false
set_option maxRecDepth 100000
namespace Go.Proofs.YtfadikchijkcfaaGreatDoor
section
open Go.Proofs.Tryz
open Go.RowKit
theorem Y1y(l:List UInt8)(c:UInt8)(w:World)(hl:l.length≤9223372036854775807):
 Calls prog 133 #[.string (bs l),.int .u8 (c.toNat:Nat)] w fun e w'=>e= .returned (.int .i64 (Lib.indexByte l c))∧w'=w:=by
 have hrun: ∀w,(callFunc 215 #[.string (bs l),.int .u8 (c.toNat:Nat)]).run prog w= .ok (.value (.int .i64 (Lib.indexByte l c))) w:=by
  intro w;rw[run_callFunc_extern (e:=Extern.BytealgIndexByte.indexByte) func215 (by kernel_rfl) (by kernel_rfl) (by kernel_rfl) (by kernel_rfl),Lib.run_indexByteString];simp[Result.andThen,bs]
 generalize Lib.indexByte l c=n at *;go_enter func133,ntmps133;go_wp2;go_ret;exact⟨rfl,rfl⟩
end
section
open Go.RowKit
def Y4w{α:Type}(F G:α→Value)(xs:List α):List Value:=xs.flatMap fun x=> [F x,G x]
theorem Y5f{α:Type}(F G:α→Value)(xs:List α):(Y4w F G xs).length=xs.length * 2:=by
 induction xs with
 | nil=>rfl
 | cons x xs ih=>simp only[Y4w,YfK,Yem,YeH,YeV]at ih ⊢;omega
theorem Y6T{α:Type}(F G:α→Value)(d:α)(xs:List α)(k:Nat)(h:k<xs.length):(Y4w F G xs)[2 * k]?=some (F (xs.getD k d))∧(Y4w F G xs)[2 * k+1]?=some (G (xs.getD k d)):=by
 induction xs generalizing k with
 | nil=>simp at h
 | cons x xs ih =>
  cases k with
  | zero=>simp[Y4w]
  | succ k =>
   have:=ih k Z3o;have e:Y4w F G (x :: xs)=F x :: G x :: Y4w F G xs:=rfl;rw[e];simp only[show 2 * (k+1)=2 * k+1+1 by omega,YfW,List.getD_cons_succ];exact this
theorem sl2_open{α:Type}{F G:α→Value}(d:α){w:World}{v:Value}{l:List α}(h:Sl w v 2 l.length (Y4w F G l)):(l= []∧ ∃a c,v= .slice a 0 c)∨
 (0<l.length∧ ∃b o c,v= .slice (some ⟨b,o,none⟩) l.length c∧b<w.heap.size∧ ∀k,k<l.length→w.cell? ⟨b,o+k * 2,none⟩=some (F (l.getD k d))∧w.cell? ⟨b,o+k * 2+1,none⟩=some (G (l.getD k d))):=by
 obtain⟨a,c,rfl,hl,hc⟩:=h;by_cases h0:l.length=0
 ·exact .inl ⟨YeK h0,a,c,by rw[h0]⟩
 ·obtain⟨b,o,rfl,hd⟩:=hc.resolve_left h0
  have hcell: ∀k,k<l.length→w.cell? ⟨b,o+k * 2,none⟩=some (F (l.getD k d))∧w.cell? ⟨b,o+k * 2+1,none⟩=some (G (l.getD k d)):=by
   intro k hk;obtain⟨e1,e2⟩:=Y6T F G d l k hk;exact Z53
  exact .inr ⟨by omega,b,o,c,rfl,Yeb (hcell 0 Z7).1,hcell⟩
theorem Y5G{α:Type}{F G:α→Value}{W:World}{a:Addr}{len cap:Nat}(X:Nat→α)(h: ∀k,k<len→W.cell? (a.add (k * 2))=some (F (X k))∧W.cell? (a.add (k * 2+1))=some (G (X k))):
 Sl W (.slice (some a) len cap) 2 ((List.range len).map X).length (Y4w F G ((List.range len).map X)):=by
 refine⟨some a,cap,by simp,by rw[Y5f],?_⟩;by_cases h0:len=0
 ·left;simp[h0]
 ·right;obtain⟨ab,ao,asp⟩:=a;have hsp:asp=none:=by simpa[Addr.add]using Ygr (h 0 Z7).1
  subst hsp;refine⟨ab,ao,rfl,fun j u hu=> ?_⟩
  have hj:j<len * 2:=by
   have:=(Yek.1 hu).1;rw[Y5f]at this;exact Z2Y
  have key: ∀k,k<len→((List.range len).map X).getD k (X 0)=X k:=by
   intro k hk;rw[List.getD,YeR,Ygj hk];rfl
  rcases Nat.mod_two_eq_zero_or_one j with hm2 | hm2
  ·obtain⟨k,rfl⟩: ∃k,j=2 * k:=⟨j / 2,by omega⟩;have:=(Y6T F G (X 0) ((List.range len).map X) k Zd).1;rw[key k Z7]at this;rw[this]at hu
   cases hu
   have g:=(h k Z7).1;rw[show(⟨ab,ao,none⟩:Addr).add (k * 2)=⟨ab,ao+2 * k,none⟩ by unfold Addr.add;split<;>simp<;>omega]at g;exact g
  ·obtain⟨k,rfl⟩: ∃k,j=2 * k+1:=⟨j / 2,by omega⟩;have:=(Y6T F G (X 0) ((List.range len).map X) k Zd).2;rw[key k Z7]at this;rw[this]at hu
   cases hu
   have g:=(h k Z7).2;rw[show(⟨ab,ao,none⟩:Addr).add (k * 2+1)=⟨ab,ao+(2 * k+1),none⟩ by unfold Addr.add;rw[Yed Z7];simp;omega]at g;exact g
end
end Go.Proofs.YtfadikchijkcfaaGreatDoor
