/- append of a row onto a row, whatever its length. -/
import Derived.Test.YtfadikchijkcfaaGreatDoorParsePure
import Derived.Test.YtfadikchijkcfaaGreatDoorThick
import Derived.Deep.Upon
set_option linter.unusedVariables false
set_option linter.unusedSectionVars false
set_option linter.unusedSimpArgs false
namespace Go.Proofs.YtfadikchijkcfaaGreatDoor
open Go Go.RowKit Go.Deep
theorem Y5N{w:World}{base:Nat}{e:TypeId}{size n:Nat}{v:Value}{xs:List Value}(h:w.ownsRow base e size v n xs): ∃A cap,v= .slice A n cap∧n≤cap:=by
 rcases h.2 with ⟨rfl,rfl⟩ | ⟨g,cap,cur,rfl,_,_,hn,_⟩
 ·exact⟨_,_,rfl,Ye9 _⟩
 ·exact⟨_,_,rfl,hn⟩
theorem Y2m{P:Program}{ops:Array Oper}{rest:List Oper}{o:Oper}{a:Act}{w:World}{Q:Exit→Act→World→Prop}
 (hgd:o.guard=none) (s x:Operand) (t:TypeId) (ho:o.op= .call {callee:= .builtin .append,args:= #[s,x],argTypes:= #[t,t]})
 (base:Nat) (e:TypeId) (z:Value) (size bytes:Nat) (ht:P.underlying t=some (.slice e)) (hi:(P.info? e).map (fun i=>(i.zero,i.size,i.bytes))=some (some z,size,bytes))
 (hzs:z.cells.size=size) (hsz:0<size)
 (v:Value) (n:Nat) (xs:List Value) (hs:a.eval s=v) (hown:w.ownsRow base e size v n xs)
 (base2:Nat) (v2:Value) (m:Nat) (news:List Value) (hx:a.eval x=v2) (hown2:w.ownsRow base2 e size v2 m news) (h1: ∀u∈news,u.oneCell'=true)
 (h63:n+m≤maxLen) (hbytes:(n+m) * bytes≤140737488355328) (hbase:base≤w.heap.size)
 (h: ∀v' w',w'.ownsRow base e size v' (n+m) (xs ++ news)→w.grownBy w' v.ownBlock→(v'.ownBlock=v.ownBlock∨v'.ownBlock=some w.heap.size)→wpList P ops Q rest (a.put o.dst v') w'):wpList P ops Q (o :: rest) a w:=by
 rcases hown2.2 with ⟨rfl,rfl⟩ | ⟨g,cap,cur,rfl,hbg,hg,hnc,hcm,hcs,htake⟩
 ·have hn:news= []:=by
   have:=hown2.1
   simpa using this
  subst hn
  obtain⟨A,c,rfl,hle⟩:=Y5N hown
  obtain⟨i,hi1,hi2,hi3,hi4⟩:=Ygn hi
  refine wpList_plain hgd fun K hK=> ?_
  have hsrc:Src P i.size t (.slice none 0 0) 0 [] w:=⟨.inl ⟨e,ht⟩,fun w'=>by simp[Builtin.lenOf],by simp[Builtin.firstCells],by simp[Builtin.firstCells],by simp,by simp⟩
  have hr:=run_append_nothing (P:=P) w t t o.type e i ht hi1 A n c hle (.slice none 0 0) hsrc
  unfold Oper.wp execOp
  simp only[ho,resolve,invoke,builtin,Sem.run_bind,Sem.run_pure,Result.andThen_ok,List.map_toArray,YeY,YfH,hs,hx,hr]
  exact hK _ _ (h _ w (by simpa using hown) (Y1p _ _) (.inl rfl))
 ·refine YY hgd s x t ho base e z size bytes ht hi hzs hsz v n xs hs hown ⟨g,0,none⟩ m cap news hx hown2.1 (fun j u hu=> ?_) h1 h63 hbytes hbase h
  rw[show(⟨g,0,none⟩:Addr).add j=⟨g,j,none⟩ by(simp[Addr.add];omega),YeJ w g j cur e (0,0) hg]
  rw[←htake,Yfg]at hu
  split at hu
  ·simpa using hu
  ·cases hu
end Go.Proofs.YtfadikchijkcfaaGreatDoor
