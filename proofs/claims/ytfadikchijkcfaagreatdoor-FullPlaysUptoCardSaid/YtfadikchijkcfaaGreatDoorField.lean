/- A map that the call makes, as a function: stores and look-ups. -/
import Derived.Test.YtfadikchijkcfaaGreatDoorParsePure
import Derived.Maps.OwnSet
import Derived.Maps.Views
import Derived.OrdersIn
import Derived.RowKit
import Derived.Fence
import Derived.TacticsIn
import Derived.Test.YtfadikchijkcfaaGreatDoorProg
set_option linter.unusedVariables false
set_option linter.unusedSectionVars false
set_option linter.unusedSimpArgs false
set_option maxRecDepth 100000
namespace Go.Proofs.YtfadikchijkcfaaGreatDoor
section
open Go Go.RowKit Go.Maps
theorem Z3O{P:Prop}(h:P:=by
 have:=WideMaps.keyOf_string_mk (P:=prog) underlying9 (s:=bs s) (by unfold maxLen;simpa[bs,ByteArray.size]using h)
 rw[this]
 simp[bs]):P:=h
section
variable {P:Program}{T K E:TypeId}
theorem Y4u{v:Value}{d:DataW Unit}{p:List MemPlace}(h:plainElem P E v=some (d,p)):
 (∃x,v= .bool x∧d= .lit (.bool x))∨(∃q a,v= .int q a∧d= .lit (.int q a))∨(∃s:ByteArray,v= .string s∧d= .lit (.string s.data.toList)):=by
 unfold plainElem at h
 split at h
 ·simp only[YeO,Prod.mk.injEq]at h;exact .inl ⟨_,rfl,h.1.symm⟩
 ·split at h
  ·rename_i hq
   simp only[YeO,Prod.mk.injEq]at h;exact .inr (.inl ⟨_,_,rfl,by rw[hq.1];exact h.1.symm⟩)
  ·cases h
 ·split at h
  ·simp only[YeO,Prod.mk.injEq]at h;exact .inr (.inr ⟨_,rfl,h.1.symm⟩)
  ·cases h
 ·cases h
theorem Y82{v v':Value}{d:DataW Unit}{p p':List MemPlace}(h:plainElem P E v=some (d,p))(h':plainElem P E v'=some (d,p')):v=v':=by
 rcases Y4u h with ⟨x,rfl,rfl⟩ | ⟨q,a,rfl,rfl⟩ | ⟨s,rfl,rfl⟩ <;>rcases Y4u h' with ⟨x',rfl,e⟩ | ⟨q',a',rfl,e⟩ | ⟨s',rfl,e⟩ <;>simp at e
 ·rw[e]
 ·rw[e.1,e.2]
 ·have:s=s':=by
   cases s
   cases s'
   simpa using e
  rw[this]
def Y16(w:World)(P:Program)(K E:TypeId)(z:DataW Unit)(b n:Nat)(f:Value→Value):Prop:=
 ∃D:DataW Unit,IsMap D∧w.ownsMap P K (plainElem P E) b n D∧ ∀v kl,keyOf P K v=some kl→ ∃p,plainElem P E (f v)=some (D.atKey kl z,p)
theorem Y16.made(w:World)(z0:Value)(z:DataW Unit)(hz: ∃p,plainElem P E z0=some (z,p)):Y16 (w.alloc (.map #[] 0)) P K E z w.heap.size 0 (fun _=>z0):=
 ⟨.map [],isMap_empty,World.ownsMap_made _ _ _ _,fun v kl h=>hz⟩
theorem Y16.lt{w:World}{z:DataW Unit}{b n:Nat}{f:Value→Value}(h:Y16 w P K E z b n f):b<w.heap.size:=by
 obtain⟨D,h1,h2,h3⟩:=h;exact h2.lt
theorem Y16.same{w w':World}{z:DataW Unit}{b n:Nat}{f:Value→Value}(h:Y16 w P K E z b n f)(hb:w'.heap[b]?=w.heap[b]?):Y16 w' P K E z b n f:=by
 obtain⟨D,h1,⟨es,clock,e1,e2⟩,h3⟩:=h;exact⟨D,h1,⟨es,clock,hb.trans e1,e2⟩,h3⟩
theorem Y16.below{w w':World}{z:DataW Unit}{b n:Nat}{f:Value→Value}(h:Y16 w P K E z b n f)(hb:Below w.heap.size w w'):Y16 w' P K E z b n f:=
 h.same (hb.block b h.lt)
theorem Y16.fn{w:World}{z:DataW Unit}{b n:Nat}{f g:Value→Value}(h:Y16 w P K E z b n f)(hfg: ∀v kl,keyOf P K v=some kl→f v=g v):Y16 w P K E z b n g:=by
 obtain⟨D,h1,h2,h3⟩:=h;exact⟨D,h1,h2,fun v kl hk=>by rw[←hfg v kl hk];exact h3 v kl hk⟩
theorem Y16.look{w:World}{z:DataW Unit}{b n:Nat}{f:Value→Value}(h:Y16 w P K E z b n f)(L:Keyed P K)(ht:P.underlying T=some (.map K E)){z0:Value}(hz:(zeroValue E).run P w= .ok z0 w)(hz0: ∃p,plainElem P E z0=some (z,p))
 {key:Value} {kl:Lit} (hkey:keyOf P K key=some kl):(Instr.lookup T (.map (some b)) key false).run P w= .ok (f key) w:=by
 obtain⟨D,h1,h2,h3⟩:=h;obtain⟨zp,hz0⟩:=hz0;obtain⟨v,ps,hrun,hv⟩:=h2.lookup L ht hz hz0 hkey;obtain⟨p,hp⟩:=h3 key kl hkey;rw[hrun,Y82 hv hp]
theorem Y16.put{w:World}{z:DataW Unit}{b n:Nat}{f:Value→Value}(h:Y16 w P K E z b n f)(L:Keyed P K)(ht:P.underlying T=some (.map K E))(hn:n<maxLen)
 {key val:Value} {kl:Lit} (hkey:keyOf P K key=some kl) (hv: ∃d p,plainElem (H:=Unit) P E val=some (d,p)):
 ∃w',(Instr.mapUpdate T (.map (some b)) key val).run P w= .ok () w'∧(∀g:Value→Value,g key=val→(∀v,v≠key→g v=f v)→Y16 w' P K E z b (n+1) g)∧w.grownBy w' (some b):=by
 obtain⟨D,h1,h2,h3⟩:=h
 obtain⟨d,ps,hv⟩:=hv
 obtain⟨w',hrun,hown,hg⟩:=h2.update L ht hn hkey hv
 refine⟨w',hrun,fun g e1 e2=>⟨_,h1.put kl d,hown,fun v kl' hk=> ?_⟩,hg⟩
 by_cases he:v=key
 ·subst he
  rw[hkey]at hk
  cases hk
  rw[e1,atKey_put_same h1 (L.key hkey)]
  exact⟨ps,hv⟩
 ·rw[e2 v he,atKey_put_other (fun e=>he (L.inj hk (by rw[e];exact hkey)))]
  exact h3 v kl' hk
end
end
section
open Go Go.RowKit
def Y6v(ops:Array Oper)(s:Nat):Bool:=
 (List.range ops.size).all fun i=>match ops[i]? with
  | none=>false
  | some o =>
   o.guard.isNone &&
   (match o.op with | .defer _=>false | .select _ _=>false | _=>true) &&
   o.after.all (fun e=> !Region.binds .any e || decide (e.on<i)) &&
   (i == s || o.dst.isSome) &&
   (o.op.operands.toList.all fun | .tmp t=>(List.range ops.size).all (fun j=>match ops[j]? with | some oj=>oj.dst !=some t || o.after.any (fun e=>Region.binds .any e && e.on == j) | none=>true) | _=>true) &&
   ((List.range ops.size).all fun j=>j == i || match ops[j]? with | some oj=>oj.dst !=o.dst || o.dst.isNone | none=>true) &&
   (i !=s || (List.range ops.size).all fun j=>j == i || o.after.any (fun e=>Region.binds .any e && e.on == j))
structure PlanOf(ops:Array Oper)(s i:Nat)(o:Oper):Prop where
 guard:o.guard=none
 nodefer: ∀c,o.op≠ .defer c
 nosel: ∀cs b,o.op≠ .select cs b
 back: ∀e∈o.after,Region.binds .any e=true→e.on<i
 dst:i≠s→ ∃d,o.dst=some d
 reads: ∀t,Operand.tmp t∈o.op.operands→ ∀j oj,ops[j]?=some oj→oj.dst=some t→ ∃e∈o.after,Region.binds .any e=true∧e.on=j
 once: ∀j oj,ops[j]?=some oj→j≠i→ ∀d,o.dst=some d→oj.dst≠some d
 last:i=s→ ∀j oj,ops[j]?=some oj→j≠i→ ∃e∈o.after,Region.binds .any e=true∧e.on=j
theorem ZN{P:Prop}(h:P:=by
 intro t ht j oj hj hd
 have h:=Yew.1 h5 (.tmp t) (by simpa using ht)
 have h:=Yew.1 h j (Yf6.2 (Yeo.1 hj).1)
 simp only[hj,hd,bne_self_eq_false,Yg6]at h
 exact Z1y):P:=h
theorem Z1y{P:Prop}(h:P:=by
 obtain⟨k,hk,h⟩:=Array.any_eq_true.1 h
 simp only[Yf9,Yfb]at h
 exact⟨o.after[k],Array.getElem_mem hk,h.1,h.2⟩):P:=h
theorem Z2g{P Q:Prop}(k:Q)(h:Q→P:=by
 have hlt:i<ops.size:=(Yeo.1 hi).1
 have h:=Yew.1 h i (Yf6.2 hlt)
 simp only[hi,Yf9,Yg5,Ygt,Yfb]at h
 refine fun z_=>?_
 revert h;revert hlt
 exact z_):P:=h k
theorem Z2r{P:Prop}(h:P:=by
 intro e he hb
 have:=Array.all_eq_true_iff_forall_mem.1 h3 e he
 simpa[hb]using this):P:=h
theorem Z2C{P:Prop}(h:P:=by
 intro hs j oj hj hne
 rcases h7 with h7 | h7
 ·exact absurd hs h7
 have h:=Yew.1 h7 j (Yf6.2 (Yeo.1 hj).1)
 simp only[Yg5,Yfb,hne,false_or]at h
 exact Z1y):P:=h
theorem Z3W{P:Prop}(h:P:=by
 intro j oj hj hne d hd hjd
 have h:=Yew.1 h6 j (Yf6.2 (Yeo.1 hj).1)
 simp[hj,hne,hd,hjd]at h):P:=h
theorem Y38{ops:Array Oper}{s:Nat}(h:Y6v ops s=true){i:Nat}{o:Oper}(hi:ops[i]?=some o):PlanOf ops s i o:=by
 refine Z2g ?_;intro hlt h;obtain⟨⟨⟨⟨⟨⟨h1,h2⟩,h3⟩,h4⟩,h5⟩,h6⟩,h7⟩:=h;refine⟨by simpa using h1,?_,?_,?_,?_,?_,?_,?_⟩
 ·intro c hc;simp[hc]at h2
 ·intro cs b hc;simp[hc]at h2
 ·exact Z2r
 ·intro hs;rcases h4 with h4 | h4
  ·exact absurd h4 hs
  ·exact Ygl.1 h4
 ·exact ZN
 ·exact Z3W
 ·exact Z2C
structure YaL(ops:Array Oper)(p:Nat)(aF:Act)(W0 W1:World)(listed:Array Bool)(a:Act)(w:World):Prop where
 size:listed.size=ops.size
 defers:a.defers=aF.defers
 tsize:a.tmps.size=aF.tmps.size
 tmps: ∀t:Nat,(∀ (j:Nat) oj,ops[j]?=some oj→oj.dst=some t→listed.getD j false=true)→a.tmps[t]?=aF.tmps[t]?
 world:w=if listed.getD p false=true then W1 else W0
theorem Y4r{ops:Array Oper}{s:Nat}(hp:Y6v ops s=true){listed:Array Bool}(hsz:listed.size=ops.size)(k:Nat)(hk:listed.getD k true=false):Region.ready .any ops listed≠ []:=by
 induction k using Nat.strongRecOn with
 | _ k ih =>
  have hlt:k<ops.size:=by
   rcases YeU k listed.size with h | h
   ·omega
   ·rw[Yef,YeA h]at hk
    cases hk
  by_cases hall: ∀e∈ (ops[k]).after,Region.binds .any e=true→listed.getD e.on false=true
  ·have:k∈Region.ready .any ops listed:=Yge.2 ⟨hk,ops[k],by simp[hlt],hall⟩;intro e;rw[e]at this
   cases this
  ·simp only[Ygd]at hall;obtain⟨e,he,hb,hn⟩:=hall;have hlt2:=(Y38 hp (show ops[k]?=some ops[k] by simp[hlt])).back e he hb;refine ih e.on hlt2 ?_;have:e.on<listed.size:=Z7;rw[Yef,Yep this]at hn ⊢;simpa using hn
theorem YM(l:Array Bool)(i j:Nat)(b:Bool):(l.setIfInBounds i true).getD j b=if i=j∧i<l.size then true else l.getD j b:=by
 rw[Yef,Yet,Yef];by_cases h:i=j
 ·subst h;by_cases h2:i<l.size
  ·simp[h2]
  ·simp[h2]
 ·simp[h]
theorem Y1q{N:Nat}{listed:Array Bool}{i:Nat}(hi:i<N)(hl:listed.getD i true=false):
 ((List.range N).filter fun j=> !(listed.setIfInBounds i true).getD j true).length< ((List.range N).filter fun j=> !listed.getD j true).length:=by
 have hsz:i<listed.size:=by
  rcases YeU i listed.size with h | h
  ·exact h
  ·rw[Yef,YeA h]at hl
   cases hl
 have e:(List.range N).filter (fun j=> !(listed.setIfInBounds i true).getD j true)=((List.range N).filter fun j=> !listed.getD j true).filter fun j=>j !=i:=by
  rw[List.filter_filter];refine List.filter_congr fun j _=> ?_
  rw[YM];by_cases h:i=j
  ·subst h;simp[hsz]
  ·have:j≠i:=fun e=>h e.symm
   simp[h,this]
 rw[e];exact List.length_filter_lt_length_iff_exists.2 ⟨i,YfR.2 ⟨Yf6.2 hi,by rw[hl];rfl⟩,by simp⟩
theorem Z3R{P:Prop}(h:P:=by
 simp[Region.wanted,hP.guard]):P:=h
theorem Yd6{F:Fence}{n:Nat}{P:Program}{ops:Array Oper}{Q:Exit→Act→World→Prop}{p s:Nat}{aF:Act}{W0 W1:World}(hp:Y6v ops s=true)(hps:p≠s)(hs:s<ops.size)(hpp:p<ops.size)(hsd: ∀o,ops[s]?=some o→o.dst=none)
 (hrun: ∀ (i:Nat) (o:Oper) (d:Tmp),ops[i]?=some o→i≠s→o.dst=some d→ ∀w,(∀f,o.about P w aF.eval=some f→F.fn f)∧(i≠p→(w=W0∨w=W1)→(execOp aF.eval o).run P w= .ok (.value (aF.eval (.tmp d))) w)∧(i=p→w=W0→(execOp aF.eval o).run P w= .ok (.value (aF.eval (.tmp d))) W1))
 (hlast: ∀o,ops[s]?=some o→o.wpIn F n P aF W1 (fun a w=>Q .normal a w) Q):
 ∀ (fuel:Nat) (listed:Array Bool) (a:Act) (w:World),YaL ops p aF W0 W1 listed a w→listed.getD s true=false→((List.range ops.size).filter fun i=> !listed.getD i true).length≤fuel→wpAnyIn F n P .any ops Q fuel listed a w:=by
 intro fuel
 induction fuel with
 | zero =>
  intro listed a w hI hsl hc;have:s∈ (List.range ops.size).filter fun i=> !listed.getD i true:=YfR.2 ⟨Yf6.2 hs,by rw[hsl];rfl⟩
  have h0:(List.range ops.size).filter (fun i=> !listed.getD i true)= []:=YeL.1 Z7;rw[h0]at this
  cases this
 | succ fuel ih =>
  intro listed a w hI hsl hc;refine⟨fun h0=>absurd h0 (Y4r hp hI.size s hsl),fun i hi=> ?_⟩;obtain⟨hil,o,ho,hafter⟩:=Yge.1 hi;have hP:=Y38 hp ho;have hlt:i<ops.size:=(Yeo.1 ho).1
  have hsame: ∀x∈o.op.operands,a.eval x=aF.eval x:=by
   intro x hx
   cases x with
   | tmp t =>
    have:=hI.tmps t fun j oj hj hd=>by
     obtain⟨e,he,hb,rfl⟩:=hP.reads t hx j oj hj hd;exact hafter e he hb
    simp only[Act.eval,Yef,this]
   | _=>rfl
  have hex:=Ygp o hP.nosel hsame;have hab:=about_congr (P:=P) o w hsame;have hwant:Region.wanted o (yielded ops a.tmps)=true:=Z3R;unfold wpOpIn;simp only[ho,hwant,Yfw];by_cases his:i=s
  ·subst his
   have hall: ∀j oj,ops[j]?=some oj→j≠i→listed.getD j false=true:=fun j oj hj hne=>by
    obtain⟨e,he,hb,rfl⟩:=hP.last rfl j oj hj hne;exact hafter e he hb
   have hw:w=W1:=by
    rw[hI.world,hall p ops[p] (by simp[hpp]) hps,Yei rfl]
   have haF:a=aF:=by
    have ht:a.tmps=aF.tmps:=by
     refine YfC fun t=>hI.tmps t fun j oj hj hd=>hall j oj hj ?_
     rintro rfl;rw[hsd oj hj]at hd
     cases hd
    cases a
    cases aF
    simp only at ht;have:=hI.defers;simp only at this;rw[ht,this]
   rw[haF,hw];refine Oper.wpIn_mono (fun a' w' h=> ?_) (hlast o ho);refine wpAnyIn_done ?_ h _;refine YeQ.2 fun j hj=> ?_
   have hj:=Yf6.1 hj
   have:(listed.setIfInBounds i true).getD j true=true:=by
    rw[YM];by_cases h:i=j
    ·subst h;simp[hI.size,hlt]
    ·have h1:=hall j ops[j] (by simp[hj]) (fun e=>h e.symm);rw[Yef,Yep (by rw[hI.size];exact hj)]at h1;rw[Yed (by simp[h]),Yef,Yep (by rw[hI.size];exact hj)];simpa using h1
   simp[this]
  ·obtain⟨d,hd⟩:=hP.dst his;have hr:=hrun i o d ho his hd w;have hsl':(listed.setIfInBounds i true).getD s true=false:=by rw[YM,Yed (by simp[his]),hsl]
   have hc':((List.range ops.size).filter fun j=> !(listed.setIfInBounds i true).getD j true).length≤fuel:=by
    have:=Y1q (N:=ops.size) hlt hil;omega
   have hsemat:(o.semAt F.round a.eval).run P w=(execOp aF.eval o).run P w:=by rw[Yg9 _ _ _ hP.nodefer,hex]
   unfold Oper.wpIn;rw[hab,hsemat];refine⟨hr.1,?_⟩
   have hput: ∀t:Nat,(∀ (j:Nat) oj,ops[j]?=some oj→oj.dst=some t→(listed.setIfInBounds i true).getD j false=true)→(a.put o.dst (aF.eval (.tmp d))).tmps[t]?=aF.tmps[t]?:=by
    intro t ht;rw[hd];show(a.tmps.setIfInBounds d _)[t]?=_
    rw[Yet];by_cases hdt:d=t
    ·subst hdt;by_cases hlt2:d<a.tmps.size
     ·have hlt3:d<aF.tmps.size:=by rw[←hI.tsize];exact hlt2
      rw[Yei rfl,Yei hlt2,Yep hlt3];simp[Act.eval,Array.getD,hlt3]
     ·have hlt3: ¬d<aF.tmps.size:=by rw[←hI.tsize];exact hlt2
      rw[Yei rfl,Yed hlt2,YeA (Nat.le_of_not_lt hlt3)]
    ·rw[Yed hdt];refine hI.tmps t fun j oj hj hjd=> ?_
     have h1:=ht j oj hj hjd;rw[YM,Yed]at h1
     ·exact h1
     ·rintro⟨rfl,_⟩;rw[ho]at hj
      cases hj
      rw[hd]at hjd
      cases hjd
      exact hdt rfl
   have hsize':(a.put o.dst (aF.eval (.tmp d))).tmps.size=aF.tmps.size:=by
    rw[hd];show(a.tmps.setIfInBounds d _).size=_
    rw[YeB,hI.tsize]
   have hdef':(a.put o.dst (aF.eval (.tmp d))).defers=aF.defers:=by rw[hd];exact hI.defers
   by_cases hip:i=p
   ·have hw:w=W0:=by
     rw[hI.world,Yed];rw[←hip];intro h;rw[Yef,Yep (by rw[hI.size];exact hlt)]at h hil;simp at h hil;rw[h]at hil
     cases hil
    rw[hr.2.2 hip hw];refine ih _ _ _ ⟨by rw[YeB];exact hI.size,hdef',hsize',hput,?_⟩ hsl' hc';have hmk:(listed.setIfInBounds i true).getD p false=true:=by rw[YM,Yei ⟨hip,by rw[hI.size];exact hlt⟩]
    rw[hmk];rfl
   ·have hw:w=W0∨w=W1:=by
     rw[hI.world]
     split
     ·exact .inr rfl
     ·exact .inl rfl
    rw[hr.2.1 hip hw];refine ih _ _ _ ⟨by rw[YeB];exact hI.size,hdef',hsize',hput,?_⟩ hsl' hc';have hmk:(listed.setIfInBounds i true).getD p false=listed.getD p false:=by rw[YM,Yed (fun h=>hip h.1)]
    rw[hmk];exact hI.world
def Y5D(ds:List Nat):Nat→List Value→List Value→Prop
 | _,[],[]=>True
 | t,x :: xs,y :: ys=>(if ds.contains t then True else x=y)∧Y5D ds (t+1) xs ys
 | _,_,_=>False
theorem Y5D.get{ds:List Nat}: ∀ {l m:List Value} {k:Nat},Y5D ds k l m→l.length=m.length∧ ∀t:Nat,k+t ∉ ds→l[t]?=m[t]?
 | [],[],k,_=>⟨rfl,fun t _=>rfl⟩
 | x :: xs,y :: ys,k,h=>by
  obtain⟨h1,h2⟩:=Y5D.get h.2
  refine⟨by simp[h1],fun t ht=> ?_⟩
  cases t with
  | zero =>
   have:=h.1
   rw[Yed (by simpa using ht)]at this
   simp[this]
  | succ t =>
   have:=h2 t (by rw[YeT,Nat.add_comm 1 t];exact ht)
   simpa using this
 | [],_ :: _,_,h=>h.elim
 | _ :: _,[],_,h=>h.elim
def Y20(ops:Array Oper):List Nat:=ops.toList.filterMap (·.dst)
def Y2K(G:Nat→Oper→Tmp→Prop):Nat→List Oper→Prop
 | _,[]=>True
 | i,o :: l=>(match o.dst with | some d=>G i o d | none=>True)∧Y2K G (i+1) l
theorem Y2h{G:Nat→Oper→Tmp→Prop}: ∀ {l:List Oper} {k:Nat},Y2K G k l→ ∀ (i:Nat) (o:Oper) (d:Tmp),l.toArray[i]?=some o→o.dst=some d→G (k+i) o d
 | [],_,_,i,o,d,hi,_=>by simp at hi
 | x :: l,k,h,i,o,d,hi,hd=>by
  cases i with
  | zero =>
   simp only[Yf1,YeZ,YeO]at hi
   subst hi
   have:=h.1
   rw[hd]at this
   exact this
  | succ i =>
   have:=Y2h h.2 i o d (by simpa using hi) hd
   rwa [YeT,Nat.add_comm 1 i]at this
theorem Zm{P:Prop}(h:P:=by
 obtain⟨oj,hoj,hd⟩:=Yg1.1 hw
 obtain⟨j,hj,rfl⟩:=YfF.1 hoj
 have:=ht j _ (by simp at hj ⊢) hd
 rw[Yef,Yfh]at this
 split at this<;>simp at this):P:=h
theorem Z1n{P:Prop}(h:P:=by
 ·exact Yeu (YfB _ _) Z2t):P:=h
theorem Ya9{F:Fence}{n:Nat}{P:Program}{id:Nat}{l:List Oper}{Q:Exit→Act→World→Prop}(p s:Nat)(aF:Act)(W1:World){a:Act}{w:World}(hm:P.follows .mixedOrders=true)
 (hp:Y6v l.toArray s=true) (hps:p≠s) (hpp:p<l.toArray.size) {o:Oper} (ho:l.toArray[s]?=some o) (hod:o.dst=none)
 (hd:a.defers=aF.defers) (ha:Y5D (Y20 l.toArray) 0 a.tmps.toList aF.tmps.toList)
 (hrun:Y2K (fun i o d=> ∀W,(∀f,o.about P W aF.eval=some f→F.fn f)∧(i≠p→(W=w.drew∨W=W1)→(execOp aF.eval o).run P W= .ok (.value (aF.eval (.tmp d))) W)∧(i=p→W=w.drew→(execOp aF.eval o).run P W= .ok (.value (aF.eval (.tmp d))) W1)) 0 l)
 (hlast0:wpListIn F n P l.toArray Q [o] aF W1):(Code.region id l.toArray true).wpIn F n P Q a w:=by
 have hg:=(Y38 hp ho).guard
 have hlast:o.wpIn F n P aF W1 (fun a w=>Q .normal a w) Q:=by
  unfold wpListIn at hlast0;rw[Yei (by simp[Region.wanted,hg])]at hlast0;exact hlast0
 have hslt:=(Yeo.1 ho).1;obtain⟨g1,g2⟩:=ha.get;refine wpIn_region_any hm (Yd6 (W0:=w.drew) (W1:=W1) hp hps hslt hpp (fun o' ho'=>by rw[ho]at ho';cases ho';exact hod) (fun i o d hi _ hd=>by simpa using Y2h hrun i o d hi hd) (fun o' ho'=>by rw[ho]at ho';cases ho';exact hlast) _ _ _ _ ⟨by simp,hd,by simpa using g1,fun t ht=> ?_,?_⟩ ?_ ?_)
 ·by_cases hw:t∈Y20 l.toArray
  ·exact Zm
  ·have:=g2 t (by simpa using hw);exact Z2Y
 ·rw[Yef,Yfh,Yei hpp];rfl
 ·rw[Yef,Yfh,Yei hslt];rfl
 exact Z1n
theorem Z1a{P:Prop}(h:P:=by
 have hlt:=(Yeo.1 hj).1
 have:=hall j
 rw[Yef,Yep (by rw[hI.size];exact hlt)]at this ⊢
 exact Z2Y):P:=h
theorem Z4R{P:Prop}(h:P:=by
 cases hj:listed.getD j true with
 | true=>rfl
 | false=>exact absurd h0 (Y4r hp hI.size j hj)):P:=h
theorem YbI{F:Fence}{n:Nat}{P:Program}{ops:Array Oper}{Q:Exit→Act→World→Prop}{aF:Act}{W0:World}(hp:Y6v ops ops.size=true)
 (hrun: ∀ (i:Nat) (o:Oper) (d:Tmp),ops[i]?=some o→o.dst=some d→(∀f,o.about P W0 aF.eval=some f→F.fn f)∧(execOp aF.eval o).run P W0= .ok (.value (aF.eval (.tmp d))) W0)
 (hQ:Q .normal aF W0):
 ∀ (fuel:Nat) (listed:Array Bool) (a:Act) (w:World),YaL ops 0 aF W0 W0 listed a w→((List.range ops.size).filter fun i=> !listed.getD i true).length≤fuel→wpAnyIn F n P .any ops Q fuel listed a w:=by
 have fin: ∀ (listed:Array Bool) (a:Act) (w:World),YaL ops 0 aF W0 W0 listed a w→Region.ready .any ops listed= []→Q .normal a w:=by
  intro listed a w hI h0
  have hall: ∀j,listed.getD j true=true:=fun j=>by
   exact Z4R
  have hw:w=W0:=by rw[hI.world];split<;>rfl
  have haF:a=aF:=by
   have ht:a.tmps=aF.tmps:=by
    refine YfC fun t=>hI.tmps t fun j oj hj hd=> ?_
    exact Z1a
   cases a
   cases aF
   simp only at ht;have:=hI.defers;simp only at this;rw[ht,this]
  rw[haF,hw];exact hQ
 intro fuel
 induction fuel with
 | zero =>
  intro listed a w hI hc;have h0:(List.range ops.size).filter (fun i=> !listed.getD i true)= []:=YeL.1 Z7
  have hr:Region.ready .any ops listed= []:=by
   refine YeQ.2 fun j hj=> ?_
   have:=YeQ.1 h0 j hj;simp only[Yg7,Yg8]at this;simp[this]
  exact⟨hr,fin listed a w hI hr⟩
 | succ fuel ih =>
  intro listed a w hI hc;refine⟨fun h0=>fin listed a w hI h0,fun i hi=> ?_⟩;obtain⟨hil,o,ho,hafter⟩:=Yge.1 hi;have hP:=Y38 hp ho;have hlt:i<ops.size:=(Yeo.1 ho).1;have hw:w=W0:=by rw[hI.world];split<;>rfl
  have hsame: ∀x∈o.op.operands,a.eval x=aF.eval x:=by
   intro x hx
   cases x with
   | tmp t =>
    have:=hI.tmps t fun j oj hj hd=>by
     obtain⟨e,he,hb,rfl⟩:=hP.reads t hx j oj hj hd;exact hafter e he hb
    simp only[Act.eval,Yef,this]
   | _=>rfl
  have hex:=Ygp o hP.nosel hsame;have hab:=about_congr (P:=P) o w hsame;have hwant:Region.wanted o (yielded ops a.tmps)=true:=Z3R;unfold wpOpIn;simp only[ho,hwant,Yfw];obtain⟨d,hd⟩:=hP.dst Z7;have hr:=hrun i o d ho hd
  have hc':((List.range ops.size).filter fun j=> !(listed.setIfInBounds i true).getD j true).length≤fuel:=by
   have:=Y1q (N:=ops.size) hlt hil;omega
  have hsemat:(o.semAt F.round a.eval).run P w=(execOp aF.eval o).run P w:=by rw[Yg9 _ _ _ hP.nodefer,hex]
  unfold Oper.wpIn;rw[hab,hsemat,hw];refine⟨hr.1,?_⟩;rw[hr.2];refine ih _ _ _ ⟨by rw[YeB];exact hI.size,by rw[hd];exact hI.defers,?_,?_,by split<;>rfl⟩ hc'
  ·rw[hd];show(a.tmps.setIfInBounds d _).size=_
   rw[YeB,hI.tsize]
  ·intro t ht;rw[hd];show(a.tmps.setIfInBounds d _)[t]?=_
   rw[Yet];by_cases hdt:d=t
   ·subst hdt;by_cases hlt2:d<a.tmps.size
    ·have hlt3:d<aF.tmps.size:=by rw[←hI.tsize];exact hlt2
     rw[Yei rfl,Yei hlt2,Yep hlt3];simp[Act.eval,Array.getD,hlt3]
    ·have hlt3: ¬d<aF.tmps.size:=by rw[←hI.tsize];exact hlt2
     rw[Yei rfl,Yed hlt2,YeA (Nat.le_of_not_lt hlt3)]
   ·rw[Yed hdt];refine hI.tmps t fun j oj hj hjd=> ?_
    have h1:=ht j oj hj hjd;rw[YM,Yed]at h1
    ·exact h1
    ·rintro⟨rfl,_⟩;rw[ho]at hj
     cases hj
     rw[hd]at hjd
     cases hjd
     exact hdt rfl
theorem Y5I{F:Fence}{n:Nat}{P:Program}{id:Nat}{l:List Oper}{Q:Exit→Act→World→Prop}(aF:Act){a:Act}{w:World}(hm:P.follows .mixedOrders=true)
 (hp:Y6v l.toArray l.toArray.size=true) (hd:a.defers=aF.defers) (ha:Y5D (Y20 l.toArray) 0 a.tmps.toList aF.tmps.toList)
 (hrun:Y2K (fun _ o d=>(∀f,o.about P w.drew aF.eval=some f→F.fn f)∧(execOp aF.eval o).run P w.drew= .ok (.value (aF.eval (.tmp d))) w.drew) 0 l)
 (hQ:Q .normal aF w.drew):
 (Code.region id l.toArray true).wpIn F n P Q a w:=by
 obtain⟨g1,g2⟩:=ha.get;refine wpIn_region_any hm (YbI (W0:=w.drew) hp (fun i o d hi hd=>Y2h hrun i o d hi hd) hQ _ _ _ _ ⟨by simp,hd,by simpa using g1,fun t ht=> ?_,by split<;>rfl⟩ ?_)
 ·by_cases hw:t∈Y20 l.toArray
  ·exact Zm
  ·have:=g2 t (by simpa using hw);exact Z2Y
 exact Z1n
end
section
open Go Go.RowKit
structure Y8G(ops:Array Oper)(S:Nat→Value→World→Prop)(Ctx:World→Prop)(a0:Act)(listed:Array Bool)(a:Act)(w:World):Prop where
 size:listed.size=ops.size
 defers:a.defers=a0.defers
 tsize:a.tmps.size=a0.tmps.size
 vals: ∀t:Nat,(∀ (j:Nat) oj,ops[j]?=some oj→oj.dst=some t→listed.getD j false=true)→S t (a.eval (.tmp t)) w
 ctx:Ctx w
def Y2v(F:Fence)(n:Nat)(P:Program)(Q:Exit→Act→World→Prop)(S:Nat→Value→World→Prop)(Ctx:World→Prop)(N:Nat)(o:Oper)(d:Tmp):Prop:=
 ∀a w,Ctx w→a.tmps.size=N→(∀t,.tmp t∈o.op.operands→S t (a.eval (.tmp t)) w)→
  o.wpIn F n P a w (fun a' w'=> ∃v,a'=a.put o.dst v∧S d v w'∧Below w.heap.size w w') Q
theorem Y6C{F:Fence}{n:Nat}{P:Program}{ops:Array Oper}{Q:Exit→Act→World→Prop}{S:Nat→Value→World→Prop}{Ctx:World→Prop}{a0:Act}(hp:Y6v ops ops.size=true)
 (hS: ∀t v w w',S t v w→Below w.heap.size w w'→S t v w') (hC: ∀w w',Ctx w→Below w.heap.size w w'→Ctx w')
 (hrun: ∀ (i:Nat) (o:Oper) (d:Tmp),ops[i]?=some o→o.dst=some d→d<a0.tmps.size∧Y2v F n P Q S Ctx a0.tmps.size o d)
 (hQ: ∀a w,Ctx w→(∀t,S t (a.eval (.tmp t)) w)→a.tmps.size=a0.tmps.size→a.defers=a0.defers→Q .normal a w):
 ∀ (fuel:Nat) (listed:Array Bool) (a:Act) (w:World),Y8G ops S Ctx a0 listed a w→((List.range ops.size).filter fun i=> !listed.getD i true).length≤fuel→wpAnyIn F n P .any ops Q fuel listed a w:=by
 have fin: ∀ (listed:Array Bool) (a:Act) (w:World),Y8G ops S Ctx a0 listed a w→Region.ready .any ops listed= []→Q .normal a w:=by
  intro listed a w hI h0
  have hall: ∀j,listed.getD j true=true:=fun j=>by
   exact Z4R
  refine hQ a w hI.ctx (fun t=>hI.vals t fun j oj hj hd=> ?_) hI.tsize hI.defers;exact Z1a
 intro fuel
 induction fuel with
 | zero =>
  intro listed a w hI hc;have h0:(List.range ops.size).filter (fun i=> !listed.getD i true)= []:=YeL.1 Z7
  have hr:Region.ready .any ops listed= []:=by
   refine YeQ.2 fun j hj=> ?_
   have:=YeQ.1 h0 j hj;simp only[Yg7,Yg8]at this;simp[this]
  exact⟨hr,fin listed a w hI hr⟩
 | succ fuel ih =>
  intro listed a w hI hc;refine⟨fun h0=>fin listed a w hI h0,fun i hi=> ?_⟩;obtain⟨hil,o,ho,hafter⟩:=Yge.1 hi;have hP:=Y38 hp ho;have hlt:i<ops.size:=(Yeo.1 ho).1;have hwant:Region.wanted o (yielded ops a.tmps)=true:=Z3R;unfold wpOpIn;simp only[ho,hwant,Yfw];obtain⟨d,hd⟩:=hP.dst Z7;obtain⟨hdlt,hr⟩:=hrun i o d ho hd
  have hc':((List.range ops.size).filter fun j=> !(listed.setIfInBounds i true).getD j true).length≤fuel:=by
   have:=Y1q (N:=ops.size) hlt hil;omega
  refine Oper.wpIn_mono (fun a' w' h=> ?_) (hr a w hI.ctx hI.tsize fun t ht=>hI.vals t fun j oj hj hjd=> ?_)
  ·obtain⟨v,rfl,hv,hb⟩:=h;refine ih _ _ _ ⟨by rw[YeB];exact hI.size,by rw[hd];exact hI.defers,?_,?_,hC w w' hI.ctx hb⟩ hc'
   ·rw[hd];show(a.tmps.setIfInBounds d _).size=_
    rw[YeB,hI.tsize]
   ·intro t ht;rw[hd];by_cases hdt:d=t
    ·subst hdt
     have:(a.put (some d) v).eval (.tmp d)=v:=by
      show(a.tmps.setIfInBounds d v).getD d undef=v
      have:d<a.tmps.size:=by rw[hI.tsize];exact hdlt
      simp[Array.getD,this]
     rw[this];exact hv
    ·have he:(a.put (some d) v).eval (.tmp t)=a.eval (.tmp t):=by
      show(a.tmps.setIfInBounds d v).getD t undef=a.tmps.getD t undef
      rw[Yef,Yet,Yed hdt,Yef]
     rw[he];refine hS _ _ _ _ (hI.vals t fun j oj hj hjd=> ?_) hb;have h1:=ht j oj hj hjd;rw[YM,Yed]at h1
     ·exact h1
     ·rintro⟨rfl,_⟩;rw[ho]at hj
      cases hj
      rw[hd]at hjd
      cases hjd
      exact hdt rfl
  ·obtain⟨e,he,hb,rfl⟩:=hP.reads t ht j oj hj hjd;exact hafter e he hb
theorem Yab{F:Fence}{n:Nat}{P:Program}{id:Nat}{l:List Oper}{Q:Exit→Act→World→Prop}(S:Nat→Value→World→Prop)(Ctx:World→Prop){a:Act}{w:World}(hm:P.follows .mixedOrders=true)
 (hp:Y6v l.toArray l.toArray.size=true) (hS: ∀t v w w',S t v w→Below w.heap.size w w'→S t v w') (hC: ∀w w',Ctx w→Below w.heap.size w w'→Ctx w')
 (h0:Ctx w.drew) (hinit: ∀t,t ∉ Y20 l.toArray→S t (a.eval (.tmp t)) w.drew)
 (hrun:Y2K (fun _ o d=>d<a.tmps.size∧Y2v F n P Q S Ctx a.tmps.size o d) 0 l)
 (hQ: ∀a' w',Ctx w'→(∀t,S t (a'.eval (.tmp t)) w')→a'.tmps.size=a.tmps.size→a'.defers=a.defers→Q .normal a' w'):
 (Code.region id l.toArray true).wpIn F n P Q a w:=by
 refine wpIn_region_any hm (Y6C (a0:=a) hp hS hC (fun i o d hi hd=>by simpa using Y2h hrun i o d hi hd) hQ _ _ _ _ ⟨by simp,rfl,rfl,fun t ht=>hinit t ?_,h0⟩ ?_)
 ·intro hw;exact Zm
 exact Z1n
def Y76(F:Fence)(n:Nat)(P:Program)(aF:Act)(o:Oper)(d:Tmp)(w:World):Prop:=
 match(execOp aF.eval o).run P w with
 | .ok (.value v) w'=>v=aF.eval (.tmp d)∧Below w.heap.size w w'
 | .ok (.enter f args) w'=>(F.depth.isSome=true→1≤n)∧CallsIn F (n - 1) P f args w' (fun e w''=>e= .returned (aF.eval (.tmp d))∧Below w.heap.size w w'')
 | _=>False
theorem Z11{P:Prop}(h:P:=by
 simp only[Act.eval,Yef,Yep hlt,Yep hlt2,Yf2]at h1
 rw[Yep hlt,Yep hlt2,h1]):P:=h
theorem Z1i{P:Prop}(h:P:=by
 have hex:=Ygp o hP.nosel hsame
 have hab:=about_congr (P:=P) o w hsame
 obtain⟨h1,h2⟩:=hr w hc
 unfold Oper.wpIn
 rw[hab,Yg9 _ _ _ hP.nodefer,hex]
 refine⟨h1,?_⟩
 unfold Y76 at h2
 split at h2
 ·rename_i v w' heq
  rw[heq]
  exact⟨v,rfl,h2.1,h2.2⟩
 ·rename_i f args w' heq
  rw[heq]
  refine⟨h2.1,h2.2.mono ?_⟩
  rintro e w'' ⟨rfl,hb⟩
  exact⟨_,rfl,rfl,hb⟩
 ·exact h2.elim):P:=h
theorem Z2G{P:Prop}(h:P:=by
 ·rw[YeA Z7,YeA Z7]):P:=h
theorem Z4M{P:Prop}(h:P:=by
 simp only at ht hd2
 rw[ht,hd2]):P:=h
theorem Y47{F:Fence}{n:Nat}{P:Program}{id:Nat}{l:List Oper}{Q:Exit→Act→World→Prop}(aF:Act)(Ctx:World→Prop){a:Act}{w:World}(hm:P.follows .mixedOrders=true)
 (hp:Y6v l.toArray l.toArray.size=true) (hC: ∀w w',Ctx w→Below w.heap.size w w'→Ctx w')
 (h0:Ctx w.drew) (hd:a.defers=aF.defers) (ha:Y5D (Y20 l.toArray) 0 a.tmps.toList aF.tmps.toList)
 (hrun:Y2K (fun _ o d=>d<aF.tmps.size∧ ∀w,Ctx w→(∀f,o.about P w aF.eval=some f→F.fn f)∧Y76 F n P aF o d w) 0 l)
 (hQ: ∀w',Ctx w'→Q .normal aF w'):
 (Code.region id l.toArray true).wpIn F n P Q a w:=by
 obtain⟨g1,g2⟩:=ha.get;have hsz:a.tmps.size=aF.tmps.size:=by simpa using g1
 refine wpIn_region_any hm (Y6C (a0:=a) (S:=fun t v _=>v=aF.eval (.tmp t)) (Ctx:=Ctx) hp (fun _ _ _ _ h _=>h) hC (fun i o d hi hod=> ?_) (fun a' w' hc hS hs hdd=> ?_) _ _ _ _ ⟨by simp,rfl,rfl,fun t ht=> ?_,h0⟩ ?_)
 ·have hP:=Y38 hp hi;obtain⟨hlt,hr⟩:=Y2h hrun i o d hi hod;refine⟨by rw[hsz];exact hlt,fun a w hc hN hR=> ?_⟩
  have hsame: ∀x∈o.op.operands,a.eval x=aF.eval x:=by
   intro x hx
   cases x with
   | tmp t=>exact hR t hx
   | _=>rfl
  exact Z1i
 ·have haF:a'=aF:=by
   have ht:a'.tmps=aF.tmps:=by
    refine YfC fun t=> ?_
    have h1:=hS t;by_cases hlt:t<aF.tmps.size
    ·have hlt2:t<a'.tmps.size:=Z7;exact Z11
    exact Z2G
   have hd2:a'.defers=aF.defers:=hdd.trans hd
   cases a'
   cases aF
   exact Z4M
  rw[haF];exact hQ w' hc
 ·have hw:t ∉ Y20 l.toArray:=by
   intro hw;exact Zm
  have:=g2 t (by simpa using hw);simp only[Act.eval,Yef];have e:a.tmps[t]?=aF.tmps[t]?:=Z2Y;rw[e]
 exact Z1n
def Yn(a:Act)(ps:List (Nat×Value)):Act:= {a with tmps:=ps.foldl (fun t p=>t.setIfInBounds p.1 p.2) a.tmps}
theorem Y36(a:Act)(ps:List (Nat×Value)):(Yn a ps).tmps.size=a.tmps.size:=by
 unfold Yn;simp only;generalize a.tmps=t
 induction ps generalizing t with
 | nil=>rfl
 | cons p ps ih=>rw[YeP,ih,YeB]
theorem Y4j(a:Act)(ps:List (Nat×Value))(t:Nat)(h:t ∉ ps.map (·.1)):(Yn a ps).tmps[t]?=a.tmps[t]?:=by
 unfold Yn;simp only;generalize a.tmps=x
 induction ps generalizing x with
 | nil=>rfl
 | cons p ps ih =>
  simp only[YeY,Yf0,not_or]at h;rw[YeP,ih h.2,Yet,Yed (fun e=>h.1 e.symm)]
theorem Ybm(ds:List Nat): ∀ (l m:List Value) (k:Nat),l.length=m.length→(∀t:Nat,k+t ∉ ds→l[t]?=m[t]?)→Y5D ds k l m
 | [],[],_,_,_=>trivial
 | x :: xs,y :: ys,k,hl,h=>by
  refine⟨?_,Ybm ds xs ys (k+1) (by simpa using hl) fun t ht=> ?_⟩
  ·split
   ·trivial
   ·rename_i hc
    have:=h 0 (by simpa using hc)
    simpa using this
  ·have:=h (t+1) (by rw[←YeT,Nat.add_right_comm];exact ht)
   simpa using this
 | [],_ :: _,_,hl,_=>by simp at hl
 | _ :: _,[],_,hl,_=>by simp at hl
theorem Y2w{F:Fence}{n:Nat}{P:Program}{id:Nat}{l:List Oper}{Q:Exit→Act→World→Prop}(ps:List (Nat×Value)){aF:Act}(Ctx:World→Prop){a:Act}{w:World}(haF:Yn a ps=aF)(hm:P.follows .mixedOrders=true)
 (hk:(ps.map (·.1)).all (fun t=>(Y20 l.toArray).contains t)=true)
 (hp:Y6v l.toArray l.toArray.size=true) (hC: ∀w w',Ctx w→Below w.heap.size w w'→Ctx w')
 (h0:Ctx w.drew)
 (hrun:Y2K (fun _ o d=>d<aF.tmps.size∧ ∀w,Ctx w→(∀f,o.about P w aF.eval=some f→F.fn f)∧Y76 F n P aF o d w) 0 l)
 (hQ: ∀w',Ctx w'→Q .normal aF w'):
 (Code.region id l.toArray true).wpIn F n P Q a w:=by
 subst haF;refine Y47 (Yn a ps) Ctx hm hp hC h0 rfl (Ybm _ _ _ _ ?_ fun t ht=> ?_) hrun hQ
 ·simpa using(Y36 a ps).symm
 ·have:=Y4j a ps t fun h=>by
   have:=Yew.1 hk t h;exact ht Z2Y
  simpa using this.symm
theorem Za{P:Prop}(h:P:=by
 simp only[Yn,YeP,Yfn,YeF,Yf4,Yf3]
 exact rfl):P:=h
end
section
open Go.Proofs.Tryz
open Go.RowKit
def be(n:Nat):Nat→List UInt8
 | 0=> []
 | k+1=>UInt8.ofNat (n / 256 ^ k % 256) :: be n k
theorem Y2n(n k:Nat):(be n k).length=k:=by induction k with | zero=>rfl | succ k ih=>simp[be,ih]
theorem be_set(n size k:Nat)(h:k<size):(List.replicate (size - k) 0 ++ be n k).set (size - 1 - k) (UInt8.ofNat (n / 256 ^ k % 256))=List.replicate (size - (k+1)) 0 ++ be n (k+1):=by
 rw[List.set_append_left _ _ Zd];rw[show size - k=(size - (k+1)) +1 by omega,List.replicate_succ',List.set_append_right _ _ Zd];simp[be,show size - 1 - k - (size - (k+1))=0 by omega]
def Y5U(n:Nat)(size:Int):Nat:=if size<0∨8<size then 2 else if 256 ^ size.toNat≤n then 4 else 0
def Y8J(n:Nat)(size:Int):List UInt8:=if Y5U n size=0 then be n size.toNat else []
theorem pow_256(k:Nat):(2:Nat) ^ (8 * k)=256 ^ k:=by rw[Nat.pow_mul]
theorem Z4z{P:Prop}(h:P:=by
 rw[←pow_256]
 exact Z2t):P:=h
theorem Yco(n k:Nat):(n:Int) / 2 ^ (8 * k) % 256=(((UInt8.ofNat (n / 256 ^ k % 256)).toNat:Nat):Int):=by
 have:(n:Int) / 2 ^ (8 * k)=((n / 256 ^ k:Nat):Int):=by
  exact Z4z
 rw[this];exact Z2t
theorem infoB:(prog.info? 5).map (fun i=>(i.zero,i.size,i.bytes))=some (some (.int .u8 0),1,1):=by kernel_rfl
theorem put_ok(n:Nat)(size:Nat)(w:World)(h1:n≤18446744073709551615)(hs:size≤8)(hd:n<256 ^ size):
 Calls prog 163 #[.int .u64 n,.int .i64 size] w fun e w'=>e= .returned (.tuple #[.string (bs (be n size)),.nilIface])∧Below w.heap.size w w':=by
 have hq:((n:Int) / 2 ^ (8 * size) !=0)=false:=by
  have:(n:Int) / 2 ^ (8 * size)=((n / 256 ^ size:Nat):Int):=by
   exact Z4z
  rw[this,Ygs hd];rfl
 clear hd;have hmk:=Y7r (P:=prog) 219 5 underlying219 infoB;have hmk1:=fun w=>hmk size Z7 w
 have hcv:=conv_b (P:=prog) 219 9 5 5 underlying219 underlying5 underlying9 (be n size) size size (Y2n _ _);clear hmk;go_enter func163,ntmps163;go_wp2
 all_goals
  go_loopw [29] (fun v wr=> ∃k:Nat,k≤size∧v= .int .i64 k∧wr=w.alloc (.cells (Y15 (List.replicate (size - k) 0 ++ be n k)) 5)) (fun v _=>size - (intOf v).toNat)
  case atStart=>exact⟨0,by omega,rfl,by simp[be]⟩
  case round =>
   obtain⟨k,hk,rfl,rfl⟩:=hrel;have hlen:(List.replicate (size - k) 0 ++ be n k).length=size:=by simp[Y2n];exact Z7
   by_cases hlt:k<size
   ·have hset:=be_set n size k hlt;have hg:=YaG (List.replicate (size - k) 0 ++ be n k) (size - 1 - k) Z7;have hbs:=Y7B (List.replicate (size - k) 0 ++ be n k) (size - 1 - k) (UInt8.ofNat (n / 256 ^ k % 256));rw[hset,←Yco n k]at hbs;have Hbs:=hid hbs;clear hbs hset;generalize List.replicate (size - k) 0 ++ be n k=l at *;have e1:(size:Int) - 1 - k=((size - 1 - k:Nat):Int):=Z7;go_wp2
    go_roundw
    case rel=>exact⟨k+1,by omega,by go_num,by rw[Hbs.out]⟩
    case measure=>exact Zw
   ·obtain rfl:k=size:=Z7;rw[Nat.sub_self,List.replicate_zero,List.nil_append]at hlen ⊢;go_wp2;go_ret2;exact⟨rfl,(Yea _ _).alloc (Ye9 _) _⟩
theorem Y2x(n:Nat)(size:Int)(w:World)(h1:n≤18446744073709551615):
 Calls prog 104 #[.int .u64 n,.int .i64 size] w fun e w'=>e= .returned (.tuple #[.string (bs (Y8J n size)),.int .i64 (Y5U n size)])∧Below w.heap.size w w':=by
 by_cases hs:size<0∨8<size
 ·have e:Y5U n size=2:=by simp[Y5U,hs]
  rw[Y8J,e];clear e;rcases hs with hs | hs
  ·go_enter func104,ntmps104;go_wp2;go_ret2;exact Z2D
  ·have hs1:0≤size:=Z7;have hb:decide (size≤8)=false:=Zd;go_enter func104,ntmps104;go_wp2;go_ret2;exact Z2D
 ·obtain⟨k,rfl⟩:=YfU (show 0≤size from Z7);have hk:k≤8:=Z7;clear hs;have hb:decide ((k:Int)≤8)=true:=Zd;have cv:=YdT (P:=prog) 219 9 5 5 underlying219 underlying5 underlying9;go_enter func104,ntmps104;go_wp2;go_loopw [0,6,11] (fun x o i wr=> ∃j:Nat,j≤k∧i= .int .i64 j∧x= .int .u64 (n / 256 ^ j:Nat)∧o= .string (bs (be n j))∧Below w.heap.size w wr) (fun _ _ i _=>k - (intOf i).toNat)
  case atStart=>exact⟨0,by omega,rfl,by simp,rfl,Yea _ _⟩
  case round =>
   obtain⟨j,hj,rfl,rfl,rfl,hb⟩:=hrel;have hxl:n / 256 ^ j≤n:=Nat.div_le_self _ _;have hl:(be n j).length≤8:=by rw[Y2n];exact Z7
   by_cases hlt:j<k
   ·have hx:n / 256 ^ (j+1)=n / 256 ^ j / 256:=by rw[Nat.pow_succ,Nat.div_div_eq_div_mul]
    have Hx:=hid hx;clear hx;have hbe:be n (j+1)=UInt8.ofNat (n / 256 ^ j % 256) :: be n j:=rfl;have Hbe:=hid hbe;clear hbe;generalize n / 256 ^ j=x at *;generalize be n j=l at *;go_wp2;go_roundw
    case rel=>exact⟨j+1,by omega,by go_num,by rw[Hx.out];go_num,by rw[Hbe.out];rfl,hb.alloc hb.size _⟩
    case measure=>exact Zw
   ·obtain rfl:j=k:=Z7;by_cases hd:256 ^ j≤n
    ·have e:Y5U n j=4:=by simp[Y5U,hd];exact Z7
     have He:=hid e;have h2:0<n / 256 ^ j:=Nat.div_pos hd (Nat.pow_pos Z7);clear e hd;generalize n / 256 ^ j=x at *;go_wp2;go_ret2;exact⟨by rw[Y8J,He.out];rfl,by assumption⟩
    ·have e:Y5U n j=0:=by simp[Y5U,hd];exact Z7
     have He:=hid e;have h2:n / 256 ^ j=0:=Ygs Z7;rw[h2];clear e hd;go_wp2;go_ret2;exact⟨by rw[Y8J,He.out];rfl,by assumption⟩
end
end Go.Proofs.YtfadikchijkcfaaGreatDoor
