/- Steps that many proofs share. -/
import Derived.WalkKit
import Derived.WalkSpells
import Derived.WalkLawsBesides
import Derived.Outline
import Derived.Below
import Derived.Laws.NewBlocks
import Derived.Laws.BitsAllLaws
import Derived.Laws.Tables
import Derived.Laws.Rows
import Derived.Laws.BytesArg
import Derived.Laws.IdiomStrings
import Derived.Deep.WholeRow
import Derived.Laws.MakeOwn
import Derived.Lib.ConvBytes
import Derived.Deep.RegionLaw
import Derived.Laws.AppendOwn
set_option linter.unusedVariables false
set_option linter.unusedSectionVars false
set_option linter.unusedSimpArgs false
namespace Go.Proofs.YtfadikchijkcfaaGreatDoor
section
open Go.RowKit
abbrev Ye9:=@Nat.le_refl
abbrev Yea:=@Below.refl
abbrev Yeb:=@block_lt_of_cell
abbrev Yec:=@List.getElem?_eq_getElem
abbrev Yed:=@if_neg
abbrev Yee:=@Nat.lt_of_lt_of_le
abbrev Yef:=@Array.getD_eq_getD_getElem?
abbrev Yeg:=@congrArg
abbrev Yeh:=@decide_eq_false
abbrev Yei:=@if_pos
abbrev Yej:=@bodyPost_ret
abbrev Yek:=@List.getElem?_eq_some_iff
abbrev Yel:=@decide_eq_true
abbrev Yem:=@List.length_append
abbrev Yen:=@beq_eq_false_iff_ne
abbrev Yeo:=@Array.getElem?_eq_some_iff
abbrev Yep:=@Array.getElem?_eq_getElem
abbrev Yeq:=@List.take_succ_eq_append_getElem
abbrev Yer:=@List.mem_of_getElem?
abbrev Yet:=@Array.getElem?_setIfInBounds
abbrev Yeu:=@Nat.le_trans
abbrev Yev:=@List.drop_eq_getElem_cons
abbrev Yew:=@List.all_eq_true
abbrev Yex:=@List.take_length
abbrev Yey:=@Option.some.inj
abbrev Yez:=@callsIn_wide
abbrev YeA:=@Array.getElem?_eq_none
abbrev YeB:=@Array.size_setIfInBounds
abbrev YeC:=@heap_alloc_new
abbrev YeD:=@World.ownsRow_nil
abbrev YeE:=@of_decide_eq_true
abbrev YeF:=@List.setIfInBounds_toArray
abbrev YeG:=@World.cell?_alloc_lt
abbrev YeH:=@List.length_cons
abbrev YeI:=@World.size_alloc
abbrev YeJ:=@cell_of_row
abbrev YeK:=@List.eq_nil_of_length_eq_zero
abbrev YeL:=@List.length_eq_zero_iff
abbrev YeM:=@List.contains_cons
abbrev YeN:=@Below.heap_setCell
abbrev YeO:=@Option.some.injEq
abbrev YeP:=@List.foldl_cons
abbrev YeQ:=@List.filter_eq_nil_iff
abbrev YeR:=@List.getElem?_map
abbrev YeS:=@wpIn_wide
abbrev YeT:=@Nat.add_assoc
abbrev YeU:=@Nat.lt_or_ge
abbrev YeV:=@List.length_nil
abbrev YeW:=@cell_two_new
abbrev YeX:=@List.drop_length
abbrev YeY:=@List.map_cons
abbrev YeZ:=@List.getElem?_cons_zero
abbrev Yf0:=@List.mem_cons
abbrev Yf1:=@List.getElem?_toArray
abbrev Yf2:=@Option.getD_some
abbrev Yf3:=@List.set_cons_succ
abbrev Yf4:=@List.set_cons_zero
abbrev Yf5:=@rounds_succ
abbrev Yf6:=@List.mem_range
abbrev Yf7:=@wp_loop_rounds
abbrev Yf8:=@Fence.wide_round
abbrev Yf9:=@Bool.and_eq_true
abbrev Yfa:=@Classical.byContradiction
abbrev Yfb:=@beq_iff_eq
abbrev Yfc:=@List.take_of_length_le
abbrev Yfd:=@List.append_nil
abbrev Yfe:=@Oper.semAt_none
abbrev Yff:=@List.drop_eq_nil_of_le
abbrev Yfg:=@List.getElem?_take
abbrev Yfh:=@Array.getElem?_replicate
abbrev Yfi:=@List.map_append
abbrev Yfj:=@List.contains_iff_mem
abbrev Yfk:=@below_drewN
abbrev Yfl:=@List.getElem?_append_left
abbrev Yfm:=@List.cons.injEq
abbrev Yfn:=@List.foldl_nil
abbrev Yfo:=@IntKind.wrap_u32
abbrev Yfp:=@List.length_singleton
abbrev Yfq:=@List.getElem?_eq_none
abbrev Yfr:=@frozen_of_row
abbrev Yfs:=@List.mem_singleton
abbrev Yft:=@List.contains_append
abbrev Yfu:=@World.cell?_of_block
abbrev Yfv:=@List.getElem?_append_right
abbrev Yfw:=@if_true
abbrev Yfx:=@List.append_assoc
abbrev Yfy:=@List.mem_of_find?_eq_some
abbrev Yfz:=@Nat.add_zero
abbrev YfA:=@List.take_append_drop
abbrev YfB:=@List.length_filter_le
abbrev YfC:=@Array.ext_getElem?
abbrev YfD:=@List.getElem_mem
abbrev YfE:=@Below.heap_alloc
abbrev YfF:=@List.mem_iff_getElem
abbrev YfG:=@List.count_le_length
abbrev YfH:=@List.map_nil
abbrev YfI:=@Nat.succ_mul
abbrev YfJ:=@List.contains_nil
abbrev YfK:=@List.flatMap_cons
abbrev YfL:=@Int.toNat_natCast
abbrev YfM:=@DataW.trod_string
abbrev YfN:=@List.mem_append
abbrev YfO:=@BitVec.toNat_ofNat
abbrev YfP:=@Nat.zero_add
abbrev YfQ:=@of_decide_eq_false
abbrev YfR:=@List.mem_filter
abbrev YfS:=@decide_eq_true_eq
abbrev YfT:=@Bool.or_false
abbrev YfU:=@Int.eq_ofNat_of_zero_le
abbrev YfV:=@List.take_succ_cons
abbrev YfW:=@List.getElem?_cons_succ
abbrev YfX:=@World.block_lt_of_cell?
abbrev YfY:=@World.frozen?_alloc_old
abbrev YfZ:=@Nat.mod_eq_of_lt
abbrev Yg0:=@List.cons_append
abbrev Yg1:=@List.mem_filterMap
abbrev Yg2:=@List.find?_eq_none
abbrev Yg3:=@Bool.eq_iff_iff
abbrev Yg4:=@List.mem_map
abbrev Yg5:=@Bool.or_eq_true
abbrev Yg6:=@Bool.false_or
abbrev Yg7:=@Bool.not_eq_true'
abbrev Yg8:=@Bool.not_eq_false
abbrev Yg9:=@Oper.semAt_eq
abbrev Yga:=@List.cons.inj
abbrev Ygb:=@Int.tmod_eq_emod_of_nonneg
abbrev Ygc:=@BitVec.ofInt_natCast
abbrev Ygd:=@Classical.not_forall
abbrev Yge:=@mem_ready
abbrev Ygf:=@Bool.and_false
abbrev Ygg:=@Nat.mul_le_mul
abbrev Ygh:=@Int.toNat_of_nonneg
abbrev Ygi:=@List.length_pos_iff
abbrev Ygj:=@List.getElem?_range
abbrev Ygk:=@bne_eq_false_iff_eq
abbrev Ygl:=@Option.isSome_iff_exists
abbrev Ygm:=@and_true
abbrev Ygn:=@info_parts
abbrev Ygo:=@DataW.trod_int
abbrev Ygp:=@execOp_congr
abbrev Ygq:=@List.length_take
abbrev Ygr:=@World.cell?_spot
abbrev Ygs:=@Nat.div_eq_of_lt
abbrev Ygt:=@bne_iff_ne
abbrev Ygu:=@Nat.zero_le
abbrev Ygv:=@Prod.mk.inj
abbrev Ygw:=@Below.alloc
theorem Z7{P:Prop}(h:P:=by
 omega):P:=h
theorem Zd{P:Prop}(h:P:=by
 simp
 exact Z7):P:=h
theorem Z1r{P:Prop}(h:P:=by
 rw[Yen]
 exact Z7):P:=h
theorem Z2t{P:Prop}(h:P:=by
 simp):P:=h
theorem Z2Y{P:Prop}(h:P:=by
 simpa using this):P:=h
theorem Z43{P Q:Prop}(k:Q)(h:Q→P:=by
 obtain⟨h1,h2⟩:=Yek.1 h
 refine fun z_=>?_
 revert h2;revert h1
 exact z_):P:=h k
end
end Go.Proofs.YtfadikchijkcfaaGreatDoor
namespace Go.Proofs.YtfadikchijkcfaaGreatDoor
section
open Go.RowKit
theorem hid{p:Prop}(h:p):Hid p:=h
theorem Y80{k:IntKind}{a b:Int}(h:a=b):Ending.returned (.int k a)= .returned (.int k b):=by rw[h]
theorem Y2M(w:World)(t:Addr)(v:Value)(k:Nat):(w.setCell t v).heap[k]?=if t.block=k then(w.heap[k]?).map (fun | .cells c elem frozen=> .cells (if t.spot.isSome then c else c.setIfInBounds t.off v) elem frozen | o=>o)else w.heap[k]?:=by
 simp only[World.setCell,Array.getElem?_modify];rfl
theorem Y4N{B:Nat}{a b:World}(h:Below B a b)(t:Addr)(v:Value):Below B (a.setCell t v) (b.setCell t v):=
 ⟨h.os,h.tape,h.output,by simpa[World.setCell]using h.size,fun k hk=>by rw[Y2M,Y2M,h.block k hk]⟩
theorem Y3F(w:World)(t:Addr)(old v:Value)(h:w.cell? t=some old):(w.setCell t v).cell? t=some v:=by
 have hs:=h;simp only[World.cell?]at h ⊢;rw[Y2M,Yei rfl]
 split at h
 ·rename_i c e f hc
  rw[hc];simp only[Option.map]
  split at h
  ·cases h
  ·rename_i hsp
   rw[Yed hsp,Yed hsp];rw[Yet];have:=(Yeo.1 h).1;simp[this]
 ·cases h
theorem ZZ{P:Prop}(h:P:=by
 rw[IntKind.wrap_i64]
 exact Z7):P:=h
theorem i64_mask(n:Int)(m:Nat)(k:Nat)(hm:m=2 ^ k - 1)(hk:k≤62):bits .and .i64 n (m:Int)=n % ((2 ^ k:Nat):Int):=by
 subst hm;have hpos:0<2 ^ k:=Nat.pow_pos Z7;have hle:2 ^ k≤2 ^ 62:=Nat.pow_le_pow_right Z7 hk
 have e2:(BitVec.ofInt 64 ((2 ^ k - 1:Nat):Int)).toNat=2 ^ k - 1:=by
  rw[BitVec.toNat_ofInt];exact Z7
 have e1:(BitVec.ofInt 64 n &&& BitVec.ofInt 64 ((2 ^ k - 1:Nat):Int)).toNat=(BitVec.ofInt 64 n).toNat % 2 ^ k:=by
  rw[BitVec.toNat_and,e2,Nat.and_two_pow_sub_one_eq_mod]
 have e3:((BitVec.ofInt 64 n).toNat:Int)=n % 18446744073709551616:=by
  rw[BitVec.toNat_ofInt];exact Z7
 have e4:(((BitVec.ofInt 64 n).toNat % 2 ^ k:Nat):Int)=n % ((2 ^ k:Nat):Int):=by
  rw[Int.natCast_emod,e3];apply Int.emod_emod_of_dvd;exact⟨((2 ^ (64 - k):Nat):Int),by rw[←Int.natCast_mul,←Nat.pow_add,show k+(64 - k)=64 by omega];rfl⟩
 unfold bits;show IntKind.i64.wrap (((BitVec.ofInt 64 n &&& BitVec.ofInt 64 ((2 ^ k - 1:Nat):Int)).toNat:Nat):Int)=_
 rw[e1,e4];have h5:=Int.emod_nonneg n (show((2 ^ k:Nat):Int)≠0 by exact Z7);have h6:=Int.emod_lt_of_pos n (show(0:Int) < ((2 ^ k:Nat):Int) by exact Z7);exact ZZ
def bs(l:List UInt8):ByteArray:=⟨l.toArray⟩
theorem Y4b(s:ByteArray):bs s.data.toList=s:=by simp[bs]
@[go_sem] theorem YJ(l:List UInt8):(bs l).size=l.length:=by simp[bs,ByteArray.size]
@[go_sem] theorem bs_append(a b:List UInt8):bs a ++ bs b=bs (a ++ b):=by
 apply ByteArray.ext;simp[bs]
@[go_sem] theorem bs_extract(l:List UInt8)(a b:Nat):(bs l).extract a b=bs ((l.take b).drop a):=by
 apply ByteArray.ext;simp[bs,ByteArray.data_extract,List.extract_toArray,List.drop_take]
@[go_sem] theorem bs_get(l:List UInt8)(i:Nat)(h:i< (bs l).size):(bs l)[i]'h=l[i]'(by rw[←YJ l];exact h):=rfl
@[go_sem] theorem bs_inj(a b:List UInt8):bs a=bs b ↔ a=b:=by
 constructor
 ·intro h;simpa[bs]using h
 ·intro h;rw[h]
@[go_sem] theorem bs_toList(a:List UInt8):(bs a).toList=a:=by simp[bs,ByteArray.toList_eq]
def Ybi(n:Int):UInt8:=UInt8.ofNat n.toNat
theorem conv_new{P:Program}(w:World)(src dst e t:TypeId)(hs:P.underlying src=some (.slice e))(he:P.underlying e=some (.int .u8))(hd:P.underlying dst=some .string)(xs:List Int)(n c:Nat)(h:xs.length=n):
 (convert src dst (.slice (some ⟨w.heap.size,0,none⟩) n c)).run P (w.alloc (.cells (xs.map (Value.int .u8)).toArray t))= .ok (.string (bs (xs.map Ybi))) (w.alloc (.cells (xs.map (Value.int .u8)).toArray t)):=by
 have:=run_convert_bytes_arg (P:=P) (w.alloc (.cells (xs.map (Value.int .u8)).toArray t)) src e hs he w.heap.size 0 n c xs h (fun i hi=>by
  rw[YfP,YeJ _ _ _ _ _ _ (YeC _ _)]
  simp[List.getD,Yec (show i<xs.length by omega)]) dst hd
 rw[this];rfl
theorem Ze{P:Prop}(h:P:=by
 exact(Yea _ _).alloc (Ye9 _) _):P:=h
theorem Zw{P:Prop}(h:P:=by
 simp[intOf]
 exact Z7):P:=h
theorem ZS{P:Prop}(h:P:=by
 unfold maxLen
 exact Z7):P:=h
theorem Z16{P:Prop}(h:P:=by
 decide):P:=h
theorem Z1g{P:Prop}(h:P:=by
 exact⟨0,by omega,rfl,rfl,Yea _ _⟩):P:=h
theorem Z1J{P:Prop}(h:P:=by
 rw[←hW1]
 exact Z2t):P:=h
theorem Z28{P Q:Prop}(k:Q)(h:Q→P:=by
 have cv:=fun w=>Y8s (P:=prog) 9 219 5 underlying9 underlying219 underlying5 (bs l) w
 refine fun z_=>?_
 revert cv
 exact z_):P:=h k
theorem Z2v{P:Prop}(h:P:=by
 exact⟨rfl,(Yea _ _).alloc (Ye9 _) _⟩):P:=h
theorem Z2D{P:Prop}(h:P:=by
 exact⟨rfl,Yea _ _⟩):P:=h
theorem Z3o{P:Prop}(h:P:=by
 simpa using h):P:=h
theorem Z4q{P:Prop}(h:P:=by
 simpa using h1):P:=h
theorem Z4K{P:Prop}(h:P:=by
 simpa using h2):P:=h
theorem Z4X{P:Prop}(h:P:=by
 exact⟨0,by omega,rfl,rfl,rfl⟩):P:=h
theorem Z53{P:Prop}(h:P:=by
 have a:=hd _ _ e1
 have b:=hd _ _ e2
 simp only[Nat.mul_comm k 2,YeT]
 exact⟨a,b⟩):P:=h
theorem Z44{P:Prop}(h:P:=by
 exact .inl h0):P:=h
section
variable {P:Program}(src dst e t:TypeId)(hs:P.underlying src=some (.slice e))(he:P.underlying e=some (.int .u8))(hd:P.underlying dst=some .string)
include hs he hd
theorem YdT(w:World)(a:Int):
 (convert src dst (.slice (some ⟨w.heap.size,0,none⟩) 1 1)).run P (w.alloc (.cells #[.int .u8 a] t))= .ok (.string (bs [Ybi a])) (w.alloc (.cells #[.int .u8 a] t)):=
 conv_new w src dst e t hs he hd [a] 1 1 rfl
end
def Y15(l:List UInt8):Array Value:=(l.map fun b=>Value.int .u8 (b.toNat:Int)).toArray
@[go_sem] theorem YaF(l:List UInt8):(Y15 l).size=l.length:=by simp[Y15]
theorem Ycq(l:List UInt8)(i:Nat)(h:i<l.length):(Y15 l)[i]?=some (.int .u8 (l[i].toNat:Int)):=by simp[Y15,h]
theorem YaG(l:List UInt8)(i:Nat)(h:i<l.length):(Y15 l)[i]?=some (.int .u8 ((l.getD i 0).toNat:Int)):=by simp[Y15,List.getD,h]
theorem Y7B(l:List UInt8)(i:Nat)(x:UInt8):(Y15 l).setIfInBounds i (.int .u8 (x.toNat:Int))=Y15 (l.set i x):=by
 simp[Y15,List.map_set]
theorem Y3o(b:UInt8):Ybi (b.toNat:Int)=b:=by simp[Ybi]
theorem Y4M{P:Program}(w:World)(src dst e:TypeId)(hs:P.underlying src=some (.slice e))(he:P.underlying e=some (.int .u8))(hd:P.underlying dst=some .string)(l:List UInt8)(c g:Nat)(t:TypeId)(fr:Nat×Nat)(hg:w.heap[g]?=some (.cells (Y15 l) t fr)):
 (convert src dst (.slice (some ⟨g,0,none⟩) l.length c)).run P w= .ok (.string (bs l)) w:=by
 have:=run_convert_bytes_arg (P:=P) w src e hs he g 0 l.length c (l.map fun b=>(b.toNat:Int)) (by simp) (fun i hi=>by
  rw[YfP,YeJ _ _ _ _ _ _ hg,Ycq l i hi]
  simp[List.getD,hi]) dst hd
 rw[this]
 have hm: ∀l:List UInt8,List.map ((fun n:Int=>UInt8.ofNat n.toNat) ∘ fun b:UInt8=>(b.toNat:Int)) l=l:=by
  intro l
  induction l with
  | nil=>rfl
  | cons a l ih=>simp[ih]
 simp[strOfNums,bs,hm]
theorem conv_b{P:Program}(src dst e t:TypeId)(hs:P.underlying src=some (.slice e))(he:P.underlying e=some (.int .u8))(hd:P.underlying dst=some .string)(l:List UInt8)(n c:Nat)(h:l.length=n)(w:World):
 (convert src dst (.slice (some ⟨w.heap.size,0,none⟩) n c)).run P (w.alloc (.cells (Y15 l) t))= .ok (.string (bs l)) (w.alloc (.cells (Y15 l) t)):=by
 subst h;exact Y4M _ src dst e hs he hd l c _ t (0,0) (YeC _ _)
theorem Y8s{P:Program}(src dst e:TypeId)(hs:P.underlying src=some .string)(hd:P.underlying dst=some (.slice e))(he:P.underlying e=some (.int .u8))(s:ByteArray)(w:World):
 ∃c w',(convert src dst (.string s)).run P w= .ok (.slice (some ⟨w.heap.size,0,none⟩) s.size c) w'∧s.size≤c∧
  (∀j (h:j<s.size),w'.cell? ⟨w.heap.size,j,none⟩=some (.int .u8 (s[j].toNat:Int)))∧Below w.heap.size w w'∧w'.heap.size=w.heap.size+1∧
  (∀j,j<s.size→w'.frozen? ⟨w.heap.size,j,none⟩=false):=by
 have hsz:=Lib.bytesWorld_size w e s;refine⟨_,_,Lib.run_convert_string_bytes w src dst e s hs hd he,grownCap_ge _ _ _ _,fun j h=> ?_,⟨rfl,rfl,rfl,by omega,fun k hk=>Lib.bytesWorld_at_old w e s k hk⟩,hsz,fun j h=> ?_⟩
 ·rw[Lib.bytesWorld_cell w e s j h];simp[List.getD,h];rfl
 ·simp[World.frozen?,Lib.bytesWorld_at_new,Lib.bytesCells];exact Z7
theorem Y7r{P:Program}(t e:TypeId)(ht:P.underlying t=some (.slice e))(hi:(P.info? e).map (fun i=>(i.zero,i.size,i.bytes))=some (some (.int .u8 0),1,1))(n:Nat)(h:n≤281474976710656)(w:World):
 (Instr.makeSlice t (.int .i64 (n:Int)) (.int .i64 (n:Int))).run P w= .ok (.slice (some ⟨w.heap.size,0,none⟩) n n) (w.alloc (.cells (Y15 (List.replicate n 0)) e)):=by
 obtain⟨i,h1,h2,h3,h4⟩:=Ygn hi;have:=run_make (P:=P) w t e i (.int .u8 0) ht h1 h2 .i64 .i64 (n:Int) (n:Int) Z7 Z7 (by rw[h4];exact Z7) Z7;rw[this,h3];simp[madeCells,Y15,Value.cells,List.map_replicate]
 congr 3
 apply Array.ext
 ·exact Z2t
 ·intro k _ _;simp[Nat.mod_one]
theorem Y13{P:Program}{ops:Array Oper}{o:Oper}{a:Act}{w:World}{K:Act→World→Prop}{Q:Exit→Act→World→Prop}{E:Prop}
 (hgd:o.guard=none) (s x:Operand) (t:TypeId) (ho:o.op= .call {callee:= .builtin .append,args:= #[s,x],argTypes:= #[t,t]})
 (base:Nat) (e:TypeId) (z:Value) (size bytes:Nat) (ht:P.underlying t=some (.slice e)) (hi:(P.info? e).map (fun i=>(i.zero,i.size,i.bytes))=some (some z,size,bytes))
 (hzs:z.cells.size=size) (hsz:0<size)
 (v:Value) (n:Nat) (xs:List Value) (hs:a.eval s=v) (hown:w.ownsRow base e size v n xs)
 (ad:Addr) (m c:Nat) (news:List Value) (hx:a.eval x= .slice (some ad) m c) (hl:news.length=m * size) (hnews: ∀j u,news[j]?=some u→w.cell? (ad.add j)=some u) (h1: ∀u∈news,u.oneCell'=true)
 (h63:n+m≤maxLen) (hbytes:(n+m) * bytes≤140737488355328) (hbase:base≤w.heap.size)
 (h: ∀v' w',w'.ownsRow base e size v' (n+m) (xs ++ news)→w.grownBy w' v.ownBlock→(v'= .slice none 0 0 ↔ v= .slice none 0 0∧m=0)→K (a.put o.dst v') w'):
 if Region.wanted o (yielded ops a.tmps)=true then Oper.wp P o a w K Q else E:=by
 obtain⟨i,hi1,hi2,hi3,hi4⟩:=Ygn hi
 rw[Yei (by simp[Region.wanted,hgd])]
 exact wp_append_own w s x t ho base e i z size bytes ht hi1 hi2 hi3 hi4 hzs hsz v n xs hs hown ad m c news hx hl hnews h1 h63 hbytes hbase h
theorem Yj{P:Program}{ops:Array Oper}{rest:List Oper}{o:Oper}{a:Act}{w:World}{Q:Exit→Act→World→Prop}
 (hgd:o.guard=none) (s x:Operand) (t:TypeId) (ho:o.op= .call {callee:= .builtin .append,args:= #[s,x],argTypes:= #[t,t]})
 (base:Nat) (e:TypeId) (z:Value) (size bytes:Nat) (ht:P.underlying t=some (.slice e)) (hi:(P.info? e).map (fun i=>(i.zero,i.size,i.bytes))=some (some z,size,bytes))
 (hzs:z.cells.size=size) (hsz:0<size)
 (v:Value) (n:Nat) (xs:List Value) (hs:a.eval s=v) (hown:w.ownsRow base e size v n xs)
 (ad:Addr) (m c:Nat) (news:List Value) (hx:a.eval x= .slice (some ad) m c) (hl:news.length=m * size) (hnews: ∀j u,news[j]?=some u→w.cell? (ad.add j)=some u) (h1: ∀u∈news,u.oneCell'=true)
 (h63:n+m≤maxLen) (hbytes:(n+m) * bytes≤140737488355328) (hbase:base≤w.heap.size)
 (h: ∀v' w',w'.ownsRow base e size v' (n+m) (xs ++ news)→w.grownBy w' v.ownBlock→(v'= .slice none 0 0 ↔ v= .slice none 0 0∧m=0)→wpList P ops Q rest (a.put o.dst v') w'):wpList P ops Q (o :: rest) a w:=by
 obtain⟨i,hi1,hi2,hi3,hi4⟩:=Ygn hi
 exact wpList_append_own w hgd s x t ho base e i z size bytes ht hi1 hi2 hi3 hi4 hzs hsz v n xs hs hown ad m c news hx hl hnews h1 h63 hbytes hbase h
theorem Yp{B:Nat}{a w w':World}{e:TypeId}{size n:Nat}{v:Value}{xs:List Value}(h:Below B a w)(hown:w.ownsRow B e size v n xs)(hg:w.grownBy w' v.ownBlock)(hB:B≤w.heap.size):Below B a w':=
 h.grown hg hB (fun k hk=>(hown.lt k hk).1)
theorem Y2{w w':World}{base:Nat}{e:TypeId}{size n:Nat}{v:Value}{xs:List Value}(h:w.ownsRow base e size v n xs)(hb:Below w.heap.size w w'):w'.ownsRow base e size v n xs:=
 h.kept (row:=none) ⟨hb.os,hb.tape,hb.output,hb.size,fun k hk _=>hb.block k hk⟩ (by cases hv:v.ownBlock<;>simp)
def Y7d:Value→Nat | .string s=>s.size | _=>0
def Sl(w:World)(v:Value)(size n:Nat)(cs:List Value):Prop:=
 ∃a cap,v= .slice a n cap∧cs.length=n * size∧(n=0∨ ∃b off,a=some ⟨b,off,none⟩∧ ∀j u,cs[j]?=some u→w.cell? ⟨b,off+j,none⟩=some u)
theorem Sl.below{w w':World}{v:Value}{size n:Nat}{cs:List Value}(h:Sl w v size n cs)(hs:0<size)(hb:Below w.heap.size w w'):Sl w' v size n cs:=by
 obtain⟨a,cap,rfl,hl,hc⟩:=h;refine⟨a,cap,rfl,hl,?_⟩;rcases hc with h0 | ⟨b,off,rfl,hc⟩
 ·exact Z44
 ·refine .inr ⟨b,off,rfl,fun j u hu=> ?_⟩;exact(hb.cell (p:=⟨b,off+j,none⟩) (Yeb (hc j u hu))).trans (hc j u hu)
theorem Y2g(w:World)(size:Nat):Sl w (.slice none 0 0) size 0 []:=⟨none,0,rfl,by simp,.inl rfl⟩
theorem Y3x{w:World}{base:Nat}{e:TypeId}{size n:Nat}{v:Value}{xs:List Value}(h:w.ownsRow base e size v n xs):Sl w v size n xs:=by
 rcases h.2 with ⟨rfl,rfl⟩ | ⟨g,cap,cur,rfl,hbg,hg,hnc,hcm,hcs,htake⟩
 ·exact⟨none,0,rfl,h.1,.inl rfl⟩
 ·refine⟨_,cap,rfl,h.1,.inr ⟨g,0,rfl,fun j u hu=> ?_⟩⟩;rw[YfP,YeJ w g j cur e (0,0) hg];rw[←htake,Yfg]at hu
  split at hu
  ·simpa using hu
  ·cases hu
theorem own_form{w:World}{base:Nat}{e:TypeId}{size n:Nat}{v:Value}{xs:List Value}(h:w.ownsRow base e size v n xs)(hs:0<size)(hn:0<n):
 ∃g cap,v= .slice (some ⟨g,0,none⟩) n cap∧n≤cap∧cap≤9223372036854775807∧base≤g∧(∀j u,xs[j]?=some u→w.cell? ⟨g,j,none⟩=some u):=by
 rcases h.2 with ⟨rfl,rfl⟩ | ⟨g,cap,cur,rfl,hbg,hg,hnc,hcm,hcs,htake⟩
 ·have:=h.1;simp at this;rcases this with h' | h'<;>omega
 ·refine⟨g,cap,rfl,hnc,by unfold maxLen at hcm;omega,hbg,fun j u hu=> ?_⟩;rw[YeJ w g j cur e (0,0) hg];rw[←htake,Yfg]at hu
  split at hu
  ·simpa using hu
  ·cases hu
def errV(T:TypeId)(k:Nat):Value:=if k=0 then .nilIface else .iface T (.int .i64 (k:Int))
theorem YN(T:TypeId):errV T 0= .nilIface:=rfl
theorem Y1o(T:TypeId)(k:Nat)(h:0<k):errV T k= .iface T (.int .i64 (k:Int)):=by simp[errV];omega
end
section
open Go.RowKit
theorem Y1p(w:World)(r:Option Nat):w.grownBy w r:=⟨rfl,rfl,rfl,Ye9 _,fun _ _ _=>rfl⟩
theorem Y1h{a w w':World}{r:Option Nat}(h:a.grownBy w r)(hb:Below w.heap.size w w'):a.grownBy w' r:=
 ⟨hb.os.trans h.os,hb.tape.trans h.tape,hb.output.trans h.output,Yeu h.size hb.size,fun k hk hn=>(hb.block k (Yee hk h.size)).trans (h.block k hk hn)⟩
theorem YbP{a w:World}{r:Option Nat}(h:a.grownBy w r)(n:Nat):a.grownBy (w.drewN n) r:=⟨h.os,h.tape,h.output,h.size,h.block⟩
theorem Y5t{a w:World}{r:Option Nat}(h:a.grownBy w r)(o:Obj):a.grownBy (w.alloc o) r:=Y1h h ((Yea _ _).alloc (Ye9 _) _)
theorem Y1M{a w:World}{g:Nat}(h:a.grownBy w (some g))(i:Nat)(u:Value):a.grownBy (w.setCell ⟨g,i,none⟩ u) (some g):=
 ⟨h.os,h.tape,h.output,by simpa[World.setCell]using h.size,fun k hk hn=>by
   have hkg:k≠g:=fun e=>hn (by rw[e])
   exact(YeN w ⟨g,i,none⟩ u k hkg).trans (h.block k hk hn)⟩
theorem Y4l{a w:World}{g:Nat}(h:a.grownBy w (some g)){p:Addr}(hp:a.heap.size≤p.block)(u:Value):a.grownBy (w.setCell p u) (some g):=
 ⟨h.os,h.tape,h.output,by simpa[World.setCell]using h.size,fun k hk hn=>(YeN w p u k (by intro e;omega)).trans (h.block k hk hn)⟩
theorem Y1L{a b c:World}{r:Option Nat}(h:a.grownBy b r)(k:b.grownBy c r):a.grownBy c r:=
 ⟨k.os.trans h.os,k.tape.trans h.tape,k.output.trans h.output,Yeu h.size k.size,fun i hi hn=>(k.block i (Yee hi h.size) hn).trans (h.block i hi hn)⟩
theorem Y2W{B:Nat}{a b c:World}(h:Below B a b){g:Nat}(k:b.grownBy c (some g))(hg:B≤g)(hB:B≤b.heap.size):Below B a c:=
 h.trans ⟨k.os,k.tape,k.output,k.size,fun i hi=>k.block i (by omega) (by intro e;cases e;omega)⟩
theorem Ya{B:Nat}{a W:World}(h:Below B a W){g:Nat}(hg:B≤g)(i:Nat)(u:Value):Below B a (W.setCell ⟨g,i,none⟩ u):=
 h.trans ⟨rfl,rfl,rfl,by simp[World.setCell],fun k hk=>YeN W ⟨g,i,none⟩ u k (by simp only;omega)⟩
def Blk(w:World)(g:Nat)(T:TypeId)(cs:Array Value):Prop:=w.heap[g]?=some (.cells cs T (0,0))
theorem Blk.lt{w:World}{g:Nat}{T:TypeId}{cs:Array Value}(h:Blk w g T cs):g<w.heap.size:=by
 rcases YeU g w.heap.size with h1 | h1
 ·exact h1
 ·unfold Blk at h;rw[YeA h1]at h
  cases h
theorem Blk.cell{w:World}{g:Nat}{T:TypeId}{cs:Array Value}(h:Blk w g T cs)(i:Nat):w.cell? ⟨g,i,none⟩=cs[i]?:=YeJ w g i cs T (0,0) h
theorem Blk.free{w:World}{g:Nat}{T:TypeId}{cs:Array Value}(h:Blk w g T cs)(i:Nat):w.frozen? ⟨g,i,none⟩=false:=Yfr w g i cs T h
theorem Blk.new(w:World)(T:TypeId)(cs:Array Value):Blk (w.alloc (.cells cs T)) w.heap.size T cs:=YeC w _
theorem Blk.below{w w':World}{g:Nat}{T:TypeId}{cs:Array Value}(h:Blk w g T cs)(hb:Below w.heap.size w w'):Blk w' g T cs:=(hb.block g h.lt).trans h
theorem Blk.set{w:World}{g:Nat}{T:TypeId}{cs:Array Value}(h:Blk w g T cs)(i:Nat)(u:Value):Blk (w.setCell ⟨g,i,none⟩ u) g T (cs.setIfInBounds i u):=by
 unfold Blk at h ⊢;simp[World.setCell,Array.getElem?_modify,h]
theorem Blk.far{w:World}{g:Nat}{T:TypeId}{cs:Array Value}(h:Blk w g T cs){p:Addr}(hp:g≠p.block)(u:Value):Blk (w.setCell p u) g T cs:=(YeN w p u g hp).trans h
end
end Go.Proofs.YtfadikchijkcfaaGreatDoor
namespace Go.Proofs.YtfadikchijkcfaaGreatDoor.QCrc
end Go.Proofs.YtfadikchijkcfaaGreatDoor.QCrc
namespace Go.Proofs.YtfadikchijkcfaaGreatDoor
section
open Go Go.RowKit
def Yb2(c:UInt8):Nat:=c.toNat ||| 32
def Y1E(c:UInt8):Nat:=if 48≤c.toNat∧c.toNat≤57 then c.toNat - 48 else if 97≤Yb2 c∧Yb2 c≤122 then Yb2 c - 87 else 255
def puG(base max:Nat):List UInt8→Nat→Nat×Nat
 | [],n=>(n,0)
 | c :: l,n=>if base≤Y1E c then(0,2)else if max<n * base+Y1E c then(max,1)else puG base max l (n * base+Y1E c)
def puS(base max:Nat)(l:List UInt8):Nat×Nat:=if l= []then(0,2)else puG base max l 0
theorem low_bits: ∀n:Fin 256,bits .or .u8 ((n.val:Nat):Int) 32=((n.val ||| 32:Nat):Int):=by decide +kernel
theorem low_u8(c:UInt8):bits .or .u8 (c.toNat:Int) 32=(Yb2 c:Nat):=low_bits ⟨c.toNat,c.toNat_lt⟩
theorem low_lt(c:UInt8):Yb2 c<256:=Nat.or_lt_two_pow (n:=8) c.toNat_lt (by omega)
theorem YaU(base max:Nat)(l:List UInt8)(k n:Nat)(c:UInt8)(h:l[k]?=some c):
 puG base max (l.drop k) n=if base≤Y1E c then(0,2)else if max<n * base+Y1E c then(max,1)else puG base max (l.drop (k+1)) (n * base+Y1E c):=by
 refine Z43 ?_;intro h1 h2;rw[Yev h1,h2,puG]
theorem puG_end(base max:Nat)(l:List UInt8)(k n:Nat)(h:l.length≤k):puG base max (l.drop k) n=(n,0):=by
 rw[Yff h,puG]
theorem puG_le(base max:Nat)(l:List UInt8)(n:Nat)(h:n≤max):(puG base max l n).1≤max:=by
 induction l generalizing n with
 | nil=>exact h
 | cons c l ih =>
  rw[puG]
  split
  ·simp
  ·split
   ·simp
   ·exact ih _ Z7
end
end Go.Proofs.YtfadikchijkcfaaGreatDoor
