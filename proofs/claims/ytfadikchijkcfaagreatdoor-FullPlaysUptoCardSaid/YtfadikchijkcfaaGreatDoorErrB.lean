/- Closed facts on reflectlite, as errors.As uses it at the target *Errno. -/
import Derived.Test.YtfadikchijkcfaaGreatDoorProg
import Derived.Test.YtfadikchijkcfaaGreatDoorParsePure
import Derived.LaidEql
import Derived.Stop.Asserts
import Derived.RowKitTokens
set_option linter.unusedVariables false
set_option linter.unusedSectionVars false
set_option linter.unusedSimpArgs false
set_option maxRecDepth 100000
set_option maxHeartbeats 4000000
namespace Go.Proofs.YtfadikchijkcfaaGreatDoor
section
open Go.Proofs.Tryz
open Go.RowKit Go.Extern.Stop Go.Stop Go.Extern
theorem Yaz(t:Addr)(w:World):(ReflectliteValue.unpack (.iface 196 (.pointer (some t)))).run prog w
 = .ok (.agg #[.pointer (some ⟨13,196,none⟩),.pointer (some ⟨w.heap.size,0,none⟩),.int .u64 150]) (w.alloc (.cells #[.pointer (some t)] 196)):=by kernel_rfl
theorem ea_typeP(a:Addr)(w:World):(ReflectliteValue.methodAny (ReflectliteValue.valueError "reflectlite.Value.Type" 0) (fun t _ _ _=>ReflectliteType.toType t) #[.agg #[.pointer (some ⟨13,196,none⟩),.pointer (some a),.int .u64 150]]).run prog w
 = .ok (.iface 323 (.agg #[.pointer (some ⟨13,196,none⟩)])) w:=by kernel_rfl
theorem ea_kindP(w:World):((ReflectliteType.abiMethod fun t=>(fun a:Nat=>Value.int IntKind.u8 (a:Int)) <$> Rtype.kind t) #[.pointer (some ⟨13,196,none⟩)]).run prog w= .ok (.int .u8 22) w:=by kernel_rfl
theorem ea_kindE(w:World):((ReflectliteType.abiMethod fun t=>(fun a:Nat=>Value.int IntKind.u8 (a:Int)) <$> Rtype.kind t) #[.pointer (some ⟨13,36,none⟩)]).run prog w= .ok (.int .u8 2) w:=by kernel_rfl
theorem ea_rlm(z:Sem Value)(f:TypeId→Addr→Nat→Nat→Sem Value)(v:Value):
 ReflectliteValue.method z f #[v]=(do match ←ReflectliteValue.parts v with | none=>z | some (t,a,fl)=>f t a fl (fl % 32)):=rfl
theorem Y9p(a:Addr)(w:World):(ReflectliteValue.parts (.agg #[.pointer (some ⟨13,196,none⟩),.pointer (some a),.int .u64 150])).run prog w= .ok (some (196,a,150)) w:=by kernel_rfl
theorem YdK(a p:Addr)(W:World)(ha:W.cell? a=some (.pointer (some p))):
 (ReflectliteValue.method (ReflectliteValue.valueError "reflectlite.Value.IsNil" 0) ReflectliteValue.isNil #[.agg #[.pointer (some ⟨13,196,none⟩),.pointer (some a),.int .u64 150]]).run prog W= .ok (.bool false) W:=by
 rw[ea_rlm];simp only[Sem.run_bind,Y9p,Result.andThen];simp[ReflectliteValue.isNil,loadVar,isAgg,underlying,underlying196,ha,Result.andThen]
theorem YdM(w:World):(ReflectliteType.method ReflectliteType.elem #[.agg #[.pointer (some ⟨13,196,none⟩)]]).run prog w= .ok (.iface 323 (.agg #[.pointer (some ⟨13,36,none⟩)])) w:=by kernel_rfl
theorem ea_implE(w:World):(ReflectliteType.relation "Implements" ReflectliteType.implements_ #[.agg #[.pointer (some ⟨13,36,none⟩)],.iface 323 (.agg #[.pointer (some ⟨13,43,none⟩)])]).run prog w= .ok (.bool true) w:=by kernel_rfl
theorem Ycb(v:Value)(w:World):(ReflectliteType.typeOf #[.iface 36 v]).run prog w= .ok (.iface 323 (.agg #[.pointer (some ⟨13,36,none⟩)])) w:=by kernel_rfl
theorem Yci(w:World):(ReflectliteType.relation "AssignableTo" ReflectliteType.assignableTo #[.agg #[.pointer (some ⟨13,36,none⟩)],.iface 323 (.agg #[.pointer (some ⟨13,36,none⟩)])]).run prog w= .ok (.bool true) w:=by kernel_rfl
theorem Ycc(v:Value)(w:World):(ReflectliteType.typeOf #[.iface 120 v]).run prog w= .ok (.iface 323 (.agg #[.pointer (some ⟨13,120,none⟩)])) w:=by kernel_rfl
theorem Ycj(w:World):(ReflectliteType.relation "AssignableTo" ReflectliteType.assignableTo #[.agg #[.pointer (some ⟨13,120,none⟩)],.iface 323 (.agg #[.pointer (some ⟨13,36,none⟩)])]).run prog w= .ok (.bool false) w:=by kernel_rfl
theorem YaA(n:Int)(w:World):(ReflectliteValue.unpack (.iface 36 (.int .i64 n))).run prog w
 = .ok (.agg #[.pointer (some ⟨13,36,none⟩),.pointer (some ⟨w.heap.size,0,none⟩),.int .u64 130]) (w.alloc (.cells #[.int .i64 n] 36)):=by kernel_rfl
theorem Ycg(w:World):(Rtype.elem? 196).run prog w= .ok (some 36) w:=by kernel_rfl
theorem ea_mkE(p:Addr)(w:World):(ReflectliteValue.mk 36 p ReflectliteValue.flagAddr).run prog w= .ok (.agg #[.pointer (some ⟨13,36,none⟩),.pointer (some p),.int .u64 386]) w:=by kernel_rfl
theorem YdL(a p:Addr)(W:World)(ha:W.cell? a=some (.pointer (some p))):
 (ReflectliteValue.method (ReflectliteValue.valueError "reflectlite.Value.Elem" 0) ReflectliteValue.elem #[.agg #[.pointer (some ⟨13,196,none⟩),.pointer (some a),.int .u64 150]]).run prog W
  = .ok (.agg #[.pointer (some ⟨13,36,none⟩),.pointer (some p),.int .u64 386]) W:=by
 rw[ea_rlm];simp only[Sem.run_bind,Y9p,Result.andThen];simp[ReflectliteValue.elem,loadVar,isAgg,underlying,underlying196,ha,Result.andThen,Ycg,ea_mkE]
theorem ea_rls(v x:Value):ReflectliteValue.set #[v,x]=(do
 let (some (dst,a,fl),some (src,b,_)):=(←ReflectliteValue.parts v,←ReflectliteValue.parts x)
  | unsupported (.noEntry "extern/(internal/reflectlite.Value).Set.zeroValue")
 if fl / ReflectliteValue.flagAddr % 2 == 0 then unsupported (.noEntry "extern/(internal/reflectlite.Value).Set.unaddressable")
 let val ←loadVar src b
 if ←Rtype.directlyAssignable dst src then storeVar dst a val
 else if ←Rtype.implements dst src then
  if(←Rtype.kind src) == 20 then
   match val with
   | .nilIface=>unsupported (.noEntry "extern/reflectlite: a nil value of one interface type handed on as a value of another")
   | _=>storeVar dst a val
  else storeVar dst a (.iface src val)
 else panicString ("reflectlite.Set: value of type " ++ (←Rtype.spelt src) ++ " is not assignable to type " ++ (←Rtype.spelt dst))
 pure (.tuple #[])):=rfl
theorem Ycd(a:Addr)(w:World):(ReflectliteValue.parts (.agg #[.pointer (some ⟨13,36,none⟩),.pointer (some a),.int .u64 386])).run prog w= .ok (some (36,a,386)) w:=by kernel_rfl
theorem YdJ(a:Addr)(w:World):(ReflectliteValue.parts (.agg #[.pointer (some ⟨13,36,none⟩),.pointer (some a),.int .u64 130])).run prog w= .ok (some (36,a,130)) w:=by kernel_rfl
theorem Ych(w:World):(Rtype.directlyAssignable 36 36).run prog w= .ok true w:=by kernel_rfl
theorem ea_setE(ta b:Addr)(n:Int)(old:Value)(W:World)(hb:W.cell? b=some (.int .i64 n))(ht:W.cell? ta=some old)(hf:W.frozen? ta=false):
 (ReflectliteValue.set #[.agg #[.pointer (some ⟨13,36,none⟩),.pointer (some ta),.int .u64 386],.agg #[.pointer (some ⟨13,36,none⟩),.pointer (some b),.int .u64 130]]).run prog W
  = .ok (.tuple #[]) (W.setCell ta (.int .i64 n)):=by
 rw[ea_rls];simp only[Sem.run_bind,Ycd,YdJ,Result.andThen];simp[ReflectliteValue.flagAddr,loadVar,isAgg,underlying,underlying36,hb,Result.andThen,Ych,storeVar,Value.cells,storeCells,Addr.add];rw[run_store prog W ta _ _ (by rfl)];simp[ht,hf]
theorem ea_mKind(h:Value)(w:World):(Go.method 548 323 (.agg #[h]) "Kind").run prog w= .ok (283,h) w:=by kernel_rfl
theorem ea_mElem(h:Value)(w:World):(Go.method 548 323 (.agg #[h]) "Elem").run prog w= .ok (299,.agg #[h]) w:=by kernel_rfl
theorem ea_mImpl(h:Value)(w:World):(Go.method 548 323 (.agg #[h]) "Implements").run prog w= .ok (300,.agg #[h]) w:=by kernel_rfl
theorem Ycf(h:Value)(w:World):(Go.method 548 323 (.agg #[h]) "AssignableTo").run prog w= .ok (297,.agg #[h]) w:=by kernel_rfl
theorem Yce(a:Addr)(w:World):(Go.method 548 120 (.pointer (some a)) "Unwrap").run prog w= .ok (291,.pointer (some a)) w:=by kernel_rfl
end
section
open Go.Proofs.Tryz
open Go.RowKit Go.Extern.Stop Go.Stop Go.Extern
theorem Zf{P Q:Prop}(k:Q)(h:Q→P:=by
 have n8:=YdK ⟨w.heap.size,0,none⟩ t ((w.alloc (.cells #[.pointer (some t)] 196)).alloc (.cells #[.pointer (some ⟨13,196,none⟩),.pointer (some ⟨w.heap.size,0,none⟩),.int .u64 150] 266)) Z2t
 have hlt:0<w.heap.size:=by
  rcases YeU 0 w.heap.size with h0 | h
  ·exact h0
  ·simp[World.cell?,YeA h]at hg
 have hg2:((w.alloc (.cells #[.pointer (some t)] 196)).alloc (.cells #[.pointer (some ⟨13,196,none⟩),.pointer (some ⟨w.heap.size,0,none⟩),.int .u64 150] 266)).cell? ⟨0,0,none⟩=some (.iface 323 (.agg #[.pointer (some ⟨13,43,none⟩)])):=by
  rw[YeG _ _ ⟨0,0,none⟩ (by simp<;>omega),YeG _ _ ⟨0,0,none⟩ hlt]
  exact hg
 have htl:t.block<w.heap.size:=by
  rcases YeU t.block w.heap.size with h | h
  ·exact h
  ·simp[World.cell?,YeA h]at ht0
 have el:=YdL ⟨w.heap.size,0,none⟩ t (((w.alloc (.cells #[.pointer (some t)] 196)).alloc (.cells #[.pointer (some ⟨13,196,none⟩),.pointer (some ⟨w.heap.size,0,none⟩),.int .u64 150] 266)).alloc (.cells #[.pointer (some ⟨13,196,none⟩),.pointer (some ⟨w.heap.size,0,none⟩),.int .u64 150] 266)) (by rw[YeG _ _ ⟨w.heap.size,0,none⟩ (by simp<;>omega),YeG _ _ ⟨w.heap.size,0,none⟩ Z2t,World.cell?_alloc_at _ _ _ _ rfl];rfl)
 have st:=ea_setE t ⟨w.heap.size+1+1+1,0,none⟩ n old ((((w.alloc (.cells #[.pointer (some t)] 196)).alloc (.cells #[.pointer (some ⟨13,196,none⟩),.pointer (some ⟨w.heap.size,0,none⟩),.int .u64 150] 266)).alloc (.cells #[.pointer (some ⟨13,196,none⟩),.pointer (some ⟨w.heap.size,0,none⟩),.int .u64 150] 266)).alloc (.cells #[.int .i64 n] 36))
  (by rw[World.cell?_alloc_at _ _ _ _ Z2t];rfl)
  (by rw[YeG _ _ t (by simp;exact Z7),YeG _ _ t (by simp;exact Z7),YeG _ _ t (by simp;exact Z7),YeG _ _ t htl];exact ht0)
  (by rw[YfY _ _ t (by simp;exact Z7),YfY _ _ t (by simp;exact Z7),YfY _ _ t (by simp;exact Z7),YfY _ _ t (Nat.ne_of_lt htl)];exact hf0)
 refine fun z_=>?_
 revert st;revert el;revert htl;revert hg2;revert hlt;revert n8
 exact z_):P:=h k
theorem Zk{P Q:Prop}(k:Q)(h:Q→P:=by
 have hVO:=@run_callFunc_extern prog 138 _ (fun args=>ReflectliteValue.unpack (args.getD 0 (.tuple #[]))) func138 (by kernel_rfl) (by kernel_rfl) (by kernel_rfl) (by kernel_rfl)
 have hVT:=@run_callFunc_extern prog 139 _ (ReflectliteValue.methodAny (ReflectliteValue.valueError "reflectlite.Value.Type" 0) (fun t _ _ _=>ReflectliteType.toType t)) func139 (by kernel_rfl) (by kernel_rfl) (by kernel_rfl) (by kernel_rfl)
 have hVN:=@run_callFunc_extern prog 140 _ (ReflectliteValue.method (ReflectliteValue.valueError "reflectlite.Value.IsNil" 0) ReflectliteValue.isNil) func140 (by kernel_rfl) (by kernel_rfl) (by kernel_rfl) (by kernel_rfl)
 have hK:=@run_callFunc_extern prog 283 _ (ReflectliteType.abiMethod fun t=>do pure (.int .u8 (←Rtype.kind t))) func283 (by kernel_rfl) (by kernel_rfl) (by kernel_rfl) (by kernel_rfl)
 have hE:=@run_callFunc_extern prog 299 _ (ReflectliteType.method ReflectliteType.elem) func299 (by kernel_rfl) (by kernel_rfl) (by kernel_rfl) (by kernel_rfl)
 have hI:=@run_callFunc_extern prog 300 _ (ReflectliteType.relation "Implements" ReflectliteType.implements_) func300 (by kernel_rfl) (by kernel_rfl) (by kernel_rfl) (by kernel_rfl)
 have hTO:=@run_callFunc_extern prog 188 _ ReflectliteType.typeOf func188 (by kernel_rfl) (by kernel_rfl) (by kernel_rfl) (by kernel_rfl)
 have hA:=@run_callFunc_extern prog 297 _ (ReflectliteType.relation "AssignableTo" ReflectliteType.assignableTo) func297 (by kernel_rfl) (by kernel_rfl) (by kernel_rfl) (by kernel_rfl)
 have hVE:=@run_callFunc_extern prog 189 _ (ReflectliteValue.method (ReflectliteValue.valueError "reflectlite.Value.Elem" 0) ReflectliteValue.elem) func189 (by kernel_rfl) (by kernel_rfl) (by kernel_rfl) (by kernel_rfl)
 have hS:=@run_callFunc_extern prog 190 _ ReflectliteValue.set func190 (by kernel_rfl) (by kernel_rfl) (by kernel_rfl) (by kernel_rfl)
 have m1:=ea_mKind
 have m2:=ea_mElem
 have m3:=ea_mImpl
 have m4:=Ycf
 have f1:=Yaz
 have f2:=ea_typeP
 have f3:=ea_kindP
 have f4:=ea_kindE
 have f5:=YdM
 have f6:=ea_implE
 have f7:=Ycb
 have f8:=Yci
 have f9:=YaA
 refine fun z_=>?_
 revert f9;revert f8;revert f7;revert f6;revert f5;revert f4;revert f3;revert f2;revert f1;revert m4;revert m3;revert m2;revert m1;revert hS;revert hVE;revert hA;revert hTO;revert hI;revert hE;revert hK;revert hVN;revert hVT;revert hVO
 exact z_):P:=h k
theorem Z1C{P:Prop}(h:P:=by
 rw[Yf5]
 go_wp2
 go_ret
 refine⟨rfl,Y3F _ _ old _ (by rw[YeG _ _ t Zd,YeG _ _ t Zd,YeG _ _ t Zd,YeG _ _ t htl];exact ht0),?_⟩
 exact Y4N (((((Yea _ _).alloc (Ye9 _) _).alloc Z2t _).alloc Zd _).alloc Zd _) _ _):P:=h
theorem as_hit(n:Int)(t:Addr)(old:Value)(w:World)(hg:w.cell? ⟨0,0,none⟩=some (.iface 323 (.agg #[.pointer (some ⟨13,43,none⟩)])))(ht0:w.cell? t=some old)(hf0:w.frozen? t=false):
 Calls prog 88 #[.iface 36 (.int .i64 n),.iface 196 (.pointer (some t))] w fun ev w'=>ev= .returned (.bool true)∧w'.cell? t=some (.int .i64 n)∧Below w.heap.size (w.setCell t (.int .i64 n)) w':=by
 refine Zk ?_;intro hVO hVT hVN hK hE hI hTO hA hVE hS m1 m2 m3 m4 f1 f2 f3 f4 f5 f6 f7 f8 f9;refine Zf ?_;intro n8 hlt hg2 htl el st;go_enter func88,ntmps88;go_wp2;refine Yf7 1 ?_;exact Z1C
theorem as_at(n pl:Int)(a t:Addr)(old:Value)(w:World)(hg:w.cell? ⟨0,0,none⟩=some (.iface 323 (.agg #[.pointer (some ⟨13,43,none⟩)])))(ht0:w.cell? t=some old)(hf0:w.frozen? t=false)
 (hsp:a.spot=none) (ha0:w.cell? a=some (.int .i64 n)):
 Calls prog 88 #[.iface 120 (.pointer (some a)),.iface 196 (.pointer (some t))] w fun ev w'=>ev= .returned (.bool true)∧w'.cell? t=some (.int .i64 n)∧Below w.heap.size (w.setCell t (.int .i64 n)) w':=by
 refine Zk ?_;intro hVO hVT hVN hK hE hI hTO hA hVE hS m1 m2 m3 m4 f1 f2 f3 f4 f5 f6 f7 f8 f9;have f10:=Ycc;have f11:=Ycj;have f12:=Yce
 have ta1: ∀ (v:Value) (w:World),(Instr.typeAssert (.iface 120 v) 43 328 true).run prog w= .ok (.tuple #[.nilIface,.bool false]) w:=
  fun v w=>run_typeAssert_lacksB underlying328 (by kernel_rfl) (by kernel_rfl) v _ w
 have ta2: ∀ (v:Value) (w:World),(Instr.typeAssert (.iface 120 v) 43 198 true).run prog w= .ok (.tuple #[.iface 120 v,.bool true]) w:=
  fun v w=>run_typeAssert_hasB underlying198 (by kernel_rfl) v _ w
 refine Zf ?_;intro n8 hlt hg2 htl el st
 have hal:a.block<w.heap.size:=by
  rcases YeU a.block w.heap.size with h | h
  ·exact h
  ·simp[World.cell?,YeA h]at ha0
 have ha2:(((w.alloc (.cells #[.pointer (some t)] 196)).alloc (.cells #[.pointer (some ⟨13,196,none⟩),.pointer (some ⟨w.heap.size,0,none⟩),.int .u64 150] 266)).alloc (.cells #[.pointer (some ⟨13,196,none⟩),.pointer (some ⟨w.heap.size,0,none⟩),.int .u64 150] 266)).cell? a=some (.int .i64 n):=by
  rw[YeG _ _ a Zd,YeG _ _ a Zd,YeG _ _ a hal];exact ha0
 go_enter func88,ntmps88;go_wp2;refine Yf7 2 ?_;rw[Yf5];go_wp2;exact Z1C
end
end Go.Proofs.YtfadikchijkcfaaGreatDoor
