/- What a row that lists errors.errorType alone gives a walk, and a world that meets it. -/
import Derived.Test.YtfadikchijkcfaaGreatDoorParsePure
import Derived.Test.YtfadikchijkcfaaGreatDoorRows
import Derived.Test.YtfadikchijkcfaaGreatDoorCards
import Derived.Test.YtfadikchijkcfaaGreatDoorTie
import Derived.Test.YtfadikchijkcfaaGreatDoorAhs
import Derived.ProofKit
import Derived.OpenShut
import Derived.ShutString
import Derived.ChangeSame
import Derived.ChangeVars
import Derived.JoinedOf
import Derived.RowKit
import Derived.RowKitTokens
import Derived.LaidLaws
import Derived.LaidHandle
import Derived.Stop.Joined
import Derived.SevenTiedAt
import Derived.LaidSub
import Derived.LaidMore
import Derived.Lay
import Derived.Lib.LaidTab
set_option linter.unusedVariables false
set_option linter.unusedSectionVars false
set_option linter.unusedSimpArgs false
namespace Go.Proofs.YtfadikchijkcfaaGreatDoor.cardBase
open Go.Proofs.Tryz
open Go.ChangeShapes Go.WideShapes Go.RowKit
theorem looksOn:true=Tryz.pinned.checked.prog.looks []:=by kernel_rfl
theorem et:prog.globalNamed "errors.errorType" =some 0:=by kernel_rfl
theorem rt:(prog.cutTypes.find? (·.1 == "internal/reflectlite.rtype")).map (·.2)=some 323:=by kernel_rfl
theorem oneRow:((List.range 448).filter fun t=>prog.rowNamed t [101,114,114,111,114])= [43]:=by kernel_rfl
theorem size:prog.types.size=448:=by kernel_rfl
theorem etype_of_laid{L:List (String×DataW Unit)}(hmem:("errors.errorType",Rows.laid_errors_errorType)∈L){W:World}(h:laidMetH prog L W):Y2e W:=by
 have hm:("errors.errorType",(Rows.laid_errors_errorType:DataW Unit))∈L.filter fun x=>x.2.handleName?.isSome:=YfR.2 ⟨hmem,by kernel_rfl⟩
 obtain⟨name,u,ty,e1,e2,e3,e4,e5⟩:=(laidMetH_iff.1 h).2 _ hm;have en:name= [101,114,114,111,114]:=(Yey e1).symm;subst en;obtain rfl:=Yey (rt.symm.trans e2);have hm:ty∈ (List.range 448).filter fun t=>prog.rowNamed t [101,114,114,111,114]:=YfR.2 ⟨Yf6.2 (by rw[←size];exact e3),e4⟩
 rw[oneRow]at hm;obtain rfl:=Yfs.1 hm;have hh:typeHandle prog 43= .pointer (some ⟨13,43,none⟩):=by kernel_rfl
 rw[hh]at e5;simpa[Y2e]using World.var?_cell et e5 0
noncomputable def Y54(os:Os):World:=
 let w0:=World.holding prog os ⟨#[],#[],[]⟩
 {w0 with heap:=w0.heap.modify 0 fun
   | .cells _ t frozen=> .cells #[.iface 323 (.agg #[.pointer (some ⟨13,43,none⟩)])] t frozen
   | o=>o}
noncomputable def laidWorldL(L:List (String×DataW Unit))(os:Os):World:=(Y54 os).layVars prog (L.filter fun x=>x.2.handleName?.isNone)
theorem laidWorldL_os(L:List (String×DataW Unit))(os:Os):(laidWorldL L os).os=os:=World.layVars_os _ _ _
theorem laidWorldL_met(L:List (String×DataW Unit))(os:Os)(args:Array Value)
 (hf:(Y54 os).layFits prog (L.filter fun x=>x.2.handleName?.isNone) []=true)
 (hi:(Y54 os).layIfaces prog (L.filter fun x=>x.2.handleName?.isNone) (laidWorldL L os)=true)
 (hh:(L.filter fun x=>x.2.handleName?.isSome).all (handleAtB prog ((laidWorldL L os).forCall (fun _ _=>0) ⟨#[],args,[]⟩).memory)=true):
 laidMetH prog L ((laidWorldL L os).forCall (fun _ _=>0) ⟨#[],args,[]⟩).memory:=by
 refine laidMetH_of_parts ?_ hh;generalize hl:(L.filter fun x=>x.2.handleName?.isNone)=laid at *;have e1:(laid.filter fun x=>(laid.map (·.1)).contains x.1)=laid:=List.filter_eq_self.2 fun x hx=>Yfj.2 (Yg4.2 ⟨x,hx,rfl⟩)
 have e2:(laid.filter fun x=> !(laid.map (·.1)).contains x.1)= []:=YeQ.2 fun x hx=>by rw[Yfj.2 (Yg4.2 ⟨x,hx,rfl⟩)];exact Z2t
 have h:laidMet prog laid (laidWorldL L os):=laidMet_layVars (w0:=Y54 os) (laid.map (·.1)) [] (by rw[e1,laidWorldL,hl]) (by rw[e1];exact hf) (by rw[e1];exact hi) (by rw[e2];exact LaidIn.none);exact h.of_heap (by simp[World.memory,World.forCall,Input.heap])
theorem tab_of_laid{L:List (String×DataW Unit)}{name:String}{k:IntKind}{zs:List Int}{g n:Nat}{t e:TypeId}(hfl:(L.filter fun x=>x.2.handleName?.isNone).filter (fun x=>x.1 == name)= [(name,Lib.tabData k zs)])
 (hg:prog.globalNamed name=some g) (hty:(prog.globals[g]?).map (·.type)=some t) (ht:prog.underlying t=some (.array n e)) (he:prog.underlying e=some (.int k)) (hce:prog.cellsOf e=1) (hct:prog.cellsOf t=n)
 {W:World} (h:laidMetH prog L W):Lib.TabIs prog W name k zs:=by
 have h2:=((laidMetH_iff.1 h).1).filter fun x=>x.1 == name
 rw[hfl]at h2;exact Lib.tabIs_of_head hg hty ht he hce hct h2
end Go.Proofs.YtfadikchijkcfaaGreatDoor.cardBase
