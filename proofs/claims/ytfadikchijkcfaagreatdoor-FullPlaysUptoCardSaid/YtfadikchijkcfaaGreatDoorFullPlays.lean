/- The law quaymasterlaw.FullPlays returns true at every input of bounded bulk: the row over its walk, and the tied card. Its conditions are the given row's and card's. -/
import Derived.Test.YtfadikchijkcfaaGreatDoorParsePure
import Derived.Test.YtfadikchijkcfaaGreatDoorCardBase
import Derived.Test.YtfadikchijkcfaaGreatDoorFullPlaysRow
import Derived.Test.YtfadikchijkcfaaGreatDoorConf
import Derived.Deep.DeepHandedRow
import Derived.Lib.LaidTab
set_option linter.unusedVariables false
set_option linter.unusedSectionVars false
set_option linter.unusedSimpArgs false
set_option maxRecDepth 100000
namespace Go.Proofs.YtfadikchijkcfaaGreatDoor.fullPlays
open Go.Proofs.Tryz
open Go.ChangeShapes Go.WideShapes Go.ChangeAt Go.RowKit
open Go.ChangeMaps (open_string shut_string)
theorem Yan:laidOutB prog=true:=by kernel_rfl
theorem own:ownKnob prog.godebug=none:=by kernel_rfl
theorem reads(os:Os){H:Type}(enc:TypeId×Value→H):DataW.whole enc prog ((cardBase.laidWorldL Rows.fullPlaysUptoRow.laid os).forCall (fun _ _=>0) ⟨#[],#[.agg #[.slice none 0 0,.slice none 0 0,.slice none 0 0,.string ⟨#[]⟩,.string ⟨#[]⟩,.int .i64 0,.slice none 0 0],.slice none 0 0,.string ⟨#[]⟩,.bool false,.int .u32 0,.int .u32 0,.slice none 0 0],[]⟩).memory Tryz.f3.params.toList Rows.fullPlaysSpec.vars false (#[.agg #[.slice none 0 0,.slice none 0 0,.slice none 0 0,.string ⟨#[]⟩,.string ⟨#[]⟩,.int .i64 0,.slice none 0 0],.slice none 0 0,.string ⟨#[]⟩,.bool false,.int .u32 0,.int .u32 0,.slice none 0 0]:Array Value).toList 8=some ([.agg [.nil,.nil,.nil,.agg [.lit (.string []),.lit (.string [])],.lit (.int .i64 0),.nil],.nil,.lit (.string []),.lit (.bool false),.lit (.int .u32 0),.lit (.int .u32 0),.nil],[],[]):=by kernel_rfl
theorem Y8N{H:Type}{enc:TypeId×Value→H}{C:Checked}{os:Os}{f:FuncId}{fn:Func}{s:OpenSpec}{conds:List PathCond}{apart:Bool}{laid:List (String×DataW Unit)}(modest:Bool)(w0:World)(args:Array Value)(hos:w0.os=os)
 (hsh:(w0.forCall (fun _ _=>0) ⟨#[],args,[]⟩).Shaped C.prog) (hok:Input.okWideB C.prog (w0.forCall (fun _ _=>0) ⟨#[],args,[]⟩) f ⟨#[],args,[]⟩=true)
 (hrow:s.preRow enc C.prog fn conds apart laid (w0.forCall (fun _ _=>0) ⟨#[],args,[]⟩).memory args):
 ∃ (w:World) (tape:Tape) (i:Input),w.os=os∧(w.forCall tape i).Shaped C.prog∧i.vars= []∧Input.okWide C.prog (w.forCall tape i) .any w.heap.size f i∧
  s.preRow enc C.prog fn conds apart laid (w.forCall tape i).memory i.args∧({modest:=modest}:Assume).holds C.prog (lone (Frame.enter C.prog f i.args .normal) [] (w.forCall tape i)):=
 ⟨w0,fun _ _=>0,⟨#[],args,[]⟩,hos,hsh,(Input.okWide_of_okWideB (base:=0) hok).1,(Input.okWide_of_okWideB hok).2,hrow,by
   simp only[Assume.holds]
   exact⟨by simp,by simp,fun _=>Modest.zero,by simp,by simp⟩⟩
theorem lifted(os:Os)(started:os.Started)(H:Type)(enc:TypeId×Value→H)(F:Stop.Interp):
 ReturnsInHanded {} Tryz.checked os 3 .any ((Rows.OpenSpec.upto Rows.fullPlaysSpec).preRow enc prog Tryz.f3 Rows.fullPlaysUptoRow.domain false Rows.fullPlaysUptoRow.laid) (((Rows.OpenSpec.upto Rows.fullPlaysSpec).at F).post enc prog Tryz.f3 false true false false):=by
 refine returnsInHanded_of_row (C:=Tryz.checked) (s:=(Rows.OpenSpec.upto Rows.fullPlaysSpec)) own started (by kernel_rfl) func3
  (Y8N (enc:=enc) (C:=Tryz.checked) false (cardBase.laidWorldL Rows.fullPlaysUptoRow.laid os) #[.agg #[.slice none 0 0,.slice none 0 0,.slice none 0 0,.string ⟨#[]⟩,.string ⟨#[]⟩,.int .i64 0,.slice none 0 0],.slice none 0 0,.string ⟨#[]⟩,.bool false,.int .u32 0,.int .u32 0,.slice none 0 0] (cardBase.laidWorldL_os _ _) (World.shaped_of_ZipB (by kernel_rfl) (by kernel_rfl)) (by kernel_rfl)
    (OpenSpec.preRow_of_cond 8 (reads os enc) (by kernel_rfl) (fun k hk=>by cases hk;kernel_rfl) (by kernel_rfl) (cardBase.laidWorldL_met _ os _ (by kernel_rfl) (by kernel_rfl) (by kernel_rfl)))) ?_
 intro W base args ds gs before hval0 hW _ hcond hsz hL hsh _;have hbk:Rows.uptoBulkAll (ds ++ gs)≤1048576:=YeE (hcond _ rfl);have hval: ∀ (j:Nat) t v,Tryz.f3.params[j]?=some t→args[j]?=some v→Value.okWide prog W .any base t v:=hval0;have hW':=hW;obtain⟨p,q,hA0,hV,rfl,hfz,hnd⟩:=hW;have hA:DataW.TrodAll enc prog W 0 (fun _=>true) true Tryz.f3.params.toList args.toList ds p:=hA0
 rw[Tryz.params3]at hA hval;obtain⟨v0,vs0,d0,ds0,p0,q0,hargs,rfl,rfl,h0,r0⟩:=trodAll_cons hA;obtain⟨v1,vs1,d1,ds1,p1,q1,rfl,rfl,rfl,h1,r1⟩:=trodAll_cons r0;obtain⟨v2,vs2,d2,ds2,p2,q2,rfl,rfl,rfl,h2,r2⟩:=trodAll_cons r1;obtain⟨v3,vs3,d3,ds3,p3,q3,rfl,rfl,rfl,h3,r3⟩:=trodAll_cons r2;obtain⟨v4,vs4,d4,ds4,p4,q4,rfl,rfl,rfl,h4,r4⟩:=trodAll_cons r3;obtain⟨v5,vs5,d5,ds5,p5,q5,rfl,rfl,rfl,h5,r5⟩:=trodAll_cons r4
 obtain⟨v6,vs6,d6,ds6,p6,q6,rfl,rfl,rfl,h6,r6⟩:=trodAll_cons r5;obtain⟨rfl,rfl,rfl⟩:=trodAll_nil r6;obtain rfl:args= #[v0,v1,v2,v3,v4,v5,v6]:=by cases args;simp_all
 obtain⟨rfl,rfl⟩:=trodVars_none hV;have h0k:=h0;have hlt0: ∀x∈p0,x.block<W.heap.size:=fun x hx=>hW'.lt x (by simp[hx])
 obtain⟨ta0,ga0,ua0,oa0,tc0,gc0,uc0,oc0,ts0,gs0,us0,sn0,ss0,lim0,own0,rfl,gC0⟩:=YdU (hval 0 29 v0 rfl rfl) h0 (Yeu (Y8u Z2t) hbk);obtain⟨sa1,sl1,sc1,rfl⟩:=okWide_slice underlying27 (hval 1 27 v1 rfl rfl);have h1k:=h1;obtain⟨fuel1,hf1⟩:=h1;have hlt1: ∀x∈p1,x.block<W.heap.size:=fun x hx=>hW'.lt x (by simp[hx])
 obtain⟨l1,rfl,gs1,gt1,gc1⟩:=YbQ hf1 (Yeu (Y8u Z2t) hbk);obtain⟨a2,rfl,rfl,rfl,w2⟩:=open_string underlying9 (hval 2 9 v2 rfl rfl) h2;obtain⟨a3,rfl,rfl,rfl⟩:=open_bool underlying4 (hval 3 4 v3 rfl rfl) h3;obtain⟨a4,rfl,rfl,rfl,w4⟩:=open_int underlying30 (hval 4 30 v4 rfl rfl) h4;have b4:=bounds_u32 w4;obtain⟨a5,rfl,rfl,rfl,w5⟩:=open_int underlying30 (hval 5 30 v5 rfl rfl) h5
 have b5:=bounds_u32 w5;obtain⟨sa6,sl6,sc6,rfl⟩:=okWide_slice underlying31 (hval 6 31 v6 rfl rfl);have h6k:=h6;obtain⟨fuel6,hf6⟩:=h6;have hlt6: ∀x∈p6,x.block<W.heap.size:=fun x hx=>hW'.lt x (by simp[hx])
 obtain⟨l6,rfl,gs6,gt6⟩:=pdus_arg hf6 (Yeu (Y8u Z2t) hbk);clear hA0 hval0;refine(Y8g ta0 ga0 ua0 oa0 sa1 sa6 tc0 gc0 uc0 oc0 sc1 sc6 ts0 gs0 us0 sn0 ss0 lim0 own0 l1 a2 a3 a4 a5 l6 W gC0 gs1 gt1 gc1 w2 b4.1 b4.2 b5.1 b5.2 gs6 gt6 (Y9c hsh) hL).mono fun e W' ⟨he,bel⟩=> ?_
 subst he;exact⟨_,rfl,_,_,_,[],_,[],hW',trodAll_mk1 (shut_bool underlying4 _),(trodAll_cons_mk (Below.trod Yan (by kernel_rfl) (YeE (by kernel_rfl)) h0k bel hlt0) (trodAll_cons_mk (Below.trod Yan (by kernel_rfl) (YeE (by kernel_rfl)) h1k bel hlt1) (trodAll_cons_mk (shut_string underlying9 w2) (trodAll_cons_mk (shut_bool underlying4 a3) (trodAll_cons_mk (shut_int underlying30 w4) (trodAll_cons_mk (shut_int underlying30 w5) (trodAll_cons_mk (Below.trod Yan (by kernel_rfl) (YeE (by kernel_rfl)) h6k bel hlt6) trodAll_mk0))))))),rfl,bel.frame _,fun h=>by cases h⟩
theorem fact0:(Rows.fullPlaysUptoRow.inPlace == Tryz.pinned.checked.prog.inPlace 3)=true:=by kernel_rfl
theorem fact1:(Rows.fullPlaysUptoRow.unfollowed == Tryz.pinned.checked.prog.unfollowed 3)=true:=by kernel_rfl
theorem fact2:(Rows.fullPlaysUptoRow.recurses == Tryz.pinned.checked.prog.recurses 3)=true:=by kernel_rfl
theorem fact3:(Rows.fullPlaysUptoRow.named == Tryz.pinned.checked.prog.varsNamed 3)=true:=by kernel_rfl
theorem facts:joinedFacts Tryz.pinned.checked.prog 3 Tryz.f3 (Rows.OpenSpec.upto Rows.fullPlaysSpec).bare Rows.fullPlaysUptoRow=true:=by
 unfold joinedFacts;simp only[Yf9]
 and_intros
 all_goals first | with_reducible exact fact0 | with_reducible exact fact1 | with_reducible exact fact2 | with_reducible exact fact3 | kernel_rfl
theorem said:Rows.FullPlaysUptoSaid:=
 OpenClaim.holds_of_cond 3 Tryz.f3 rfl rfl rfl rfl rfl rfl rfl ⟨rfl,rfl,rfl,rfl,rfl⟩ rfl rfl rfl rfl rfl (by kernel_rfl) func3 facts
  (YeE (by kernel_rfl)) (by unfold Func.isWrapper;first | (rw[Yei (by decide +kernel)];kernel_rfl) | (rw[Yed (by decide +kernel)];exact⟨rfl,rfl⟩))
  (fun os started H enc _ F=>by rw[OpenClaim.pre_eq_preRow];exact lifted os started H enc F)
theorem Y3g(f:FuncId)(fn:Func)(hf:Tryz.pinned.checked.prog.funcNamed "quaymaster/quaymasterlaw.FullPlays" =some f)(hfn:Tryz.pinned.checked.prog.funcs[f]?=some fn):
 true=Tryz.pinned.checked.prog.looks []∧ ∀ (j:Nat) t,fn.params[j]?=some t→Tryz.pinned.checked.prog.wantsStandIn t=false:=by
 obtain rfl:f=3:=Yey ((show prog.funcNamed "quaymaster/quaymasterlaw.FullPlays" =some 3 by kernel_rfl).symm.trans hf) |>.symm
 obtain rfl:fn=Tryz.f3:=(Yey (func3.symm.trans hfn)).symm;refine⟨cardBase.looksOn,fun j t ht=> ?_⟩;rw[Tryz.params3]at ht;have hm:=Array.mem_of_getElem? ht;simp only[List.mem_toArray,Yf0,List.not_mem_nil,or_false]at hm;rcases hm with rfl | rfl | rfl | rfl | rfl | rfl | rfl
 ·exact(show prog.wantsStandIn 29=false by kernel_rfl)
 ·exact(show prog.wantsStandIn 27=false by kernel_rfl)
 ·exact(show prog.wantsStandIn 9=false by kernel_rfl)
 ·exact(show prog.wantsStandIn 4=false by kernel_rfl)
 ·exact(show prog.wantsStandIn 30=false by kernel_rfl)
 ·exact(show prog.wantsStandIn 30=false by kernel_rfl)
 ·exact(show prog.wantsStandIn 31=false by kernel_rfl)
theorem card:Rows.FullPlaysUptoCardSaid:=
 Claim7.holds_tied_plain_at .later [] _ _ _ _ said (fun _ h=>by cases h) (by kernel_rfl) (fun _ h=>by cases h) fullPlaysUpto_row_tie rfl ⟨rfl,rfl⟩ (by kernel_rfl) rfl Y3g (by kernel_rfl)
#print axioms card
end Go.Proofs.YtfadikchijkcfaaGreatDoor.fullPlays
