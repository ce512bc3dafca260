/- A session behind a login, by the document: a PDU is taken in. -/
import Derived.Test.YtfadikchijkcfaaGreatDoorParsePure
import Derived.Test.YtfadikchijkcfaaGreatDoorFullNopR
import Derived.Test.YtfadikchijkcfaaGreatDoorFullTake
import Derived.Test.YtfadikchijkcfaaGreatDoorSame
import Derived.Deep.RegionHeld3
import Derived.Test.YtfadikchijkcfaaGreatDoorBothN
set_option linter.unusedVariables false
set_option linter.unusedSectionVars false
set_option linter.unusedSimpArgs false
set_option maxRecDepth 100000
set_option maxHeartbeats 2000000
namespace Go.Proofs.YtfadikchijkcfaaGreatDoor
section
open Go.Proofs.Tryz
open Go Go.RowKit
abbrev RS9(w:World)(g y:Nat)(p:PK)(va:Option Addr)(vc:Nat)(aa:Option Addr)(ac:Nat)(wb W:World):Prop:=W.cell? ⟨w.heap.size+1,0,none⟩=some (.int .i64 p.op)∧W.cell? ⟨w.heap.size+1,1,none⟩=some (.bool p.now)∧W.cell? ⟨w.heap.size+1,2,none⟩=some (.int .i64 p.flags)∧W.cell? ⟨w.heap.size+1,3,none⟩=some (.slice va p.vs.length vc)∧W.cell? ⟨w.heap.size+1,4,none⟩=some (.slice aa p.n ac)∧W.cell? ⟨w.heap.size+1,5,none⟩=some (.string (bs p.d))∧W.cell? ⟨w.heap.size,0,none⟩=some (.pointer (some ⟨g,0,none⟩))∧W.cell? ⟨y,0,none⟩=some (.int .u64 (p.v Ye:Nat))∧Below wb.heap.size wb W
abbrev RS10(w:World)(g y:Nat)(p:PK)(va:Option Addr)(vc:Nat)(aa:Option Addr)(ac:Nat)(cm:Int)(wb W:World):Prop:=W.cell? ⟨w.heap.size+1,0,none⟩=some (.int .i64 p.op)∧W.cell? ⟨w.heap.size+1,1,none⟩=some (.bool p.now)∧W.cell? ⟨w.heap.size+1,2,none⟩=some (.int .i64 p.flags)∧W.cell? ⟨w.heap.size+1,3,none⟩=some (.slice va p.vs.length vc)∧W.cell? ⟨w.heap.size+1,4,none⟩=some (.slice aa p.n ac)∧W.cell? ⟨w.heap.size+1,5,none⟩=some (.string (bs p.d))∧W.cell? ⟨w.heap.size,0,none⟩=some (.pointer (some ⟨g,0,none⟩))∧W.cell? ⟨y,0,none⟩=some (.int .u64 (p.v Ye:Nat))∧W.cell? ⟨g,11,none⟩=some (.int .u32 cm)∧Below wb.heap.size wb W
def Y2o(w2:World)(X:Nat)(d:Nat→Bool)(y:Nat)(W:World):Prop:=
 Below w2.heap.size w2 W∧(d 7=true→d 5=true)∧(d 5=true→w2.heap.size≤y∧Blk W y 106 #[.int .u64 (if d 7=true then(X:Int)else 0)])
theorem Y2o.same{w2 W:World}{X:Nat}{d:Nat→Bool}{y:Nat}(h:Y2o w2 X d y W)(i:Nat)(h1:i≠5)(h2:i≠7):Y2o w2 X (Go.Proofs.YtfadikchijkcfaaGreatDoor.also d i) y W:=by
 unfold Y2o at *;rw[Y4 d h1,Y4 d h2];exact h
theorem Y2o.call{w2 W W2:World}{X:Nat}{d:Nat→Bool}{y:Nat}(h:Y2o w2 X d y W)(hb:Below W.heap.size W W2):Y2o w2 X (Go.Proofs.YtfadikchijkcfaaGreatDoor.also d 4) y W2:=by
 unfold Y2o at *;rw[Y4 d (show 4≠5 from Z7),Y4 d (show 4≠7 from Z7)];exact⟨h.1.trans (hb.mono h.1.size),h.2.1,fun e=>⟨(h.2.2 e).1,(h.2.2 e).2.below hb⟩⟩
theorem Y2o.no{w2 W:World}{X:Nat}{d:Nat→Bool}{y:Nat}(h:Y2o w2 X d y W)(h5:d 5=false):d 7=false:=by
 cases hq:d 7 with
 | false=>rfl
 | true=>rw[h.2.1 hq]at h5;cases h5
theorem Y2o.box{w2 W:World}{X:Nat}{d:Nat→Bool}{y:Nat}(h:Y2o w2 X d y W)(h5:d 5=false):Y2o w2 X (Go.Proofs.YtfadikchijkcfaaGreatDoor.also d 5) W.heap.size (W.alloc (.cells #[.int .u64 0] 106)):=by
 have h7:=h.no h5;unfold Y2o at *;rw[Y4 d (show 5≠7 from Z7),h7];exact⟨h.1.alloc h.1.size _,by simp,fun _=>⟨h.1.size,Blk.new _ _ _⟩⟩
theorem Y2o.put{w2 W:World}{X:Nat}{d:Nat→Bool}{y:Nat}(h:Y2o w2 X d y W)(h5:d 5=true):Y2o w2 X (Go.Proofs.YtfadikchijkcfaaGreatDoor.also d 7) y (W.setCell ⟨y,0,none⟩ (.int .u64 (X:Int))):=by
 unfold Y2o at *;obtain⟨h1,h2⟩:=h.2.2 h5;refine⟨h.1.setCell (p:=⟨y,0,none⟩) h1 _,fun _=>by rw[Y4 d (show 7≠5 from Z7)];exact h5,fun _=>⟨h1,?_⟩⟩;rw[Y1B,Yei rfl];exact h2.set 0 _
theorem Z1{P Q:Prop}(k:Q)(h:Q→P:=by
 have b2:=b1.trans (hb2.mono b1.size)
 have z2:w.heap.size+2≤w2.heap.size:=by rw[←z1];exact hb2.size
 have B2:=HB1.out.below hb2
 have X2:=HX1.out.below hb2
 have x0:=(X2.cell 0).trans (rfl:_=some (Value.pointer (some ⟨g,0,none⟩)))
 refine ZW ?_;intro t0 t1 t2 t3 t4 t5
 have tk:=fun(W:World) (hb:Below w2.heap.size w2 W)=>(⟨(hb.cell (Yeb t0)).trans t0,(hb.cell (Yeb t1)).trans t1,(hb.cell (Yeb t2)).trans t2,(hb.cell (Yeb t3)).trans t3,(hb.cell (Yeb t4)).trans t4,(hb.cell (Yeb t5)).trans t5⟩:W.cell? ⟨w.heap.size+1,0,none⟩=some (Value.int .i64 p.op)∧W.cell? ⟨w.heap.size+1,1,none⟩=some (Value.bool p.now)∧W.cell? ⟨w.heap.size+1,2,none⟩=some (Value.int .i64 p.flags)∧W.cell? ⟨w.heap.size+1,3,none⟩=some (Value.slice va p.vs.length vc)∧W.cell? ⟨w.heap.size+1,4,none⟩=some (Value.slice aa p.n ac)∧W.cell? ⟨w.heap.size+1,5,none⟩=some (Value.string (bs p.d)))
 have TK:=hid tk
 clear tk
 have HB2:=hid B2
 have HX2:=hid X2
 clear B2 X2
 have hmx:prog.follows .mixedOrders=true:=by kernel_rfl
 refine fun z_=>?_
 revert hmx;revert HX2;revert HB2;revert TK;revert t5;revert t4;revert t3;revert t2;revert t1;revert t0;revert x0;revert z2;revert b2
 exact z_):P:=h k
theorem Z2{P:Prop}(h:P:=by
 have cX:=fun W (hb:Below w2.heap.size w2 W)=>CV Ye W ((Y1.refl _ w).below (b2.trans (hb.mono b2.size)))
 refine⟨?o0,?o1,?o2,?o3,?o4,?o5,?o6,?o7,trivial⟩
 all_goals refine⟨by simp,fun d y W hC hd hdep=>⟨by first | (simp[go_sem,Oper.about];done) | (simp[go_sem,Oper.about];exact trivial),?_⟩⟩
 case o4 =>
  refine Yw (f:=56) (args:= #[.agg #[.int .i64 p.op,.bool p.now,.int .i64 p.flags,.slice va p.vs.length vc,.slice aa p.n ac,.string (bs p.d)],.string ⟨#[73,84,84]⟩]) (w':=W) Z3U rfl Z2t (Yez.2 ((cX W hC.1).out.mono ?_))
  rintro e W2 ⟨rfl,hb⟩
  exact⟨y,by simp[go_sem],.inl rfl,hC.call hb⟩
 case o5 =>
  exact YL W.heap.size [9] (w':=W.alloc (.cells #[.int .u64 0] 106)) Z3U rfl (by kernel_rfl) Z3C (hC.box hd)
 case o7 =>
  simp[Region.binds]at hdep
  have h5:d 5=true:=Z2x
  obtain⟨h1,h2⟩:=hC.2.2 h5
  have f0:=h2.free 0
  have c0:=h2.cell 0
  exact YX (w':=W.setCell ⟨y,0,none⟩ (.int .u64 (p.v Ye:Nat))) (by simp[go_sem,f0,c0]) rfl (hC.put h5)
 all_goals
  obtain⟨q0,q1,q2,q3,q4,q5⟩:=TK.out W hC.1
  exact Yz (by simp[go_sem,q0,q1,q2,q3,q4,q5]) rfl (hC.same _ Z7 Z7)):P:=h
theorem Z9{P Q:Prop}(k:Q)(h:Q→P:=by
 obtain⟨hy,Y3⟩:=hbox (hall 5 Z2t)
 rw[Yei (hall 7 Z2t)]at Y3
 have yi:=(Y3.cell 0).trans (rfl:_=some (Value.int .u64 (p.v Ye:Nat)))
 have b3w:=b2.trans (b3.mono b2.size)
 have B3:=HB2.out.below b3
 have X3:=HX2.out.below b3
 have x0:=(X3.cell 0).trans (rfl:_=some (Value.pointer (some ⟨g,0,none⟩)))
 have F3:=HH.out.below b3w
 obtain⟨t0,t1,t2,t3,t4,t5⟩:=TK.out w3 b3
 have hz3:=b3.size
 have HY3:=hid Y3
 have HB3:=hid B3
 have HX3:=hid X3
 refine fun z_=>?_
 revert HX3;revert HB3;revert HY3;revert hz3;revert t5;revert t4;revert t3;revert t2;revert t1;revert t0;revert F3;revert x0;revert X3;revert B3;revert b3w;revert yi;revert Y3;revert hy
 exact z_):P:=h k
theorem Z1R{P:Prop}(h:P:=by
 exact⟨(Yea _ _).drew,by simp⟩):P:=h
theorem Z4V{P Q:Prop}(k:Q)(h:Q→P:=by
 have HK3:=hid ((Y1.refl (SF g gp gn rv) w).below b3w)
 refine fun z_=>?_
 revert HK3
 exact z_):P:=h k
theorem Z4{P Q:Prop}(k:Q)(h:Q→P:=by
 refine ZA ?_;intro HK3 HF3 s11 cvS hS0 hyl HCV
 refine fun z_=>?_
 revert HCV;revert hyl;revert hS0;revert cvS;revert s11;revert HF3;revert HK3
 exact z_):P:=h k
theorem Zg{P Q:Prop}(k:Q)(h:Q→P:=by
 rw[show({s with stat:=s.stat,cmd:=up1 s.cmd,left:=s.left,closed:=s.closed}:FSt)=s' by rw[hs']]at Fc
 have b4w:=b3w.trans (b4.mono b3w.size)
 have HKc:=hid ((HK3.out.below b4).trans Kc (fun i hi=> .inl (.inl hi)))
 have HBc:=hid (Kc.blk (HB3.out.below b4) (show ¬w.heap.size+1=g from Z7))
 have HXc:=hid (Kc.blk (HX3.out.below b4) (show ¬w.heap.size=g from Z7))
 have HYc:=hid (Kc.blk (HY3.out.below b4) (show ¬y=g from Z7))
 have KBc:=((Y1.refl (fun k=>B≤k) w).below b4w).trans Kc (fun i hi=> .inl (by have hi:i=g:=hi;exact Z7))
 have HKBc:=hid KBc
 have hzc:w4.heap.size≤Wc.heap.size:=Z7
 have hyl4:y<w4.heap.size:=Yeb cy
 have hz4:=b4.size
 have x0:=Kc.cell cx (show ¬w.heap.size=g from Z7)
 have yi:=Kc.cell cy (show ¬y=g from Z7)
 have t0:=Kc.cell c0 (show ¬w.heap.size+1=g from Z7)
 have t1:=Kc.cell c1 (show ¬w.heap.size+1=g from Z7)
 have t2:=Kc.cell c2 (show ¬w.heap.size+1=g from Z7)
 have t3:=Kc.cell c3 (show ¬w.heap.size+1=g from Z7)
 have t4:=Kc.cell c4 (show ¬w.heap.size+1=g from Z7)
 have t5:=Kc.cell c5 (show ¬w.heap.size+1=g from Z7)
 clear KBc
 refine fun z_=>?_
 revert t5;revert t4;revert t3;revert t2;revert t1;revert t0;revert yi;revert x0;revert hz4;revert hyl4;revert hzc;revert HKBc;revert HYc;revert HXc;revert HBc;revert HKc;revert b4w;revert Fc
 exact z_):P:=h k
theorem Zl{P:Prop}(h:P:=by
 go_wp2_with fail
 refine cr.out.mono ?_
 rintro e wz ⟨v,lv',rfl,ha,hf,hk⟩
 go_wp2
 go_ret2
 rw[HT.out,Yei HX.out]
 exact Z3y):P:=h
theorem Zq{P:Prop}(h:P:=by
 have d10:=(hC.1.no10 (.inl hd)).1
 refine Yw (f:=56) (args:= #[.agg #[.int .i64 p.op,.bool p.now,.int .i64 p.flags,.slice va p.vs.length vc,.slice aa p.n ac,.string (bs p.d)],.string ⟨#[76,85,78]⟩]) (w':=W) Z3U rfl Z2t (Yez.2 ((CVY.out W (hC.1.2.1 d10)).out.mono ?_))
 rintro e W2 ⟨rfl,hb⟩
 exact⟨y',by simp[go_sem],.inl rfl,hC.1.call hd hb,hC.2.also 4 Z7⟩):P:=h
theorem Zr{P:Prop}(h:P:=by
 simp[Region.binds]at hdep
 have d2:d 2=true:=Z2x
 obtain⟨w',mm,h'⟩:=hC.1.put 8 Z7 hd d2 Z7 (s:=YB) (x:=4294967295) (gfD_8 Y X d) Z16 Z7
 have mm:(Instr.mapUpdate 155 (.map (some y'.1)) (.string ⟨#[84,84,84]⟩) (.int .u64 4294967295)).run prog W= .ok () w':=mm
 exact YX (w':=w') (by simp[go_sem,mm]) rfl ⟨h',hC.2.also 8 Z7⟩):P:=h
theorem Zs{P:Prop}(h:P:=by
 simp[Region.binds]at hdep
 have d2:d 2=true:=Z2x
 obtain⟨w',mm,h'⟩:=hC.1.put 5 Z7 hd d2 (fun _=>by exact Z2x) (s:=Y2P) (x:=Y) (gfD_5 Y X d) Z16 Z7
 have mm:(Instr.mapUpdate 155 (.map (some y'.1)) (.string ⟨#[76,85,78]⟩) (.int .u64 (Y:Int))).run prog W= .ok () w':=mm
 exact YX (w':=w') (by simp[go_sem,mm]) rfl ⟨h',hC.2.also 5 Z7⟩):P:=h
theorem Zu{P:Prop}(h:P:=by
 simp[Region.binds]at hdep
 have d2:d 2=true:=Z2x
 obtain⟨w',mm,h'⟩:=hC.1.put 7 Z7 hd d2 Z7 (s:=Ye) (x:=X) (gfD_7 Y X d) Z16 Z7
 have mm:(Instr.mapUpdate 155 (.map (some y'.1)) (.string ⟨#[73,84,84]⟩) (.int .u64 (X:Int))).run prog W= .ok () w':=mm
 exact YX (w':=w') (by simp[go_sem,mm]) rfl ⟨h',hC.2.also 7 Z7⟩):P:=h
theorem ZA{P Q:Prop}(k:Q)(h:Q→P:=by
 refine Z4V ?_;intro HK3
 have HF3:=hid F3
 have s11:=(F3.blk.cell 11).trans (rfl:_=some (Value.int .u32 s.cmd))
 have cvS: ∀ (name:List UInt8) (W:World),(RS10 w g y p va vc aa ac s.cmd w3 W)→Hid (Calls prog 56 #[.agg #[.int .i64 p.op,.bool p.now,.int .i64 p.flags,.slice va p.vs.length vc,.slice aa p.n ac,.string (bs p.d)],.string (bs name)] W fun e w'=>e= .returned (.int .u64 (p.v name:Nat))∧RS10 w g y p va vc aa ac s.cmd w3 w'):=by
  rintro name W ⟨i0,i1,i2,i3,i4,i5,i6,i7,i11,iB⟩
  refine hid ((CV name W ((Y1.refl _ w).below (b3w.trans (iB.mono b3w.size)))).out.mono ?_)
  rintro e w' ⟨he,hb⟩
  exact⟨he,(hb.cell (Yeb i0)).trans i0,(hb.cell (Yeb i1)).trans i1,(hb.cell (Yeb i2)).trans i2,(hb.cell (Yeb i3)).trans i3,(hb.cell (Yeb i4)).trans i4,(hb.cell (Yeb i5)).trans i5,(hb.cell (Yeb i6)).trans i6,(hb.cell (Yeb i7)).trans i7,(hb.cell (Yeb i11)).trans i11,iB.trans (hb.mono iB.size)⟩
 have hS0:RS10 w g y p va vc aa ac s.cmd w3 w3.drew:=⟨t0,t1,t2,t3,t4,t5,x0,yi,s11,(Yea _ _).drew⟩
 have hyl:y<w3.heap.size:=Yeb yi
 have HCV:=hid CV
 refine fun z_=>?_
 revert HCV;revert hyl;revert hS0;revert cvS;revert s11;revert HF3;revert HK3
 exact z_):P:=h k
theorem ZO{P:Prop}(h:P:=by
 simp[Region.binds]at hdep
 exact Yz Z3U rfl ⟨hC.1.same 9 Z7 Z7 Z7 Z7 Z7 Z7 Z7,N9.nine Z2x Z2x Z2x⟩):P:=h
theorem ZR{P Q:Prop}(k:Q)(h:Q→P:=by
 refine Z3v ?_;intro F4 G4' f11 hwc Wc hWc Kc
 have Gc:Blk Wc g 75 (Y14 (.pointer (some ⟨gn,0,none⟩)) ta ga ua oa sn ss lim c.name c.disc s.stat (up1 s.cmd) (.pointer (some ⟨gp,0,none⟩)) lv s.closed):=by rw[←hWc];exact G4'.set 11 _
 have zc:Wc.heap.size=w4.heap.size:=by rw[←hWc];exact Z3j
 have Fc:=F4.own Kc s.stat (up1 s.cmd) lv s.left s.closed Gc (F4.lft.kept Kc (fun b cs hb e=>by
  have e:b=g:=e
  subst e
  exact Ym hb F4.blk (by decide) rfl)) F4.s0 F4.s1 (by unfold up1;omega) (by unfold up1;omega) (by decide) (by decide) (by decide)
 refine fun z_=>?_
 revert Fc;revert zc;revert Gc;revert Kc;revert hWc;revert Wc;revert hwc;revert f11;revert G4';revert F4
 exact z_):P:=h k
theorem Z1b{P:Prop}(h:P:=by
 exact YL (W.heap.size,y'.2) [104,108] (w':=W.alloc (.map #[] 0)) (by simp[go_sem,hmm]) rfl (by kernel_rfl) Z3C ⟨hC.1.map hd,hC.2.also 2 Z7⟩):P:=h
theorem Z1f{P:Prop}(h:P:=by
 exact⟨(y'.1,va',y'.2.2),by simp[go_sem],.inr ⟨[109],by kernel_rfl,by simp[Y1g]⟩,hC.1.made hd d5 d7 d8 hK' ⟨⟨_,_,hq⟩,hsl,hF⟩,hC.2.also 10 Z7⟩):P:=h
theorem Z1G{P:Prop}(h:P:=by
 rintro e w' ⟨he,hb⟩
 exact⟨he,(hb.cell (Yeb i0)).trans i0,(hb.cell (Yeb i1)).trans i1,(hb.cell (Yeb i2)).trans i2,(hb.cell (Yeb i3)).trans i3,(hb.cell (Yeb i4)).trans i4,(hb.cell (Yeb i5)).trans i5,(hb.cell (Yeb i6)).trans i6,(hb.cell (Yeb i7)).trans i7,iB.trans (hb.mono iB.size)⟩):P:=h
theorem Z1Q{P:Prop}(h:P:=by
 have cp:=hid (Y7h p x r w.heap.size y hxr F4 HE.out cx cy Z7 Z7)
 clear q1 q2 F4 hne hd0 q4 cr hxr
 go_wp2_with fail
 refine cp.out.mono ?_
 rintro e wz ⟨v,lv',rfl,ha,hf,hk⟩
 go_wp2
 go_ret2
 rw[HT.out,Yed HX.out]
 exact Z3y):P:=h
theorem Z1S{P:Prop}(h:P:=by
 exact YL (y'.1,y'.2.1,W.heap.size) [110,4] (w':=W.alloc (.cells #[.int .i64 32,.bool false,.int .i64 128,y'.2.1,.slice none 0 0,.string (bs (p.d.take m))] 63)) (by simp[go_sem,Y1a,hq]) rfl (by kernel_rfl) Z3C ⟨hC.1.row d10 _ (fun va' W W' h hb=>⟨h.1,h.2.1.below (Ye9 _) hb,h.2.2.below hb⟩) hA,hC.2.also 11 Z7⟩):P:=h
theorem Z1T{P Q:Prop}(k:Q)(h:Q→P:=by
 have nn:(!p.now)=true:=by rw[hn];rfl
 have hwx:IntKind.u64.wrap s.cmd=s.cmd:=by rw[IntKind.wrap_u64];have:=h.c0;have:=h.c1;exact Z7
 refine fun z_=>?_
 revert hwx;revert nn
 exact z_):P:=h k
theorem Z1V{P:Prop}(h:P:=by
 have HA:=hid (Y2S (op:=38) (flags:=128) (d:= []) hsl)
 have HF:=hid (hF.below k7)
 have HK:=hid ((HK5.out.trans hK (fun i hi=>by rcases hi with hi | hi;exact .inl (.inl hi);exact .inr Z7)).below k7)
 clear hsl hK hF k7 cm
 go_wp2
 go_ret2
 rw[HT.out,HR.out]
 exact⟨_,rv,lv,rfl,HA.out,HF.out,.inl rfl,HK.out⟩):P:=h
theorem Z1W{P:Prop}(h:P:=by
 exact YL (y'.1,y'.2.1,W.heap.size) [110,4] (w':=W.alloc (.cells #[.int .i64 32,.bool false,.int .i64 128,y'.2.1,.slice none 0 0,.string (bs p.d)] 63)) (by simp[go_sem,Y1a,hq]) rfl (by kernel_rfl) Z3C ⟨hC.1.row d10 _ (fun va' W W' h hb=>⟨h.1,h.2.1.below (Ye9 _) hb,h.2.2.below hb⟩) hA,hC.2.also 11 Z7⟩):P:=h
theorem Z25{P Q:Prop}(k:Q)(h:Q→P:=by
 simp[Region.binds]at hdep
 obtain⟨d5,d7,d8⟩:=hC.2 Z2x
 have d2:=(hC.1.2.2.2.1 d5).2
 have b4:=hC.1.2.1 hd
 obtain⟨hy,hN⟩:=hC.1.2.2.2.2.2.2.2.1 d2 hd
 rw[YdD Y X d d5 d7 d8]at hN
 refine fun z_=>?_
 revert hN;revert hy;revert b4;revert d2;revert d8;revert d7;revert d5;revert hdep
 exact z_):P:=h k
theorem Z2d{P Q:Prop}(k:Q)(h:Q→P:=by
 have HT:=hid hT
 have n0:(p.op !=0)=true:=Z1d
 have e0:(p.op == 0)=false:=Z1d
 refine fun z_=>?_
 revert e0;revert n0;revert HT
 exact z_):P:=h k
theorem Z2z{P Q:Prop}(k:Q)(h:Q→P:=by
 have n0:(p.op !=0)=false:=Z1d
 have e0:(p.op == 0)=true:=Z1d
 have n4:(p.op !=4)=true:=Z1d
 have n6:(p.op !=6)=true:=Z1d
 have e6:(p.op == 6)=false:=Z1d
 refine fun z_=>?_
 revert e6;revert n6;revert n4;revert e0;revert n0
 exact z_):P:=h k
theorem Z2A{P:Prop}(h:P:=by
 rw[←YdD Y X d d5 d7 d8]
 exact gfD_le Y X d Z7 Z7 m):P:=h
theorem Z34{P Q:Prop}(k:Q)(h:Q→P:=by
 have hP8:=hC.2.2.2.2.2.2.2.2.1 (hall 10 Z2t)
 have hP9:=hC.2.2.2.2.2.2.2.2.2 (hall 11 Z2t)
 refine fun z_=>?_
 revert hP9;revert hP8
 exact z_):P:=h k
theorem Z38{P:Prop}(h:P:=by
 exact⟨(Bq.cell 0).trans rfl,(Bq.cell 1).trans rfl,(Bq.cell 2).trans rfl,(Bq.cell 3).trans rfl,(Bq.cell 4).trans rfl,(Bq.cell 5).trans rfl,(Xq.cell 0).trans rfl,(Yq.cell 0).trans rfl⟩):P:=h
theorem Z3n{P:Prop}(h:P:=by
 unfold Ycn
 rw[Yei d5,Yei d7,Yei d8]
 exact Z7):P:=h
theorem Z3v{P Q:Prop}(k:Q)(h:Q→P:=by
 have F4:=HF3.out.below b4
 have G4':=F4.blk
 have f11:=G4'.free 11
 have hwc:IntKind.u32.wrap (s.cmd+1)=up1 s.cmd:=by rw[Yfo];rfl
 obtain⟨Wc,hWc⟩: ∃Wc,w4.setCell ⟨g,11,none⟩ (.int .u32 (up1 s.cmd))=Wc:=⟨_,rfl⟩
 have Kc:Y1 (fun k=>k=g) w4 Wc:=by rw[←hWc];exact(Y1.refl _ w4).set _ _ (.inl rfl)
 refine fun z_=>?_
 revert Kc;revert hWc;revert Wc;revert hwc;revert f11;revert G4';revert F4
 exact z_):P:=h k
theorem Z3y{P:Prop}(h:P:=by
 exact⟨_,rv,lv',rfl,ha,hf,.inl rfl,HK4.out.trans hk (fun i hi=> .inl (.inl hi))⟩):P:=h
theorem Z3V{P:Prop}(h:P:=by
 simp only at hP8 hP9
 gi_wp2
 go_wp2
 go_ret2
 rw[HT.out]
 rw[HDT.out,HD.out]
 exact⟨_,rv,lv,rfl,hP9,hP8.2.2,.inl rfl,hK⟩):P:=h
theorem Z42{P:Prop}(h:P:=by
 simp only at hP8 hP9
 gi_wp2
 go_wp2
 go_ret2
 rw[HT.out]
 rw[HDT.out]
 exact⟨_,rv,lv,rfl,hP9,hP8.2.2,.inl rfl,hK⟩):P:=h
theorem Z4H{P Q:Prop}(k:Q)(h:Q→P:=by
 refine Z2d ?_
 intro HT n0 e0
 have n4:(p.op !=4)=true:=Z1d
 have n6:(p.op !=6)=false:=Z1d
 have e6:(p.op == 6)=true:=Z1d
 refine fun z_=>?_
 revert e6;revert n6;revert n4;revert e0;revert n0;revert HT
 exact z_):P:=h k
theorem Z4I{P:Prop}(h:P:=by
 simp[go_sem,q0,q1,q2,q3,q4,q5,q6,q7]):P:=h
section
variable {w:World}{B g gp gn:Nat}{ov rv lv ta ga ua oa:Value}{sn ss:List UInt8}{lim:Int}{c:FCf}{s:FSt}
theorem Ya1(p:PK)(v av:Value)(h:YO w B g gp gn ov rv lv ta ga ua oa sn ss lim c s)(hp:Y1Y B w p v av)(hV:Env B w)(hx:s.closed=true∨Y2L p.op p.now p.flags p.vs p.n p.I p.d≠0):
 Calls prog 16 #[.pointer (some ⟨g,0,none⟩),pkV p v av] w fun e w'=>Y1b 75 143 84 w B g gp gn ov rv ta ga ua oa sn ss lim c (Yu c s p) (fun k=> .int .i64 (k:Nat)) e w':=by
 refine Z4y ?_;intro hp0;obtain⟨⟨va,vc,rfl⟩,aa,ac,rfl⟩:=hp0.forms;refine Zj ?_;intro W1 b1 B1 X1 hgl hgB z1 K1 V1 hp1 hpd G1 s14 x0 t0 t1 t2 t3 t4 t5 hW1 cR hmm hmf;unfold pkV Y1a
 cases hcl:s.closed with
 | true =>
  have hT:Yu c s p=(s,[],6):=by unfold Yu;rw[Yei hcl]
  rw[hT];rw[hcl]at s14;have HF:=hid h;clear h hp hV hp0 hp1 V1 cR hx hT hpd;go_enter func16,ntmps16;go_wp2;go_ret2;exact⟨_,rv,lv,rfl,.inl ⟨rfl,rfl⟩,HF.out.below b1,.inl rfl,(Y1.refl _ w).below b1⟩
 | false =>
  have hE:=hx.resolve_left Z2E;have hT:Yu c s p=(s,[],Y2L p.op p.now p.flags p.vs p.n p.I p.d):=by unfold Yu;rw[Yed Z2E,Yei hE]
  rw[hT];rw[hcl]at s14;generalize Y2L p.op p.now p.flags p.vs p.n p.I p.d=E at *;have hq:((E:Int) !=0)=true:=Z3M;have HF:=hid h;clear h hp hV hp0 hp1 V1 hx hT hpd hE;go_enter func16,ntmps16;go_wp2_with fail;go_at_call 52;refine cR.out.mono ?_;rintro e w2 ⟨rfl,hb2⟩;have b2:=b1.trans (hb2.mono b1.size);go_wp2;go_ret2;exact⟨_,rv,lv,rfl,.inl ⟨rfl,rfl⟩,HF.out.below b2,.inl rfl,(Y1.refl _ w).below b2⟩
theorem Ya0(p:PK)(v av:Value)(h:YO w B g gp gn ov rv lv ta ga ua oa sn ss lim c s)(hp:Y1Y B w p v av)(hV:Env B w)(hcl:s.closed=false)(hE:Y2L p.op p.now p.flags p.vs p.n p.I p.d=0)(h0:p.op≠0)(h4:p.op≠4)(h6:p.op≠6):
 Calls prog 16 #[.pointer (some ⟨g,0,none⟩),pkV p v av] w fun e w'=>Y1b 75 143 84 w B g gp gn ov rv ta ga ua oa sn ss lim c (Yu c s p) (fun k=> .int .i64 (k:Nat)) e w':=by
 refine Z4y ?_;intro hp0;obtain⟨⟨va,vc,rfl⟩,aa,ac,rfl⟩:=hp0.forms;refine Z0 ?_;intro W1 b1 B1 X1 hgl hgB z1 K1 V1 hp1 hpd G1 x0 t0 t1 t2 t3 t4 t5 hW1 hmm hmf cR s14 HH HP HV HB1 HX1 o0 o1 HE CV;unfold pkV Y1a at CV ⊢;have hT:Yu c s p=((Y34 s p 5).1,(Y34 s p 5).2,0):=by unfold Yu;rw[Yed Z2E,Yed (fun e=>e hE),Yei ⟨h0,h4,h6⟩]
 have HT:=hid hT;have n0:(p.op !=0)=true:=by simp[h0]
 have n4:(p.op !=4)=true:=by simp[h4]
 have n6:(p.op !=6)=true:=by simp[h6]
 clear hp hp0 hp1 V1 hT hV h B1 X1 G1 hE hcl h0 h4 h6 hpd;go_enter func16,ntmps16;go_wp2_with fail;go_at_call 52;refine cR.out.mono ?_;rintro e w2 ⟨rfl,hb2⟩;refine Z1 ?_;intro b2 z2 x0 t0 t1 t2 t3 t4 t5 TK HB2 HX2 hmx;go_wp2_with fail;refine YeS (n:=4).1 ?_;refine Yk (G:=Nat) (fun y=> [(38,.pointer (some ⟨w.heap.size+1,0,none⟩)),(39,.pointer (some ⟨w.heap.size+1,0,none⟩)),(40,.int .i64 p.op),(41,.agg #[.int .i64 p.op,.bool p.now,.int .i64 p.flags,.slice va p.vs.length vc,.slice aa p.n ac,.string (bs p.d)]),(42,.int .u64 (p.v Ye:Nat)),(9,.pointer (some ⟨y,0,none⟩)),(8,.int .i64 p.op)])
  (Y2o w2 (p.v Ye))
  0 (aF:= ?kA) ?kB hmx [38,39,40,41,42,9,8] (fun _=>rfl) (by kernel_rfl) (by kernel_rfl) ?kS ?kE ?kQ
 case kB =>
  exact Z3J
 case kS=>exact Z1R
 case kE =>
  exact Z2
 case kQ =>
  rintro d y w3 hall ⟨b3,-,hbox⟩;refine Z9 ?_;intro hy Y3 yi b3w B3 X3 x0 F3 t0 t1 t2 t3 t4 t5 hz3 HY3 HB3 HX3;gi_wp2;have cr:=hid (Y32 p _ _ 5 (w.heap.size+1) w.heap.size F3 (HP.out w3 ((Y1.refl _ w).below b3w)) HE.out Z7 Z7 B3 x0);refine Z4V ?_;intro HK3;clear F3 B3 X3 Y3 CV;go_wp2_with fail;refine cr.out.mono ?_;rintro e wz ⟨v,lv',rfl,ha,hf,hk⟩;go_wp2;go_ret2;rw[HT.out];exact⟨_,rv,lv',rfl,ha,hf,.inl rfl,HK3.out.trans hk (fun i hi=> .inl (.inl hi))⟩
end
end
section
open Go Go.RowKit
abbrev YaI:=Yl 82 215 127
structure Y5C(w wr:World)(gx px nx gr pr nr:Nat)(ox mv rvx rvr lvx lvr ta ga ua oa:Value)(sn ss:List UInt8)(lim:Int)(c:FCf)(s1 s2:FSt):Prop where
 X:YaI wr w.heap.size gx px nx ox rvx lvx ta ga ua oa sn ss lim c s1
 R:YO wr w.heap.size gr pr nr mv rvr lvr ta ga ua oa sn ss lim c s2
 ap: ∀q,rvx.ownBlock=some q→rvr.ownBlock≠some q
 fx:Y3h ox c.own (SF gr pr nr rvr)
 fr:Y3h mv c.own (SF gx px nx rvx)
 b:Below w.heap.size w wr
theorem sf_low{T TG TN:TypeId}{w:World}{B g gp gn:Nat}{ov rv lv ta ga ua oa:Value}{sn ss:List UInt8}{lim:Int}{c:FCf}{s:FSt}(h:Yl T TG TN w B g gp gn ov rv lv ta ga ua oa sn ss lim c s)(q:Nat)(hq:SF g gp gn rv q):B≤q:=by
 rcases hq with rfl | rfl | rfl | hq
 ·exact h.gB
 ·exact h.gpB
 ·exact h.gnB
 ·exact(h.hrv.lt q hq).1
theorem YaY{T TG TN:TypeId}{w:World}{B g gp gn:Nat}{ov rv lv ta ga ua oa:Value}{sn ss:List UInt8}{lim:Int}{c:FCf}{s:FSt}(R:Yl T TG TN w B g gp gn ov rv lv ta ga ua oa sn ss lim c s){U:TypeId}{b:Nat}{cs:Array Value}(h:Blk w b U cs)
 (n:U≠T∧U≠TG∧U≠TN∧U≠78): ¬SF g gp gn rv b:=fun e=>by
 rcases e with e | e | e | e
 ·exact Ym h R.blk n.1 e
 ·exact Ym h R.gat n.2.1 e
 ·exact Ym h R.neg n.2.2.1 e
 ·exact Y41 R.hrv h n.2.2.2 e
theorem Ycu.kept{T TG TN:TypeId}{w w1:World}{B g gp gn:Nat}{ov rv lv ta ga ua oa:Value}{sn ss:List UInt8}{lim:Int}{c:FCf}{s:FSt}{v:Value}{l:List An}(h:Ycu w v l)(R:Yl T TG TN w B g gp gn ov rv lv ta ga ua oa sn ss lim c s)(K:Y1 (SF g gp gn rv) w w1)
 (nP:63≠T∧63≠TG∧63≠TN∧63≠78) (nU:106≠T∧106≠TG∧106≠TN∧106≠78):Ycu w1 v l:=by
 rcases h with h | ⟨x,b,va,h1,h2,h3,h4⟩
 ·exact .inl h
 ·refine .inr ⟨x,b,va,h1,h2,K.blk h3 (YaY R h3 nP),?_⟩;obtain⟨a,cc,rfl,hs,ht⟩:=h4
  exact⟨a,cc,rfl,sl_keptS hs K (fun b o q e hn=>by
   cases e
   obtain⟨cs,hB⟩:=ht b o rfl hn
   exact YaY R hB nU),fun b o e hn=>by
   obtain⟨cs,hB⟩:=ht b o e hn
   exact⟨cs,K.blk hB (YaY R hB nU)⟩⟩
theorem YdH{w:World}{v rv:Value}{l:PL}{g gp gn:Nat}(h:PSl w v l)(f:Y3h v l (fun k=>k=gn∨rv.ownBlock=some k))(hg:w.heap.size≤g)(hp:w.heap.size≤gp):Y3h v l (SF g gp gn rv):=by
 rcases Y3h.lt h with h0 | ⟨b,o,n,cc,hv,hlt⟩
 ·exact Z44
 ·rcases f with h0 | ⟨b2,o2,n2,c2,hv2,hn2⟩
  ·exact Z44
  ·rw[hv]at hv2
   cases hv2
   refine .inr ⟨b,o,n,cc,hv,fun e=> ?_⟩;rcases e with e | e | e | e
   ·exact Z7
   ·exact Z7
   ·exact hn2 (.inl e)
   ·exact hn2 (.inr e)
def RFPl(w:World)(gx px nx gr pr nr:Nat)(ox mv ta ga ua oa:Value)(sn ss:List UInt8)(lim:Int)(c:FCf)(n gk:Nat)(i:Value)(wr:World):Prop:=
 ∃ (k:Nat) (s:FSt) (rvx rvr lvx lvr:Value),gk+k=n∧i= .int .i64 (k:Nat)∧Y8M s (60+60 * k)∧Y5C w wr gx px nx gr pr nr ox mv rvx rvr lvx lvr ta ga ua oa sn ss lim c s s
def VSm(l:List An):Prop:= ∀x∈l,x.vs.length≤1000000
theorem Y6f{x:An}(h:x.vs.length≤1000000):VSm [x]:=fun y hy=>by
 have:y=x:=by simpa using hy
 rw[this];exact h
theorem Y5o(s:FSt)(p:PK)(r:Int):VSm (Y34 s p r).2:=Y6f (by simp[Y4C])
theorem Ydc(s:FSt)(p:PK):VSm (Y7m s p).2:=by
 unfold Y7m
 split
 ·intro y hy
  cases hy
 ·exact Y6f (by simp[Y5X])
theorem doP_vs(c:FCf)(s:FSt)(p:PK):VSm (doP c s p).2:=by
 unfold doP nopP Ybl Y5T Ydp
 split
 ·split
  ·intro y hy
   cases hy
  ·exact Y6f (by simp[Y5Z])
 ·split
  ·split
   ·split
    ·exact Y5o _ _ _
    ·exact Ydc _ _
   ·split
    ·exact Y5o _ _ _
    ·split
     ·exact Y6f (by simp[Y5X])
     ·split
      ·exact Y5o _ _ _
      ·split
       ·exact Y5o _ _ _
       ·exact Ydc _ _
  ·exact Y6f (by simp[Yah])
theorem takeP_vs(c:FCf)(s:FSt)(p:PK):VSm (Yu c s p).2.1:=by
 unfold Yu
 split
 ·intro y hy
  cases hy
 ·split
  ·intro y hy
   cases hy
  ·split
   ·exact Y5o _ _ _
   ·split
    ·exact Y5o _ _ _
    ·split
     ·exact doP_vs _ _ _
     ·exact doP_vs _ _ _
theorem Y7s{T TG TN T' TG' TN':TypeId}{w w1:World}{B g gp gn g' gp' gn':Nat}{ov rv lv ov' rv' lv' ta ga ua oa:Value}{sn ss:List UInt8}{lim:Int}{c:FCf}{s s':FSt}
 (X:Yl T TG TN w B g gp gn ov rv lv ta ga ua oa sn ss lim c s) (R:Yl T' TG' TN' w B g' gp' gn' ov' rv' lv' ta ga ua oa sn ss lim c s')
 (n1:T≠T'∧T≠TG'∧T≠TN'∧T≠78) (n2:TG≠T'∧TG≠TG'∧TG≠TN'∧TG≠78) (n3:TN≠T'∧TN≠TG'∧TN≠TN'∧TN≠78)
 (n4:9≠T'∧9≠TG'∧9≠TN'∧9≠78) (n5:T'≠78∧TG'≠78∧TN'≠78)
 (ap: ∀q,rv.ownBlock=some q→rv'.ownBlock≠some q) (fx:Y3h ov c.own (SF g' gp' gn' rv')) (K:Y1 (SF g' gp' gn' rv') w w1):Yl T TG TN w1 B g gp gn ov rv lv ta ga ua oa sn ss lim c s:=by
 have hb: ∀ {U:TypeId} {b:Nat} {cs:Array Value},Blk w b U cs→(U≠T'∧U≠TG'∧U≠TN'∧U≠78)→ ¬SF g' gp' gn' rv' b:=fun h n e=>by
  rcases e with e | e | e | e
  ·exact Ym h R.blk n.1 e
  ·exact Ym h R.gat n.2.1 e
  ·exact Ym h R.neg n.2.2.1 e
  ·exact Y41 R.hrv h n.2.2.2 e
 refine X.kept K (hb X.blk n1) (hb X.gat n2) (hb X.neg n3) (fun q hq e=> ?_) fx (fun b cs h=>hb h n4);rcases e with rfl | rfl | rfl | e
 ·exact Y41 X.hrv R.blk n5.1 hq
 ·exact Y41 X.hrv R.gat n5.2.1 hq
 ·exact Y41 X.hrv R.neg n5.2.2 hq
 ·exact ap q hq e
theorem Ybc{w:World}{v rv rv':Value}{l:PL}{g gp gn:Nat}(h:PSl w v l)(f:Y3h v l (SF g gp gn rv))(hr:rv'.ownBlock=rv.ownBlock∨ ∃q,rv'.ownBlock=some q∧w.heap.size≤q):Y3h v l (SF g gp gn rv'):=by
 rcases hr with h1 | ⟨q,h1,h2⟩
 ·refine f.mono fun k hk=> ?_
  rcases hk with hk | hk | hk | hk
  ·exact .inl hk
  ·exact .inr (.inl hk)
  ·exact .inr (.inr (.inl hk))
  ·exact .inr (.inr (.inr (h1 ▸hk)))
 ·rcases Y3h.lt h with h0 | ⟨b,o,n,cc,hv,hlt⟩
  ·exact Z44
  ·rcases f with h0 | ⟨b2,o2,n2,c2,hv2,hn2⟩
   ·exact Z44
   ·rw[hv]at hv2
    cases hv2
    refine .inr ⟨b,o,n,cc,hv,fun e=> ?_⟩;rcases e with e | e | e | e
    ·exact hn2 (.inl e)
    ·exact hn2 (.inr (.inl e))
    ·exact hn2 (.inr (.inr (.inl e)))
    ·rw[h1]at e;exact Z2q
section
variable {w wr w1:World}{gx px nx gr pr nr:Nat}{ox mv rvx rvr lvx lvr ta ga ua oa:Value}{sn ss:List UInt8}{lim:Int}{c:FCf}{s1 s2:FSt}
theorem Y5C.below(h:Y5C w wr gx px nx gr pr nr ox mv rvx rvr lvx lvr ta ga ua oa sn ss lim c s1 s2)(hb:Below wr.heap.size wr w1):Y5C w w1 gx px nx gr pr nr ox mv rvx rvr lvx lvr ta ga ua oa sn ss lim c s1 s2:=
 ⟨h.X.below hb,h.R.below hb,h.ap,h.fx,h.fr,h.b.trans (hb.mono h.b.size)⟩
theorem Y5C.stepR{rvr' lvr':Value}{s3:FSt}(h:Y5C w wr gx px nx gr pr nr ox mv rvx rvr lvx lvr ta ga ua oa sn ss lim c s1 s2)(hR:YO w1 w.heap.size gr pr nr mv rvr' lvr' ta ga ua oa sn ss lim c s3)
 (rb:rvr'.ownBlock=rvr.ownBlock∨ ∃q,rvr'.ownBlock=some q∧wr.heap.size≤q) (K:Y1 (SF gr pr nr rvr) wr w1):Y5C w w1 gx px nx gr pr nr ox mv rvx rvr' lvx lvr' ta ga ua oa sn ss lim c s1 s3:=by
 refine⟨Y7s h.X h.R Z16 Z16 Z16 Z16 Z16 h.ap h.fx K,hR,fun q hq=> ?_,Ybc h.X.hov h.fx rb,h.fr,h.b.trans (K.toBelow (sf_low h.R) h.b.size)⟩;exact Z3a
theorem Y5C.stepX{rvx' lvx':Value}{s3:FSt}(h:Y5C w wr gx px nx gr pr nr ox mv rvx rvr lvx lvr ta ga ua oa sn ss lim c s1 s2)(hX:YaI w1 w.heap.size gx px nx ox rvx' lvx' ta ga ua oa sn ss lim c s3)
 (rb:rvx'.ownBlock=rvx.ownBlock∨ ∃q,rvx'.ownBlock=some q∧wr.heap.size≤q) (K:Y1 (SF gx px nx rvx) wr w1):Y5C w w1 gx px nx gr pr nr ox mv rvx' rvr lvx' lvr ta ga ua oa sn ss lim c s3 s2:=by
 refine⟨hX,Y7s h.R h.X Z16 Z16 Z16 Z16 Z16 (fun q hq e=>h.ap q e hq) h.fr K,fun q hq=> ?_,h.fx,Ybc h.R.hov h.fr rb,h.b.trans (K.toBelow (sf_low h.X) h.b.size)⟩;exact Z3b
end
end
section
open Go Go.RowKit
theorem Y6u{w:World}{v:Value}{l:PL}{b:Nat}{T:TypeId}{k1 k2:IntKind}{x1 x2:Int}(h:PSl w v l)(hb:Blk w b T #[.int k1 x1,.int k2 x2]):Y3h v l (fun k=>k=b):=by
 obtain⟨x,cap,rfl,hl,hc⟩:=h;rcases hc with h0 | ⟨b',o,rfl,hd⟩
 ·exact Z44
 ·cases l with
  | nil=>exact .inl rfl
  | cons p l =>
   refine .inr ⟨b',o,_,_,rfl,fun e=> ?_⟩;have e:b'=b:=e;subst e;have h2:=hd 0 (.string (bs p.1)) (by rfl);have h3:=hb.cell o;have h2:w.cell? ⟨b',o,none⟩=some (.string (bs p.1)):=h2;rw[h3]at h2
   match o,h2 with
   | 0,h2=>cases h2
   | 1,h2=>cases h2
   | n+2,h2=>simp at h2
def Y9C(W5:World)(gp:Nat)(t:List UInt8)(R:List UInt8×PL×Nat×Int)(d:Nat→Bool)(y:Nat×Value)(W:World):Prop:=
 Y1 (fun k=>k=gp) W5 W∧(d 13=true→d 7=true∧d 11=true)∧Blk W gp 143 #[.string (bs (if d 7=true then R.1 else t)),.int .i64 8192]∧(d 7=true→PSl W y.2 R.2.1)∧
  (d 11=true→W5.heap.size≤y.1∧Blk W y.1 38 #[.int .i64 (if d 13=true then(R.2.2.1:Int)else 0),.int .i64 (if d 13=true then R.2.2.2 else 0)])
section
variable {W5 W W':World}{gp:Nat}{t:List UInt8}{R:List UInt8×PL×Nat×Int}{d:Nat→Bool}{y:Nat×Value}
theorem Y9C.same(h:Y9C W5 gp t R d y W)(i:Nat)(h1:i≠7)(h2:i≠11)(h3:i≠13):Y9C W5 gp t R (Go.Proofs.YtfadikchijkcfaaGreatDoor.also d i) y W:=by
 unfold Y9C at *;rw[Y4 d h1,Y4 d h2,Y4 d h3];exact h
theorem Y9C.call(h:Y9C W5 gp t R d y W)(hg:gp<W5.heap.size)(h7:d 7=false){v:Value}(hG:W.grownBy W' (some gp))(hB:Blk W' gp 143 #[.string (bs R.1),.int .i64 8192])(hp:PSl W' v R.2.1):Y9C W5 gp t R (Go.Proofs.YtfadikchijkcfaaGreatDoor.also d 7) (y.1,v) W':=by
 obtain⟨a,b,c,e,f⟩:=h
 have h13:d 13=false:=by
  cases hq:d 13 with
  | false=>rfl
  | true=>rw[(b hq).1]at h7;cases h7
 have K:Y1 (fun k=>k=gp) W W':=(Y1.refl _ W).only hG (fun q hq=> .inl (Yey hq).symm);unfold Y9C;rw[Y4 d (show 7≠13 from Z7),Y4 d (show 7≠11 from Z7),Y1B,Yei rfl];refine⟨a.only hG (fun q hq=> .inl (Yey hq).symm),fun h=>(by rw[h13]at h;cases h),hB,fun _=>hp,fun h=> ?_⟩;obtain⟨f1,f2⟩:=f h;exact⟨f1,K.blk f2 (by show ¬y.1=gp;exact Z7)⟩
theorem Y9C.box(h:Y9C W5 gp t R d y W)(h11:d 11=false):Y9C W5 gp t R (Go.Proofs.YtfadikchijkcfaaGreatDoor.also d 11) (W.heap.size,y.2) (W.alloc (.cells #[.int .i64 0,.int .i64 0] 38)):=by
 obtain⟨a,b,c,e,f⟩:=h
 have h13:d 13=false:=by
  cases hq:d 13 with
  | false=>rfl
  | true=>rw[(b hq).2]at h11;cases h11
 have hb:Below W.heap.size W (W.alloc (.cells #[.int .i64 0,.int .i64 0] 38)):=(Yea _ _).alloc (Ye9 _) _;unfold Y9C;rw[Y4 d (show 11≠13 from Z7),Y4 d (show 11≠7 from Z7),h13];exact⟨a.below hb,fun h=>(by cases h),c.below hb,fun h=>(e h).below hb,fun _=>⟨a.size,Blk.new _ _ _⟩⟩
theorem Y9C.put(h:Y9C W5 gp t R d y W)(hg:gp<W5.heap.size)(h7:d 7=true)(h11:d 11=true):Y9C W5 gp t R (Go.Proofs.YtfadikchijkcfaaGreatDoor.also d 13) y ((W.setCell ⟨y.1,0,none⟩ (.int .i64 (R.2.2.1:Int))).setCell ⟨y.1,1,none⟩ (.int .i64 R.2.2.2)):=by
 obtain⟨a,b,c,e,f⟩:=h;obtain⟨f1,f2⟩:=f h11;have K:Y1 (fun k=>k=y.1) W ((W.setCell ⟨y.1,0,none⟩ (.int .i64 (R.2.2.1:Int))).setCell ⟨y.1,1,none⟩ (.int .i64 R.2.2.2)):=((Y1.refl (fun k=>k=y.1) W).set ⟨y.1,0,none⟩ _ (.inl rfl)).set ⟨y.1,1,none⟩ _ (.inl rfl);unfold Y9C;rw[Y4 d (show 13≠11 from Z7),Y4 d (show 13≠7 from Z7),Y1B,Yei rfl,Yei rfl];exact⟨a.trans K (fun i hi=> .inr (by have hi:i=y.1:=hi;exact Z7)),fun _=>⟨h7,h11⟩,K.blk c (by show ¬gp=y.1;exact Z7),fun h=>(e h).kept (Y6u (e h) f2) K,fun _=>⟨f1,(f2.set 0 _).set 1 _⟩⟩
end
def Y3Z{G:Type}(N:(Nat→Bool)→Prop)(S:Nat→Prop)(W0:World)(ic js:Nat)(PA:World→Prop)(PB PC:G→World→Prop)(d:Nat→Bool)(y:G)(W:World):Prop:=
 N d∧Y1 S W0 W∧(d js=true→d ic=true)∧(d ic=false→PA W)∧(d ic=true→d js=false→PB y W)∧(d js=true→PC y W)
section
variable {G:Type}{N:(Nat→Bool)→Prop}{S:Nat→Prop}{W0 W W':World}{ic js:Nat}{PA:World→Prop}{PB PC:G→World→Prop}{d:Nat→Bool}{y y':G}
theorem Y3Z.same(h:Y3Z N S W0 ic js PA PB PC d y W)(i:Nat)(hN:N (Go.Proofs.YtfadikchijkcfaaGreatDoor.also d i))(h1:i≠ic)(h2:i≠js):Y3Z N S W0 ic js PA PB PC (Go.Proofs.YtfadikchijkcfaaGreatDoor.also d i) y W:=by
 unfold Y3Z at *;rw[Y4 d h1,Y4 d h2];exact⟨hN,h.2⟩
theorem Y3Z.mid(h:Y3Z N S W0 ic js PA PB PC d y W)(i:Nat)(hN:N (Go.Proofs.YtfadikchijkcfaaGreatDoor.also d i))(h1:i≠ic)(h2:i≠js)(hc:d ic=false)(K:Y1 S W0 W')(hA:PA W'):Y3Z N S W0 ic js PA PB PC (Go.Proofs.YtfadikchijkcfaaGreatDoor.also d i) y W':=by
 obtain⟨_,_,b,_⟩:=h;unfold Y3Z;rw[Y4 d h1,Y4 d h2];exact⟨hN,K,b,fun _=>hA,fun h=>(by rw[hc]at h;cases h),fun h=>(by rw[b h]at hc;cases hc)⟩
theorem Y3Z.call(h:Y3Z N S W0 ic js PA PB PC d y W)(hN:N (Go.Proofs.YtfadikchijkcfaaGreatDoor.also d ic))(hs:js≠ic)(hc:d ic=false)(K:Y1 S W0 W')(hB:PB y' W'):Y3Z N S W0 ic js PA PB PC (Go.Proofs.YtfadikchijkcfaaGreatDoor.also d ic) y' W':=by
 obtain⟨_,_,b,_⟩:=h
 have hj:d js=false:=by
  cases hq:d js with
  | false=>rfl
  | true=>rw[b hq]at hc;cases hc
 unfold Y3Z;rw[Y1B,Y4 d hs.symm,hj];exact⟨hN,K,fun h=>(by cases h),fun h=>(by cases h),fun _ _=>hB,fun h=>(by cases h)⟩
theorem Y3Z.put(h:Y3Z N S W0 ic js PA PB PC d y W)(hN:N (Go.Proofs.YtfadikchijkcfaaGreatDoor.also d js))(hs:js≠ic)(hc:d ic=true)(hj:d js=false)(K:PB y W→Y1 S W0 W'∧PC y W'):Y3Z N S W0 ic js PA PB PC (Go.Proofs.YtfadikchijkcfaaGreatDoor.also d js) y W':=by
 obtain⟨_,_,b,_,e,_⟩:=h;obtain⟨k1,k2⟩:=K (e hc hj);unfold Y3Z;rw[Y1B,Y4 d hs,hc];exact⟨hN,k1,fun _=>rfl,fun h=>(by cases h),fun _ h=>(by cases h),fun _=>k2⟩
end
theorem n43{d:Nat→Bool}(h:d 4=true→d 3=true)(i:Nat)(h4:i≠4):Go.Proofs.YtfadikchijkcfaaGreatDoor.also d i 4=true→Go.Proofs.YtfadikchijkcfaaGreatDoor.also d i 3=true:=by
 rw[Y4 d h4];intro e;unfold Go.Proofs.YtfadikchijkcfaaGreatDoor.also
 split
 ·rfl
 ·exact h e
def RAskG(c:FCf)(L:PL)(W:World)(gk:Nat)(d r i:Value)(wr:World):Prop:=
 ∃ (k:Nat) (rk dk:PL),gk+k=L.length∧k≤L.length∧i= .int .i64 (k:Nat)∧rk.length≤k∧dk.length≤k * 7000000∧Hid (Y19 L=rk ++ Y19 (L.drop k))∧Hid (Y1C c L=dk ++ Y1C c (L.drop k))∧
  wr.ownsRow W.heap.size 78 2 r rk.length (Y0 rk)∧wr.ownsRow W.heap.size 78 2 d dk.length (Y0 dk)∧(∀q,r.ownBlock=some q→d.ownBlock≠some q)∧Below W.heap.size W wr
def nmP(c:FCf)(v:List UInt8):List UInt8:=if v= []then c.name else v
theorem sendP_eq(c:FCf)(v:List UInt8)(al:Bool)(h:(v == Y1S)=al):
 Y4A c v=if(decide ((if al=false∧c.ts.contains (nmP c v)=false then 8 else 0:Nat)≠0) || (al && !c.disc))=true then Y44 else Yy c.gs (nmP c v) al c.ts:=by
 unfold Y4A nmP Y44;generalize (if v= []then c.name else v)=nm;by_cases hv:v=Y1S
 ·have e:al=true:=by rw[←h,hv];exact Z2t
  subst e
  cases c.disc<;>simp[hv]
 ·have e:al=false:=by rw[←h];simp[hv]
  subst e
  cases c.ts.contains nm<;>simp[hv]
end
section
open Go.Proofs.Tryz
open Go Go.RowKit
section
variable {w:World}{B g gp gn:Nat}{ov rv lv ta ga ua oa:Value}{sn ss:List UInt8}{lim:Int}{c:FCf}{s:FSt}
theorem Y6m(p:PK)(v av:Value)(h:YO w B g gp gn ov rv lv ta ga ua oa sn ss lim c s)(hp:Y1Y B w p v av)(hV:Env B w)(hcl:s.closed=false)(hE:Y2L p.op p.now p.flags p.vs p.n p.I p.d=0)(hop:p.op=0)(hn:p.now=true)(hi:p.v Ye=Y26):
 Calls prog 16 #[.pointer (some ⟨g,0,none⟩),pkV p v av] w fun e w'=>Y1b 75 143 84 w B g gp gn ov rv ta ga ua oa sn ss lim c (Yu c s p) (fun k=> .int .i64 (k:Nat)) e w':=by
 refine Z4y ?_;intro hp0;obtain⟨⟨va,vc,rfl⟩,aa,ac,rfl⟩:=hp0.forms;refine Z0 ?_;intro W1 b1 B1 X1 hgl hgB z1 K1 V1 hp1 hpd G1 x0 t0 t1 t2 t3 t4 t5 hW1 hmm hmf cR s14 HH HP HV HB1 HX1 o0 o1 HE CV;unfold pkV Y1a at CV ⊢
 have hT:Yu c s p=(s,[],0):=by
  unfold Yu doP nopP;rw[Yed Z2E,Yed (fun e=>e hE),Yed Z7,Yed Z3i,Yed Z3i,Yei hop,Yei hi]
 have HT:=hid hT;have n0:(p.op !=0)=false:=Z1d;have e0:(p.op == 0)=true:=Z1d;have nn:(!p.now)=false:=by rw[hn];rfl
 have ei:((p.v Ye:Int) == 4294967295)=true:=by rw[hi];rfl
 clear hp hp0 hp1 V1 hT hV h B1 X1 G1 hE hcl hpd hop hn hi;go_enter func16,ntmps16;go_wp2_with fail;go_at_call 52;refine cR.out.mono ?_;rintro e w2 ⟨rfl,hb2⟩;refine Z1 ?_;intro b2 z2 x0 t0 t1 t2 t3 t4 t5 TK HB2 HX2 hmx;go_wp2_with fail;refine YeS (n:=4).1 ?_;refine Yk (G:=Nat) (fun y=> [(38,.pointer (some ⟨w.heap.size+1,0,none⟩)),(39,.pointer (some ⟨w.heap.size+1,0,none⟩)),(40,.int .i64 p.op),(41,.agg #[.int .i64 p.op,.bool p.now,.int .i64 p.flags,.slice va p.vs.length vc,.slice aa p.n ac,.string (bs p.d)]),(42,.int .u64 (p.v Ye:Nat)),(9,.pointer (some ⟨y,0,none⟩)),(8,.int .i64 p.op)])
  (Y2o w2 (p.v Ye))
  0 (aF:= ?kA) ?kB hmx [38,39,40,41,42,9,8] (fun _=>rfl) (by kernel_rfl) (by kernel_rfl) ?kS ?kE ?kQ
 case kB =>
  exact Z3J
 case kS=>exact Z1R
 case kE =>
  exact Z2
 case kQ =>
  rintro d y w3 hall ⟨b3,-,hbox⟩;refine Z9 ?_;intro hy Y3 yi b3w B3 X3 x0 F3 t0 t1 t2 t3 t4 t5 hz3 HY3 HB3 HX3;gi_wp2;refine Z4V ?_;intro HK3;clear B3 X3 Y3 CV;go_wp2;go_ret2;rw[HT.out];exact⟨_,rv,lv,rfl,.inl ⟨rfl,rfl⟩,F3,.inl rfl,HK3.out⟩
theorem Y7T(p:PK)(v av:Value)(h:YO w B g gp gn ov rv lv ta ga ua oa sn ss lim c s)(hp:Y1Y B w p v av)(hV:Env B w)(hcl:s.closed=false)(hE:Y2L p.op p.now p.flags p.vs p.n p.I p.d=0)(hop:p.op=6)(hn:p.now=true):
 Calls prog 16 #[.pointer (some ⟨g,0,none⟩),pkV p v av] w fun e w'=>Y1b 75 143 84 w B g gp gn ov rv ta ga ua oa sn ss lim c (Yu c s p) (fun k=> .int .i64 (k:Nat)) e w':=by
 refine Z4y ?_;intro hp0;obtain⟨⟨va,vc,rfl⟩,aa,ac,rfl⟩:=hp0.forms;refine Z0 ?_;intro W1 b1 B1 X1 hgl hgB z1 K1 V1 hp1 hpd G1 x0 t0 t1 t2 t3 t4 t5 hW1 hmm hmf cR s14 HH HP HV HB1 HX1 o0 o1 HE CV;unfold pkV Y1a at CV ⊢
 have hT:Yu c s p=((Ydp s p).1,(Ydp s p).2,0):=by
  unfold Yu doP;rw[Yed Z2E,Yed (fun e=>e hE),Yed Z7,Yed Z3i,Yed Z3i,Yed Z7,Yed Z7]
 refine Z4H ?_;intro HT n0 e0 n4 n6 e6;have nn:(!p.now)=false:=by rw[hn];rfl
 clear hp hp0 hp1 V1 hT hV h B1 X1 G1 hE hcl hpd hop hn;go_enter func16,ntmps16;go_wp2_with fail;go_at_call 52;refine cR.out.mono ?_;rintro e w2 ⟨rfl,hb2⟩;refine Z1 ?_;intro b2 z2 x0 t0 t1 t2 t3 t4 t5 TK HB2 HX2 hmx;go_wp2_with fail;refine YeS (n:=4).1 ?_;refine Yk (G:=Nat) (fun y=> [(38,.pointer (some ⟨w.heap.size+1,0,none⟩)),(39,.pointer (some ⟨w.heap.size+1,0,none⟩)),(40,.int .i64 p.op),(41,.agg #[.int .i64 p.op,.bool p.now,.int .i64 p.flags,.slice va p.vs.length vc,.slice aa p.n ac,.string (bs p.d)]),(42,.int .u64 (p.v Ye:Nat)),(9,.pointer (some ⟨y,0,none⟩)),(8,.int .i64 p.op)])
  (Y2o w2 (p.v Ye))
  0 (aF:= ?kA) ?kB hmx [38,39,40,41,42,9,8] (fun _=>rfl) (by kernel_rfl) (by kernel_rfl) ?kS ?kE ?kQ
 case kB =>
  exact Z3J
 case kS=>exact Z1R
 case kE =>
  exact Z2
 case kQ =>
  rintro d y w3 hall ⟨b3,-,hbox⟩;refine Z9 ?_;intro hy Y3 yi b3w B3 X3 x0 F3 t0 t1 t2 t3 t4 t5 hz3 HY3 HB3 HX3;gi_wp2;refine Z4V ?_;intro HK3;have hitt:=Y4Z HE.out;have G3:=F3.blk;have f14:=G3.free 14;have s14:=(G3.cell 14).trans (rfl:_=some (Value.bool s.closed));obtain⟨W4,hW4⟩: ∃W4,w3.setCell ⟨g,14,none⟩ (.bool true)=W4:=⟨_,rfl⟩;have K4:Y1 (fun k=>k=g) w3 W4:=by rw[←hW4];exact(Y1.refl _ w3).set _ _ (.inl rfl)
  have G4:Blk W4 g 75 (Y14 (.pointer (some ⟨gn,0,none⟩)) ta ga ua oa sn ss lim c.name c.disc s.stat s.cmd (.pointer (some ⟨gp,0,none⟩)) lv true):=by rw[←hW4];exact G3.set 14 _
  have z4:W4.heap.size=w3.heap.size:=by rw[←hW4];exact Z3j
  have F4:=F3.own K4 s.stat s.cmd lv s.left true G4 (F3.lft.kept K4 (fun b cs hb e=>by
   have e:b=g:=e;subst e
   exact Ym hb F3.blk (by decide) rfl)) F3.s0 F3.s1 F3.c0 F3.c1 (by decide) (by decide) (by decide)
  have x0:=K4.cell x0 (show ¬w.heap.size=g from Z7);have yi:=K4.cell yi (show ¬y=g from Z7);have hyl:y<w3.heap.size:=z4 ▸Yeb yi;have hxl:w.heap.size<w3.heap.size:=Z7;obtain⟨W5,m5,N5,b5,hgf⟩:=nm_one W4 (p.v Ye) Z7;have F5:=F4.below b5;have cm:=hid (Y3I 38 128 [] _ _ F5 N5 Z7 hgf (show Y1e 38=some _ by rfl) (YcJ (p.v Ye) s.stat s.cmd));unfold Y5A Y1a at cm;have HK5:=hid ((HK3.out.trans K4 (fun i hi=> .inl (.inl hi))).below b5)
  have hR:Ydp s p=({s with closed:=true,stat:=up1 s.stat},[⟨38,128,Yah (p.v Ye) s.stat s.cmd,[]⟩]):=rfl;have HR:=hid hR;rw[z4]at m5 N5 cm;generalize p.v Ye=X at *;clear B3 X3 Y3 CV F3 F4 F5 G3 G4 K4 N5 b5 hgf hR;go_wp2_with fail;refine cm.out.mono ?_;rintro e w6 ⟨v,rfl,hsl,hK,hF⟩;obtain⟨sa,sc,rfl,-⟩: ∃sa sc,v= .slice sa (Yah X s.stat s.cmd).length sc∧True:=Z14;have k7:Below w6.heap.size w6 (w6.alloc (.cells #[.int .i64 38,.bool false,.int .i64 128,.slice sa (Yah X s.stat s.cmd).length sc,.slice none 0 0,.string (bs [])] 63)):=(Yea _ _).alloc (Ye9 _) _
  exact Z1V
end
end
end Go.Proofs.YtfadikchijkcfaaGreatDoor
