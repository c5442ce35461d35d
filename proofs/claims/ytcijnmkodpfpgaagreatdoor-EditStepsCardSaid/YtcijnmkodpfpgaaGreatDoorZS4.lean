/- Functions of the program, and what they give: part 4. -/
import Derived.Test.YtcijnmkodpfpgaaGreatDoorZS3
namespace Go.Proofs.YtcijnmkodpfpgaaGreatDoor
open Go Go.RowKit
set_option maxRecDepth 4000
set_option maxHeartbeats 4000000

def tb29_7:List (Nat × Nat × Nat):=[(0,2097152,0),(0,4194304,0),(0,8388608,0),(7,16777216,14680064),(8,33554432,16777216),(0,67108864,4),(31,0,33554433),(127,0,67108866)]
theorem el39:ElT Tryz.prog 39 70 (Rep.size TUnit) 104 (.agg #[.string ⟨#[]⟩,vI 0,vN,vN,vN,.bool false]) [.string ⟨#[]⟩,vI 0,vN,vN,vN,.bool false]:=⟨Tryz.underlying39,by kernel_rfl,rfl,rfl,rfl,rfl⟩
theorem el36:ElT Tryz.prog 36 52 (Rep.size (Int × Int)) 16 (.agg #[vI 0,vI 0]) [vI 0,vI 0]:=⟨Tryz.underlying36,by kernel_rfl,rfl,rfl,rfl,rfl⟩
def wardmotelaw26_example_p (_n:Nat):Option (TGraph × TRoll):=
  (app ([]:List TUnit) ([(⟨⟨#[97]⟩,(10:Int),([]:List Int),([]:List Int),([]:List Int),false⟩:TUnit)]:List TUnit)).bind fun b0=>(app b0 ([(⟨⟨#[98]⟩,(20:Int),([]:List Int),([]:List Int),([]:List Int),false⟩:TUnit)]:List TUnit)).bind fun c0=>(app c0 ([(⟨⟨#[99]⟩,(30:Int),([]:List Int),([]:List Int),([]:List Int),false⟩:TUnit)]:List TUnit)).bind fun d0=>(app d0 ([(⟨⟨#[100]⟩,(40:Int),([]:List Int),([]:List Int),([]:List Int),false⟩:TUnit)]:List TUnit)).bind fun g0=>some ((⟨(4:Int),([((0:Int),(1:Int)),((1:Int),(2:Int)),((2:Int),(3:Int))]:List (Int × Int))⟩:TGraph),(⟨(0:Int),(0:Int),(0:Int),g0⟩:TRoll))
theorem wardmotelaw26_example_c (n:Nat) (L:List Nat) (w:World) (_hL:∀ b ∈ L,b < w.heap.size)  {r:TGraph × TRoll} (h:wardmotelaw26_example_p n = some r) :
    Calls Tryz.prog 29 #[] w (Gives w fun w' u=>∃ (v0_1 v1_3:Value) (cs0_1 cs1_3:List Value),u = .tuple #[.agg #[vI r.1.fN,v0_1],.agg #[vI r.2.fGroups,vI r.2.fParties,vI r.2.fLevels,v1_3]]∧St w w' (rowsOf w.heap.size [(52,Rep.size (Int × Int),v0_1,r.1.fEdges.length,cs0_1),(70,Rep.size TUnit,v1_3,r.2.fUnits.length,cs1_3)])∧Cells w' (bl (rowsOf w.heap.size [(52,Rep.size (Int × Int),v0_1,r.1.fEdges.length,cs0_1),(70,Rep.size TUnit,v1_3,r.2.fUnits.length,cs1_3)]) ++ L) cs0_1 (r.1.fEdges:List (Int × Int))∧Cells w' (bl (rowsOf w.heap.size [(52,Rep.size (Int × Int),v0_1,r.1.fEdges.length,cs0_1),(70,Rep.size TUnit,v1_3,r.2.fUnits.length,cs1_3)]) ++ L) cs1_3 (r.2.fUnits:List TUnit)):=by
 unfold wardmotelaw26_example_p at h
 have hS0:=AK w
 refine AM Tryz.func29 rfl rfl rfl (fun _ cs0 hb0=>?_)
 refine Ae<|Az .plain rfl (AX [vI 0,vN] hS0) (fun w2 b5 hS3 hT4=>?_)
 refine Az .plain rfl (AX [vI 0,vI 0,vI 0,vN] hS3) (fun w7 t0 hS8 hT9=>?_)
 refine Aa<|Ae<|Az .plain rfl (AX [vI 0,vI 0,vI 0,vN] hS8) (fun t3 v1 H0 b3=>?_)
 refine Aa<|Ak<|Ae<|Ab (AV (vs:=[.string ⟨#[97]⟩,.string ⟨#[98]⟩,.string ⟨#[99]⟩,.string ⟨#[100]⟩]) (u:=.agg #[.string ⟨#[97]⟩,.string ⟨#[98]⟩,.string ⟨#[99]⟩,.string ⟨#[100]⟩]) (e4 rfl rfl rfl rfl) (fun w9=>by kernel_rfl))<|Ac rfl<|Aa<|AB<|MX.loop1<|Ae<|Ab (BA (i:=0) (j:=4) rfl rfl)<|Aa<|Ak<|AY rfl<|Ao<|Ak<|AB<|Ae<|Ac rfl<|Ab (FV.idx1 (cs:=[.string ⟨#[97]⟩,.string ⟨#[98]⟩,.string ⟨#[99]⟩,.string ⟨#[100]⟩]) (k:=0) (m:=1) (len:=4) (by kernel_rfl) (by kernel_rfl) rfl rfl rfl (by omega) rfl)<|Ag rfl<|Ag rfl<|Aa<|Aw<|AH 3 rfl ?_
 refine AS rfl ((H0.memA .hd) 3 _ rfl)<|Ac rfl<|Ac rfl<|Ab (FV.add (i:=0) (j:=1) (r:=1) rfl rfl (by decide))<|Ab (FV.mul (i:=10) (j:=1) (r:=10) rfl rfl (by decide))<|Ab (AV (vs:=[.string ⟨#[97]⟩,vI 10]) (u:=.agg #[.string ⟨#[97]⟩,vI 10,vN,vN,vN,.bool false]) (e2 rfl rfl) (fun w9=>by kernel_rfl)) ?_
 have k3:=AL (α:=Int) H0 L
 refine Az .plain rfl (AE (α:=TUnit) (xs:=([(⟨⟨#[97]⟩,(10:Int),([]:List Int),([]:List Int),([]:List Int),false⟩:TUnit)]:List TUnit)) (vs:=[.agg #[.string ⟨#[97]⟩,vI 10,vN,vN,vN,.bool false]]) (ds' :=[.string ⟨#[97]⟩,vI 10,vN,vN,vN,.bool false]) rfl H0 el39 rfl (e1 rfl) (by kernel_rfl) rfl) (fun u3 Q2 v0 c3=>?_)
 have V0:=AL (α:=Int) v0 L
 have Y1:=Ar (cs:=[.string ⟨#[97]⟩,vI 10,vN,vN,vN,.bool false]) (xs:=(([(⟨⟨#[97]⟩,(10:Int),([]:List Int),([]:List Int),([]:List Int),false⟩:TUnit)]:List TUnit):List TUnit)) v0 L (Aq (cs:=[.string ⟨#[97]⟩,vI 10,vN,vN,vN,.bool false]) (ds:=[]) (mk_TUnit ⟨#[97]⟩ (10:Int) ([]:List Int) V0 ([]:List Int) V0 ([]:List Int) V0 false) (AC _ _))
 have J0:=v0.nilRow 70 (Rep.size TUnit)
 have H1:=St.nilRowT v0 70 (Rep.size TUnit)
 have Z1:=Ar (cs:=[]) (xs:=([]:List TUnit)) J0 L (AC _ _)
 obtain ⟨H3,H2,h⟩:=bi h
 have v2:=Al Y1 H1
 refine RG.doesL .plain rfl (AR (α:=TUnit) (ys:=([(⟨⟨#[97]⟩,(10:Int),([]:List Int),([]:List Int),([]:List Int),false⟩:TUnit)]:List TUnit)) H2 J0 (fun _ _=>.hd) el39 rfl rfl Z1 (Src.row (α:=TUnit) J0 (.tl .hd) v2)) (fun Z0 x3 ⟨W2,K0,d3,b2⟩=>?_)
 refine AH 3 rfl<|BG .plain (Br (j:=3) (old:=[vI 0,vI 0,vI 0,vN]) (news:=[Z0]) (new' :=[vI 0,vI 0,vI 0,Z0]) K0 (.tl (.tl .hd)) rfl rfl rfl (St.c1 (α:=TUnit) K0 .hd) rfl rfl (o1 (Bz (α:=TUnit) K0 .hd)) rfl) (fun y3 B1 I1=>?_)
 refine Aa<|AF<|Aw<|Ab (FV.add (i:=0) (j:=1) (r:=1) rfl rfl (by decide))<|Ac rfl<|Aa<|MX.again1 ?_
 obtain ⟨M0,J1⟩:=AD B1 (.one .hd (.one (.tl .hd) (.one (.tl .hd) (.one (.tl .hd) .done))))
 refine Ae<|Ab (BA (i:=1) (j:=4) rfl rfl)<|Aa<|Ak<|AY rfl<|Ao<|Ak<|AB<|Ae<|Ac rfl<|Ab (FV.idx1 (cs:=[.string ⟨#[97]⟩,.string ⟨#[98]⟩,.string ⟨#[99]⟩,.string ⟨#[100]⟩]) (k:=1) (m:=1) (len:=4) (by kernel_rfl) (by kernel_rfl) rfl rfl rfl (by omega) rfl)<|Ag rfl<|Ag rfl<|Aa<|Aw<|AH 3 rfl<|AS rfl ((M0.memA (.tl .hd)) 3 _ rfl)<|Ac rfl<|Ac rfl<|Ab (FV.add (i:=1) (j:=1) (r:=2) rfl rfl (by decide))<|Ab (FV.mul (i:=10) (j:=2) (r:=20) rfl rfl (by decide))<|Ab (AV (vs:=[.string ⟨#[98]⟩,vI 20]) (u:=.agg #[.string ⟨#[98]⟩,vI 20,vN,vN,vN,.bool false]) (e2 rfl rfl) (fun w9=>by kernel_rfl)) ?_
 have p3:=AL (α:=Int) M0 L
 refine Az .plain rfl (AE (α:=TUnit) (xs:=([(⟨⟨#[98]⟩,(20:Int),([]:List Int),([]:List Int),([]:List Int),false⟩:TUnit)]:List TUnit)) (vs:=[.agg #[.string ⟨#[98]⟩,vI 20,vN,vN,vN,.bool false]]) (ds' :=[.string ⟨#[98]⟩,vI 20,vN,vN,vN,.bool false]) rfl M0 el39 rfl (e1 rfl) (by kernel_rfl) rfl) (fun z3 R2 x0 K1=>?_)
 have W0:=AL (α:=Int) x0 L
 have c2:=Ar (cs:=[.string ⟨#[98]⟩,vI 20,vN,vN,vN,.bool false]) (xs:=(([(⟨⟨#[98]⟩,(20:Int),([]:List Int),([]:List Int),([]:List Int),false⟩:TUnit)]:List TUnit):List TUnit)) x0 L (Aq (cs:=[.string ⟨#[98]⟩,vI 20,vN,vN,vN,.bool false]) (ds:=[]) (mk_TUnit ⟨#[98]⟩ (20:Int) ([]:List Int) W0 ([]:List Int) W0 ([]:List Int) W0 false) (AC _ _))
 obtain ⟨I3,I2,h⟩:=bi h
 have E2:=Tt I1 (Tt J1 K1)
 have x2:=Al b2 E2
 refine RG.doesL .plain rfl (AR (α:=TUnit) (ys:=([(⟨⟨#[98]⟩,(20:Int),([]:List Int),([]:List Int),([]:List Int),false⟩:TUnit)]:List TUnit)) I2 x0 (fun _ _=>(.tl .hd)) el39 rfl rfl x2 (Src.row (α:=TUnit) x0 .hd c2)) (fun b1 A3 ⟨X2,P0,g3,d2⟩=>?_)
 refine AH 3 rfl<|BG .plain (Br (j:=3) (old:=[vI 0,vI 0,vI 0,Z0]) (news:=[b1]) (new' :=[vI 0,vI 0,vI 0,b1]) P0 (.tl (.tl .hd)) rfl rfl rfl (St.c1 (α:=TUnit) P0 (.tl .hd)) rfl rfl (o1 (Bz (α:=TUnit) P0 (.tl .hd))) rfl) (fun B3 C1 M1=>?_)
 refine Aa<|AF<|Aw<|Ab (FV.add (i:=1) (j:=1) (r:=2) rfl rfl (by decide))<|Ac rfl<|Aa<|MX.again1 ?_
 obtain ⟨Q0,P1⟩:=AD C1 (.one (.tl .hd) (.one (.tl .hd) (.one (.tl .hd) (.one (.tl .hd) .done))))
 refine Ae<|Ab (BA (i:=2) (j:=4) rfl rfl)<|Aa<|Ak<|AY rfl<|Ao<|Ak<|AB<|Ae<|Ac rfl<|Ab (FV.idx1 (cs:=[.string ⟨#[97]⟩,.string ⟨#[98]⟩,.string ⟨#[99]⟩,.string ⟨#[100]⟩]) (k:=2) (m:=1) (len:=4) (by kernel_rfl) (by kernel_rfl) rfl rfl rfl (by omega) rfl)<|Ag rfl<|Ag rfl<|Aa<|Aw<|AH 3 rfl<|AS rfl ((Q0.memA (.tl .hd)) 3 _ rfl)<|Ac rfl<|Ac rfl<|Ab (FV.add (i:=2) (j:=1) (r:=3) rfl rfl (by decide))<|Ab (FV.mul (i:=10) (j:=3) (r:=30) rfl rfl (by decide))<|Ab (AV (vs:=[.string ⟨#[99]⟩,vI 30]) (u:=.agg #[.string ⟨#[99]⟩,vI 30,vN,vN,vN,.bool false]) (e2 rfl rfl) (fun w9=>by kernel_rfl)) ?_
 have q3:=AL (α:=Int) Q0 L
 refine Az .plain rfl (AE (α:=TUnit) (xs:=([(⟨⟨#[99]⟩,(30:Int),([]:List Int),([]:List Int),([]:List Int),false⟩:TUnit)]:List TUnit)) (vs:=[.agg #[.string ⟨#[99]⟩,vI 30,vN,vN,vN,.bool false]]) (ds' :=[.string ⟨#[99]⟩,vI 30,vN,vN,vN,.bool false]) rfl Q0 el39 rfl (e1 rfl) (by kernel_rfl) rfl) (fun C3 U2 y0 Q1=>?_)
 have X0:=AL (α:=Int) y0 L
 have g2:=Ar (cs:=[.string ⟨#[99]⟩,vI 30,vN,vN,vN,.bool false]) (xs:=(([(⟨⟨#[99]⟩,(30:Int),([]:List Int),([]:List Int),([]:List Int),false⟩:TUnit)]:List TUnit):List TUnit)) y0 L (Aq (cs:=[.string ⟨#[99]⟩,vI 30,vN,vN,vN,.bool false]) (ds:=[]) (mk_TUnit ⟨#[99]⟩ (30:Int) ([]:List Int) X0 ([]:List Int) X0 ([]:List Int) X0 false) (AC _ _))
 obtain ⟨J3,J2,h⟩:=bi h
 have F2:=Tt M1 (Tt P1 Q1)
 have y2:=Al d2 F2
 refine RG.doesL .plain rfl (AR (α:=TUnit) (ys:=([(⟨⟨#[99]⟩,(30:Int),([]:List Int),([]:List Int),([]:List Int),false⟩:TUnit)]:List TUnit)) J2 y0 (fun _ _=>(.tl .hd)) el39 rfl rfl y2 (Src.row (α:=TUnit) y0 .hd g2)) (fun d1 D3 ⟨Y2,R0,j3,j2⟩=>?_)
 refine AH 3 rfl<|BG .plain (Br (j:=3) (old:=[vI 0,vI 0,vI 0,b1]) (news:=[d1]) (new' :=[vI 0,vI 0,vI 0,d1]) R0 (.tl (.tl .hd)) rfl rfl rfl (St.c1 (α:=TUnit) R0 (.tl .hd)) rfl rfl (o1 (Bz (α:=TUnit) R0 (.tl .hd))) rfl) (fun E3 D1 R1=>?_)
 refine Aa<|AF<|Aw<|Ab (FV.add (i:=2) (j:=1) (r:=3) rfl rfl (by decide))<|Ac rfl<|Aa<|MX.again1 ?_
 obtain ⟨U0,U1⟩:=AD D1 (.one (.tl .hd) (.one (.tl .hd) (.one (.tl .hd) (.one (.tl .hd) .done))))
 refine Ae<|Ab (BA (i:=3) (j:=4) rfl rfl)<|Aa<|Ak<|AY rfl<|Ao<|Ak<|AB<|Ae<|Ac rfl<|Ab (FV.idx1 (cs:=[.string ⟨#[97]⟩,.string ⟨#[98]⟩,.string ⟨#[99]⟩,.string ⟨#[100]⟩]) (k:=3) (m:=1) (len:=4) (by kernel_rfl) (by kernel_rfl) rfl rfl rfl (by omega) rfl)<|Ag rfl<|Ag rfl<|Aa<|Aw<|AH 3 rfl<|AS rfl ((U0.memA (.tl .hd)) 3 _ rfl)<|Ac rfl<|Ac rfl<|Ab (FV.add (i:=3) (j:=1) (r:=4) rfl rfl (by decide))<|Ab (FV.mul (i:=10) (j:=4) (r:=40) rfl rfl (by decide))<|Ab (AV (vs:=[.string ⟨#[100]⟩,vI 40]) (u:=.agg #[.string ⟨#[100]⟩,vI 40,vN,vN,vN,.bool false]) (e2 rfl rfl) (fun w9=>by kernel_rfl)) ?_
 have s3:=AL (α:=Int) U0 L
 refine Az .plain rfl (AE (α:=TUnit) (xs:=([(⟨⟨#[100]⟩,(40:Int),([]:List Int),([]:List Int),([]:List Int),false⟩:TUnit)]:List TUnit)) (vs:=[.agg #[.string ⟨#[100]⟩,vI 40,vN,vN,vN,.bool false]]) (ds' :=[.string ⟨#[100]⟩,vI 40,vN,vN,vN,.bool false]) rfl U0 el39 rfl (e1 rfl) (by kernel_rfl) rfl) (fun F3 V2 z0 V1=>?_)
 have Y0:=AL (α:=Int) z0 L
 have k2:=Ar (cs:=[.string ⟨#[100]⟩,vI 40,vN,vN,vN,.bool false]) (xs:=(([(⟨⟨#[100]⟩,(40:Int),([]:List Int),([]:List Int),([]:List Int),false⟩:TUnit)]:List TUnit):List TUnit)) z0 L (Aq (cs:=[.string ⟨#[100]⟩,vI 40,vN,vN,vN,.bool false]) (ds:=[]) (mk_TUnit ⟨#[100]⟩ (40:Int) ([]:List Int) Y0 ([]:List Int) Y0 ([]:List Int) Y0 false) (AC _ _))
 obtain ⟨D0,K2,h⟩:=bi h
 have G2:=Tt R1 (Tt U1 V1)
 have z2:=Al j2 G2
 refine RG.doesL .plain rfl (AR (α:=TUnit) (ys:=([(⟨⟨#[100]⟩,(40:Int),([]:List Int),([]:List Int),([]:List Int),false⟩:TUnit)]:List TUnit)) K2 z0 (fun _ _=>(.tl .hd)) el39 rfl rfl z2 (Src.row (α:=TUnit) z0 .hd k2)) (fun c0 G3 ⟨u0,F0,Z2,W1⟩=>?_)
 refine AH 3 rfl<|BG .plain (Br (j:=3) (old:=[vI 0,vI 0,vI 0,d1]) (news:=[c0]) (new' :=[vI 0,vI 0,vI 0,c0]) F0 (.tl (.tl .hd)) rfl rfl rfl (St.c1 (α:=TUnit) F0 (.tl .hd)) rfl rfl (o1 (Bz (α:=TUnit) F0 (.tl .hd))) rfl) (fun M2 x1 E1=>?_)
 refine Aa<|AF<|Aw<|Ab (FV.add (i:=3) (j:=1) (r:=4) rfl rfl (by decide))<|Ac rfl<|Aa<|MX.again1 ?_
 obtain ⟨G0,F1⟩:=AD x1 (.one (.tl .hd) (.one (.tl .hd) (.one (.tl .hd) (.one (.tl .hd) .done))))
 refine Ae<|Ab (BA (i:=4) (j:=4) rfl rfl)<|Aa<|Ak<|BC rfl<|Bd rfl<|Ak<|Bm 6 tb29_7 (by kernel_rfl) (by kernel_rfl) (by kernel_rfl) (fun b0 s0=>?_)
 refine Ah 0 1 b0 rfl s0 (fun _=>AV (vs:=[vI 0,vI 1]) (u:=.agg #[vI 0,vI 1]) (e2 rfl rfl) (fun w9=>by kernel_rfl)) rfl<|Ah 1 3 b0 rfl s0 (fun _=>AV (vs:=[vI 1,vI 2]) (u:=.agg #[vI 1,vI 2]) (e2 rfl rfl) (fun w9=>by kernel_rfl)) rfl<|Ah 2 7 b0 rfl s0 (fun _=>AV (vs:=[vI 2,vI 3]) (u:=.agg #[vI 2,vI 3]) (e2 rfl rfl) (fun w9=>by kernel_rfl)) rfl<|RD.meet (α:=Value × (List Value)) (fun ⟨g0,p0⟩=>[(0,vP b5),(1,vP t0),(26,.agg #[vI 0,vI 0,vI 0,c0])]) (fun ⟨g0,p0⟩ C0=>St w C0 [.row w.heap.size 52 (Rep.size (Int × Int)) g0 (([((0:Int),(1:Int)),((1:Int),(2:Int)),((2:Int),(3:Int))]:List (Int × Int)).length) p0,.row w.heap.size 70 (Rep.size TUnit) c0 D0.length u0,.cells t0 [vI 0,vI 0,vI 0,vN] 41,.cells b5 [vI 4,g0] 38]∧Tr M2 [.row w.heap.size 70 (Rep.size TUnit) c0 D0.length u0,.cells v1 [vI 0,vI 0,vI 0,c0] 41,.cells t0 [vI 0,vI 0,vI 0,vN] 41,.cells b5 [vI 0,vN] 38] C0 [.row w.heap.size 52 (Rep.size (Int × Int)) g0 (([((0:Int),(1:Int)),((1:Int),(2:Int)),((2:Int),(3:Int))]:List (Int × Int)).length) p0,.row w.heap.size 70 (Rep.size TUnit) c0 D0.length u0,.cells t0 [vI 0,vI 0,vI 0,vN] 41,.cells b5 [vI 4,g0] 38]∧Cells C0 (bl [.row w.heap.size 52 (Rep.size (Int × Int)) g0 (([((0:Int),(1:Int)),((1:Int),(2:Int)),((2:Int),(3:Int))]:List (Int × Int)).length) p0,.row w.heap.size 70 (Rep.size TUnit) c0 D0.length u0,.cells t0 [vI 0,vI 0,vI 0,vN] 41,.cells b5 [vI 4,g0] 38] ++ L) p0 (([((0:Int),(1:Int)),((1:Int),(2:Int)),((2:Int),(3:Int))]:List (Int × Int)):List (Int × Int))) 1 127 ?_ ?_
 rintro ⟨g0,p0⟩ C0 ⟨g1,G1,X1⟩
 try dsimp only
 refine RD.nw 7 255 b0 rfl rfl .plain (Bq (news:=[vI 0,vI 0,vI 0,c0]) g1 (.tl (.tl .hd)) rfl rfl rfl rfl rfl rfl (o4 rfl rfl rfl (Bz (α:=TUnit) g1 (.tl .hd)))) (fun v3 I0 k1=>?_)
 refine Bc (doneD_ok b0 (by kernel_rfl))<|Am rfl<|Ay (u:=.tuple #[.agg #[vI 4,g0],.agg #[vI 0,vI 0,vI 0,c0]]) hb0 Tryz.func29 rfl (.cons (.many (cs:=[vI 4,g0]) (by kernel_rfl) rfl (I0.memA (.tl (.tl (.tl .hd))))) (.cons (.many (cs:=[vI 0,vI 0,vI 0,c0]) (by kernel_rfl) rfl (I0.memA (.tl (.tl .hd)))) .nil)) rfl ?_
 obtain ⟨j1,p1⟩:=AD I0 (.one .hd (.one .hd .done))
 cases h
 have p2:=Al X1 (Tt k1 p1)
 have A2:=Tt E1 (Tt F1 (Tt G1 (Tt k1 p1)))
 have q2:=Al W1 A2
 exact ⟨j1.ag,fun w9 hw9=>⟨g0,c0,p0,u0,rfl,j1.agree hw9,Cells.keep0 p2 hw9,Cells.keep0 q2 hw9⟩⟩
 intro E0
 refine Bv [3,5] (readyD_ok b0 (by kernel_rfl)) ⟨?_,?_,trivial⟩
 refine BI (m' :=15) (stepC_ok b0 (by kernel_rfl)) rfl .plain rfl (AE (α:=Int × Int) (xs:=([((0:Int),(1:Int)),((1:Int),(2:Int)),((2:Int),(3:Int))]:List (Int × Int))) (vs:=[.agg #[vI 0,vI 1],.agg #[vI 1,vI 2],.agg #[vI 2,vI 3]]) (ds' :=[vI 0,vI 1,vI 1,vI 2,vI 2,vI 3]) rfl G0 el36 rfl (e3 rfl rfl rfl) (by kernel_rfl) rfl) (fun P2 d0 j0 A0=>?_)
 have B0:=Ar (cs:=[vI 0,vI 1,vI 1,vI 2,vI 2,vI 3]) (xs:=(([((0:Int),(1:Int)),((1:Int),(2:Int)),((2:Int),(3:Int))]:List (Int × Int)):List (Int × Int))) j0 L (Aq (cs:=[vI 0,vI 1]) (ds:=[vI 1,vI 2,vI 2,vI 3]) (mk_A52 (0:Int) (1:Int)) (Aq (cs:=[vI 1,vI 2]) (ds:=[vI 2,vI 3]) (mk_A52 (1:Int) (2:Int)) (Aq (cs:=[vI 2,vI 3]) (ds:=[]) (mk_A52 (2:Int) (3:Int)) (AC _ _))))
 refine Ah 4 31 b0 rfl s0 (fun _=>AV (vs:=[vI 4,(vS d0 3)]) (u:=.agg #[vI 4,(vS d0 3)]) (e2 rfl rfl) (fun w9=>by kernel_rfl)) rfl<|Bv [5,6] (readyD_ok b0 (by kernel_rfl)) ⟨?_,?_,trivial⟩
 refine BW (m' :=63) (stepC_ok b0 (by kernel_rfl)) rfl .plain rfl (AG rfl (j0.memA (.tl (.tl .hd))))<|RD.nw 6 127 b0 rfl rfl .plain (Bq (news:=[vI 4,(vS d0 3)]) j0 (.tl (.tl (.tl (.tl .hd)))) rfl rfl rfl rfl rfl rfl (o2 rfl (Bz (α:=Int × Int) j0 .hd))) (fun u1 q0 k0=>?_)
 obtain ⟨y1,q1⟩:=AD q0 (.one .hd (.one .hd (.one (.tl .hd) (.one (.tl .hd) .done))))
 have s2:=Al B0 (Tt k0 q1)
 have B2:=Tt A0 (Tt k0 q1)
 exact E0 ((vS d0 3),[vI 0,vI 1,vI 1,vI 2,vI 2,vI 3]) _ _ ⟨rfl,rfl,rfl,trivial⟩ ⟨y1,B2,s2⟩
 refine RO.now (m' :=95) (stepC_ok b0 (by kernel_rfl)) rfl rfl .plain (Bq (news:=[vI 4,(vS d0 3)]) j0 (.tl (.tl (.tl (.tl .hd)))) rfl rfl rfl rfl rfl rfl (o2 rfl (Bz (α:=Int × Int) j0 .hd))) (fun u1 q0 k0=>?_)
 refine AT 5 127 128 b0 rfl s0 (AG rfl (q0.memA (.tl (.tl .hd)))) rfl ?_
 obtain ⟨z1,s1⟩:=AD q0 (.one .hd (.one .hd (.one (.tl .hd) (.one (.tl .hd) .done))))
 have t2:=Al B0 (Tt k0 s1)
 have C2:=Tt A0 (Tt k0 s1)
 exact E0 ((vS d0 3),[vI 0,vI 1,vI 1,vI 2,vI 2,vI 3]) _ _ ⟨rfl,rfl,rfl,trivial⟩ ⟨z1,C2,t2⟩
 refine BW (m' :=39) (stepC_ok b0 (by kernel_rfl)) rfl .plain rfl (AG rfl (G0.memA (.tl .hd)))<|RD.nu 3 47 b0 rfl .plain rfl (AE (α:=Int × Int) (xs:=([((0:Int),(1:Int)),((1:Int),(2:Int)),((2:Int),(3:Int))]:List (Int × Int))) (vs:=[.agg #[vI 0,vI 1],.agg #[vI 1,vI 2],.agg #[vI 2,vI 3]]) (ds' :=[vI 0,vI 1,vI 1,vI 2,vI 2,vI 3]) rfl G0 el36 rfl (e3 rfl rfl rfl) (by kernel_rfl) rfl) (fun P2 d0 j0 A0=>?_)
 have B0:=Ar (cs:=[vI 0,vI 1,vI 1,vI 2,vI 2,vI 3]) (xs:=(([((0:Int),(1:Int)),((1:Int),(2:Int)),((2:Int),(3:Int))]:List (Int × Int)):List (Int × Int))) j0 L (Aq (cs:=[vI 0,vI 1]) (ds:=[vI 1,vI 2,vI 2,vI 3]) (mk_A52 (0:Int) (1:Int)) (Aq (cs:=[vI 1,vI 2]) (ds:=[vI 2,vI 3]) (mk_A52 (1:Int) (2:Int)) (Aq (cs:=[vI 2,vI 3]) (ds:=[]) (mk_A52 (2:Int) (3:Int)) (AC _ _))))
 refine Ah 4 63 b0 rfl s0 (fun _=>AV (vs:=[vI 4,(vS d0 3)]) (u:=.agg #[vI 4,(vS d0 3)]) (e2 rfl rfl) (fun w9=>by kernel_rfl)) rfl<|RD.nw 6 127 b0 rfl rfl .plain (Bq (news:=[vI 4,(vS d0 3)]) j0 (.tl (.tl (.tl (.tl .hd)))) rfl rfl rfl rfl rfl rfl (o2 rfl (Bz (α:=Int × Int) j0 .hd))) (fun u1 q0 k0=>?_)
 obtain ⟨A1,t1⟩:=AD q0 (.one .hd (.one .hd (.one (.tl .hd) (.one (.tl .hd) .done))))
 have u2:=Al B0 (Tt k0 t1)
 have D2:=Tt A0 (Tt k0 t1)
 exact E0 ((vS d0 3),[vI 0,vI 1,vI 1,vI 2,vI 2,vI 3]) _ _ ⟨rfl,rfl,rfl,trivial⟩ ⟨A1,D2,u2⟩
def edit_Start_p (n:Nat) (a0:TGraph) (a1:TRoll) (a2:List Int) (a3:Int):Option (TSession × Int):=
  (judge_Check_p n a0 a1 a2 a3).bind fun c0=>(if c0 = 0 then (balance_Totals_p n a1 a2 a3).bind fun b0=>(if b0.2 = 0 then some ((⟨a3,a2,b0.1,([]:List TMove),([]:List TMove)⟩:TSession),(0:Int)) else some ((⟨(0:Int),([]:List Int),([]:List Int),([]:List TMove),([]:List TMove)⟩:TSession),b0.2)) else some ((⟨(0:Int),([]:List Int),([]:List Int),([]:List TMove),([]:List TMove)⟩:TSession),c0))
theorem edit_Start_c (n:Nat) (L:List Nat) (w:World) (hL:∀ b ∈ L,b < w.heap.size) (a0:TGraph) {v0_1:Value} (h0_1:Rep.R w L [v0_1] a0.fEdges) (a1:TRoll) {v1_3:Value} (h1_3:Rep.R w L [v1_3] a1.fUnits) (a2:List Int) {v2_0:Value} (h2_0:Rep.R w L [v2_0] a2) (a3:Int)  {r:TSession × Int} (h:edit_Start_p n a0 a1 a2 a3 = some r) :
    Calls Tryz.prog 30 #[.agg #[vI a0.fN,v0_1],.agg #[vI a1.fGroups,vI a1.fParties,vI a1.fLevels,v1_3],v2_0,vI a3] w (Gives w fun w' u=>∃ v0_1 v0_2 v0_3 v0_4:Value,u = .tuple #[.agg #[vI r.1.fK,v0_1,v0_2,v0_3,v0_4],vI r.2]∧Rep.R w' L [v0_1] r.1.fPlan∧Rep.R w' L [v0_2] r.1.fTotals∧Rep.R w' L [v0_3] r.1.fDone∧Rep.R w' L [v0_4] r.1.fUndone):=by
 unfold edit_Start_p at h
 have hS0:=AK w
 refine AM Tryz.func30 rfl rfl rfl (fun _ cs0 hb0=>?_)
 refine Ae<|Az .plain rfl (AI hS0 rfl rfl) (fun w2 b5 hS3 hT4=>?_)
 refine Az .plain rfl (AI hS3 rfl rfl) (fun w7 P0 hS8 hT9=>?_)
 refine Az .plain rfl (AX [vI 0,vN,vN,vN,vN] hS8) (fun b1 Q0 b0 V0=>?_)
 refine Ag rfl<|Aa<|Ak<|Ae<|Ab (AG rfl (b0.memA (.tl (.tl .hd))))<|Ab (AG rfl (b0.memA (.tl .hd)))<|Ac rfl<|Ac rfl ?_
 obtain ⟨z0,H0,h⟩:=bi h
 refine BE (vI z0) body47 rfl (e4 rfl rfl rfl rfl) (fun w9 hw9=>judge_Check_c n _ w9 (b0.hL0 hL hw9) a0 (b0.k0 h0_1 hw9) a1 (b0.k0 h1_3 hw9) a2 (b0.k0 h2_0 hw9) a3 H0) rfl<|Ag rfl<|Aa<|Ae<|Ac rfl<|Ab (BO (i:=z0) (j:=0) rfl rfl)<|Aa<|BV rfl h (fun A0 h=>?_) (fun A0 h=>?_)
 refine Ao<|Ae<|Ab (AG rfl (b0.memA (.tl .hd)))<|Ac rfl<|Ac rfl ?_
 obtain ⟨J0,I0,h⟩:=bi h
 refine Bx (fst:=[]) (cap:=[]) .plain body24 rfl (e3 rfl rfl rfl) (fun w9 hw9=>balance_Totals_c n _ w9 (b0.hL hL hw9) a1 (b0.km h1_3 hw9) a2 (b0.km h2_0 hw9) a3 I0) rfl (fun c1 Z0 D0 ⟨j0,hu_,q0⟩=>?_)
 subst hu_
 obtain ⟨p0,W0⟩:=b0.agr D0
 refine Ac rfl<|Ab (Au rfl rfl)<|Ab (Au rfl rfl)<|Ag rfl<|Ag rfl<|Aa<|Ak<|Ae<|Ac rfl<|Ab (BO (i:=J0.2) (j:=0) rfl rfl)<|Aa<|BV rfl h (fun B0 h=>?_) (fun B0 h=>?_)
 refine Ao<|Ae<|Ac rfl<|Ac rfl<|Ac rfl ?_
 have s0:=Ax h2_0 p0
 obtain ⟨K0,R0,F0,_⟩:=BQ s0
 obtain ⟨M0,U0,G0,_⟩:=BQ q0
 refine Ab (AV (vs:=[vI a3,v2_0,j0]) (u:=.agg #[vI a3,v2_0,j0,vN,vN]) (e3 rfl rfl rfl) (fun w9=>by rw [F0,G0]; try kernel_rfl))<|Bk [vI a3,v2_0,j0,vN,vN] p0 .hd (o5 rfl (AP s0) (AP q0) rfl rfl) (fun d1 g0 C0=>?_)
 refine Ag rfl<|Aa<|Am rfl ?_
 have t0:=AL (α:=TMove) g0 L
 refine Ay hb0 Tryz.func30 rfl (.cons (.many (cs:=[vI a3,v2_0,j0,vN,vN]) (by kernel_rfl) rfl (g0.memA .hd)) (.cons (.tmp rfl) .nil)) rfl ?_
 cases h
 have E0:=Aj q0 C0
 exact ⟨g0.ag,fun w9 hw9=>⟨v2_0,j0,vN,vN,rfl,g0.k0 h2_0 hw9,g0.kd E0 hw9,g0.kd t0 hw9,g0.kd t0 hw9⟩⟩
 refine Ae<|Ab (AV (vs:=[]) (u:=.agg #[vI 0,vN,vN,vN,vN]) evs_nil (fun w9=>by kernel_rfl))<|Ac rfl<|Bk [vI 0,vN,vN,vN,vN] p0 .hd (onesB rfl) (fun g1 c0 X0=>?_)
 refine Ag rfl<|Aa<|Am rfl ?_
 have u0:=AL (α:=Int) c0 L
 have v0:=AL (α:=TMove) c0 L
 refine Ay hb0 Tryz.func30 rfl (.cons (.many (cs:=[vI 0,vN,vN,vN,vN]) (by kernel_rfl) rfl (c0.memA .hd)) (.cons (.tmp rfl) .nil)) rfl ?_
 cases h
 exact ⟨c0.ag,fun w9 hw9=>⟨vN,vN,vN,vN,rfl,c0.kd u0 hw9,c0.kd u0 hw9,c0.kd v0 hw9,c0.kd v0 hw9⟩⟩
 refine Ae<|Ab (AV (vs:=[]) (u:=.agg #[vI 0,vN,vN,vN,vN]) evs_nil (fun w9=>by kernel_rfl))<|Ac rfl<|Bk [vI 0,vN,vN,vN,vN] b0 .hd (onesB rfl) (fun j1 d0 Y0=>?_)
 refine Ag rfl<|Aa<|Am rfl ?_
 have x0:=AL (α:=Int) d0 L
 have y0:=AL (α:=TMove) d0 L
 refine Ay hb0 Tryz.func30 rfl (.cons (.many (cs:=[vI 0,vN,vN,vN,vN]) (by kernel_rfl) rfl (d0.memA .hd)) (.cons (.tmp rfl) .nil)) rfl ?_
 cases h
 exact ⟨d0.ag,fun w9 hw9=>⟨vN,vN,vN,vN,rfl,d0.kd x0 hw9,d0.kd x0 hw9,d0.kd y0 hw9,d0.kd y0 hw9⟩⟩
def wardmotelaw26_fails_1_p (n:Nat) (a0:TSession) (a1:Int) (a2:Int):Option Bool:=
  (wardmoteref26_Same_p n a0 (⟨(0:Int),([]:List Int),([]:List Int),([]:List TMove),([]:List TMove)⟩:TSession)).bind fun y6=>(if y6 = true then some (decide (a1 = a2)) else some false)
theorem wardmotelaw26_fails_1_c (n:Nat) (L:List Nat) (w:World) (hL:∀ b ∈ L,b < w.heap.size) (a0:TSession) {v0_1:Value} (h0_1:Rep.R w L [v0_1] a0.fPlan) {v0_2:Value} (h0_2:Rep.R w L [v0_2] a0.fTotals) {v0_3:Value} (h0_3:Rep.R w L [v0_3] a0.fDone) {v0_4:Value} (h0_4:Rep.R w L [v0_4] a0.fUndone) (a1:Int) (a2:Int) {p2:Nat} (m2:∀ j9 v9,([vI a2]:List Value)[j9]? = some v9 → w.cell? ((⟨p2,0,none⟩:Addr).add j9) = some v9)  {r:Bool} (h:wardmotelaw26_fails_1_p n a0 a1 a2 = some r) :
    Calls Tryz.prog 64 #[.agg #[vI a0.fK,v0_1,v0_2,v0_3,v0_4],vI a1,.pointer (some ⟨p2,0,none⟩)] w (Gives w fun _ u=>u = .bool r):=by
 unfold wardmotelaw26_fails_1_p at h
 have hS0:=AK w
 refine AM Tryz.func64 rfl rfl rfl (fun _ cs0 hb0=>?_)
 refine Ae<|Az .plain rfl (AI hS0 rfl rfl) (fun w2 b5 hS3 hT4=>?_)
 refine Ag rfl<|Aa<|Ae<|Ab (AG rfl (hS3.memA .hd))<|Ab (AV (vs:=[]) (u:=.agg #[vI 0,vN,vN,vN,vN]) evs_nil (fun w9=>by kernel_rfl)) ?_
 obtain ⟨y6,hy6,h⟩:=bi h
 refine BE (.bool y6) body15 rfl (e2 rfl rfl) (fun w9 hw9=>wardmoteref26_Same_c n _ w9 (hS3.hL0 hL hw9) a0 (hS3.k0 h0_1 hw9) (hS3.k0 h0_2 hw9) (hS3.k0 h0_3 hw9) (hS3.k0 h0_4 hw9) (⟨(0:Int),([]:List Int),([]:List Int),([]:List TMove),([]:List TMove)⟩:TSession) (Av (Rep.nilSlice _ _) hw9) (Av (Rep.nilSlice _ _) hw9) (Av (Rep.nilSlice _ _) hw9) (Av (Rep.nilSlice _ _) hw9) hy6) rfl<|Ac rfl<|RG.ifb (s:=9) rfl h (fun c7 h=>?_) (fun c7 h=>?_)
 refine Ap (Ai rfl)<|Ap (AA rfl ((fun j9 v9 h9=>hS3.ag.cell0 (m2 j9 v9 h9)) 0 _ rfl))<|Ap (FV.eql (i:=a1) (j:=a2) rfl rfl)<|AU rfl rfl<|Ag rfl<|Aa<|Am rfl<|AJ hb0 Tryz.func64 rfl rfl ?_
 cases h
 exact hS3.gv
 refine Af<|Af<|Af<|AO rfl rfl<|Ag rfl<|Aa<|Am rfl<|AJ hb0 Tryz.func64 rfl rfl ?_
 cases h
 exact hS3.gv
theorem wardmotelaw26_fails_c (n:Nat) (L:List Nat) (w:World) (_hL:∀ b ∈ L,b < w.heap.size) (a0:Int)  :
    Calls Tryz.prog 31 #[vI a0] w (Gives w fun w' u=>∃ b5:Nat,u = .func (.func 64) #[] #[vP b5]∧St w w' [.cells b5 [vI a0] 54]):=by
 have hS0:=AK w
 refine AM Tryz.func31 rfl rfl rfl (fun _ cs0 hb0=>?_)
 refine Ae<|Az .plain rfl (AI hS0 rfl rfl) (fun w2 b5 hS3 hT4=>?_)
 refine Ag rfl<|Aa<|Ae<|Ab (FV.makeFunc (vs:=[]) (us:=[vP b5]) evs_nil (e1 rfl))<|Ag rfl<|Aa<|Am rfl<|Ay (u:=.func (.func 64) #[] #[vP b5]) hb0 Tryz.func31 rfl (.cons (.tmp rfl) .nil) rfl ?_
 exact ⟨hS3.ag,fun w9 hw9=>⟨b5,rfl,hS3.agree hw9⟩⟩
def tb9_7:List (Nat × Nat × Nat):=[(0,16777216,16),(1,33554432,16777216),(0,67108864,2),(0,134217728,4),(0,268435456,0),(30,536870912,469762048),(32,1073741824,536870912),(32,2147483648,536870912),(226,4294967296,3254779904),(256,8589934592,4294967296),(512,17179869184,8589934624),(1536,34359738368,25769803776),(512,68719476736,8589934594),(512,137438953472,8589934596),(512,274877906944,8589934608),(31232,549755813888,489626271744),(33280,1099511627776,558345748480),(33280,2199023255552,558345748480),(231936,4398046511104,3341484556288),(262656,8796093022208,4406636445696),(786432,17592186044416,8796093022208),(1048576,35184372088832,17592186044480),(3145728,70368744177664,52776558133248),(1048576,140737488355328,17592186044418),(1048576,281474976710656,17592186044420),(1048576,562949953421312,17592186044448),(63963136,1125899906842624,1002754604531712),(68157440,2251799813685248,1143492092887040),(68157440,4503599627370496,1143492092887040),(475004928,9007199254740992,6843360371277824),(537919488,18014398509481984,9024791440785408),(1610612736,36028797018963968,18014398509481984),(2147483648,72057594037927936,36028797018963968),(2147483648,144115188075855872,36028797018963970),(2147483648,288230376151711744,36028797018963972),(2147483648,576460752303423488,36028797018963984),(66571993088,1152921504606846976,1044835113549955072),(70866960384,2305843009213693952,1188950301625810944),(70866960384,4611686018427387904,1188950301625810944),(487478788096,9223372036854775808,7025615418697973760),(551903297536,18446744073709551616,9259400833873739776),(1649267441664,36893488147419103232,18446744073709551616),(2199023255552,73786976294838206464,36893488147419103232),(2199023255552,147573952589676412928,36893488147419103234),(2199023255552,295147905179352825856,36893488147419103236),(2199023255552,590295810358705651712,36893488147419103248),(68169720922112,1180591620717411303424,1069911156275153993728),(72567767433216,2361183241434822606848,1217485108864830406656),(72567767433216,4722366482869645213696,1217485108864830406656),(499178279010304,9444732965739290427392,7194230188746725130240),(565148976676864,18889465931478580854784,9481626453886709530624),(1688849860263936,37778931862957161709568,18889465931478580854784),(2251799813685248,75557863725914323419136,37778931862957161709568),(2251799813685248,151115727451828646838272,37778931862957161709570),(2251799813685248,302231454903657293676544,37778931862957161709572),(2251799813685248,604462909807314587353088,37778931862957161709584),(69805794224242688,1208925819614629174706176,1095589024025757689577472),(74309393851613184,2417851639229258349412352,1246704751477586336415744),(74309393851613184,4835703278458516698824704,1246704751477586336415744),(511158557706551296,9671406556917033397649408,7366891713276646533365760),(578712552117108736,19342813113834066795298816,9709185488779990559358976),(1729382256910270464,38685626227668133590597632,19342813113834066795298816),(2305843009213693952,77371252455336267181195264,38685626227668133590597632),(2305843009213693952,154742504910672534362390528,38685626227668133590597634),(2305843009213693952,309485009821345068724781056,38685626227668133590597636),(2305843009213693952,618970019642690137449562112,38685626227668133590597664),(71481133285624512512,1237940039285380274899124224,1121883160602375874127331328),(76092819304051900416,2475880078570760549798248448,1276625665513048408489721856),(76092819304051900416,4951760157141521099596496896,1276625665513048408489721856),(523426363091508527104,9903520314283042199192993792,7543697114395286050166538240),(592601653367919345664,19807040628566084398385987584,9942205940510710332783591424),(2361183241434822606847,1,19807040628566084398385987584)]
theorem body13:bodyB Tryz.prog 13 = true:=by kernel_rfl
theorem body17:bodyB Tryz.prog 17 = true:=by kernel_rfl
theorem body19:bodyB Tryz.prog 19 = true:=by kernel_rfl
theorem body29:bodyB Tryz.prog 29 = true:=by kernel_rfl
theorem body30:bodyB Tryz.prog 30 = true:=by kernel_rfl
theorem body31:bodyB Tryz.prog 31 = true:=by kernel_rfl
theorem body53:bodyB Tryz.prog 53 = true:=by kernel_rfl
theorem body64:bodyB Tryz.prog 64 = true:=by kernel_rfl
def wardmotelaw26_works_p (n:Nat):Option Bool:=
  (wardmotelaw26_example_p n).bind fun y1=>(edit_Start_p n y1.1 y1.2 ([(0:Int),(0:Int),(1:Int),(1:Int)]:List Int) (2:Int)).bind fun b0=>(wardmotelaw26_is_1_p n b0.1 b0.2 (⟨(2:Int),([(0:Int),(0:Int),(1:Int),(1:Int)]:List Int),([(30:Int),(70:Int)]:List Int),([]:List TMove),([]:List TMove)⟩:TSession)).bind fun q0=>(if q0 = true then (edit_Make_p n y1.1 y1.2 (⟨(2:Int),([(0:Int),(0:Int),(1:Int),(1:Int)]:List Int),([(30:Int),(70:Int)]:List Int),([]:List TMove),([]:List TMove)⟩:TSession) (2:Int) (0:Int)).bind fun c0=>(wardmotelaw26_is_1_p n c0.1 c0.2 (⟨(2:Int),([(0:Int),(0:Int),(0:Int),(1:Int)]:List Int),([(60:Int),(40:Int)]:List Int),([(⟨(2:Int),(1:Int),(0:Int)⟩:TMove)]:List TMove),([]:List TMove)⟩:TSession)).bind fun s0=>(if s0 = true then (edit_Undo_p n y1.1 y1.2 (⟨(2:Int),([(0:Int),(0:Int),(0:Int),(1:Int)]:List Int),([(60:Int),(40:Int)]:List Int),([(⟨(2:Int),(1:Int),(0:Int)⟩:TMove)]:List TMove),([]:List TMove)⟩:TSession)).bind fun d0=>(wardmotelaw26_is_1_p n d0.1 d0.2 (⟨(2:Int),([(0:Int),(0:Int),(1:Int),(1:Int)]:List Int),([(30:Int),(70:Int)]:List Int),([]:List TMove),([(⟨(2:Int),(1:Int),(0:Int)⟩:TMove)]:List TMove)⟩:TSession)).bind fun t0=>(if t0 = true then (edit_Make_p n y1.1 y1.2 (⟨(2:Int),([(0:Int),(0:Int),(1:Int),(1:Int)]:List Int),([(30:Int),(70:Int)]:List Int),([]:List TMove),([]:List TMove)⟩:TSession) (2:Int) (1:Int)).bind fun g0=>(wardmotelaw26_fails_1_p n g0.1 g0.2 (2:Int)).bind fun u0=>(if u0 = true then (edit_Make_p n y1.1 y1.2 (⟨(2:Int),([(0:Int),(0:Int),(1:Int),(1:Int)]:List Int),([(30:Int),(70:Int)]:List Int),([]:List TMove),([]:List TMove)⟩:TSession) (2:Int) (2:Int)).bind fun j0=>(wardmotelaw26_fails_1_p n j0.1 j0.2 (2:Int)).bind fun v0=>(if v0 = true then (edit_Undo_p n y1.1 y1.2 (⟨(2:Int),([(0:Int),(0:Int),(1:Int),(1:Int)]:List Int),([(30:Int),(70:Int)]:List Int),([]:List TMove),([]:List TMove)⟩:TSession)).bind fun k0=>(wardmotelaw26_fails_1_p n k0.1 k0.2 (4:Int)).bind fun x0=>(if x0 = true then (edit_Make_p n y1.1 y1.2 (⟨(2:Int),([(0:Int),(0:Int),(0:Int),(1:Int)]:List Int),([(60:Int),(40:Int)]:List Int),([(⟨(2:Int),(1:Int),(0:Int)⟩:TMove)]:List TMove),([]:List TMove)⟩:TSession) (3:Int) (0:Int)).bind fun p0=>(wardmotelaw26_fails_1_p n p0.1 p0.2 (4:Int)).bind fun y0=>some y0 else some false) else some false) else some false) else some false) else some false) else some false)
theorem wardmotelaw26_works_c (n:Nat) (L:List Nat) (w:World) (hL:∀ b ∈ L,b < w.heap.size)  {r:Bool} (h:wardmotelaw26_works_p n = some r) :
    Calls Tryz.prog 9 #[] w (Gives w fun _ u=>u = .bool r):=by
 unfold wardmotelaw26_works_p at h
 have hS0:=AK w
 refine AM Tryz.func9 rfl rfl rfl (fun _ cs0 hb0=>?_)
 refine Ae<|Ag rfl<|Aa<|Ae ?_
 obtain ⟨y1,hy1,h⟩:=bi h
 refine Bx (fst:=[]) (cap:=[]) .plain body29 rfl evs_nil (fun w9 hw9=>own_gives2 (b0:=w.heap.size) (wardmotelaw26_example_c n _ w9 (hS0.hL hL hw9)  hy1) hw9 (Nat.le_trans hS0.ag.size hw9.size)) rfl (fun w2 vu3 hag4 ⟨v9,A0,z1,A1,hu6,s5,u5,v5⟩=>?_)
 subst hu6
 have hS7:=own_push2 hS0 s5
 have hT8:=own_tr2 hS0 s5
 have x5:=Ar (cs:=z1) (xs:=(y1.1.fEdges:List (Int × Int))) hS7 L (own_cells u5)
 have y5:=Ar (cs:=A1) (xs:=(y1.2.fUnits:List TUnit)) hS7 L (own_cells v5)
 refine Ac rfl<|Ab (Au rfl rfl)<|Ab (Au rfl rfl)<|Az .plain rfl (AX [vI 0,vN] hS7) (fun w20 q1 I4 V4=>?_)
 refine Az .plain rfl (AX [vI 0,vI 0,vI 0,vN] I4) (fun w25 s1 k3 W4=>?_)
 refine Bk [vI y1.1.fN,v9] k3 (.tl .hd) (o2 rfl (Bz (α:=Int × Int) k3 (.tl (.tl .hd)))) (fun w29 p3 X4=>?_)
 refine Bk [vI y1.2.fGroups,vI y1.2.fParties,vI y1.2.fLevels,A0] p3 .hd (o4 rfl rfl rfl (Bz (α:=TUnit) p3 (.tl (.tl (.tl .hd))))) (fun w32 M4 Y4=>?_)
 refine Aa<|Ae<|Ab (AV (vs:=[vI 2,vI 1]) (u:=.agg #[vI 2,vI 1,vI 0]) (e2 rfl rfl) (fun w9=>by kernel_rfl))<|Az .plain rfl (AX [vI 0,vI 0,vI 0] M4) (fun w36 z4 P4 Z4=>?_)
 refine Bk [vI 2,vI 1,vI 0] P4 .hd (onesB rfl) (fun w40 Q4 b5=>?_)
 refine Aa<|Ae<|Az .plain rfl (AE (α:=Int) (xs:=([(0:Int),(0:Int),(1:Int),(1:Int)]:List Int)) (vs:=[vI 0,vI 0,vI 1,vI 1]) (ds' :=[vI 0,vI 0,vI 1,vI 1]) rfl Q4 el43 rfl (e4 rfl rfl rfl rfl) (by kernel_rfl) rfl) (fun w44 g0 q3 c5=>?_)
 have A5:=Ar (cs:=[vI 0,vI 0,vI 1,vI 1]) (xs:=(([(0:Int),(0:Int),(1:Int),(1:Int)]:List Int):List Int)) q3 L (Aq (cs:=[vI 0]) (ds:=[vI 0,vI 1,vI 1]) rfl (Aq (cs:=[vI 0]) (ds:=[vI 1,vI 1]) rfl (Aq (cs:=[vI 1]) (ds:=[vI 1]) rfl (Aq (cs:=[vI 1]) (ds:=[]) rfl (AC _ _)))))
 refine Az .plain rfl (AE (α:=Int) (xs:=([(30:Int),(70:Int)]:List Int)) (vs:=[vI 30,vI 70]) (ds' :=[vI 30,vI 70]) rfl q3 el42 rfl (e2 rfl rfl) (by kernel_rfl) rfl) (fun w50 j0 s3 A3=>?_)
 have B5:=Ar (cs:=[vI 30,vI 70]) (xs:=(([(30:Int),(70:Int)]:List Int):List Int)) s3 L (Aq (cs:=[vI 30]) (ds:=[vI 70]) rfl (Aq (cs:=[vI 70]) (ds:=[]) rfl (AC _ _)))
 refine Ab (AV (vs:=[vI 2,(vS g0 4),(vS j0 2)]) (u:=.agg #[vI 2,(vS g0 4),(vS j0 2),vN,vN]) (e3 rfl rfl rfl) (fun w9=>by kernel_rfl))<|Az .plain rfl (AX [vI 0,vN,vN,vN,vN] s3) (fun w56 u1 J2 P2=>?_)
 refine Bk [vI 2,(vS g0 4),(vS j0 2),vN,vN] J2 .hd (o5 rfl (Bz (α:=Int) J2 (.tl (.tl .hd))) (Bz (α:=Int) J2 (.tl .hd)) rfl rfl) (fun w60 R4 Q2=>?_)
 refine Aa<|Ae<|Az .plain rfl (AE (α:=Int) (xs:=([(0:Int),(0:Int),(0:Int),(1:Int)]:List Int)) (vs:=[vI 0,vI 0,vI 0,vI 1]) (ds' :=[vI 0,vI 0,vI 0,vI 1]) rfl R4 el43 rfl (e4 rfl rfl rfl rfl) (by kernel_rfl) rfl) (fun w64 t0 t3 R2=>?_)
 have C5:=Ar (cs:=[vI 0,vI 0,vI 0,vI 1]) (xs:=(([(0:Int),(0:Int),(0:Int),(1:Int)]:List Int):List Int)) t3 L (Aq (cs:=[vI 0]) (ds:=[vI 0,vI 0,vI 1]) rfl (Aq (cs:=[vI 0]) (ds:=[vI 0,vI 1]) rfl (Aq (cs:=[vI 0]) (ds:=[vI 1]) rfl (Aq (cs:=[vI 1]) (ds:=[]) rfl (AC _ _)))))
 refine Az .plain rfl (AE (α:=Int) (xs:=([(60:Int),(40:Int)]:List Int)) (vs:=[vI 60,vI 40]) (ds' :=[vI 60,vI 40]) rfl t3 el42 rfl (e2 rfl rfl) (by kernel_rfl) rfl) (fun w70 u0 K2 u2=>?_)
 have D5:=Ar (cs:=[vI 60,vI 40]) (xs:=(([(60:Int),(40:Int)]:List Int):List Int)) K2 L (Aq (cs:=[vI 60]) (ds:=[vI 40]) rfl (Aq (cs:=[vI 40]) (ds:=[]) rfl (AC _ _)))
 refine Ab (AG rfl (K2.memA (.tl (.tl (.tl (.tl (.tl .hd)))))))<|Az .plain rfl (AE (α:=TMove) (xs:=([(⟨(2:Int),(1:Int),(0:Int)⟩:TMove)]:List TMove)) (vs:=[.agg #[vI 2,vI 1,vI 0]]) (ds' :=[vI 2,vI 1,vI 0]) rfl K2 el46 rfl (e1 rfl) (by kernel_rfl) rfl) (fun w76 k0 u3 Q1=>?_)
 have E5:=Ar (cs:=[vI 2,vI 1,vI 0]) (xs:=(([(⟨(2:Int),(1:Int),(0:Int)⟩:TMove)]:List TMove):List TMove)) u3 L (Aq (cs:=[vI 2,vI 1,vI 0]) (ds:=[]) (mk_TMove (2:Int) (1:Int) (0:Int)) (AC _ _))
 refine Ab (AV (vs:=[vI 2,(vS t0 4),(vS u0 2),(vS k0 1)]) (u:=.agg #[vI 2,(vS t0 4),(vS u0 2),(vS k0 1),vN]) (e4 rfl rfl rfl rfl) (fun w9=>by kernel_rfl))<|Az .plain rfl (AX [vI 0,vN,vN,vN,vN] u3) (fun w82 v1 s2 d1=>?_)
 refine Bk [vI 2,(vS t0 4),(vS u0 2),(vS k0 1),vN] s2 .hd (o5 rfl (Bz (α:=Int) s2 (.tl (.tl (.tl .hd)))) (Bz (α:=Int) s2 (.tl (.tl .hd))) (Bz (α:=TMove) s2 (.tl .hd)) rfl) (fun w86 v3 g1=>?_)
 refine Aa<|Ae<|Ab (AG rfl (v3.memA (.tl (.tl (.tl (.tl .hd))))))<|Az .plain rfl (AX [vI 0,vN,vN,vN,vN] v3) (fun w90 x1 M2 j1=>?_)
 refine Bk [vI 2,(vS g0 4),(vS j0 2),vN,vN] M2 .hd (o5 rfl (Bz (α:=Int) M2 (.tl (.tl (.tl (.tl (.tl (.tl (.tl .hd)))))))) (Bz (α:=Int) M2 (.tl (.tl (.tl (.tl (.tl (.tl .hd))))))) rfl rfl) (fun w94 t2 k1=>?_)
 refine Aa<|Ae<|AH 3 rfl<|AS rfl ((t2.memA (.tl .hd)) 3 _ rfl)<|AH 4 rfl<|BG .plain (Br (j:=4) (old:=[vI 2,(vS g0 4),(vS j0 2),vN,vN]) (news:=[(vS k0 1)]) (new' :=[vI 2,(vS g0 4),(vS j0 2),vN,(vS k0 1)]) t2 .hd rfl rfl rfl (St.c1 (α:=TMove) t2 (.tl (.tl .hd))) rfl rfl (o1 (Bz (α:=TMove) t2 (.tl (.tl .hd)))) rfl) (fun p4 W0 p1=>?_)
 refine Aa<|Ak<|Bm 72 tb9_7 (by kernel_rfl) (by kernel_rfl) (by kernel_rfl) (fun c0 d0=>?_)
 refine AT 0 1 4722366482869645213666 c0 rfl d0 (AG rfl (W0.memA (.tl (.tl (.tl (.tl (.tl .hd))))))) rfl<|AT 2 5 4722366482869645213664 c0 rfl d0 (AG rfl (W0.memA (.tl (.tl (.tl (.tl (.tl (.tl (.tl (.tl (.tl (.tl .hd)))))))))))) rfl<|AT 3 13 4722366482869645213664 c0 rfl d0 (AG rfl (W0.memA (.tl (.tl (.tl (.tl (.tl (.tl (.tl (.tl (.tl .hd))))))))))) rfl ?_
 have Y6:=Tt P2 (Tt Q2 (Tt R2 (Tt u2 (Tt Q1 (Tt d1 (Tt g1 (Tt j1 (Tt k1 p1))))))))
 have F5:=Al B5 Y6
 have u7:=AQ (α:=Int) W0 (.tl (.tl (.tl (.tl (.tl (.tl .hd)))))) F5 hL
 have g2:=Bf W0 (.tl (.tl (.tl (.tl (.tl (.tl .hd))))))
 have C1:=Bg W0 (.tl (.tl (.tl (.tl (.tl (.tl .hd))))))
 have D0:=Bh (α:=Int) (v:=(vS j0 2)) (xs:=([(30:Int),(70:Int)]:List Int)) g2 L u7
 have Z6:=Tt A3 (Tt P2 (Tt Q2 (Tt R2 (Tt u2 (Tt Q1 (Tt d1 (Tt g1 (Tt j1 (Tt k1 (Tt p1 C1))))))))))
 have G5:=Al A5 Z6
 have v7:=AQ (α:=Int) g2 (.tl (.tl (.tl (.tl (.tl (.tl .hd)))))) G5 hL
 have V0:=Bf g2 (.tl (.tl (.tl (.tl (.tl (.tl .hd))))))
 have z0:=Bg g2 (.tl (.tl (.tl (.tl (.tl (.tl .hd))))))
 have E0:=Bh (α:=Int) (v:=(vS g0 4)) (xs:=([(0:Int),(0:Int),(1:Int),(1:Int)]:List Int)) V0 L v7
 refine RD.meet (α:=Value × (List Value) × Nat) (fun ⟨R0,U0,I0⟩=>[(0,.bool false),(1,vP q1),(2,vP s1),(4,vP u1),(5,vP v1),(6,vP x1),(26,.agg #[vI y1.1.fN,v9]),(27,.agg #[vI y1.2.fGroups,vI y1.2.fParties,vI y1.2.fLevels,A0]),(25,.func (.func 53) #[] #[vP I0]),(28,R0)]) (fun ⟨R0,U0,I0⟩ z2=>St w z2 [.row w.heap.size 3 (Rep.size Int) R0 (([(0:Int),(0:Int),(1:Int),(1:Int)]:List Int).length) U0,.cells I0 [vI 2,(vS g0 4),(vS j0 2),vN,vN] 48,.cells x1 [vI 2,(vS g0 4),(vS j0 2),vN,(vS k0 1)] 48,.cells v1 [vI 2,(vS t0 4),(vS u0 2),(vS k0 1),vN] 48,.row w.heap.size 62 (Rep.size TMove) (vS k0 1) (([(⟨(2:Int),(1:Int),(0:Int)⟩:TMove)]:List TMove).length) [vI 2,vI 1,vI 0],.row w.heap.size 3 (Rep.size Int) (vS u0 2) (([(60:Int),(40:Int)]:List Int).length) [vI 60,vI 40],.row w.heap.size 3 (Rep.size Int) (vS t0 4) (([(0:Int),(0:Int),(0:Int),(1:Int)]:List Int).length) [vI 0,vI 0,vI 0,vI 1],.cells u1 [vI 2,(vS g0 4),(vS j0 2),vN,vN] 48,.cells s1 [vI y1.2.fGroups,vI y1.2.fParties,vI y1.2.fLevels,A0] 41,.cells q1 [vI y1.1.fN,v9] 38,.row w.heap.size 52 (Rep.size (Int × Int)) v9 y1.1.fEdges.length z1,.row w.heap.size 70 (Rep.size TUnit) A0 y1.2.fUnits.length A1]∧Tr p4 [.cells x1 [vI 2,(vS g0 4),(vS j0 2),vN,(vS k0 1)] 48,.cells v1 [vI 2,(vS t0 4),(vS u0 2),(vS k0 1),vN] 48,.row w.heap.size 62 (Rep.size TMove) (vS k0 1) (([(⟨(2:Int),(1:Int),(0:Int)⟩:TMove)]:List TMove).length) [vI 2,vI 1,vI 0],.row w.heap.size 3 (Rep.size Int) (vS u0 2) (([(60:Int),(40:Int)]:List Int).length) [vI 60,vI 40],.row w.heap.size 3 (Rep.size Int) (vS t0 4) (([(0:Int),(0:Int),(0:Int),(1:Int)]:List Int).length) [vI 0,vI 0,vI 0,vI 1],.cells u1 [vI 2,(vS g0 4),(vS j0 2),vN,vN] 48,.cells z4 [vI 2,vI 1,vI 0] 62,.cells s1 [vI y1.2.fGroups,vI y1.2.fParties,vI y1.2.fLevels,A0] 41,.cells q1 [vI y1.1.fN,v9] 38,.row w.heap.size 52 (Rep.size (Int × Int)) v9 y1.1.fEdges.length z1,.row w.heap.size 70 (Rep.size TUnit) A0 y1.2.fUnits.length A1] z2 [.row w.heap.size 3 (Rep.size Int) R0 (([(0:Int),(0:Int),(1:Int),(1:Int)]:List Int).length) U0,.cells I0 [vI 2,(vS g0 4),(vS j0 2),vN,vN] 48,.cells x1 [vI 2,(vS g0 4),(vS j0 2),vN,(vS k0 1)] 48,.cells v1 [vI 2,(vS t0 4),(vS u0 2),(vS k0 1),vN] 48,.row w.heap.size 62 (Rep.size TMove) (vS k0 1) (([(⟨(2:Int),(1:Int),(0:Int)⟩:TMove)]:List TMove).length) [vI 2,vI 1,vI 0],.row w.heap.size 3 (Rep.size Int) (vS u0 2) (([(60:Int),(40:Int)]:List Int).length) [vI 60,vI 40],.row w.heap.size 3 (Rep.size Int) (vS t0 4) (([(0:Int),(0:Int),(0:Int),(1:Int)]:List Int).length) [vI 0,vI 0,vI 0,vI 1],.cells u1 [vI 2,(vS g0 4),(vS j0 2),vN,vN] 48,.cells s1 [vI y1.2.fGroups,vI y1.2.fParties,vI y1.2.fLevels,A0] 41,.cells q1 [vI y1.1.fN,v9] 38,.row w.heap.size 52 (Rep.size (Int × Int)) v9 y1.1.fEdges.length z1,.row w.heap.size 70 (Rep.size TUnit) A0 y1.2.fUnits.length A1]∧Cells z2 (bl [.row w.heap.size 3 (Rep.size Int) R0 (([(0:Int),(0:Int),(1:Int),(1:Int)]:List Int).length) U0,.cells I0 [vI 2,(vS g0 4),(vS j0 2),vN,vN] 48,.cells x1 [vI 2,(vS g0 4),(vS j0 2),vN,(vS k0 1)] 48,.cells v1 [vI 2,(vS t0 4),(vS u0 2),(vS k0 1),vN] 48,.row w.heap.size 62 (Rep.size TMove) (vS k0 1) (([(⟨(2:Int),(1:Int),(0:Int)⟩:TMove)]:List TMove).length) [vI 2,vI 1,vI 0],.row w.heap.size 3 (Rep.size Int) (vS u0 2) (([(60:Int),(40:Int)]:List Int).length) [vI 60,vI 40],.row w.heap.size 3 (Rep.size Int) (vS t0 4) (([(0:Int),(0:Int),(0:Int),(1:Int)]:List Int).length) [vI 0,vI 0,vI 0,vI 1],.cells u1 [vI 2,(vS g0 4),(vS j0 2),vN,vN] 48,.cells s1 [vI y1.2.fGroups,vI y1.2.fParties,vI y1.2.fLevels,A0] 41,.cells q1 [vI y1.1.fN,v9] 38,.row w.heap.size 52 (Rep.size (Int × Int)) v9 y1.1.fEdges.length z1,.row w.heap.size 70 (Rep.size TUnit) A0 y1.2.fUnits.length A1] ++ L) U0 (([(0:Int),(0:Int),(1:Int),(1:Int)]:List Int):List Int)) 67 31 ?_ ?_
 rintro ⟨R0,U0,I0⟩ z2 ⟨B2,C0,z5⟩
 try dsimp only
 have C3:=Tt V4 (Tt W4 (Tt X4 (Tt Y4 (Tt Z4 (Tt b5 (Tt c5 (Tt A3 (Tt P2 (Tt Q2 (Tt R2 (Tt u2 (Tt Q1 (Tt d1 (Tt g1 (Tt j1 (Tt k1 (Tt p1 (Tt C1 (Tt z0 C0)))))))))))))))))))
 have I5:=Al x5 C3
 have x7:=AQ (α:=Int × Int) B2 (.tl (.tl (.tl (.tl (.tl (.tl (.tl (.tl (.tl (.tl .hd)))))))))) I5 hL
 have j2:=Bf B2 (.tl (.tl (.tl (.tl (.tl (.tl (.tl (.tl (.tl (.tl .hd))))))))))
 have B0:=Bg B2 (.tl (.tl (.tl (.tl (.tl (.tl (.tl (.tl (.tl (.tl .hd))))))))))
 have P0:=Bh (α:=Int × Int) (v:=v9) (xs:=y1.1.fEdges) j2 L x7
 have J5:=Al y5 (Tt C3 B0)
 have y7:=AQ (α:=TUnit) j2 (.tl (.tl (.tl (.tl (.tl (.tl (.tl (.tl (.tl (.tl .hd)))))))))) J5 hL
 have k2:=Bf j2 (.tl (.tl (.tl (.tl (.tl (.tl (.tl (.tl (.tl (.tl .hd))))))))))
 have K0:=Bg j2 (.tl (.tl (.tl (.tl (.tl (.tl (.tl (.tl (.tl (.tl .hd))))))))))
 have Q0:=Bh (α:=TUnit) (v:=A0) (xs:=y1.2.fUnits) k2 L y7
 have K5:=Al z5 (Tt B0 K0)
 have z7:=AQ (α:=Int) k2 .hd K5 hL
 have C2:=Bf k2 .hd
 have G0:=Bg k2 .hd
 have A7:=Bh (α:=Int) (v:=R0) (xs:=([(0:Int),(0:Int),(1:Int),(1:Int)]:List Int)) C2 L z7
 obtain ⟨q4,J8,h⟩:=bi h
 have M5:=Aj P0 (Tt K0 G0)
 have P5:=Aj Q0 G0
 refine RD.cl 5 63 c0 rfl .plain body30 rfl (e4 rfl rfl rfl rfl) (fun w9 hw9=>edit_Start_c n _ w9 (C2.hL hL hw9) y1.1 (Av M5 hw9) y1.2 (Av P5 hw9) ([(0:Int),(0:Int),(1:Int),(1:Int)]:List Int) (Av A7 hw9) (2:Int) J8) rfl (fun d9 F00 d5 ⟨M9,P9,Q9,R9,hu_,B7,C7,D7,E7⟩=>?_)
 subst hu_
 obtain ⟨q0,X0⟩:=C2.agr d5
 refine Ah 6 127 c0 rfl d0 (fun _=>Au rfl rfl) rfl<|Ah 7 255 c0 rfl d0 (fun _=>Au rfl rfl) rfl ?_
 obtain ⟨t9,K8,h⟩:=bi h
 have W2:=Tt C0 (Tt B0 (Tt K0 (Tt G0 X0)))
 have Q5:=Aj E0 W2
 have R5:=Aj D0 (Tt z0 W2)
 refine RD.callq (i:=8) (m' :=511) (W:=4722366482869645213184) (takeC_ok c0 (by kernel_rfl)) rfl d0 (v:=.bool t9) (fst:=[]) (cap:=[vP I0]) .plain body53 rfl (e2 rfl rfl) (fun w9 hw9=>wardmotelaw26_is_1_c n _ w9 (q0.hL0 hL hw9) q4.1 (q0.kd B7 hw9) (q0.kd C7 hw9) (q0.kd D7 hw9) (q0.kd E7 hw9) q4.2 (⟨(2:Int),([(0:Int),(0:Int),(1:Int),(1:Int)]:List Int),([(30:Int),(70:Int)]:List Int),([]:List TMove),([]:List TMove)⟩:TSession) (q0.kd Q5 hw9) (q0.kd R5 hw9) (Av (Rep.nilSlice _ _) hw9) (Av (Rep.nilSlice _ _) hw9) (fun j9 v9 h9=>hw9.cell0 ((q0.memA .hd) j9 v9 h9)) K8) rfl<|Ah 9 1023 c0 rfl d0 (fun _=>Ai rfl) rfl<|RD.ifb (s:=33) rfl h (fun A4 h=>?_) (fun A4 h=>?_)
 refine BM (i:=10) (m' :=2047) (W:=4722366482869645182976) (takeC_ok c0 (by kernel_rfl)) rfl d0 (.yes rfl rfl) (AG rfl (q0.memA (.tl (.tl .hd)))) rfl<|BM (i:=12) (m' :=6143) (W:=4722366482869645180928) (takeC_ok c0 (by kernel_rfl)) rfl d0 (.yes rfl rfl) (AG rfl (q0.memA (.tl (.tl (.tl (.tl (.tl (.tl (.tl (.tl .hd)))))))))) rfl<|BM (i:=13) (m' :=14335) (W:=4722366482869645180928) (takeC_ok c0 (by kernel_rfl)) rfl d0 (.yes rfl rfl) (AG rfl (q0.memA (.tl (.tl (.tl (.tl (.tl (.tl (.tl .hd))))))))) rfl<|BM (i:=14) (m' :=30719) (W:=4722366482869645180928) (takeC_ok c0 (by kernel_rfl)) rfl d0 (.yes rfl rfl) (AG rfl (q0.memA (.tl (.tl (.tl (.tl (.tl (.tl .hd)))))))) rfl ?_
 have b7:=Tt u2 (Tt Q1 (Tt d1 (Tt g1 (Tt j1 (Tt k1 (Tt p1 (Tt C1 (Tt z0 W2))))))))
 have U5:=Al C5 b7
 have F7:=AQ (α:=Int) q0 (.tl (.tl (.tl (.tl (.tl .hd))))) U5 hL
 have p2:=Bf q0 (.tl (.tl (.tl (.tl (.tl .hd)))))
 have E1:=Bg q0 (.tl (.tl (.tl (.tl (.tl .hd)))))
 have x2:=Bh (α:=Int) (v:=(vS t0 4)) (xs:=([(0:Int),(0:Int),(0:Int),(1:Int)]:List Int)) p2 L F7
 have c7:=Tt Q1 (Tt d1 (Tt g1 (Tt j1 (Tt k1 (Tt p1 (Tt C1 (Tt z0 (Tt C0 (Tt B0 (Tt K0 (Tt G0 (Tt X0 E1))))))))))))
 have V5:=Al D5 c7
 have G7:=AQ (α:=Int) p2 (.tl (.tl (.tl (.tl .hd)))) V5 hL
 have q2:=Bf p2 (.tl (.tl (.tl (.tl .hd))))
 have F1:=Bg p2 (.tl (.tl (.tl (.tl .hd))))
 have y2:=Bh (α:=Int) (v:=(vS u0 2)) (xs:=([(60:Int),(40:Int)]:List Int)) q2 L G7
 have d7:=Tt d1 (Tt g1 (Tt j1 (Tt k1 (Tt p1 (Tt C1 (Tt z0 (Tt C0 (Tt B0 (Tt K0 (Tt G0 (Tt X0 (Tt E1 F1))))))))))))
 have W5:=Al E5 d7
 have H7:=AQ (α:=TMove) q2 (.tl (.tl (.tl .hd))) W5 hL
 have B1:=Bf q2 (.tl (.tl (.tl .hd)))
 have Y0:=Bg q2 (.tl (.tl (.tl .hd)))
 have U1:=Bh (α:=TMove) (v:=(vS k0 1)) (xs:=([(⟨(2:Int),(1:Int),(0:Int)⟩:TMove)]:List TMove)) B1 L H7
 have I7:=AL (α:=TMove) B1 L
 have X5:=Aj x2 (Tt F1 Y0)
 have Y5:=Aj y2 Y0
 refine RD.cl 11 32767 c0 rfl (.yes rfl rfl) body19 rfl (e1 rfl) (fun w9 hw9=>Calls.gives (wardmotelaw26_is_c n _ w9 (B1.hL hL hw9) (⟨(2:Int),([(0:Int),(0:Int),(0:Int),(1:Int)]:List Int),([(60:Int),(40:Int)]:List Int),([(⟨(2:Int),(1:Int),(0:Int)⟩:TMove)]:List TMove),([]:List TMove)⟩:TSession) (Av X5 hw9) (Av Y5 hw9) (Av U1 hw9) (Av I7 hw9)) fun (w8:World) (u8:Value) ⟨b0_,hu_,s_⟩=>(⟨b0_,hu_,s_.from hw9⟩:∃ X1:Nat,u8 = Value.func (.func 53) #[] #[vP X1]∧St d9 w8 [.cells X1 [vI 2,(vS t0 4),(vS u0 2),(vS k0 1),vN] 48])) rfl (fun c01 G00 F9 ⟨X1,D8,Z3⟩=>?_)
 subst D8
 have D2:=mk_push1 B1 Z3
 have Z0:=mk_tr1 B1 Z3
 have R3:=AL (α:=TMove) D2 L
 obtain ⟨s4,M8,h⟩:=bi h
 have X2:=Tt K0 (Tt G0 (Tt X0 (Tt E1 (Tt F1 (Tt Y0 Z0)))))
 have Z5:=Aj P0 X2
 have D3:=Tt G0 (Tt X0 (Tt E1 (Tt F1 (Tt Y0 Z0))))
 have b6:=Aj Q0 D3
 have E3:=Tt C0 (Tt B0 X2)
 have c6:=Aj E0 E3
 have d6:=Aj D0 (Tt z0 E3)
 refine RD.cl 15 65535 c0 rfl (.yes rfl rfl) body13 rfl (e5 rfl rfl rfl rfl rfl) (fun w9 hw9=>edit_Make_c n _ w9 (D2.hL hL hw9) y1.1 (Av Z5 hw9) y1.2 (Av b6 hw9) (⟨(2:Int),([(0:Int),(0:Int),(1:Int),(1:Int)]:List Int),([(30:Int),(70:Int)]:List Int),([]:List TMove),([]:List TMove)⟩:TSession) (Av c6 hw9) (Av d6 hw9) (Av R3 hw9) (Av R3 hw9) (2:Int) (0:Int) M8) rfl (fun g9 H00 g5 ⟨U9,V9,W9,X9,hu_,J7,K7,M7,P7⟩=>?_)
 subst hu_
 obtain ⟨p0,b1⟩:=D2.agr g5
 refine BJ 16 131071 c0 rfl d0 (.yes rfl rfl) (fun _=>Au rfl rfl) rfl<|BJ 17 262143 c0 rfl d0 (.yes rfl rfl) (fun _=>Au rfl rfl) rfl ?_
 obtain ⟨u9,P8,h⟩:=bi h
 have v2:=Tt F1 (Tt Y0 (Tt Z0 b1))
 have g6:=Aj x2 v2
 have Y2:=Tt Y0 (Tt Z0 b1)
 have j6:=Aj y2 Y2
 have B3:=Aj U1 (Tt Z0 b1)
 refine RD.callq (i:=18) (m' :=524287) (W:=4722366482869644689408) (takeC_ok c0 (by kernel_rfl)) rfl d0 (v:=.bool u9) (fst:=[]) (cap:=[vP X1]) (.yes rfl rfl) body53 rfl (e2 rfl rfl) (fun w9 hw9=>wardmotelaw26_is_1_c n _ w9 (p0.hL0 hL hw9) s4.1 (p0.kd J7 hw9) (p0.kd K7 hw9) (p0.kd M7 hw9) (p0.kd P7 hw9) s4.2 (⟨(2:Int),([(0:Int),(0:Int),(0:Int),(1:Int)]:List Int),([(60:Int),(40:Int)]:List Int),([(⟨(2:Int),(1:Int),(0:Int)⟩:TMove)]:List TMove),([]:List TMove)⟩:TSession) (p0.kd g6 hw9) (p0.kd j6 hw9) (p0.kd B3 hw9) (Av (Rep.nilSlice _ _) hw9) (fun j9 v9 h9=>hw9.cell0 ((p0.memA .hd) j9 v9 h9)) P8) rfl<|Ah 19 1048575 c0 rfl d0 (fun _=>Bl rfl rfl) rfl<|Ah 20 2097151 c0 rfl d0 (fun _=>Ai rfl) rfl<|RD.ifb (s:=44) rfl h (fun B4 h=>?_) (fun B4 h=>?_)
 refine BM (i:=21) (m' :=4194303) (W:=4722366482869582299136) (takeC_ok c0 (by kernel_rfl)) rfl d0 (.yes rfl rfl) (AG rfl (p0.memA (.tl (.tl .hd)))) rfl<|BM (i:=23) (m' :=12582911) (W:=4722366482869578104832) (takeC_ok c0 (by kernel_rfl)) rfl d0 (.yes rfl rfl) (AG rfl (p0.memA (.tl (.tl (.tl (.tl (.tl (.tl .hd)))))))) rfl<|BM (i:=24) (m' :=29360127) (W:=4722366482869578104832) (takeC_ok c0 (by kernel_rfl)) rfl d0 (.yes rfl rfl) (AG rfl (p0.memA (.tl (.tl (.tl (.tl (.tl .hd))))))) rfl<|BM (i:=25) (m' :=62914559) (W:=4722366482869578104832) (takeC_ok c0 (by kernel_rfl)) rfl d0 (.yes rfl rfl) (AG rfl (p0.memA (.tl (.tl (.tl .hd))))) rfl ?_
 have Q7:=AL (α:=TMove) p0 L
 have Z2:=Tt C0 (Tt B0 (Tt K0 (Tt G0 (Tt X0 (Tt E1 v2)))))
 have k6:=Aj E0 Z2
 have p6:=Aj D0 (Tt z0 Z2)
 refine RD.cl 22 67108863 c0 rfl (.yes rfl rfl) body19 rfl (e1 rfl) (fun w9 hw9=>Calls.gives (wardmotelaw26_is_c n _ w9 (p0.hL hL hw9) (⟨(2:Int),([(0:Int),(0:Int),(1:Int),(1:Int)]:List Int),([(30:Int),(70:Int)]:List Int),([]:List TMove),([(⟨(2:Int),(1:Int),(0:Int)⟩:TMove)]:List TMove)⟩:TSession) (Av k6 hw9) (Av p6 hw9) (Av Q7 hw9) (Av B3 hw9)) fun (w8:World) (u8:Value) ⟨b0_,hu_,s_⟩=>(⟨b0_,hu_,s_.from hw9⟩:∃ Y1:Nat,u8 = Value.func (.func 53) #[] #[vP Y1]∧St g9 w8 [.cells Y1 [vI 2,(vS g0 4),(vS j0 2),vN,(vS k0 1)] 48])) rfl (fun d01 I00 G9 ⟨Y1,E8,b4⟩=>?_)
 subst E8
 have E2:=mk_push1 p0 b4
 have H0:=mk_tr1 p0 b4
 have R7:=AL (α:=TMove) E2 L
 obtain ⟨t4,Q8,h⟩:=bi h
 have F3:=Tt X2 (Tt b1 H0)
 have q6:=Aj P0 F3
 have G3:=Tt D3 (Tt b1 H0)
 have s6:=Aj Q0 G3
 have t6:=Aj x2 (Tt v2 H0)
 have u6:=Aj y2 (Tt Y2 H0)
 have b3:=Tt Z0 (Tt b1 H0)
 have v6:=Aj U1 b3
 refine RD.cl 26 134217727 c0 rfl (.yes rfl rfl) body17 rfl (e3 rfl rfl rfl) (fun w9 hw9=>edit_Undo_c n _ w9 (E2.hL hL hw9) y1.1 (Av q6 hw9) y1.2 (Av s6 hw9) (⟨(2:Int),([(0:Int),(0:Int),(0:Int),(1:Int)]:List Int),([(60:Int),(40:Int)]:List Int),([(⟨(2:Int),(1:Int),(0:Int)⟩:TMove)]:List TMove),([]:List TMove)⟩:TSession) (Av t6 hw9) (Av u6 hw9) (Av v6 hw9) (Av R7 hw9) Q8) rfl (fun k9 J00 j5 ⟨Y9,Z9,b00,c00,hu_,U7,V7,W7,X7⟩=>?_)
 subst hu_
 obtain ⟨s0,M0⟩:=E2.agr j5
 refine BJ 27 268435455 c0 rfl d0 (.yes rfl rfl) (fun _=>Au rfl rfl) rfl<|BJ 28 536870911 c0 rfl d0 (.yes rfl rfl) (fun _=>Au rfl rfl) rfl ?_
 obtain ⟨x9,R8,h⟩:=bi h
 have H3:=Tt Z2 (Tt H0 M0)
 have x6:=Aj E0 H3
 have y6:=Aj D0 (Tt z0 H3)
 have z6:=Aj U1 (Tt b3 M0)
 refine RD.callq (i:=29) (m' :=1073741823) (W:=4722366482868571471872) (takeC_ok c0 (by kernel_rfl)) rfl d0 (v:=.bool x9) (fst:=[]) (cap:=[vP Y1]) (.yes rfl rfl) body53 rfl (e2 rfl rfl) (fun w9 hw9=>wardmotelaw26_is_1_c n _ w9 (s0.hL0 hL hw9) t4.1 (s0.kd U7 hw9) (s0.kd V7 hw9) (s0.kd W7 hw9) (s0.kd X7 hw9) t4.2 (⟨(2:Int),([(0:Int),(0:Int),(1:Int),(1:Int)]:List Int),([(30:Int),(70:Int)]:List Int),([]:List TMove),([(⟨(2:Int),(1:Int),(0:Int)⟩:TMove)]:List TMove)⟩:TSession) (s0.kd x6 hw9) (s0.kd y6 hw9) (Av (Rep.nilSlice _ _) hw9) (s0.kd z6 hw9) (fun j9 v9 h9=>hw9.cell0 ((s0.memA .hd) j9 v9 h9)) R8) rfl<|Ah 30 2147483647 c0 rfl d0 (fun _=>Bl rfl rfl) rfl<|Ah 31 4294967295 c0 rfl d0 (fun _=>Ai rfl) rfl<|RD.ifb (s:=55) rfl h (fun C4 h=>?_) (fun C4 h=>?_)
 refine BM (i:=33) (m' :=12884901887) (W:=4722366482800925736960) (takeC_ok c0 (by kernel_rfl)) rfl d0 (.yes rfl rfl) (AG rfl (s0.memA (.tl (.tl (.tl (.tl (.tl (.tl (.tl .hd))))))))) rfl<|BM (i:=34) (m' :=30064771071) (W:=4722366482800925736960) (takeC_ok c0 (by kernel_rfl)) rfl d0 (.yes rfl rfl) (AG rfl (s0.memA (.tl (.tl (.tl (.tl (.tl (.tl .hd)))))))) rfl<|BM (i:=35) (m' :=64424509439) (W:=4722366482800925736960) (takeC_ok c0 (by kernel_rfl)) rfl d0 (.yes rfl rfl) (AG rfl (s0.memA (.tl (.tl (.tl (.tl (.tl .hd))))))) rfl<|RD.cl 32 68719476735 c0 rfl (.yes rfl rfl) body31 rfl (e1 rfl) (fun w9 hw9=>Calls.gives (wardmotelaw26_fails_c n _ w9 (s0.hL hL hw9) (2:Int)) fun (w8:World) (u8:Value) ⟨b0_,hu_,s_⟩=>(⟨b0_,hu_,s_.from hw9⟩:∃ Z1:Nat,u8 = Value.func (.func 64) #[] #[vP Z1]∧St k9 w8 [.cells Z1 [vI 2] 54])) rfl (fun g01 K00 H9 ⟨Z1,F8,c4⟩=>?_)
 subst F8
 have F2:=mk_push1 s0 c4
 have G1:=mk_tr1 s0 c4
 have U3:=AL (α:=TMove) F2 L
 obtain ⟨u4,U8,h⟩:=bi h
 have c3:=Tt F3 (Tt M0 G1)
 have A6:=Aj P0 c3
 have I3:=Tt G3 (Tt M0 G1)
 have B6:=Aj Q0 I3
 have J3:=Tt C0 (Tt B0 c3)
 have C6:=Aj E0 J3
 have D6:=Aj D0 (Tt z0 J3)
 refine RD.cl 36 137438953471 c0 rfl (.yes rfl rfl) body13 rfl (e5 rfl rfl rfl rfl rfl) (fun w9 hw9=>edit_Make_c n _ w9 (F2.hL hL hw9) y1.1 (Av A6 hw9) y1.2 (Av B6 hw9) (⟨(2:Int),([(0:Int),(0:Int),(1:Int),(1:Int)]:List Int),([(30:Int),(70:Int)]:List Int),([]:List TMove),([]:List TMove)⟩:TSession) (Av C6 hw9) (Av D6 hw9) (Av U3 hw9) (Av U3 hw9) (2:Int) (1:Int) U8) rfl (fun p9 M00 k5 ⟨d00,g00,j00,k00,hu_,Y7,Z7,b8,c8⟩=>?_)
 subst hu_
 obtain ⟨v0,H1⟩:=F2.agr k5
 refine BJ 37 274877906943 c0 rfl d0 (.yes rfl rfl) (fun _=>Au rfl rfl) rfl<|BJ 38 549755813887 c0 rfl d0 (.yes rfl rfl) (fun _=>Au rfl rfl) rfl ?_
 obtain ⟨y9,V8,h⟩:=bi h
 refine RD.callq (i:=39) (m' :=1099511627775) (W:=4722366481770133585920) (takeC_ok c0 (by kernel_rfl)) rfl d0 (v:=.bool y9) (fst:=[]) (cap:=[vP Z1]) (.yes rfl rfl) body64 rfl (e2 rfl rfl) (fun w9 hw9=>wardmotelaw26_fails_1_c n _ w9 (v0.hL0 hL hw9) u4.1 (v0.kd Y7 hw9) (v0.kd Z7 hw9) (v0.kd b8 hw9) (v0.kd c8 hw9) u4.2 (2:Int) (fun j9 v9 h9=>hw9.cell0 ((v0.memA .hd) j9 v9 h9)) V8) rfl<|Ah 40 2199023255551 c0 rfl d0 (fun _=>Bl rfl rfl) rfl<|Ah 41 4398046511103 c0 rfl d0 (fun _=>Ai rfl) rfl<|RD.ifb (s:=65) rfl h (fun D4 h=>?_) (fun D4 h=>?_)
 refine BM (i:=43) (m' :=13194139533311) (W:=4722366412500901036032) (takeC_ok c0 (by kernel_rfl)) rfl d0 (.yes rfl rfl) (AG rfl (v0.memA (.tl (.tl (.tl (.tl (.tl (.tl (.tl (.tl .hd)))))))))) rfl<|BM (i:=44) (m' :=30786325577727) (W:=4722366412500901036032) (takeC_ok c0 (by kernel_rfl)) rfl d0 (.yes rfl rfl) (AG rfl (v0.memA (.tl (.tl (.tl (.tl (.tl (.tl (.tl .hd))))))))) rfl<|BM (i:=45) (m' :=65970697666559) (W:=4722366412500901036032) (takeC_ok c0 (by kernel_rfl)) rfl d0 (.yes rfl rfl) (AG rfl (v0.memA (.tl (.tl (.tl (.tl (.tl (.tl .hd)))))))) rfl<|RD.cl 42 70368744177663 c0 rfl (.yes rfl rfl) body31 rfl (e1 rfl) (fun w9 hw9=>Calls.gives (wardmotelaw26_fails_c n _ w9 (v0.hL hL hw9) (2:Int)) fun (w8:World) (u8:Value) ⟨b0_,hu_,s_⟩=>(⟨b0_,hu_,s_.from hw9⟩:∃ b2:Nat,u8 = Value.func (.func 64) #[] #[vP b2]∧St p9 w8 [.cells b2 [vI 2] 54])) rfl (fun j01 P00 I9 ⟨b2,G8,d4⟩=>?_)
 subst G8
 have G2:=mk_push1 v0 d4
 have I1:=mk_tr1 v0 d4
 have V3:=AL (α:=TMove) G2 L
 obtain ⟨v4,W8,h⟩:=bi h
 have d3:=Tt c3 (Tt H1 I1)
 have E6:=Aj P0 d3
 have K3:=Tt I3 (Tt H1 I1)
 have F6:=Aj Q0 K3
 have M3:=Tt C0 (Tt B0 d3)
 have G6:=Aj E0 M3
 have H6:=Aj D0 (Tt z0 M3)
 refine RD.cl 46 140737488355327 c0 rfl (.yes rfl rfl) body13 rfl (e5 rfl rfl rfl rfl rfl) (fun w9 hw9=>edit_Make_c n _ w9 (G2.hL hL hw9) y1.1 (Av E6 hw9) y1.2 (Av F6 hw9) (⟨(2:Int),([(0:Int),(0:Int),(1:Int),(1:Int)]:List Int),([(30:Int),(70:Int)]:List Int),([]:List TMove),([]:List TMove)⟩:TSession) (Av G6 hw9) (Av H6 hw9) (Av V3 hw9) (Av V3 hw9) (2:Int) (2:Int) W8) rfl (fun q9 Q00 p5 ⟨p00,q00,s00,t00,hu_,d8,g8,j8,k8⟩=>?_)
 subst hu_
 obtain ⟨x0,J1⟩:=G2.agr p5
 refine BJ 47 281474976710655 c0 rfl d0 (.yes rfl rfl) (fun _=>Au rfl rfl) rfl<|BJ 48 562949953421311 c0 rfl d0 (.yes rfl rfl) (fun _=>Au rfl rfl) rfl ?_
 obtain ⟨z9,X8,h⟩:=bi h
 refine RD.callq (i:=49) (m' :=1125899906842623) (W:=4722365356969738371072) (takeC_ok c0 (by kernel_rfl)) rfl d0 (v:=.bool z9) (fst:=[]) (cap:=[vP b2]) (.yes rfl rfl) body64 rfl (e2 rfl rfl) (fun w9 hw9=>wardmotelaw26_fails_1_c n _ w9 (x0.hL0 hL hw9) v4.1 (x0.kd d8 hw9) (x0.kd g8 hw9) (x0.kd j8 hw9) (x0.kd k8 hw9) v4.2 (2:Int) (fun j9 v9 h9=>hw9.cell0 ((x0.memA .hd) j9 v9 h9)) X8) rfl<|Ah 50 2251799813685247 c0 rfl d0 (fun _=>Bl rfl rfl) rfl<|Ah 51 4503599627370495 c0 rfl d0 (fun _=>Ai rfl) rfl<|RD.ifb (s:=75) rfl h (fun E4 h=>?_) (fun E4 h=>?_)
 refine BM (i:=53) (m' :=13510798882111487) (W:=4722294425275607285760) (takeC_ok c0 (by kernel_rfl)) rfl d0 (.yes rfl rfl) (AG rfl (x0.memA (.tl (.tl (.tl (.tl (.tl (.tl (.tl (.tl (.tl .hd))))))))))) rfl<|BM (i:=54) (m' :=31525197391593471) (W:=4722294425275607285760) (takeC_ok c0 (by kernel_rfl)) rfl d0 (.yes rfl rfl) (AG rfl (x0.memA (.tl (.tl (.tl (.tl (.tl (.tl (.tl (.tl .hd)))))))))) rfl<|BM (i:=55) (m' :=67553994410557439) (W:=4722294425275607285760) (takeC_ok c0 (by kernel_rfl)) rfl d0 (.yes rfl rfl) (AG rfl (x0.memA (.tl (.tl (.tl (.tl (.tl (.tl (.tl .hd))))))))) rfl<|RD.cl 52 72057594037927935 c0 rfl (.yes rfl rfl) body31 rfl (e1 rfl) (fun w9 hw9=>Calls.gives (wardmotelaw26_fails_c n _ w9 (x0.hL hL hw9) (4:Int)) fun (w8:World) (u8:Value) ⟨b0_,hu_,s_⟩=>(⟨b0_,hu_,s_.from hw9⟩:∃ c2:Nat,u8 = Value.func (.func 64) #[] #[vP c2]∧St q9 w8 [.cells c2 [vI 4] 54])) rfl (fun k01 R00 J9 ⟨c2,H8,g4⟩=>?_)
 subst H8
 have H2:=mk_push1 x0 g4
 have K1:=mk_tr1 x0 g4
 have W3:=AL (α:=TMove) H2 L
 obtain ⟨x4,Y8,h⟩:=bi h
 have g3:=Tt d3 (Tt J1 K1)
 have I6:=Aj P0 g3
 have P3:=Tt K3 (Tt J1 K1)
 have J6:=Aj Q0 P3
 have Q3:=Tt C0 (Tt B0 g3)
 have K6:=Aj E0 Q3
 have M6:=Aj D0 (Tt z0 Q3)
 refine RD.cl 56 144115188075855871 c0 rfl (.yes rfl rfl) body17 rfl (e3 rfl rfl rfl) (fun w9 hw9=>edit_Undo_c n _ w9 (H2.hL hL hw9) y1.1 (Av I6 hw9) y1.2 (Av J6 hw9) (⟨(2:Int),([(0:Int),(0:Int),(1:Int),(1:Int)]:List Int),([(30:Int),(70:Int)]:List Int),([]:List TMove),([]:List TMove)⟩:TSession) (Av K6 hw9) (Av M6 hw9) (Av W3 hw9) (Av W3 hw9) Y8) rfl (fun s9 U00 q5 ⟨u00,v00,x00,y00,hu_,p8,q8,s8,t8⟩=>?_)
 subst hu_
 obtain ⟨y0,M1⟩:=H2.agr q5
 refine BJ 57 288230376151711743 c0 rfl d0 (.yes rfl rfl) (fun _=>Au rfl rfl) rfl<|BJ 58 576460752303423487 c0 rfl d0 (.yes rfl rfl) (fun _=>Au rfl rfl) rfl ?_
 obtain ⟨A9,Z8,h⟩:=bi h
 refine RD.callq (i:=59) (m' :=1152921504606846975) (W:=4721213561365038366720) (takeC_ok c0 (by kernel_rfl)) rfl d0 (v:=.bool A9) (fst:=[]) (cap:=[vP c2]) (.yes rfl rfl) body64 rfl (e2 rfl rfl) (fun w9 hw9=>wardmotelaw26_fails_1_c n _ w9 (y0.hL0 hL hw9) x4.1 (y0.kd p8 hw9) (y0.kd q8 hw9) (y0.kd s8 hw9) (y0.kd t8 hw9) x4.2 (4:Int) (fun j9 v9 h9=>hw9.cell0 ((y0.memA .hd) j9 v9 h9)) Z8) rfl<|Ah 60 2305843009213693951 c0 rfl d0 (fun _=>Bl rfl rfl) rfl<|Ah 61 4611686018427387903 c0 rfl d0 (fun _=>Ai rfl) rfl<|RD.ifb (s:=85) rfl h (fun F4 h=>?_) (fun F4 h=>?_)
 refine BM (i:=63) (m' :=13835058055282163711) (W:=4648579506574807007232) (takeC_ok c0 (by kernel_rfl)) rfl d0 (.yes rfl rfl) (AG rfl (y0.memA (.tl (.tl (.tl (.tl (.tl (.tl (.tl (.tl (.tl (.tl .hd)))))))))))) rfl<|BM (i:=64) (m' :=32281802128991715327) (W:=4648579506574807007232) (takeC_ok c0 (by kernel_rfl)) rfl d0 (.yes rfl rfl) (AG rfl (y0.memA (.tl (.tl (.tl (.tl (.tl (.tl (.tl (.tl (.tl .hd))))))))))) rfl<|BM (i:=65) (m' :=69175290276410818559) (W:=4648579506574807007232) (takeC_ok c0 (by kernel_rfl)) rfl d0 (.yes rfl rfl) (AG rfl (y0.memA (.tl (.tl (.tl (.tl (.tl (.tl (.tl .hd))))))))) rfl<|RD.cl 62 73786976294838206463 c0 rfl (.yes rfl rfl) body31 rfl (e1 rfl) (fun w9 hw9=>Calls.gives (wardmotelaw26_fails_c n _ w9 (y0.hL hL hw9) (4:Int)) fun (w8:World) (u8:Value) ⟨b0_,hu_,s_⟩=>(⟨b0_,hu_,s_.from hw9⟩:∃ d2:Nat,u8 = Value.func (.func 64) #[] #[vP d2]∧St s9 w8 [.cells d2 [vI 4] 54])) rfl (fun p01 V00 K9 ⟨d2,I8,j4⟩=>?_)
 subst I8
 have I2:=mk_push1 y0 j4
 have P1:=mk_tr1 y0 j4
 have v8:=AL (α:=TMove) I2 L
 obtain ⟨y4,b9,h⟩:=bi h
 have g7:=Tt g3 (Tt M1 P1)
 have P6:=Aj P0 g7
 have j7:=Tt P3 (Tt M1 P1)
 have Q6:=Aj Q0 j7
 have k7:=Tt v2 (Tt H0 (Tt M0 (Tt G1 (Tt H1 (Tt I1 (Tt J1 (Tt K1 (Tt M1 P1))))))))
 have R6:=Aj x2 k7
 have p7:=Tt Y2 (Tt H0 (Tt M0 (Tt G1 (Tt H1 (Tt I1 (Tt J1 (Tt K1 (Tt M1 P1))))))))
 have U6:=Aj y2 p7
 have q7:=Tt b3 (Tt M0 (Tt G1 (Tt H1 (Tt I1 (Tt J1 (Tt K1 (Tt M1 P1)))))))
 have V6:=Aj U1 q7
 refine RD.cl 66 147573952589676412927 c0 rfl (.yes rfl rfl) body13 rfl (e5 rfl rfl rfl rfl rfl) (fun w9 hw9=>edit_Make_c n _ w9 (I2.hL hL hw9) y1.1 (Av P6 hw9) y1.2 (Av Q6 hw9) (⟨(2:Int),([(0:Int),(0:Int),(0:Int),(1:Int)]:List Int),([(60:Int),(40:Int)]:List Int),([(⟨(2:Int),(1:Int),(0:Int)⟩:TMove)]:List TMove),([]:List TMove)⟩:TSession) (Av R6 hw9) (Av U6 hw9) (Av V6 hw9) (Av v8 hw9) (3:Int) (0:Int) b9) rfl (fun q01 W00 t5 ⟨z00,A00,B00,C00,hu_,x8,y8,z8,A8⟩=>?_)
 subst hu_
 obtain ⟨J0,C9⟩:=I2.agr t5
 refine BJ 67 295147905179352825855 c0 rfl d0 (.yes rfl rfl) (fun _=>Au rfl rfl) rfl<|BJ 68 590295810358705651711 c0 rfl d0 (.yes rfl rfl) (fun _=>Au rfl rfl) rfl ?_
 obtain ⟨B9,c9,h⟩:=bi h
 refine RD.callq (i:=69) (m' :=1180591620717411303423) (W:=3541774862152233910272) (takeC_ok c0 (by kernel_rfl)) rfl d0 (v:=.bool B9) (fst:=[]) (cap:=[vP d2]) (.yes rfl rfl) body64 rfl (e2 rfl rfl) (fun w9 hw9=>wardmotelaw26_fails_1_c n _ w9 (J0.hL0 hL hw9) y4.1 (J0.kd x8 hw9) (J0.kd y8 hw9) (J0.kd z8 hw9) (J0.kd A8 hw9) y4.2 (4:Int) (fun j9 v9 h9=>hw9.cell0 ((J0.memA .hd) j9 v9 h9)) c9) rfl<|Ah 70 2361183241434822606847 c0 rfl d0 (fun _=>Bl rfl rfl) rfl<|Ah 71 4722366482869645213695 c0 rfl d0 (fun _=>BP rfl) rfl<|Bc (doneD_ok c0 (by kernel_rfl))<|Am rfl<|AJ hb0 Tryz.func9 rfl rfl ?_
 cases h
 exact J0.gv
 refine By 1180591620717411303423 2 [(62,86),(63,87),(64,88),(65,89),(66,90),(67,91),(68,92),(69,93)] (F:=[(85,false)]) (U:=[]) c0 d0 (.cons rfl .nil) .nil ?_
 dsimp only [offS,List.map]
 refine Ah 70 2361183241434822606847 c0 rfl d0 (fun _=>Bn rfl rfl) rfl<|Ah 71 4722366482869645213695 c0 rfl d0 (fun _=>BP rfl) rfl<|Bc (doneD_ok c0 (by kernel_rfl))<|Am rfl<|AJ hb0 Tryz.func9 rfl rfl ?_
 cases h
 exact y0.gv
 refine By 1152921504606846975 12 [(52,76),(53,77),(54,78),(55,79),(56,80),(57,81),(58,82),(59,83)] (F:=[(75,false)]) (U:=[]) c0 d0 (.cons rfl .nil) .nil ?_
 dsimp only [offS,List.map]
 refine Ah 60 2305843009213693951 c0 rfl d0 (fun _=>Bn rfl rfl) rfl<|Ah 61 4611686018427387903 c0 rfl d0 (fun _=>Ai rfl) rfl<|By 1180591620717411303423 2 [(62,86),(63,87),(64,88),(65,89),(66,90),(67,91),(68,92),(69,93)] (F:=[(85,false)]) (U:=[]) c0 d0 (.cons rfl .nil) .nil ?_
 dsimp only [offS,List.map]
 refine Ah 70 2361183241434822606847 c0 rfl d0 (fun _=>Bn rfl rfl) rfl<|Ah 71 4722366482869645213695 c0 rfl d0 (fun _=>BP rfl) rfl<|Bc (doneD_ok c0 (by kernel_rfl))<|Am rfl<|AJ hb0 Tryz.func9 rfl rfl ?_
 cases h
 exact x0.gv
 refine By 1125899906842623 22 [(42,66),(43,67),(44,68),(45,69),(46,70),(47,71),(48,72),(49,73)] (F:=[(65,false)]) (U:=[]) c0 d0 (.cons rfl .nil) .nil ?_
 dsimp only [offS,List.map]
 refine Ah 50 2251799813685247 c0 rfl d0 (fun _=>Bn rfl rfl) rfl<|Ah 51 4503599627370495 c0 rfl d0 (fun _=>Ai rfl) rfl<|By 1152921504606846975 12 [(52,76),(53,77),(54,78),(55,79),(56,80),(57,81),(58,82),(59,83)] (F:=[(75,false)]) (U:=[]) c0 d0 (.cons rfl .nil) .nil ?_
 dsimp only [offS,List.map]
 refine Ah 60 2305843009213693951 c0 rfl d0 (fun _=>Bn rfl rfl) rfl<|Ah 61 4611686018427387903 c0 rfl d0 (fun _=>Ai rfl) rfl<|By 1180591620717411303423 2 [(62,86),(63,87),(64,88),(65,89),(66,90),(67,91),(68,92),(69,93)] (F:=[(85,false)]) (U:=[]) c0 d0 (.cons rfl .nil) .nil ?_
 dsimp only [offS,List.map]
 refine Ah 70 2361183241434822606847 c0 rfl d0 (fun _=>Bn rfl rfl) rfl<|Ah 71 4722366482869645213695 c0 rfl d0 (fun _=>BP rfl) rfl<|Bc (doneD_ok c0 (by kernel_rfl))<|Am rfl<|AJ hb0 Tryz.func9 rfl rfl ?_
 cases h
 exact v0.gv
 refine By 1099511627775 32 [(32,56),(33,57),(34,58),(35,59),(36,60),(37,61),(38,62),(39,63)] (F:=[(55,false)]) (U:=[]) c0 d0 (.cons rfl .nil) .nil ?_
 dsimp only [offS,List.map]
 refine Ah 40 2199023255551 c0 rfl d0 (fun _=>Bn rfl rfl) rfl<|Ah 41 4398046511103 c0 rfl d0 (fun _=>Ai rfl) rfl<|By 1125899906842623 22 [(42,66),(43,67),(44,68),(45,69),(46,70),(47,71),(48,72),(49,73)] (F:=[(65,false)]) (U:=[]) c0 d0 (.cons rfl .nil) .nil ?_
 dsimp only [offS,List.map]
 refine Ah 50 2251799813685247 c0 rfl d0 (fun _=>Bn rfl rfl) rfl<|Ah 51 4503599627370495 c0 rfl d0 (fun _=>Ai rfl) rfl<|By 1152921504606846975 12 [(52,76),(53,77),(54,78),(55,79),(56,80),(57,81),(58,82),(59,83)] (F:=[(75,false)]) (U:=[]) c0 d0 (.cons rfl .nil) .nil ?_
 dsimp only [offS,List.map]
 refine Ah 60 2305843009213693951 c0 rfl d0 (fun _=>Bn rfl rfl) rfl<|Ah 61 4611686018427387903 c0 rfl d0 (fun _=>Ai rfl) rfl<|By 1180591620717411303423 2 [(62,86),(63,87),(64,88),(65,89),(66,90),(67,91),(68,92),(69,93)] (F:=[(85,false)]) (U:=[]) c0 d0 (.cons rfl .nil) .nil ?_
 dsimp only [offS,List.map]
 refine Ah 70 2361183241434822606847 c0 rfl d0 (fun _=>Bn rfl rfl) rfl<|Ah 71 4722366482869645213695 c0 rfl d0 (fun _=>BP rfl) rfl<|Bc (doneD_ok c0 (by kernel_rfl))<|Am rfl<|AJ hb0 Tryz.func9 rfl rfl ?_
 cases h
 exact s0.gv
 refine By 1073741823 42 [(21,45),(22,46),(23,47),(24,48),(25,49),(26,50),(27,51),(28,52),(29,53)] (F:=[(44,false)]) (U:=[]) c0 d0 (.cons rfl .nil) .nil ?_
 dsimp only [offS,List.map]
 refine Ah 30 2147483647 c0 rfl d0 (fun _=>Bn rfl rfl) rfl<|Ah 31 4294967295 c0 rfl d0 (fun _=>Ai rfl) rfl<|By 1099511627775 32 [(32,56),(33,57),(34,58),(35,59),(36,60),(37,61),(38,62),(39,63)] (F:=[(55,false)]) (U:=[]) c0 d0 (.cons rfl .nil) .nil ?_
 dsimp only [offS,List.map]
 refine Ah 40 2199023255551 c0 rfl d0 (fun _=>Bn rfl rfl) rfl<|Ah 41 4398046511103 c0 rfl d0 (fun _=>Ai rfl) rfl<|By 1125899906842623 22 [(42,66),(43,67),(44,68),(45,69),(46,70),(47,71),(48,72),(49,73)] (F:=[(65,false)]) (U:=[]) c0 d0 (.cons rfl .nil) .nil ?_
 dsimp only [offS,List.map]
 refine Ah 50 2251799813685247 c0 rfl d0 (fun _=>Bn rfl rfl) rfl<|Ah 51 4503599627370495 c0 rfl d0 (fun _=>Ai rfl) rfl<|By 1152921504606846975 12 [(52,76),(53,77),(54,78),(55,79),(56,80),(57,81),(58,82),(59,83)] (F:=[(75,false)]) (U:=[]) c0 d0 (.cons rfl .nil) .nil ?_
 dsimp only [offS,List.map]
 refine Ah 60 2305843009213693951 c0 rfl d0 (fun _=>Bn rfl rfl) rfl<|Ah 61 4611686018427387903 c0 rfl d0 (fun _=>Ai rfl) rfl<|By 1180591620717411303423 2 [(62,86),(63,87),(64,88),(65,89),(66,90),(67,91),(68,92),(69,93)] (F:=[(85,false)]) (U:=[]) c0 d0 (.cons rfl .nil) .nil ?_
 dsimp only [offS,List.map]
 refine Ah 70 2361183241434822606847 c0 rfl d0 (fun _=>Bn rfl rfl) rfl<|Ah 71 4722366482869645213695 c0 rfl d0 (fun _=>BP rfl) rfl<|Bc (doneD_ok c0 (by kernel_rfl))<|Am rfl<|AJ hb0 Tryz.func9 rfl rfl ?_
 cases h
 exact p0.gv
 refine By 524287 53 [(10,34),(11,35),(12,36),(13,37),(14,38),(15,39),(16,40),(17,41),(18,42)] (F:=[(33,false)]) (U:=[]) c0 d0 (.cons rfl .nil) .nil ?_
 dsimp only [offS,List.map]
 refine Ah 19 1048575 c0 rfl d0 (fun _=>Bn rfl rfl) rfl<|Ah 20 2097151 c0 rfl d0 (fun _=>Ai rfl) rfl<|By 1073741823 42 [(21,45),(22,46),(23,47),(24,48),(25,49),(26,50),(27,51),(28,52),(29,53)] (F:=[(44,false)]) (U:=[]) c0 d0 (.cons rfl .nil) .nil ?_
 dsimp only [offS,List.map]
 refine Ah 30 2147483647 c0 rfl d0 (fun _=>Bn rfl rfl) rfl<|Ah 31 4294967295 c0 rfl d0 (fun _=>Ai rfl) rfl<|By 1099511627775 32 [(32,56),(33,57),(34,58),(35,59),(36,60),(37,61),(38,62),(39,63)] (F:=[(55,false)]) (U:=[]) c0 d0 (.cons rfl .nil) .nil ?_
 dsimp only [offS,List.map]
 refine Ah 40 2199023255551 c0 rfl d0 (fun _=>Bn rfl rfl) rfl<|Ah 41 4398046511103 c0 rfl d0 (fun _=>Ai rfl) rfl<|By 1125899906842623 22 [(42,66),(43,67),(44,68),(45,69),(46,70),(47,71),(48,72),(49,73)] (F:=[(65,false)]) (U:=[]) c0 d0 (.cons rfl .nil) .nil ?_
 dsimp only [offS,List.map]
 refine Ah 50 2251799813685247 c0 rfl d0 (fun _=>Bn rfl rfl) rfl<|Ah 51 4503599627370495 c0 rfl d0 (fun _=>Ai rfl) rfl<|By 1152921504606846975 12 [(52,76),(53,77),(54,78),(55,79),(56,80),(57,81),(58,82),(59,83)] (F:=[(75,false)]) (U:=[]) c0 d0 (.cons rfl .nil) .nil ?_
 dsimp only [offS,List.map]
 refine Ah 60 2305843009213693951 c0 rfl d0 (fun _=>Bn rfl rfl) rfl<|Ah 61 4611686018427387903 c0 rfl d0 (fun _=>Ai rfl) rfl<|By 1180591620717411303423 2 [(62,86),(63,87),(64,88),(65,89),(66,90),(67,91),(68,92),(69,93)] (F:=[(85,false)]) (U:=[]) c0 d0 (.cons rfl .nil) .nil ?_
 dsimp only [offS,List.map]
 refine Ah 70 2361183241434822606847 c0 rfl d0 (fun _=>Bn rfl rfl) rfl<|Ah 71 4722366482869645213695 c0 rfl d0 (fun _=>BP rfl) rfl<|Bc (doneD_ok c0 (by kernel_rfl))<|Am rfl<|AJ hb0 Tryz.func9 rfl rfl ?_
 cases h
 exact q0.gv
 intro j3
 refine Bv [1,4] (readyD_ok c0 (by kernel_rfl)) ⟨?_,?_,trivial⟩
 have R1:=AL (α:=TMove) V0 L
 have V2:=Aj D0 z0
 refine RO.call (m' :=15) (fst:=[]) (cap:=[]) (stepC_ok c0 (by kernel_rfl)) rfl .plain body19 rfl (e1 rfl) (fun w9 hw9=>Calls.gives (wardmotelaw26_is_c n _ w9 (V0.hL hL hw9) (⟨(2:Int),([(0:Int),(0:Int),(1:Int),(1:Int)]:List Int),([(30:Int),(70:Int)]:List Int),([]:List TMove),([]:List TMove)⟩:TSession) (Av E0 hw9) (Av V2 hw9) (Av R1 hw9) (Av R1 hw9)) fun (w8:World) (u8:Value) ⟨b0_,hu_,s_⟩=>(⟨b0_,hu_,s_.from hw9⟩:∃ V1:Nat,u8 = Value.func (.func 53) #[] #[vP V1]∧St p4 w8 [.cells V1 [vI 2,(vS g0 4),(vS j0 2),vN,vN] 48])) rfl (fun X00 D00 D9 ⟨V1,B8,X3⟩=>?_)
 subst B8
 have G4:=mk_push1 V0 X3
 have U4:=mk_tr1 V0 X3
 refine RD.nu 4 31 c0 rfl .plain rfl (AE (α:=Int) (xs:=([(0:Int),(0:Int),(1:Int),(1:Int)]:List Int)) (vs:=[vI 0,vI 0,vI 1,vI 1]) (ds' :=[vI 0,vI 0,vI 1,vI 1]) rfl G4 el43 rfl (e4 rfl rfl rfl rfl) (by kernel_rfl) rfl) (fun k4 A2 F0 D1=>?_)
 have U2:=Ar (cs:=[vI 0,vI 0,vI 1,vI 1]) (xs:=(([(0:Int),(0:Int),(1:Int),(1:Int)]:List Int):List Int)) F0 L (Aq (cs:=[vI 0]) (ds:=[vI 0,vI 1,vI 1]) rfl (Aq (cs:=[vI 0]) (ds:=[vI 1,vI 1]) rfl (Aq (cs:=[vI 1]) (ds:=[vI 1]) rfl (Aq (cs:=[vI 1]) (ds:=[]) rfl (AC _ _)))))
 obtain ⟨J4,y3⟩:=AD F0 (.one .hd (.one .hd (.one .hd (.one .hd (.one .hd (.one .hd (.one .hd (.one .hd (.one (.tl .hd) (.one (.tl .hd) (.one (.tl .hd) (.one (.tl .hd) .done))))))))))))
 have W6:=Al U2 y3
 have s7:=Tt U4 (Tt D1 y3)
 exact j3 ((vS A2 4),[vI 0,vI 0,vI 1,vI 1],V1) _ _ ⟨rfl,rfl,rfl,rfl,rfl,rfl,rfl,rfl,rfl,rfl,trivial⟩ ⟨J4,s7,W6⟩
 refine BI (m' :=29) (stepC_ok c0 (by kernel_rfl)) rfl .plain rfl (AE (α:=Int) (xs:=([(0:Int),(0:Int),(1:Int),(1:Int)]:List Int)) (vs:=[vI 0,vI 0,vI 1,vI 1]) (ds' :=[vI 0,vI 0,vI 1,vI 1]) rfl V0 el43 rfl (e4 rfl rfl rfl rfl) (by kernel_rfl) rfl) (fun k4 A2 F0 D1=>?_)
 have U2:=Ar (cs:=[vI 0,vI 0,vI 1,vI 1]) (xs:=(([(0:Int),(0:Int),(1:Int),(1:Int)]:List Int):List Int)) F0 L (Aq (cs:=[vI 0]) (ds:=[vI 0,vI 1,vI 1]) rfl (Aq (cs:=[vI 0]) (ds:=[vI 1,vI 1]) rfl (Aq (cs:=[vI 1]) (ds:=[vI 1]) rfl (Aq (cs:=[vI 1]) (ds:=[]) rfl (AC _ _)))))
 have R1:=AL (α:=TMove) F0 L
 have V2:=Aj E0 D1
 have H5:=Aj D0 (Tt z0 D1)
 refine RD.cl 1 31 c0 rfl .plain body19 rfl (e1 rfl) (fun w9 hw9=>Calls.gives (wardmotelaw26_is_c n _ w9 (F0.hL hL hw9) (⟨(2:Int),([(0:Int),(0:Int),(1:Int),(1:Int)]:List Int),([(30:Int),(70:Int)]:List Int),([]:List TMove),([]:List TMove)⟩:TSession) (Av V2 hw9) (Av H5 hw9) (Av R1 hw9) (Av R1 hw9)) fun (w8:World) (u8:Value) ⟨b0_,hu_,s_⟩=>(⟨b0_,hu_,s_.from hw9⟩:∃ W1:Nat,u8 = Value.func (.func 53) #[] #[vP W1]∧St k4 w8 [.cells W1 [vI 2,(vS g0 4),(vS j0 2),vN,vN] 48])) rfl (fun Y00 E00 E9 ⟨W1,C8,Y3⟩=>?_)
 subst C8
 have H4:=mk_push1 F0 Y3
 have x3:=mk_tr1 F0 Y3
 obtain ⟨K4,z3⟩:=AD H4 (.one (.tl .hd) (.one .hd (.one .hd (.one .hd (.one .hd (.one .hd (.one .hd (.one .hd (.one (.tl .hd) (.one (.tl .hd) (.one (.tl .hd) (.one (.tl .hd) .done))))))))))))
 have X6:=Al U2 (Tt x3 z3)
 have t7:=Tt D1 (Tt x3 z3)
 exact j3 ((vS A2 4),[vI 0,vI 0,vI 1,vI 1],W1) _ _ ⟨rfl,rfl,rfl,rfl,rfl,rfl,rfl,rfl,rfl,rfl,trivial⟩ ⟨K4,t7,X6⟩
structure TDraft where
  fN:UInt8
  fParents:List UInt8
  fMore:List (UInt8 × UInt8)
  fLabels:List UInt8
  fK:UInt8
  deriving DecidableEq
instance:Rep TDraft:=Rep.via (β:=UInt8 × (List UInt8) × (List (UInt8 × UInt8)) × (List UInt8) × UInt8) fun x=>(x.fN,x.fParents,x.fMore,x.fLabels,x.fK)
def wardmoteref21_Draft_Units_p (_n:Nat) (a0:TDraft):Option Int:=
  some ((1 + ((a0.fN % (9:UInt8)).toNat):Nat):Int)
theorem wardmoteref21_Draft_Units_c (n:Nat) (L:List Nat) (w:World) (_hL:∀ b ∈ L,b < w.heap.size) (a0:TDraft) {v0_1:Value} (h0_1:Rep.R w L [v0_1] a0.fParents) {v0_2:Value} (h0_2:Rep.R w L [v0_2] a0.fMore) {v0_3:Value} (h0_3:Rep.R w L [v0_3] a0.fLabels)  {r:Int} (h:wardmoteref21_Draft_Units_p n a0 = some r) :
    Calls Tryz.prog 65 #[.agg #[.int .u8 (a0.fN.toNat:Int),v0_1,v0_2,v0_3,.int .u8 (a0.fK.toNat:Int)]] w (Gives w fun _ u=>u = vI r):=by
 unfold wardmoteref21_Draft_Units_p at h
 have hS0:=AK w
 refine AM Tryz.func65 rfl rfl rfl (fun _ cs0 hb0=>?_)
 refine Ae<|Az .plain rfl (AI hS0 rfl rfl) (fun w2 b5 hS3 hT4=>?_)
 refine Ag rfl<|Aa<|Ae<|AH 0 rfl<|AS rfl ((hS3.memA .hd) 0 _ rfl)<|Ab (FV.rem8 (a:=a0.fN) (b:=(9:UInt8)) rfl rfl (by decide)) ?_
 have hu6:=(a0.fN % (9:UInt8)).toNat_lt
 refine Ab (FV.convN (i:=(a0.fN % (9:UInt8)).toNat) Tryz.underlying5 Tryz.underlying3 rfl (by omega))<|Ab (Bu (i:=1) (j:=(a0.fN % (9:UInt8)).toNat) rfl rfl (by omega))<|Ag rfl<|Aa<|Am rfl<|AJ hb0 Tryz.func65 rfl rfl ?_
 cases h
 exact hS3.gv
def wardmoteref21_Draft_label_p (_n:Nat) (a0:TDraft) (a1:Int):Option Int:=
  (if a1 < ((a0.fLabels.length:Nat):Int) then (idx a0.fLabels a1).bind fun x9=>some ((x9.toNat:Nat):Int) else some (0:Int))
theorem wardmoteref21_Draft_label_c (n:Nat) (L:List Nat) (w:World) (_hL:∀ b ∈ L,b < w.heap.size) (a0:TDraft) {v0_1:Value} (h0_1:Rep.R w L [v0_1] a0.fParents) {v0_2:Value} (h0_2:Rep.R w L [v0_2] a0.fMore) {v0_3:Value} (h0_3:Rep.R w L [v0_3] a0.fLabels) (a1:Int)  {r:Int} (h:wardmoteref21_Draft_label_p n a0 a1 = some r) :
    Calls Tryz.prog 66 #[.agg #[.int .u8 (a0.fN.toNat:Int),v0_1,v0_2,v0_3,.int .u8 (a0.fK.toNat:Int)],vI a1] w (Gives w fun _ u=>u = vI r):=by
 unfold wardmoteref21_Draft_label_p at h
 have hS0:=AK w
 refine AM Tryz.func66 rfl rfl rfl (fun _ cs0 hb0=>?_)
 refine Ae<|Az .plain rfl (AI hS0 rfl rfl) (fun w2 b5 hS3 hT4=>?_)
 refine Ag rfl<|Aa<|Ak<|Ae<|Ac rfl<|AH 3 rfl<|AS rfl ((hS3.memA .hd) 3 _ rfl) ?_
 have hm7:=Ax h0_3 hS3
 have hl6:a0.fLabels.length ≤ 281474976710656:=AZ hm7
 refine Ab (Bj (xs:=a0.fLabels) Tryz.underlying22 rfl hm7)<|Ab (BF (i:=a1) (j:=((a0.fLabels.length:Nat):Int)) rfl rfl)<|Aa<|AW rfl h (fun c8 h=>?_) (fun c8 h=>?_)
 refine Ae<|AH 3 rfl<|AS rfl ((hS3.memA .hd) 3 _ rfl)<|Ac rfl ?_
 obtain ⟨x9,hx9,h⟩:=bi h
 obtain ⟨g0,q0⟩:=idx_in hx9
 obtain ⟨s0,t0,c0,j0,b0,p0,k0⟩:=Bb hm7 q0
 have d0:b0 = [.int .u8 (x9.toNat:Int)]:=p0; subst d0
 refine Ab (Be 1 (a1.toNat) rfl c0 rfl g0 j0)<|AS rfl (k0 0 _ rfl) ?_
 have u0:=x9.toNat_lt
 refine Ab (FV.convN (i:=x9.toNat) Tryz.underlying5 Tryz.underlying3 rfl (by omega))<|Ag rfl<|Aa<|Am rfl<|AJ hb0 Tryz.func66 rfl rfl ?_
 cases h
 exact hS3.gv
 refine Ao<|Ae<|Ag rfl<|Aa<|Am rfl<|AJ hb0 Tryz.func66 rfl rfl ?_
 cases h
 exact hS3.gv
def wardmoteref21_Labels_l1 (_n:Nat) (a0:List Int) (a1:Int) (d0:Nat → Option (Bool ⊕ Unit)):Nat → Option (Bool ⊕ Unit)
  | b0=>(if b0 < a0.length then (a0[b0]?).bind fun c0=>(if c0 < 0 then some (.inl false) else (if a1 ≤ c0 then some (.inl false) else d0 (b0 + 1))) else some (.inr ()))
def wardmoteref21_Labels_p (n:Nat) (a0:List Int) (a1:Int):Option Bool:=
  thn (loopF (wardmoteref21_Labels_l1 n a0 a1) n 0) (fun _=>(if 1 ≤ a0.length then some (decide (a0.length ≤ 64)) else some false))
theorem wardmoteref21_Labels_c (n:Nat) (L:List Nat) (w:World) (_hL:∀ b ∈ L,b < w.heap.size) (a0:List Int) {v0_0:Value} (h0_0:Rep.R w L [v0_0] a0) (a1:Int)  {r:Bool} (h:wardmoteref21_Labels_p n a0 a1 = some r) :
    Calls Tryz.prog 89 #[v0_0,vI a1] w (Gives w fun _ u=>u = .bool r):=by
 unfold wardmoteref21_Labels_p at h
 have hS0:=AK w
 refine AM Tryz.func89 rfl rfl rfl (fun _ cs0 hb0=>?_)
 refine Ae<|Ag rfl<|Aa<|Ak<|Ae<|Ag rfl<|Aa<|AB ?_
 obtain ⟨J0,C0,g0⟩:=thn_in h
 refine Bp (α:=Nat) (fun b0=>[(0,v0_0),(1,vI a1),(5,vI ((b0:Nat):Int))]) (fun b0 j0=>St w j0 []∧Tr w [] j0 []) (fun b0=>b0) 0 C0 ⟨rfl,rfl,rfl,trivial⟩ ⟨hS0,AN _ _⟩ ?_
 rintro G0 b0 j0 z0 ⟨c0,A0⟩ h
 unfold wardmoteref21_Labels_l1 at h
 try dsimp only at h
 refine Ak<|Ae<|Ac rfl<|Ac rfl ?_
 have d0:=Ax h0_0 c0
 have I0:a0.length ≤ 281474976710656:=AZ d0
 refine Ab (Bj (xs:=a0) Tryz.underlying43 rfl d0)<|Ab (BA (i:=b0) (j:=a0.length) rfl rfl)<|Aa<|AW rfl h (fun t0 h=>?_) (fun t0 h=>?_)
 refine Ao<|Ak<|AB<|Ae<|Ac rfl<|Ac rfl ?_
 obtain ⟨k0,E0,h⟩:=bi h
 obtain ⟨F0,H0,p0,q0,y0,D0,s0⟩:=Bb d0 E0
 have B0:y0 = [vI k0]:=D0; subst B0
 refine Ab (Be 1 b0 rfl p0 rfl rfl q0)<|AS rfl (s0 0 _ rfl)<|Ab (BF (i:=k0) (j:=0) rfl rfl)<|Ac rfl<|Bi (s:=17) rfl h (fun u0 h=>?_) (fun u0 h=>?_)
 refine Af<|Af<|Af<|Af<|Af<|Af<|AU rfl rfl<|Aa<|AY rfl<|Ae<|Ag rfl<|Aa ?_
 have h:=thn_inl h g0
 refine Am rfl<|AJ hb0 Tryz.func89 rfl rfl ?_
 cases h
 exact c0.gv
 refine Ap (Ai rfl)<|Ap (Ai rfl)<|Ap (Be 1 b0 rfl p0 rfl rfl q0)<|Ap (AA rfl (s0 0 _ rfl))<|Ap (Ai rfl)<|Ap (FV.geq (i:=k0) (j:=a1) rfl rfl)<|AO rfl rfl<|Aa<|AW rfl h (fun v0 h=>?_) (fun v0 h=>?_)
 refine Ae<|Ag rfl<|Aa ?_
 have h:=thn_inl h g0
 refine Am rfl<|AJ hb0 Tryz.func89 rfl rfl ?_
 cases h
 exact c0.gv
 refine Ao<|AF<|Aw<|Ac rfl<|Ab (Bu (i:=b0) (j:=1) rfl rfl (by omega))<|Ag rfl<|Aa ?_
 exact z0 (b0 + 1) _ _ ⟨rfl,rfl,rfl,trivial⟩ ⟨c0,A0⟩ h
 refine Bd rfl ?_
 have h:=thn_inr h g0
 try dsimp only at h
 refine Ae<|Ac rfl<|Ab (Bj (xs:=a0) Tryz.underlying43 rfl d0)<|Ab (FV.geqN (i:=a0.length) (j:=1) rfl rfl)<|Ac rfl<|Bi (s:=28) rfl h (fun x0 h=>?_) (fun x0 h=>?_)
 refine Ap (Ai rfl)<|Ap (Bj (xs:=a0) Tryz.underlying43 rfl d0)<|Ap (FV.leqN (i:=a0.length) (j:=64) rfl rfl)<|AU rfl rfl<|Ag rfl<|Aa<|Am rfl<|AJ hb0 Tryz.func89 rfl rfl ?_
 cases h
 exact c0.gv
 refine Af<|Af<|Af<|AO rfl rfl<|Ag rfl<|Aa<|Am rfl<|AJ hb0 Tryz.func89 rfl rfl ?_
 cases h
 exact c0.gv
theorem body89:bodyB Tryz.prog 89 = true:=by kernel_rfl
def wardmoteref21_Canon_l1 (_n:Nat) (a0:List Int) (q0:Int × Nat × (List Int) × (List Int) → Option (List Int)):Int × Nat × (List Int) × (List Int) → Option (List Int)
  | (g0,b0,k0,d0)=>(if b0 < a0.length then (a0[b0]?).bind fun c0=>(idx d0 c0).bind fun t0=>jn (fun (y0,p0)=>(idx p0 c0).bind fun u0=>(app k0 ([u0]:List Int)).bind fun v0=>q0 (y0,b0 + 1,v0,p0)) (fun j0=>(if t0 < 0 then (put d0 ((c0.toNat:Nat):Int) g0).bind fun x0=>(chk (g0 + 1)).bind fun s0=>j0 (s0,x0) else j0 (g0,d0))) else some k0)
def wardmoteref21_Canon_p (n:Nat) (a0:List Int):Option ((List Int) × Int):=
  (wardmoteref21_Labels_p n a0 (8:Int)).bind fun y1=>(if y1 = true then Option.bind (loopF (wardmoteref21_Canon_l1 n a0) n (0,0,([]:List Int),([(-1:Int),(-1:Int),(-1:Int),(-1:Int),(-1:Int),(-1:Int),(-1:Int),(-1:Int)]:List Int))) (fun b0=>some (b0,(0:Int))) else some (([]:List Int),(210:Int)))
theorem wardmoteref21_Canon_c (n:Nat) (L:List Nat) (w:World) (hL:∀ b ∈ L,b < w.heap.size) (a0:List Int) {v0_0:Value} (h0_0:Rep.R w L [v0_0] a0)  {r:(List Int) × Int} (h:wardmoteref21_Canon_p n a0 = some r) :
    Calls Tryz.prog 67 #[v0_0] w (Gives w fun w' u=>∃ v0_0:Value,u = .tuple #[v0_0,vI r.2]∧Rep.R w' L [v0_0] r.1):=by
 unfold wardmoteref21_Canon_p at h
 have hS0:=AK w
 refine AM Tryz.func67 rfl rfl rfl (fun _ cs0 hb0=>?_)
 refine Ae<|Ag rfl<|Ag rfl<|Aa<|Ak<|Ae<|Ac rfl ?_
 obtain ⟨y1,hy1,h⟩:=bi h
 refine BE (.bool y1) body89 rfl (e2 rfl rfl) (fun w9 hw9=>wardmoteref21_Labels_c n _ w9 (hS0.hL0 hL hw9) a0 (hS0.kd h0_0 hw9) (8:Int) hy1) rfl<|Ab (Ba rfl)<|Aa<|BS rfl h (fun c2 h=>?_) (fun c2 h=>?_)
 refine Ao<|Ae<|Az .plain rfl (AE (α:=Int) (xs:=([(-1:Int),(-1:Int),(-1:Int),(-1:Int),(-1:Int),(-1:Int),(-1:Int),(-1:Int)]:List Int)) (vs:=[vI (-1),vI (-1),vI (-1),vI (-1),vI (-1),vI (-1),vI (-1),vI (-1)]) (ds' :=[vI (-1),vI (-1),vI (-1),vI (-1),vI (-1),vI (-1),vI (-1),vI (-1)]) rfl hS0 el42 rfl (e8 rfl rfl rfl rfl rfl rfl rfl rfl) (by kernel_rfl) rfl) (fun w4 b7 hS5 hT6=>?_)
 have hc8:=Ar (cs:=[vI (-1),vI (-1),vI (-1),vI (-1),vI (-1),vI (-1),vI (-1),vI (-1)]) (xs:=(([(-1:Int),(-1:Int),(-1:Int),(-1:Int),(-1:Int),(-1:Int),(-1:Int),(-1:Int)]:List Int):List Int)) hS5 L (Aq (cs:=[vI (-1)]) (ds:=[vI (-1),vI (-1),vI (-1),vI (-1),vI (-1),vI (-1),vI (-1)]) rfl (Aq (cs:=[vI (-1)]) (ds:=[vI (-1),vI (-1),vI (-1),vI (-1),vI (-1),vI (-1)]) rfl (Aq (cs:=[vI (-1)]) (ds:=[vI (-1),vI (-1),vI (-1),vI (-1),vI (-1)]) rfl (Aq (cs:=[vI (-1)]) (ds:=[vI (-1),vI (-1),vI (-1),vI (-1)]) rfl (Aq (cs:=[vI (-1)]) (ds:=[vI (-1),vI (-1),vI (-1)]) rfl (Aq (cs:=[vI (-1)]) (ds:=[vI (-1),vI (-1)]) rfl (Aq (cs:=[vI (-1)]) (ds:=[vI (-1)]) rfl (Aq (cs:=[vI (-1)]) (ds:=[]) rfl (AC _ _)))))))))
 refine Ag rfl<|Aa<|Ae<|Ag rfl<|Aa<|Ae<|Ag rfl<|Aa<|Ak<|Ae<|Ag rfl<|Aa<|AB ?_
 have J0:=hS5.nilRow 3 (Rep.size Int)
 have F1:=St.nilRowT hS5 3 (Rep.size Int)
 have J1:=Ar (cs:=[]) (xs:=([]:List Int)) J0 L (AC _ _)
 have d2:=Al hc8 F1
 obtain ⟨p3,u2,Y1⟩:=bind_in2 h
 refine Bp (α:=Int × Nat × (List Int) × (List Int) × Value × (List Value) × (List Value)) (fun ⟨u0,g0,c0,j0,b0,d0,k0⟩=>[(0,v0_0),(4,(vS b7 8)),(5,vI u0),(6,b0),(7,vI ((g0:Nat):Int))]) (fun ⟨u0,g0,c0,j0,b0,d0,k0⟩ v0=>St w v0 [.row w.heap.size 3 (Rep.size Int) b0 c0.length d0,.row w.heap.size 3 (Rep.size Int) (vS b7 8) j0.length k0]∧Tr w4 [.row w.heap.size 3 (Rep.size Int) vN (([]:List Int).length) [],.row w.heap.size 3 (Rep.size Int) (vS b7 8) (([(-1:Int),(-1:Int),(-1:Int),(-1:Int),(-1:Int),(-1:Int),(-1:Int),(-1:Int)]:List Int).length) [vI (-1),vI (-1),vI (-1),vI (-1),vI (-1),vI (-1),vI (-1),vI (-1)]] v0 [.row w.heap.size 3 (Rep.size Int) b0 c0.length d0,.row w.heap.size 3 (Rep.size Int) (vS b7 8) j0.length k0]∧Cells v0 (bl [.row w.heap.size 3 (Rep.size Int) b0 c0.length d0,.row w.heap.size 3 (Rep.size Int) (vS b7 8) j0.length k0] ++ L) d0 c0∧Cells v0 (bl [.row w.heap.size 3 (Rep.size Int) b0 c0.length d0,.row w.heap.size 3 (Rep.size Int) (vS b7 8) j0.length k0] ++ L) k0 j0) (fun ⟨u0,g0,c0,j0,b0,d0,k0⟩=>(u0,g0,c0,j0)) (0,0,([]:List Int),([(-1:Int),(-1:Int),(-1:Int),(-1:Int),(-1:Int),(-1:Int),(-1:Int),(-1:Int)]:List Int),vN,[],[vI (-1),vI (-1),vI (-1),vI (-1),vI (-1),vI (-1),vI (-1),vI (-1)]) u2 ⟨rfl,rfl,rfl,rfl,rfl,trivial⟩ ⟨J0,AN _ _,J1,d2⟩ ?_
 rintro V2 ⟨u0,g0,c0,j0,b0,d0,k0⟩ v0 B1 ⟨s0,G1,Q0,E0⟩ h
 unfold wardmoteref21_Canon_l1 at h
 try dsimp only at h
 refine Ak<|Ae<|Ac rfl<|Ac rfl ?_
 have H0:=Ax h0_0 s0
 have k3:a0.length ≤ 281474976710656:=AZ H0
 refine Ab (Bj (xs:=a0) Tryz.underlying43 rfl H0)<|Ab (BA (i:=g0) (j:=a0.length) rfl rfl)<|Aa<|AW rfl h (fun q1 h=>?_) (fun q1 h=>?_)
 refine Ao<|Ak<|AB<|Ak<|Ae<|Ac rfl<|Ac rfl<|Ac rfl ?_
 obtain ⟨x0,c1,h⟩:=bi h
 obtain ⟨R2,Y2,U0,X0,t1,v2,Z0⟩:=Bb H0 c1
 have Q1:t1 = [vI x0]:=v2; subst Q1
 refine Ab (Be 1 g0 rfl U0 rfl rfl X0)<|AS rfl (Z0 0 _ rfl) ?_
 obtain ⟨d1,E2,h⟩:=bi h
 obtain ⟨W0,F2⟩:=idx_in E2
 obtain ⟨g1,Z2,A0,G0,u1,x2,g2⟩:=St.nth (α:=Int) s0 (.tl .hd) E0 F2
 obtain ⟨k1,b3,V0⟩:=BH (α:=Int) s0 (.tl .hd) G0
 obtain rfl:g1 = ⟨k1,0,none⟩:=by rw [V0] at A0; cases A0; rfl
 have R1:u1 = [vI d1]:=x2; subst R1
 refine Ab (Be 1 (x0.toNat) rfl A0 rfl W0 G0)<|AS rfl (g2 0 _ rfl)<|Ab (BF (i:=d1) (j:=0) rfl rfl)<|Aa<|MX.join (α:=Int × (List Int) × (List Value)) (fun ⟨y0,p0,q0⟩=>[(0,v0_0),(4,(vS b7 8)),(5,vI y0),(6,b0),(7,vI ((g0:Nat):Int))]) (fun ⟨y0,p0,q0⟩ B0=>St w B0 [.row w.heap.size 3 (Rep.size Int) b0 c0.length d0,.row w.heap.size 3 (Rep.size Int) (vS b7 8) p0.length q0]∧Tr v0 [.row w.heap.size 3 (Rep.size Int) b0 c0.length d0,.row w.heap.size 3 (Rep.size Int) (vS b7 8) j0.length k0] B0 [.row w.heap.size 3 (Rep.size Int) b0 c0.length d0,.row w.heap.size 3 (Rep.size Int) (vS b7 8) p0.length q0]∧Cells B0 (bl [.row w.heap.size 3 (Rep.size Int) b0 c0.length d0,.row w.heap.size 3 (Rep.size Int) (vS b7 8) p0.length q0] ++ L) q0 p0) (fun ⟨y0,p0,q0⟩=>(y0,p0)) h ?_ ?_
 rintro ⟨y0,p0,q0⟩ B0 ⟨z0,K0,R0⟩ h
 try dsimp only at h
 refine Aw<|Ac rfl<|Ac rfl<|Ac rfl<|Ac rfl ?_
 have k2:=Ax h0_0 z0
 obtain ⟨U2,c3,U1,b2,v1,y2,j2⟩:=Bb k2 c1
 have V1:v1 = [vI x0]:=y2; subst V1
 refine Ab (Be 1 g0 rfl U1 rfl rfl b2)<|AS rfl (j2 0 _ rfl) ?_
 obtain ⟨t0,G2,h⟩:=bi h
 obtain ⟨Z1,H2⟩:=idx_in G2
 obtain ⟨j1,d3,F0,Y0,x1,z2,p2⟩:=St.nth (α:=Int) z0 (.tl .hd) R0 H2
 obtain ⟨p1,g3,W1⟩:=BH (α:=Int) z0 (.tl .hd) Y0
 obtain rfl:j1 = ⟨p1,0,none⟩:=by rw [W1] at F0; cases F0; rfl
 have X1:x1 = [vI t0]:=z2; subst X1
 refine Ab (Be 1 (x0.toNat) rfl F0 rfl Z1 Y0)<|AS rfl (p2 0 _ rfl)<|Az .plain rfl (AE (α:=Int) (xs:=([t0]:List Int)) (vs:=[vI t0]) (ds' :=[vI t0]) rfl z0 el43 rfl (e1 rfl) (by kernel_rfl) rfl) (fun q3 X2 C0 M0=>?_)
 have K1:=Ar (cs:=[vI t0]) (xs:=(([t0]:List Int):List Int)) C0 L (Aq (cs:=[vI t0]) (ds:=[]) rfl (AC _ _))
 obtain ⟨P2,I2,h⟩:=bi h
 have q2:=Al Q0 (Tt K0 M0)
 refine RG.doesL .plain rfl (AR (α:=Int) (ys:=([t0]:List Int)) I2 C0 (fun _ _=>(.tl .hd)) el43 rfl rfl q2 (Src.row (α:=Int) C0 .hd K1)) (fun M2 s3 ⟨z1,C1,H1,M1⟩=>?_)
 refine Ag rfl<|Aa<|AF<|Aw<|Ac rfl<|Ab (Bu (i:=g0) (j:=1) rfl rfl (by omega))<|Ag rfl<|Aa ?_
 obtain ⟨D1,P0⟩:=AD C1 (.one (.tl .hd) (.one (.tl .hd) .done))
 have s2:=Al M1 P0
 have b1:=Tt M0 (Tt H1 P0)
 have t2:=Al R0 b1
 exact B1 (y0,g0 + 1,P2,p0,M2,z1,q0) _ _ ⟨rfl,rfl,rfl,rfl,rfl,trivial⟩ ⟨D1,(Tt G1 (Tt K0 b1)),s2,t2⟩ h
 intro W2 I0 h
 try dsimp only at h
 refine AW rfl h (fun s1 h=>?_) (fun s1 h=>?_)
 refine Ae<|Ac rfl<|Ac rfl<|Ac rfl<|Ab (Be 1 g0 rfl U0 rfl rfl X0)<|AS rfl (Z0 0 _ rfl)<|Ac rfl<|Ab (Be 1 (x0.toNat) rfl A0 rfl W0 G0) ?_
 obtain ⟨Q2,J2,h⟩:=bi h
 refine RG.acts' .plain (Acts.set (α:=Int) (i:=x0.toNat) J2 s0 V0 (fun _=>(.tl .hd)) E0 rfl rfl rfl rfl rfl (by kernel_rfl)) (fun t3 ⟨A1,E1,I1,P1⟩=>?_)
 refine Aa<|Aw<|Ac rfl ?_
 obtain ⟨K2,D2,h⟩:=bi h
 refine Ab (BT (i:=u0) (j:=1) rfl rfl D2)<|Ag rfl<|Aa ?_
 exact I0 (K2,Q2,A1) _ _ ⟨rfl,rfl,rfl,rfl,rfl,trivial⟩ ⟨E1,I1,P1⟩ h
 refine Ao ?_
 exact I0 (u0,j0,k0) _ _ ⟨rfl,rfl,rfl,rfl,rfl,trivial⟩ ⟨s0,AN _ _,E0⟩ h
 refine Bd rfl ?_
 have h:=Y1 _ h
 try dsimp only at h
 refine Ae<|Ac rfl<|Ag rfl<|Ag rfl<|Aa<|Am rfl ?_
 have A2:=AQ (α:=Int) s0 .hd Q0 hL
 have D0:=Bf s0 .hd
 have j3:=Bg s0 .hd
 have B2:=Bh (α:=Int) (v:=b0) (xs:=c0) D0 L A2
 refine Ay hb0 Tryz.func67 rfl (.cons (.tmp rfl) (.cons (.tmp rfl) .nil)) rfl ?_
 cases h
 exact ⟨D0.ag,fun w9 hw9=>⟨b0,rfl,D0.kd B2 hw9⟩⟩
 refine Ae<|Ag rfl<|Ag rfl<|Aa<|Am rfl ?_
 have C2:=AL (α:=Int) hS0 L
 refine Ay hb0 Tryz.func67 rfl (.cons (.tmp rfl) (.cons (.tmp rfl) .nil)) rfl ?_
 cases h
 exact ⟨hS0.ag,fun w9 hw9=>⟨vN,rfl,hS0.kd C2 hw9⟩⟩
def tb37_5:List (Nat × Nat × Nat):=[(0,16384,16),(0,32768,2),(0,65536,32),(6,131072,98304),(0,262144,2),(16,524288,262144),(32,1048576,524288),(64,2097152,1048576),(128,4194304,2097152),(264,8388608,4325376),(512,16777216,8388608),(1033,33554432,16793600),(4095,16,33554432)]
theorem body65:bodyB Tryz.prog 65 = true:=by kernel_rfl
theorem body66:bodyB Tryz.prog 66 = true:=by kernel_rfl
theorem body67:bodyB Tryz.prog 67 = true:=by kernel_rfl
def wardmoteref21_Draft_Loose_l1 (_n:Nat) (c0:(List Int) × Int) (g0:Int × Nat → Option Int):Int × Nat → Option Int
  | (d0,b0)=>(if b0 < c0.1.length then (c0.1[b0]?).bind fun k0=>(chk (k0 + 1)).bind fun j0=>g0 (max d0 j0,b0 + 1) else some d0)
def wardmoteref21_Draft_Loose_l2 (n:Nat) (a0:TDraft) (d0:Int × (List Int) → Option (List Int)):Int × (List Int) → Option (List Int)
  | (b0,c0)=>(wardmoteref21_Draft_Units_p n a0).bind fun p0=>(if b0 < p0 then (wardmoteref21_Draft_label_p n a0 b0).bind fun q0=>(remI q0 ((1 + ((a0.fK % (8:UInt8)).toNat):Nat):Int)).bind fun j0=>(app c0 ([j0]:List Int)).bind fun k0=>(chk (b0 + 1)).bind fun g0=>d0 (g0,k0) else some c0)
def wardmoteref21_Draft_Loose_p (n:Nat) (a0:TDraft):Option ((List Int) × Int):=
  Option.bind (loopF (wardmoteref21_Draft_Loose_l2 n a0) n (0,([]:List Int))) (fun c0=>(wardmoteref21_Canon_p n c0).bind fun b0=>Option.bind (loopF (wardmoteref21_Draft_Loose_l1 n b0) n (0,0)) (fun d0=>some (b0.1,d0)))
theorem wardmoteref21_Draft_Loose_c (n:Nat) (L:List Nat) (w:World) (hL:∀ b ∈ L,b < w.heap.size) (a0:TDraft) {v0_1:Value} (h0_1:Rep.R w L [v0_1] a0.fParents) {v0_2:Value} (h0_2:Rep.R w L [v0_2] a0.fMore) {v0_3:Value} (h0_3:Rep.R w L [v0_3] a0.fLabels)  {r:(List Int) × Int} (h:wardmoteref21_Draft_Loose_p n a0 = some r) :
    Calls Tryz.prog 37 #[.agg #[.int .u8 (a0.fN.toNat:Int),v0_1,v0_2,v0_3,.int .u8 (a0.fK.toNat:Int)]] w (Gives w fun w' u=>∃ v0_0:Value,u = .tuple #[v0_0,vI r.2]∧Rep.R w' L [v0_0] r.1):=by
 unfold wardmoteref21_Draft_Loose_p at h
 have hS0:=AK w
 refine AM Tryz.func37 rfl rfl rfl (fun _ cs0 hb0=>?_)
 refine Ae<|Az .plain rfl (AI hS0 rfl rfl) (fun w2 b5 hS3 hT4=>?_)
 refine Ag rfl<|Ag rfl<|Aa<|Ae<|Ag rfl<|Aa<|Ak<|Ae<|Ag rfl<|Aa<|AB ?_
 have hS7:=hS3.nilRow 3 (Rep.size Int)
 have hT8:=St.nilRowT hS3 3 (Rep.size Int)
 have hc9:=Ar (cs:=[]) (xs:=([]:List Int)) hS7 L (AC _ _)
 obtain ⟨s2,B1,u1⟩:=bind_in2 h
 refine Bp (α:=Int × (List Int) × Value × (List Value)) (fun ⟨q0,g0,p0,s0⟩=>[(1,vP b5),(4,p0),(5,vI q0)]) (fun ⟨q0,g0,p0,s0⟩ x0=>St w x0 [.row w.heap.size 3 (Rep.size Int) p0 g0.length s0,.cells b5 [.int .u8 (a0.fN.toNat:Int),v0_1,v0_2,v0_3,.int .u8 (a0.fK.toNat:Int)] 25]∧Tr w2 [.row w.heap.size 3 (Rep.size Int) vN (([]:List Int).length) [],.cells b5 [.int .u8 (a0.fN.toNat:Int),v0_1,v0_2,v0_3,.int .u8 (a0.fK.toNat:Int)] 25] x0 [.row w.heap.size 3 (Rep.size Int) p0 g0.length s0,.cells b5 [.int .u8 (a0.fN.toNat:Int),v0_1,v0_2,v0_3,.int .u8 (a0.fK.toNat:Int)] 25]∧Cells x0 (bl [.row w.heap.size 3 (Rep.size Int) p0 g0.length s0,.cells b5 [.int .u8 (a0.fN.toNat:Int),v0_1,v0_2,v0_3,.int .u8 (a0.fK.toNat:Int)] 25] ++ L) s0 g0) (fun ⟨q0,g0,p0,s0⟩=>(q0,g0)) (0,([]:List Int),vN,[]) B1 ⟨rfl,rfl,rfl,trivial⟩ ⟨hS7,AN _ _,hc9⟩ ?_
 rintro b2 ⟨q0,g0,p0,s0⟩ x0 W0 ⟨b0,d1,G0⟩ h
 unfold wardmoteref21_Draft_Loose_l2 at h
 try dsimp only at h
 refine Ak<|Ae<|Ac rfl<|Ab (AG rfl (b0.memA (.tl .hd))) ?_
 obtain ⟨K0,Q1,h⟩:=bi h
 refine BE (vI K0) body65 rfl (e1 rfl) (fun w9 hw9=>wardmoteref21_Draft_Units_c n _ w9 (b0.hL0 hL hw9) a0 (b0.k0 h0_1 hw9) (b0.k0 h0_2 hw9) (b0.k0 h0_3 hw9) Q1) rfl<|Ab (BF (i:=q0) (j:=K0) rfl rfl)<|Aa<|AW rfl h (fun Q0 h=>?_) (fun Q0 h=>?_)
 refine Ao<|Ak<|AB<|Bm 11 tb37_5 (by kernel_rfl) (by kernel_rfl) (by kernel_rfl) (fun c0 d0=>?_)
 refine Ah 0 1 c0 rfl d0 (fun _=>Ai rfl) rfl<|AT 1 3 7688 c0 rfl d0 (AG rfl (b0.memA (.tl .hd))) rfl<|Ah 2 7 c0 rfl d0 (fun _=>Ai rfl) rfl ?_
 obtain ⟨M0,R1,h⟩:=bi h
 refine RD.cq 3 15 7680 (vI M0) c0 rfl d0 body66 rfl (e2 rfl rfl) (fun w9 hw9=>wardmoteref21_Draft_label_c n _ w9 (b0.hL0 hL hw9) a0 (b0.k0 h0_1 hw9) (b0.k0 h0_2 hw9) (b0.k0 h0_3 hw9) q0 R1) rfl<|Ah 4 31 c0 rfl d0 (fun _=>Bt 4 rfl) rfl<|AT 5 63 8128 c0 rfl d0 (AA rfl ((b0.memA (.tl .hd)) 4 _ rfl)) rfl<|Ah 6 127 c0 rfl d0 (fun _=>FV.rem8 (a:=a0.fK) (b:=(8:UInt8)) rfl rfl (by decide)) rfl ?_
 have p2:=(a0.fK % (8:UInt8)).toNat_lt
 refine Ah 7 255 c0 rfl d0 (fun _=>FV.convN (i:=(a0.fK % (8:UInt8)).toNat) Tryz.underlying5 Tryz.underlying3 rfl (by omega)) rfl<|Ah 8 511 c0 rfl d0 (fun _=>Bu (i:=1) (j:=(a0.fK % (8:UInt8)).toNat) rfl rfl (by omega)) rfl ?_
 obtain ⟨t0,J1,h⟩:=bi h
 refine Ah 9 1023 c0 rfl d0 (fun _=>FV.remc (i:=M0) (j:=((1 + ((a0.fK % (8:UInt8)).toNat):Nat):Int)) rfl rfl J1) rfl<|RD.nu 10 2047 c0 rfl .plain rfl (AE (α:=Int) (xs:=([t0]:List Int)) (vs:=[vI t0]) (ds' :=[vI t0]) rfl b0 el43 rfl (e1 rfl) (by kernel_rfl) rfl) (fun u2 c2 A0 F0=>?_)
 have p1:=Ar (cs:=[vI t0]) (xs:=(([t0]:List Int):List Int)) A0 L (Aq (cs:=[vI t0]) (ds:=[]) rfl (AC _ _))
 obtain ⟨X1,M1,h⟩:=bi h
 have z1:=Al G0 F0
 refine BD (i:=11) (readyD_ok c0 (by kernel_rfl)) (Bo (m' :=4095) (stepC_ok c0 (by kernel_rfl)) rfl rfl .plain rfl (AR (α:=Int) (ys:=([t0]:List Int)) M1 A0 (fun _ _=>(.tl .hd)) el43 rfl rfl z1 (Src.row (α:=Int) A0 .hd p1)) (fun V1 v2 ⟨R0,b1,g1,k1⟩=>?_))
 refine Ah 12 8191 c0 rfl d0 (fun _=>BP rfl) rfl<|Bc (doneD_ok c0 (by kernel_rfl))<|AF<|Aw<|Ac rfl ?_
 obtain ⟨U1,H1,h⟩:=bi h
 refine Ab (BT (i:=q0) (j:=1) rfl rfl H1)<|Ag rfl<|Aa ?_
 obtain ⟨X0,D0⟩:=AD b1 (.one (.tl .hd) (.one (.tl .hd) .done))
 have x1:=Al k1 D0
 have C1:=Tt F0 (Tt g1 D0)
 exact W0 (U1,X1,V1,R0) _ _ ⟨rfl,rfl,rfl,trivial⟩ ⟨X0,(Tt d1 C1),x1⟩ h
 refine Bd rfl ?_
 have h:=u1 _ h
 try dsimp only at h
 refine Ae<|Ac rfl ?_
 have D1:=AQ (α:=Int) b0 .hd G0 hL
 have y0:=Bf b0 .hd
 have g2:=Bg b0 .hd
 have E1:=Bh (α:=Int) (v:=p0) (xs:=g0) y0 L D1
 obtain ⟨C0,P1,h⟩:=bi h
 refine Bx (fst:=[]) (cap:=[]) .plain body67 rfl (e1 rfl) (fun w9 hw9=>wardmoteref21_Canon_c n _ w9 (y0.hL hL hw9) g0 (Av E1 hw9) P1) rfl (fun W1 t2 j1 ⟨I0,hu_,F1⟩=>?_)
 subst hu_
 obtain ⟨Y0,j2⟩:=y0.agr j1
 refine Ac rfl<|Ab (Au rfl rfl)<|Ab (Au rfl rfl)<|Ag rfl<|Aa<|Ae<|Ag rfl<|Aa<|Ak<|Ae<|Ag rfl<|Aa<|AB ?_
 obtain ⟨Z0,c1⟩:=AD Y0 .done
 obtain ⟨q2,A1,t1⟩:=bind_in2 h
 refine Bp (α:=Int × Nat) (fun ⟨u0,j0⟩=>[(4,I0),(6,vI u0),(7,vI ((j0:Nat):Int))]) (fun ⟨u0,j0⟩ B0=>St w B0 []∧Tr W1 [] B0 []) (fun ⟨u0,j0⟩=>(u0,j0)) (0,0) A1 ⟨rfl,rfl,rfl,trivial⟩ ⟨Z0,AN _ _⟩ ?_
 rintro Z1 ⟨u0,j0⟩ B0 V0 ⟨z0,E0⟩ h
 unfold wardmoteref21_Draft_Loose_l1 at h
 try dsimp only at h
 refine Ak<|Ae<|Ac rfl<|Ac rfl ?_
 have v0:=Aj F1 (Tt c1 E0)
 have k2:C0.1.length ≤ 281474976710656:=AZ v0
 refine Ab (Bj (xs:=C0.1) Tryz.underlying43 rfl v0)<|Ab (BA (i:=j0) (j:=C0.1.length) rfl rfl)<|Aa<|AW rfl h (fun P0 h=>?_) (fun P0 h=>?_)
 refine Ao<|Ak<|AB<|Aw<|Ac rfl<|Ac rfl<|Ac rfl ?_
 obtain ⟨J0,K1,h⟩:=bi h
 obtain ⟨Y1,d2,q1,v1,U0,G1,y1⟩:=Bb v0 K1
 have s1:U0 = [vI J0]:=G1; subst s1
 refine Ab (Be 1 j0 rfl q1 rfl rfl v1)<|AS rfl (y1 0 _ rfl) ?_
 obtain ⟨H0,I1,h⟩:=bi h
 refine Ab (BT (i:=J0) (j:=1) rfl rfl I1)<|Ab (FV.max2 (i:=u0) (j:=H0) rfl rfl)<|Ag rfl<|Aa<|AF<|Aw<|Ac rfl<|Ab (Bu (i:=j0) (j:=1) rfl rfl (by omega))<|Ag rfl<|Aa ?_
 exact V0 (max u0 H0,j0 + 1) _ _ ⟨rfl,rfl,rfl,trivial⟩ ⟨z0,E0⟩ h
 refine Bd rfl ?_
 have h:=t1 _ h
 try dsimp only at h
 refine Ae<|Ac rfl<|Ac rfl<|Ag rfl<|Ag rfl<|Aa<|Am rfl<|Ay hb0 Tryz.func37 rfl (.cons (.tmp rfl) (.cons (.tmp rfl) .nil)) rfl ?_
 cases h
 exact ⟨z0.ag,fun w9 hw9=>⟨I0,rfl,z0.kd v0 hw9⟩⟩
def wardmoteref21_Draft_parent_p (_n:Nat) (a0:TDraft) (a1:Int):Option Int:=
  (chk (a1 - 1)).bind fun s6=>(if s6 < ((a0.fParents.length:Nat):Int) then (chk (a1 - 1)).bind fun b0=>(idx a0.fParents b0).bind fun g0=>(remI ((g0.toNat:Nat):Int) a1).bind fun c0=>some c0 else (chk (a1 - 1)).bind fun d0=>some d0)
theorem wardmoteref21_Draft_parent_c (n:Nat) (L:List Nat) (w:World) (_hL:∀ b ∈ L,b < w.heap.size) (a0:TDraft) {v0_1:Value} (h0_1:Rep.R w L [v0_1] a0.fParents) {v0_2:Value} (h0_2:Rep.R w L [v0_2] a0.fMore) {v0_3:Value} (h0_3:Rep.R w L [v0_3] a0.fLabels) (a1:Int)  {r:Int} (h:wardmoteref21_Draft_parent_p n a0 a1 = some r) :
    Calls Tryz.prog 90 #[.agg #[.int .u8 (a0.fN.toNat:Int),v0_1,v0_2,v0_3,.int .u8 (a0.fK.toNat:Int)],vI a1] w (Gives w fun _ u=>u = vI r):=by
 unfold wardmoteref21_Draft_parent_p at h
 have hS0:=AK w
 refine AM Tryz.func90 rfl rfl rfl (fun _ cs0 hb0=>?_)
 refine Ae<|Az .plain rfl (AI hS0 rfl rfl) (fun w2 b5 hS3 hT4=>?_)
 refine Ag rfl<|Aa<|Ak<|Ae<|Ac rfl ?_
 obtain ⟨s6,hs6,h⟩:=bi h
 refine Ab (FV.subc (i:=a1) (j:=1) rfl rfl hs6)<|AH 1 rfl<|AS rfl ((hS3.memA .hd) 1 _ rfl) ?_
 have hm8:=Ax h0_1 hS3
 have hl7:a0.fParents.length ≤ 281474976710656:=AZ hm8
 refine Ab (Bj (xs:=a0.fParents) Tryz.underlying22 rfl hm8)<|Ab (BF (i:=s6) (j:=((a0.fParents.length:Nat):Int)) rfl rfl)<|Aa<|AW rfl h (fun c9 h=>?_) (fun c9 h=>?_)
 refine Ae<|AH 1 rfl<|AS rfl ((hS3.memA .hd) 1 _ rfl)<|Ac rfl ?_
 obtain ⟨y0,s0,h⟩:=bi h
 refine Ab (FV.subc (i:=a1) (j:=1) rfl rfl s0) ?_
 obtain ⟨b0,v0,h⟩:=bi h
 obtain ⟨j0,x0⟩:=idx_in v0
 obtain ⟨z0,A0,d0,k0,c0,q0,p0⟩:=Bb hm8 x0
 have g0:c0 = [.int .u8 (b0.toNat:Int)]:=q0; subst g0
 refine Ab (Be 1 (y0.toNat) rfl d0 rfl j0 k0)<|AS rfl (p0 0 _ rfl) ?_
 have B0:=b0.toNat_lt
 refine Ab (FV.convN (i:=b0.toNat) Tryz.underlying5 Tryz.underlying3 rfl (by omega))<|Ac rfl ?_
 obtain ⟨C0,t0,h⟩:=bi h
 refine Ab (FV.remc (i:=((b0.toNat:Nat):Int)) (j:=a1) rfl rfl t0)<|Ag rfl<|Aa<|Am rfl<|AJ hb0 Tryz.func90 rfl rfl ?_
 cases h
 exact hS3.gv
 refine Ao<|Ae<|Ac rfl ?_
 obtain ⟨D0,u0,h⟩:=bi h
 refine Ab (FV.subc (i:=a1) (j:=1) rfl rfl u0)<|Ag rfl<|Aa<|Am rfl<|AJ hb0 Tryz.func90 rfl rfl ?_
 cases h
 exact hS3.gv
def tb68_6:List (Nat × Nat × Nat):=[(0,67108864,8),(1,134217728,67108864),(0,268435456,128),(6,536870912,402653184),(8,1073741824,536870912),(16,2147483648,1073741824),(32,4294967296,2147483648),(0,8589934592,8),(128,17179869184,8589934592),(320,34359738368,21474836480),(0,68719476736,8),(1024,137438953472,68719476736),(0,274877906944,128),(6144,549755813888,412316860416),(8192,1099511627776,549755813888),(16384,2199023255552,1099511627776),(32768,4398046511104,2199023255552),(0,8796093022208,8),(131328,17592186044416,8796093022208),(327680,35184372088832,21990232555520),(263167,256,34359738368),(2097151,512,35184372088832)]
theorem op_A34 {w:World} {L:List Nat} {cs:List Value} {x:UInt8 × UInt8} (h:Rep.R w L cs x):cs = [.int .u8 (x.1.toNat:Int),.int .u8 (x.2.toNat:Int)]:=by
  obtain ⟨c0,r0,rfl,h0,h⟩:=h
  have e0:c0 = [.int .u8 (x.1.toNat:Int)]:=h0; subst e0
  have e1:r0 = [.int .u8 (x.2.toNat:Int)]:=h; subst e1
  rfl
theorem mk_A34 {w:World} {L:List Nat} (a0:UInt8) (a1:UInt8):Rep.R w L [.int .u8 (a0.toNat:Int),.int .u8 (a1.toNat:Int)] ((a0,a1):UInt8 × UInt8):=⟨[.int .u8 (a0.toNat:Int)],[.int .u8 (a1.toNat:Int)],rfl,rfl,rfl⟩
theorem body90:bodyB Tryz.prog 90 = true:=by kernel_rfl
def wardmoteref21_Draft_joined_l1 (n:Nat) (a0:TDraft) (a1:Int) (a2:Int) (c0:Nat → Option (Bool ⊕ Unit)):Nat → Option (Bool ⊕ Unit)
  | b0=>(if b0 < a0.fMore.length then (if b0 < 12 then (a0.fMore[b0]?).bind fun j0=>(wardmoteref21_Draft_Units_p n a0).bind fun k0=>(remI ((j0.1.toNat:Nat):Int) k0).bind fun d0=>(wardmoteref21_Draft_Units_p n a0).bind fun p0=>(remI ((j0.2.toNat:Nat):Int) p0).bind fun g0=>(if (min d0 g0) = a1 then (if (max d0 g0) = a2 then some (.inl true) else c0 (b0 + 1)) else c0 (b0 + 1)) else some (.inr ())) else some (.inr ()))
def wardmoteref21_Draft_joined_p (n:Nat) (a0:TDraft) (a1:Int) (a2:Int):Option Bool:=
  (wardmoteref21_Draft_parent_p n a0 a2).bind fun y6=>(if y6 = a1 then some true else jn (fun (_:Unit)=>some false) (fun b0=>thn (loopF (wardmoteref21_Draft_joined_l1 n a0 a1 a2) n 0) (b0)))
theorem wardmoteref21_Draft_joined_c (n:Nat) (L:List Nat) (w:World) (hL:∀ b ∈ L,b < w.heap.size) (a0:TDraft) {v0_1:Value} (h0_1:Rep.R w L [v0_1] a0.fParents) {v0_2:Value} (h0_2:Rep.R w L [v0_2] a0.fMore) {v0_3:Value} (h0_3:Rep.R w L [v0_3] a0.fLabels) (a1:Int) (a2:Int)  {r:Bool} (h:wardmoteref21_Draft_joined_p n a0 a1 a2 = some r) :
    Calls Tryz.prog 68 #[.agg #[.int .u8 (a0.fN.toNat:Int),v0_1,v0_2,v0_3,.int .u8 (a0.fK.toNat:Int)],vI a1,vI a2] w (Gives w fun _ u=>u = .bool r):=by
 unfold wardmoteref21_Draft_joined_p at h
 have hS0:=AK w
 refine AM Tryz.func68 rfl rfl rfl (fun _ cs0 hb0=>?_)
 refine Ae<|Az .plain rfl (AI hS0 rfl rfl) (fun w2 b5 hS3 hT4=>?_)
 refine Ag rfl<|Aa<|Ak<|Ae<|Ab (AG rfl (hS3.memA .hd))<|Ac rfl ?_
 obtain ⟨y6,hy6,h⟩:=bi h
 refine BE (vI y6) body90 rfl (e2 rfl rfl) (fun w9 hw9=>wardmoteref21_Draft_parent_c n _ w9 (hS3.hL0 hL hw9) a0 (hS3.k0 h0_1 hw9) (hS3.k0 h0_2 hw9) (hS3.k0 h0_3 hw9) a2 hy6) rfl<|Ac rfl<|Ab (FV.eql (i:=y6) (j:=a1) rfl rfl)<|Aa<|AW rfl h (fun c7 h=>?_) (fun c7 h=>?_)
 refine Ae<|Ag rfl<|Aa<|Am rfl<|AJ hb0 Tryz.func68 rfl rfl ?_
 cases h
 exact hS3.gv
 refine Ao<|Ak<|Ae<|Ag rfl<|Aa<|AB<|MX.joinx (α:=Unit) (fun ()=>[]) (fun () x0=>St w x0 []∧Tr w2 [.cells b5 [.int .u8 (a0.fN.toNat:Int),v0_1,v0_2,v0_3,.int .u8 (a0.fK.toNat:Int)] 25] x0 []) (fun ()=>()) (id:=0) rfl h ?_ ?_
 rintro ⟨⟩ x0 ⟨M0,k1⟩ h
 try dsimp only at h
 refine Ae<|Ag rfl<|Aa<|Am rfl<|AJ hb0 Tryz.func68 rfl rfl ?_
 cases h
 exact M0.gv
 intro d1 z0 h
 try dsimp only at h
 obtain ⟨u1,R0,t0⟩:=thn_in h
 refine Bp (α:=Nat) (fun g0=>[(1,vI a1),(2,vI a2),(3,vP b5),(7,vI ((g0:Nat):Int))]) (fun g0 v0=>St w v0 [.cells b5 [.int .u8 (a0.fN.toNat:Int),v0_1,v0_2,v0_3,.int .u8 (a0.fK.toNat:Int)] 25]∧Tr w2 [.cells b5 [.int .u8 (a0.fN.toNat:Int),v0_1,v0_2,v0_3,.int .u8 (a0.fK.toNat:Int)] 25] v0 [.cells b5 [.int .u8 (a0.fN.toNat:Int),v0_1,v0_2,v0_3,.int .u8 (a0.fK.toNat:Int)] 25]) (fun g0=>g0) 0 R0 ⟨rfl,rfl,rfl,rfl,trivial⟩ ⟨hS3,AN _ _⟩ ?_
 rintro c1 g0 v0 y0 ⟨d0,p0⟩ h
 unfold wardmoteref21_Draft_joined_l1 at h
 try dsimp only at h
 refine Ak<|Ae<|Ac rfl<|AH 2 rfl<|AS rfl ((d0.memA .hd) 2 _ rfl) ?_
 have u0:=Ax h0_2 d0
 have p1:a0.fMore.length ≤ 281474976710656:=AZ u0
 refine Ab (Bj (xs:=a0.fMore) Tryz.underlying23 rfl u0)<|Ab (BA (i:=g0) (j:=a0.fMore.length) rfl rfl)<|Ac rfl<|Bi (s:=20) rfl h (fun F0 h=>?_) (fun F0 h=>?_)
 refine Ap (Ai rfl)<|Ap (BA (i:=g0) (j:=12) rfl rfl)<|AU rfl rfl<|Aa<|AW rfl h (fun G0 h=>?_) (fun G0 h=>?_)
 refine Ao<|Ak<|AB<|Ak<|Bm 22 tb68_6 (by kernel_rfl) (by kernel_rfl) (by kernel_rfl) (fun b0 c0=>?_)
 refine Ah 0 1 b0 rfl c0 (fun _=>Bt 2 rfl) rfl<|AT 1 3 3146360 b0 rfl c0 (AA rfl ((d0.memA .hd) 2 _ rfl)) rfl<|Ah 2 7 b0 rfl c0 (fun _=>Ai rfl) rfl ?_
 obtain ⟨j0,X0,h⟩:=bi h
 obtain ⟨b1,g1,A0,B0,j1,U0,C0⟩:=Bb u0 X0
 obtain rfl:=op_A34 U0
 refine Ah 3 15 b0 rfl c0 (fun _=>Be 2 g0 rfl A0 rfl rfl B0) rfl<|Ah 4 31 b0 rfl c0 (fun _=>BN (m:=1) (k:=0) (len:=2) (by kernel_rfl) rfl rfl rfl (by omega)) rfl<|AT 5 63 3146304 b0 rfl c0 (AA rfl (C0 0 _ rfl)) rfl ?_
 have q1:=j0.1.toNat_lt
 refine Ah 6 127 b0 rfl c0 (fun _=>FV.convN (i:=j0.1.toNat) Tryz.underlying5 Tryz.underlying3 rfl (by omega)) rfl<|AT 7 255 3932928 b0 rfl c0 (AG rfl (d0.memA .hd)) rfl ?_
 obtain ⟨D0,Y0,h⟩:=bi h
 refine RD.cq 8 511 3932672 (vI D0) b0 rfl c0 body65 rfl (e1 rfl) (fun w9 hw9=>wardmoteref21_Draft_Units_c n _ w9 (d0.hL0 hL hw9) a0 (d0.k0 h0_1 hw9) (d0.k0 h0_2 hw9) (d0.k0 h0_3 hw9) Y0) rfl ?_
 obtain ⟨q0,V0,h⟩:=bi h
 refine Ah 9 1023 b0 rfl c0 (fun _=>FV.remc (i:=((j0.1.toNat:Nat):Int)) (j:=D0) rfl rfl V0) rfl<|Ah 10 2047 b0 rfl c0 (fun _=>Bt 2 rfl) rfl<|AT 11 4095 2744320 b0 rfl c0 (AA rfl ((d0.memA .hd) 2 _ rfl)) rfl<|Ah 12 8191 b0 rfl c0 (fun _=>Ai rfl) rfl<|Ah 13 16383 b0 rfl c0 (fun _=>Be 2 g0 rfl A0 rfl rfl B0) rfl<|Ah 14 32767 b0 rfl c0 (fun _=>BN (m:=1) (k:=1) (len:=2) (by kernel_rfl) rfl rfl rfl (by omega)) rfl<|AT 15 65535 2686976 b0 rfl c0 (AA rfl (C0 1 _ rfl)) rfl ?_
 have s1:=j0.2.toNat_lt
 refine Ah 16 131071 b0 rfl c0 (fun _=>FV.convN (i:=j0.2.toNat) Tryz.underlying5 Tryz.underlying3 rfl (by omega)) rfl<|AT 17 262143 3932160 b0 rfl c0 (AG rfl (d0.memA .hd)) rfl ?_
 obtain ⟨E0,Z0,h⟩:=bi h
 refine RD.cq 18 524287 3670016 (vI E0) b0 rfl c0 body65 rfl (e1 rfl) (fun w9 hw9=>wardmoteref21_Draft_Units_c n _ w9 (d0.hL0 hL hw9) a0 (d0.k0 h0_1 hw9) (d0.k0 h0_2 hw9) (d0.k0 h0_3 hw9) Z0) rfl ?_
 obtain ⟨s0,W0,h⟩:=bi h
 refine Ah 19 1048575 b0 rfl c0 (fun _=>FV.remc (i:=((j0.2.toNat:Nat):Int)) (j:=E0) rfl rfl W0) rfl<|Ah 20 2097151 b0 rfl c0 (fun _=>BP rfl) rfl<|Ah 21 4194303 b0 rfl c0 (fun _=>BP rfl) rfl<|Bc (doneD_ok b0 (by kernel_rfl))<|Ae<|Ac rfl<|Ac rfl<|Ab (FV.min2 (i:=q0) (j:=s0) rfl rfl)<|Ac rfl<|Ab (FV.eql (i:=min q0 s0) (j:=a1) rfl rfl)<|Ac rfl<|Bi (s:=51) rfl h (fun H0 h=>?_) (fun H0 h=>?_)
 refine Ap (Ai rfl)<|Ap (Ai rfl)<|Ap (FV.max2 (i:=q0) (j:=s0) rfl rfl)<|Ap (Ai rfl)<|Ap (FV.eql (i:=max q0 s0) (j:=a2) rfl rfl)<|AU rfl rfl<|Aa<|AW rfl h (fun I0 h=>?_) (fun I0 h=>?_)
 refine Ae<|Ag rfl<|Aa ?_
 have h:=thn_inl h t0
 refine Am rfl<|AJ hb0 Tryz.func68 rfl rfl ?_
 cases h
 exact d0.gv
 refine Ao<|AF<|Aw<|Ac rfl<|Ab (Bu (i:=g0) (j:=1) rfl rfl (by omega))<|Ag rfl<|Aa ?_
 exact y0 (g0 + 1) _ _ ⟨rfl,rfl,rfl,rfl,trivial⟩ ⟨d0,p0⟩ h
 refine Af<|Af<|Af<|Af<|Af<|AO rfl rfl<|Aa<|BC rfl<|Ao<|AF<|Aw<|Ac rfl<|Ab (Bu (i:=g0) (j:=1) rfl rfl (by omega))<|Ag rfl<|Aa ?_
 exact y0 (g0 + 1) _ _ ⟨rfl,rfl,rfl,rfl,trivial⟩ ⟨d0,p0⟩ h
 refine Bd rfl ?_
 have h:=thn_inr h t0
 try dsimp only at h
 obtain ⟨J0,P0⟩:=AD d0 .done
 exact z0 () _ _ trivial ⟨J0,(Tt p0 P0)⟩ h
 refine Af<|Af<|AO rfl rfl<|Aa<|BC rfl<|Bd rfl ?_
 have h:=thn_inr h t0
 try dsimp only at h
 obtain ⟨K0,Q0⟩:=AD d0 .done
 exact z0 () _ _ trivial ⟨K0,(Tt p0 Q0)⟩ h
theorem body68:bodyB Tryz.prog 68 = true:=by kernel_rfl
def wardmoteref21_Draft_Graph_l1 (n:Nat) (s0:Int) (a0:TDraft) (g0:Int) (j0:Int × (List (Int × Int)) → Option (List (Int × Int))):Int × (List (Int × Int)) → Option (List (Int × Int))
  | (b0,c0)=>(if b0 < s0 then (wardmoteref21_Draft_joined_p n a0 g0 b0).bind fun t0=>jn (fun p0=>(chk (b0 + 1)).bind fun k0=>j0 (k0,p0)) (fun d0=>(if t0 = true then (app c0 ([(g0,b0)]:List (Int × Int))).bind fun q0=>d0 q0 else d0 c0)) else some c0)
def wardmoteref21_Draft_Graph_l2 (n:Nat) (d0:Int) (a0:TDraft) (g0:Int × (List (Int × Int)) → Option (List (Int × Int))):Int × (List (Int × Int)) → Option (List (Int × Int))
  | (b0,c0)=>(if b0 < d0 then (chk (b0 + 1)).bind fun j0=>Option.bind (loopF (wardmoteref21_Draft_Graph_l1 n d0 a0 b0) n (j0,c0)) (fun p0=>(chk (b0 + 1)).bind fun k0=>g0 (k0,p0)) else some c0)
def wardmoteref21_Draft_Graph_p (n:Nat) (a0:TDraft):Option TGraph:=
  (wardmoteref21_Draft_Units_p n a0).bind fun b0=>Option.bind (loopF (wardmoteref21_Draft_Graph_l2 n b0 a0) n (0,([]:List (Int × Int)))) (fun c0=>some (⟨b0,c0⟩:TGraph))
theorem wardmoteref21_Draft_Graph_c (n:Nat) (L:List Nat) (w:World) (hL:∀ b ∈ L,b < w.heap.size) (a0:TDraft) {v0_1:Value} (h0_1:Rep.R w L [v0_1] a0.fParents) {v0_2:Value} (h0_2:Rep.R w L [v0_2] a0.fMore) {v0_3:Value} (h0_3:Rep.R w L [v0_3] a0.fLabels)  {r:TGraph} (h:wardmoteref21_Draft_Graph_p n a0 = some r) :
    Calls Tryz.prog 38 #[.agg #[.int .u8 (a0.fN.toNat:Int),v0_1,v0_2,v0_3,.int .u8 (a0.fK.toNat:Int)]] w (Gives w fun w' u=>∃ v0_1:Value,u = .agg #[vI r.fN,v0_1]∧Rep.R w' L [v0_1] r.fEdges):=by
 unfold wardmoteref21_Draft_Graph_p at h
 have hS0:=AK w
 refine AM Tryz.func38 rfl rfl rfl (fun _ cs0 hb0=>?_)
 refine Ae<|Az .plain rfl (AI hS0 rfl rfl) (fun w2 b5 hS3 hT4=>?_)
 refine Az .plain rfl (AX [vI 0,vN] hS3) (fun w7 j0 hS8 hT9=>?_)
 refine Aa<|Ae<|Ab (AG rfl (hS8.memA (.tl .hd))) ?_
 obtain ⟨b0,Y1,h⟩:=bi h
 refine BE (vI b0) body65 rfl (e1 rfl) (fun w9 hw9=>wardmoteref21_Draft_Units_c n _ w9 (hS8.hL0 hL hw9) a0 (hS8.k0 h0_1 hw9) (hS8.k0 h0_2 hw9) (hS8.k0 h0_3 hw9) Y1) rfl<|Ab (AV (vs:=[vI b0]) (u:=.agg #[vI b0,vN]) (e1 rfl) (fun w9=>by kernel_rfl))<|Az .plain rfl (AX [vI 0,vN] hS8) (fun C2 p0 p1 u2=>?_)
 refine Bk [vI b0,vN] p1 .hd (onesB rfl) (fun g2 Q0 v2=>?_)
 refine Aa<|Ak<|Ae<|Ag rfl<|Aa<|AB ?_
 have G0:=Q0.nilRow 52 (Rep.size (Int × Int))
 have x2:=St.nilRowT Q0 52 (Rep.size (Int × Int))
 have A1:=Ar (cs:=[]) (xs:=([]:List (Int × Int))) G0 L (AC _ _)
 have R0:=G0.nilRow 52 (Rep.size (Int × Int))
 have u1:=St.nilRowT G0 52 (Rep.size (Int × Int))
 have z2:=Ar (cs:=[]) (xs:=([]:List (Int × Int))) R0 L (AC _ _)
 have G1:=Al A1 u1
 obtain ⟨A2,K1,E1⟩:=bind_in2 h
 refine Bp (α:=Int × (List (Int × Int)) × Value × (List Value)) (fun ⟨c0,s0,g0,y0⟩=>[(1,vP b5),(2,vP j0),(3,vP p0),(4,vI c0)]) (fun ⟨c0,s0,g0,y0⟩ C0=>St w C0 [.row w.heap.size 52 (Rep.size (Int × Int)) vN (([]:List (Int × Int)).length) [],.row w.heap.size 52 (Rep.size (Int × Int)) g0 s0.length y0,.cells p0 [vI b0,g0] 38,.cells j0 [vI 0,vN] 38,.cells b5 [.int .u8 (a0.fN.toNat:Int),v0_1,v0_2,v0_3,.int .u8 (a0.fK.toNat:Int)] 25]∧Tr g2 [.row w.heap.size 52 (Rep.size (Int × Int)) vN (([]:List (Int × Int)).length) [],.row w.heap.size 52 (Rep.size (Int × Int)) vN (([]:List (Int × Int)).length) [],.cells p0 [vI b0,vN] 38,.cells j0 [vI 0,vN] 38,.cells b5 [.int .u8 (a0.fN.toNat:Int),v0_1,v0_2,v0_3,.int .u8 (a0.fK.toNat:Int)] 25] C0 [.row w.heap.size 52 (Rep.size (Int × Int)) vN (([]:List (Int × Int)).length) [],.row w.heap.size 52 (Rep.size (Int × Int)) g0 s0.length y0,.cells p0 [vI b0,g0] 38,.cells j0 [vI 0,vN] 38,.cells b5 [.int .u8 (a0.fN.toNat:Int),v0_1,v0_2,v0_3,.int .u8 (a0.fK.toNat:Int)] 25]∧Cells C0 (bl [.row w.heap.size 52 (Rep.size (Int × Int)) vN (([]:List (Int × Int)).length) [],.row w.heap.size 52 (Rep.size (Int × Int)) g0 s0.length y0,.cells p0 [vI b0,g0] 38,.cells j0 [vI 0,vN] 38,.cells b5 [.int .u8 (a0.fN.toNat:Int),v0_1,v0_2,v0_3,.int .u8 (a0.fK.toNat:Int)] 25] ++ L) y0 s0) (fun ⟨c0,s0,g0,y0⟩=>(c0,s0)) (0,([]:List (Int × Int)),vN,[]) K1 ⟨rfl,rfl,rfl,rfl,trivial⟩ ⟨R0,AN _ _,G1⟩ ?_
 rintro p2 ⟨c0,s0,g0,y0⟩ C0 j1 ⟨B0,v1,Y0⟩ h
 unfold wardmoteref21_Draft_Graph_l2 at h
 try dsimp only at h
 refine Ak<|Ae<|Ac rfl<|AH 0 rfl<|AS rfl ((B0.memA (.tl (.tl .hd))) 0 _ rfl)<|Ab (BF (i:=c0) (j:=b0) rfl rfl)<|Aa<|AW rfl h (fun Z0 h=>?_) (fun Z0 h=>?_)
 refine Ao<|Ak<|AB<|Ae<|Ac rfl ?_
 obtain ⟨b2,U1,h⟩:=bi h
 refine Ab (BT (i:=c0) (j:=1) rfl rfl U1)<|Ag rfl<|Aa<|AB ?_
 obtain ⟨B2,M1,F1⟩:=bind_in2 h
 refine Bp (α:=Int × (List (Int × Int)) × Value × (List Value)) (fun ⟨d0,t0,q0,u0⟩=>[(1,vP b5),(2,vP j0),(3,vP p0),(4,vI c0),(5,vI d0)]) (fun ⟨d0,t0,q0,u0⟩ D0=>St w D0 [.row w.heap.size 52 (Rep.size (Int × Int)) vN (([]:List (Int × Int)).length) [],.row w.heap.size 52 (Rep.size (Int × Int)) q0 t0.length u0,.cells p0 [vI b0,q0] 38,.cells j0 [vI 0,vN] 38,.cells b5 [.int .u8 (a0.fN.toNat:Int),v0_1,v0_2,v0_3,.int .u8 (a0.fK.toNat:Int)] 25]∧Tr C0 [.row w.heap.size 52 (Rep.size (Int × Int)) vN (([]:List (Int × Int)).length) [],.row w.heap.size 52 (Rep.size (Int × Int)) g0 s0.length y0,.cells p0 [vI b0,g0] 38,.cells j0 [vI 0,vN] 38,.cells b5 [.int .u8 (a0.fN.toNat:Int),v0_1,v0_2,v0_3,.int .u8 (a0.fK.toNat:Int)] 25] D0 [.row w.heap.size 52 (Rep.size (Int × Int)) vN (([]:List (Int × Int)).length) [],.row w.heap.size 52 (Rep.size (Int × Int)) q0 t0.length u0,.cells p0 [vI b0,q0] 38,.cells j0 [vI 0,vN] 38,.cells b5 [.int .u8 (a0.fN.toNat:Int),v0_1,v0_2,v0_3,.int .u8 (a0.fK.toNat:Int)] 25]∧Cells D0 (bl [.row w.heap.size 52 (Rep.size (Int × Int)) vN (([]:List (Int × Int)).length) [],.row w.heap.size 52 (Rep.size (Int × Int)) q0 t0.length u0,.cells p0 [vI b0,q0] 38,.cells j0 [vI 0,vN] 38,.cells b5 [.int .u8 (a0.fN.toNat:Int),v0_1,v0_2,v0_3,.int .u8 (a0.fK.toNat:Int)] 25] ++ L) u0 t0) (fun ⟨d0,t0,q0,u0⟩=>(d0,t0)) (b2,s0,g0,y0) M1 ⟨rfl,rfl,rfl,rfl,rfl,trivial⟩ ⟨B0,AN _ _,Y0⟩ ?_
 rintro q2 ⟨d0,t0,q0,u0⟩ D0 k1 ⟨v0,U0,K0⟩ h
 unfold wardmoteref21_Draft_Graph_l1 at h
 try dsimp only at h
 refine Ak<|Ae<|Ac rfl<|AH 0 rfl<|AS rfl ((v0.memA (.tl (.tl .hd))) 0 _ rfl)<|Ab (BF (i:=d0) (j:=b0) rfl rfl)<|Aa<|AW rfl h (fun b1 h=>?_) (fun b1 h=>?_)
 refine Ao<|Ak<|AB<|Ae<|Ab (AG rfl (v0.memA (.tl (.tl (.tl (.tl .hd))))))<|Ac rfl<|Ac rfl ?_
 obtain ⟨k2,Z1,h⟩:=bi h
 refine BE (.bool k2) body68 rfl (e3 rfl rfl rfl) (fun w9 hw9=>wardmoteref21_Draft_joined_c n _ w9 (v0.hL0 hL hw9) a0 (v0.k0 h0_1 hw9) (v0.k0 h0_2 hw9) (v0.k0 h0_3 hw9) c0 d0 Z1) rfl<|Aa<|MX.join (α:=(List (Int × Int)) × Value × (List Value)) (fun ⟨z0,x0,A0⟩=>[(1,vP b5),(2,vP j0),(3,vP p0),(4,vI c0),(5,vI d0)]) (fun ⟨z0,x0,A0⟩ F0=>St w F0 [.row w.heap.size 52 (Rep.size (Int × Int)) vN (([]:List (Int × Int)).length) [],.row w.heap.size 52 (Rep.size (Int × Int)) x0 z0.length A0,.cells p0 [vI b0,x0] 38,.cells j0 [vI 0,vN] 38,.cells b5 [.int .u8 (a0.fN.toNat:Int),v0_1,v0_2,v0_3,.int .u8 (a0.fK.toNat:Int)] 25]∧Tr D0 [.row w.heap.size 52 (Rep.size (Int × Int)) vN (([]:List (Int × Int)).length) [],.row w.heap.size 52 (Rep.size (Int × Int)) q0 t0.length u0,.cells p0 [vI b0,q0] 38,.cells j0 [vI 0,vN] 38,.cells b5 [.int .u8 (a0.fN.toNat:Int),v0_1,v0_2,v0_3,.int .u8 (a0.fK.toNat:Int)] 25] F0 [.row w.heap.size 52 (Rep.size (Int × Int)) vN (([]:List (Int × Int)).length) [],.row w.heap.size 52 (Rep.size (Int × Int)) x0 z0.length A0,.cells p0 [vI b0,x0] 38,.cells j0 [vI 0,vN] 38,.cells b5 [.int .u8 (a0.fN.toNat:Int),v0_1,v0_2,v0_3,.int .u8 (a0.fK.toNat:Int)] 25]∧Cells F0 (bl [.row w.heap.size 52 (Rep.size (Int × Int)) vN (([]:List (Int × Int)).length) [],.row w.heap.size 52 (Rep.size (Int × Int)) x0 z0.length A0,.cells p0 [vI b0,x0] 38,.cells j0 [vI 0,vN] 38,.cells b5 [.int .u8 (a0.fN.toNat:Int),v0_1,v0_2,v0_3,.int .u8 (a0.fK.toNat:Int)] 25] ++ L) A0 z0) (fun ⟨z0,x0,A0⟩=>z0) h ?_ ?_
 rintro ⟨z0,x0,A0⟩ F0 ⟨q1,x1,B1⟩ h
 try dsimp only at h
 refine AF<|Aw<|Ac rfl ?_
 obtain ⟨c2,V1,h⟩:=bi h
 refine Ab (BT (i:=d0) (j:=1) rfl rfl V1)<|Ag rfl<|Aa ?_
 exact k1 (c2,z0,x0,A0) _ _ ⟨rfl,rfl,rfl,rfl,rfl,trivial⟩ ⟨q1,(Tt U0 x1),B1⟩ h
 intro s2 P0 h
 try dsimp only at h
 refine MX.ifb rfl h (fun d1 h=>?_) (fun d1 h=>?_)
 refine Aw<|AH 1 rfl<|AS rfl ((v0.memA (.tl (.tl .hd))) 1 _ rfl)<|Ac rfl<|Ac rfl<|Ab (AV (vs:=[vI c0,vI d0]) (u:=.agg #[vI c0,vI d0]) (e2 rfl rfl) (fun w9=>by kernel_rfl))<|Az .plain rfl (AE (α:=Int × Int) (xs:=([(c0,d0)]:List (Int × Int))) (vs:=[.agg #[vI c0,vI d0]]) (ds' :=[vI c0,vI d0]) rfl v0 el36 rfl (e1 rfl) (by kernel_rfl) rfl) (fun D2 t2 H0 V0=>?_)
 have C1:=Ar (cs:=[vI c0,vI d0]) (xs:=(([(c0,d0)]:List (Int × Int)):List (Int × Int))) H0 L (Aq (cs:=[vI c0,vI d0]) (ds:=[]) (mk_A52 c0 d0) (AC _ _))
 obtain ⟨j2,X1,h⟩:=bi h
 have H1:=Al K0 V0
 refine RG.doesL .plain rfl (AR (α:=Int × Int) (ys:=([(c0,d0)]:List (Int × Int))) X1 H0 (fun _ _=>(.tl (.tl .hd))) el36 rfl rfl H1 (Src.row (α:=Int × Int) H0 .hd C1)) (fun M0 E2 ⟨g1,I0,y1,D1⟩=>?_)
 refine AH 1 rfl<|BG .plain (Br (j:=1) (old:=[vI b0,q0]) (news:=[M0]) (new' :=[vI b0,M0]) I0 (.tl (.tl (.tl .hd))) rfl rfl rfl (St.c1 (α:=Int × Int) I0 (.tl (.tl .hd))) rfl rfl (o1 (Bz (α:=Int × Int) I0 (.tl (.tl .hd)))) rfl) (fun F2 s1 W0=>?_)
 refine Aa ?_
 obtain ⟨t1,X0⟩:=AD s1 (.one (.tl .hd) (.one (.tl .hd) (.one (.tl .hd) (.one (.tl .hd) (.one (.tl .hd) .done)))))
 have I1:=Al D1 (Tt W0 X0)
 have P1:=Tt V0 (Tt y1 (Tt W0 X0))
 exact P0 (j2,M0,g1) _ _ ⟨rfl,rfl,rfl,rfl,rfl,trivial⟩ ⟨t1,P1,I1⟩ h
 refine Ao ?_
 exact P0 (t0,q0,u0) _ _ ⟨rfl,rfl,rfl,rfl,rfl,trivial⟩ ⟨v0,AN _ _,K0⟩ h
 refine Bd rfl ?_
 have h:=F1 _ h
 try dsimp only at h
 refine AF<|Aw<|Ac rfl ?_
 obtain ⟨d2,W1,h⟩:=bi h
 refine Ab (BT (i:=c0) (j:=1) rfl rfl W1)<|Ag rfl<|Aa ?_
 exact j1 (d2,t0,q0,u0) _ _ ⟨rfl,rfl,rfl,rfl,trivial⟩ ⟨v0,(Tt v1 U0),K0⟩ h
 refine Bd rfl ?_
 have h:=E1 _ h
 try dsimp only at h
 refine Ae<|Ab (AG rfl (B0.memA (.tl (.tl .hd))))<|Bk [vI b0,g0] B0 (.tl (.tl (.tl .hd))) (o2 rfl (Bz (α:=Int × Int) B0 (.tl .hd))) (fun G2 J0 z1=>?_)
 refine Aa<|Am rfl ?_
 have J1:=Al Y0 z1
 have Q1:=AQ (α:=Int × Int) J0 (.tl .hd) J1 hL
 have E0:=Bf J0 (.tl .hd)
 have y2:=Bg J0 (.tl .hd)
 have R1:=Bh (α:=Int × Int) (v:=g0) (xs:=s0) E0 L Q1
 refine Ay hb0 Tryz.func38 rfl (.cons (.many (cs:=[vI b0,g0]) (by kernel_rfl) rfl (E0.memA (.tl (.tl .hd)))) .nil) rfl ?_
 cases h
 exact ⟨E0.ag,fun w9 hw9=>⟨g0,rfl,E0.kd R1 hw9⟩⟩
structure TDraft26 where
  fGroups:UInt8
  fParties:UInt8
  fLevels:UInt8
  fWater:UInt8
  fNums:List UInt8
  deriving DecidableEq
instance:Rep TDraft26:=Rep.via (β:=UInt8 × UInt8 × UInt8 × UInt8 × (List UInt8)) fun x=>(x.fGroups,x.fParties,x.fLevels,x.fWater,x.fNums)
def tb69_3:List (Nat × Nat × Nat):=[(0,512,4),(1,1024,512),(0,2048,2),(0,4096,4),(8,8192,4096),(16,16384,8192),(36,32768,18432),(66,65536,33792),(128,131072,65536),(256,262144,131072),(1023,16,262144)]
def wardmoteref22_Draft_num_p (_n:Nat) (a0:TDraft26) (a1:Int):Option Int:=
  (if a0.fNums.length = 0 then some (1:Int) else (remI a1 ((a0.fNums.length:Nat):Int)).bind fun b0=>(idx a0.fNums b0).bind fun c0=>some ((c0.toNat:Nat):Int))
theorem wardmoteref22_Draft_num_c (n:Nat) (L:List Nat) (w:World) (_hL:∀ b ∈ L,b < w.heap.size) (a0:TDraft26) {v0_4:Value} (h0_4:Rep.R w L [v0_4] a0.fNums) (a1:Int)  {r:Int} (h:wardmoteref22_Draft_num_p n a0 a1 = some r) :
    Calls Tryz.prog 69 #[.agg #[.int .u8 (a0.fGroups.toNat:Int),.int .u8 (a0.fParties.toNat:Int),.int .u8 (a0.fLevels.toNat:Int),.int .u8 (a0.fWater.toNat:Int),v0_4],vI a1] w (Gives w fun _ u=>u = vI r):=by
 unfold wardmoteref22_Draft_num_p at h
 have hS0:=AK w
 refine AM Tryz.func69 rfl rfl rfl (fun _ cs0 hb0=>?_)
 refine Ae<|Az .plain rfl (AI hS0 rfl rfl) (fun w2 b5 hS3 hT4=>?_)
 refine Ag rfl<|Aa<|Ak<|Ae<|AH 4 rfl<|AS rfl ((hS3.memA .hd) 4 _ rfl) ?_
 have hm7:=Ax h0_4 hS3
 have hl6:a0.fNums.length ≤ 281474976710656:=AZ hm7
 refine Ab (Bj (xs:=a0.fNums) Tryz.underlying22 rfl hm7)<|Ab (BR (i:=a0.fNums.length) (j:=0) rfl rfl)<|Aa<|AW rfl h (fun c8 h=>?_) (fun c8 h=>?_)
 refine Ae<|Ag rfl<|Aa<|Am rfl<|AJ hb0 Tryz.func69 rfl rfl ?_
 cases h
 exact hS3.gv
 refine Ao<|Ak<|Bm 11 tb69_3 (by kernel_rfl) (by kernel_rfl) (by kernel_rfl) (fun kt9 b0=>?_)
 refine Ah 0 1 kt9 rfl b0 (fun _=>Bt 4 rfl) rfl<|AT 1 3 1920 kt9 rfl b0 (AA rfl ((hS3.memA .hd) 4 _ rfl)) rfl<|Ah 2 7 kt9 rfl b0 (fun _=>Ai rfl) rfl<|Ah 3 15 kt9 rfl b0 (fun _=>Bt 4 rfl) rfl<|AT 4 31 2016 kt9 rfl b0 (AA rfl ((hS3.memA .hd) 4 _ rfl)) rfl<|AT 5 63 1984 kt9 rfl b0 (Bj (xs:=a0.fNums) Tryz.underlying22 rfl hm7) rfl ?_
 obtain ⟨x0,t0,h⟩:=bi h
 refine Ah 6 127 kt9 rfl b0 (fun _=>FV.remc (i:=a1) (j:=((a0.fNums.length:Nat):Int)) rfl rfl t0) rfl ?_
 obtain ⟨c0,u0,h⟩:=bi h
 obtain ⟨k0,v0⟩:=idx_in u0
 obtain ⟨y0,z0,g0,p0,d0,s0,q0⟩:=Bb hm7 v0
 have j0:d0 = [.int .u8 (c0.toNat:Int)]:=s0; subst j0
 refine Ah 7 255 kt9 rfl b0 (fun _=>Be 1 (x0.toNat) rfl g0 rfl k0 p0) rfl<|AT 8 511 1536 kt9 rfl b0 (AA rfl (q0 0 _ rfl)) rfl ?_
 have A0:=c0.toNat_lt
 refine Ah 9 1023 kt9 rfl b0 (fun _=>FV.convN (i:=c0.toNat) Tryz.underlying5 Tryz.underlying3 rfl (by omega)) rfl<|Ah 10 2047 kt9 rfl b0 (fun _=>BP rfl) rfl<|Bc (doneD_ok kt9 (by kernel_rfl))<|Am rfl<|AJ hb0 Tryz.func69 rfl rfl ?_
 cases h
 exact hS3.gv
end Go.Proofs.YtcijnmkodpfpgaaGreatDoor
