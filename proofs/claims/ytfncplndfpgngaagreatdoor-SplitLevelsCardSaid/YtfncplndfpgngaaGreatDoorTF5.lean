/- Functions of the program, and what they give: part 5. -/
import Derived.Test.YtfncplndfpgngaaGreatDoorTF4
namespace Go.Proofs.YtfncplndfpgngaaGreatDoor
open Go Go.RowKit
set_option maxRecDepth 4000
set_option maxHeartbeats 4000000

theorem body110:bodyB Tryz.prog 110 = true:=by kernel_rfl
theorem body111:bodyB Tryz.prog 111 = true:=by kernel_rfl
def wardmoteref16_right_p (n:Nat) (a0:TRoll) (a1:TUnit):Option Bool:=
  (wardmoteref16_named_p n a1.ft).bind fun b0=>(if b0 = true then (if a1.fp < 0 then some false else (if 1000000000 < a1.fp then some false else (wardmoteref16_within_p n a1.fe a0.fe a1.fp).bind fun c0=>(if c0 = true then (wardmoteref16_within_p n a1.fC a0.fc (1000000000:Int)).bind fun d0=>(if d0 = true then (wardmoteref16_within_p n a1.fw a0.fh (63:Int)).bind fun g0=>(if g0 = true then (if a1.fo = true then (if a1.fp = 0 then (wardmoteref16_within_p n a1.fC a0.fc (0:Int)).bind fun j0=>(if j0 = true then (wardmoteref16_within_p n a1.fw a0.fh (0:Int)).bind fun k0=>some k0 else some false) else some false) else some true) else some false) else some false) else some false))) else some false)
theorem wardmoteref16_right_c (n:Nat) (L:List Nat) (w:World) (hL:∀ b ∈ L,b < w.heap.size) (a0:TRoll) {v0_3:Value} (_h0_3:Rep.R w L [v0_3] a0.fm) (a1:TUnit) {v1_2:Value} (h1_2:Rep.R w L [v1_2] a1.fe) {v1_3:Value} (h1_3:Rep.R w L [v1_3] a1.fC) {v1_4:Value} (h1_4:Rep.R w L [v1_4] a1.fw)  {r:Bool} (h:wardmoteref16_right_p n a0 a1 = some r) :
    Calls Tryz.prog 93 #[.agg #[vI a0.fe,vI a0.fc,vI a0.fh,v0_3],.agg #[.string a1.ft,vI a1.fp,v1_2,v1_3,v1_4,.bool a1.fo]] w (Gives w fun _ u=>u = .bool r):=by
 unfold wardmoteref16_right_p at h
 have hS0:=AD w
 refine AI Tryz.func93 rfl rfl rfl (fun _ cs0 hb0=>?_)
 refine Ae<|Az .plain rfl (AK hS0 rfl rfl) (fun Q0 J0 v0 M0=>?_)
 refine Az .plain rfl (AK v0 rfl rfl) (fun R0 K0 b0 P0=>?_)
 refine Af rfl<|Aa<|Aj<|Ae<|Bf 0 rfl<|AN rfl ((b0.memA .hd) 0 _ rfl) ?_
 obtain ⟨D0,x0,h⟩:=bi h
 refine Bp (.bool D0) body110 rfl (e1 rfl) (fun w9 hw9=>wardmoteref16_named_c n _ w9 (b0.hL0 hL hw9) a1.ft x0) rfl<|Ac (Be rfl)<|Ab rfl<|RG.ifnb (s:=9) rfl h (fun c0 h=>?_) (fun c0 h=>?_)
 refine RG.fg 1 rfl<|Ar (AJ rfl ((b0.memA .hd) 1 _ rfl))<|Ar (FV.lss (i:=a1.fp) (j:=0) rfl rfl)<|Bd rfl rfl<|Ab rfl<|Bx (s:=14) rfl h (fun d0 h=>?_) (fun d0 h=>?_)
 refine Ag<|Ag<|Ag<|AG rfl rfl<|Aa<|Bq rfl<|Ae<|Af rfl<|Aa<|Ao rfl<|AL hb0 Tryz.func93 rfl rfl ?_
 cases h
 exact b0.gv
 refine RG.fg 1 rfl<|Ar (AJ rfl ((b0.memA .hd) 1 _ rfl))<|Ar (FV.gtr (i:=a1.fp) (j:=1000000000) rfl rfl)<|Bd rfl rfl<|Aa<|AM rfl h (fun g0 h=>?_) (fun g0 h=>?_)
 refine Ae<|Af rfl<|Aa<|Ao rfl<|AL hb0 Tryz.func93 rfl rfl ?_
 cases h
 exact b0.gv
 refine Am<|Aj<|Ae<|Bf 2 rfl<|AN rfl ((b0.memA .hd) 2 _ rfl)<|Bf 0 rfl<|AN rfl ((b0.memA (.tl .hd)) 0 _ rfl)<|Bf 1 rfl<|AN rfl ((b0.memA .hd) 1 _ rfl) ?_
 obtain ⟨E0,y0,h⟩:=bi h
 refine Bp (.bool E0) body111 rfl (e3 rfl rfl rfl) (fun w9 hw9=>wardmoteref16_within_c n _ w9 (b0.hL0 hL hw9) a1.fe (b0.k0 h1_2 hw9) a0.fe a1.fp y0) rfl<|Ac (Be rfl)<|Ab rfl<|RG.ifnb (s:=27) rfl h (fun j0 h=>?_) (fun j0 h=>?_)
 refine RG.fg 3 rfl<|Ar (AJ rfl ((b0.memA .hd) 3 _ rfl))<|RG.fg 1 rfl<|Ar (AJ rfl ((b0.memA (.tl .hd)) 1 _ rfl)) ?_
 obtain ⟨F0,z0,h⟩:=bi h
 refine RG.callq' (v:=.bool F0) (fst:=[]) (cap:=[]) (.yes rfl rfl) body111 rfl (e3 rfl rfl rfl) (fun w9 hw9=>wardmoteref16_within_c n _ w9 (b0.hL0 hL hw9) a1.fC (b0.k0 h1_3 hw9) a0.fc (1000000000:Int) z0) rfl<|Ar (Be rfl)<|Bd rfl rfl<|Ab rfl<|RG.ifnb (s:=35) rfl h (fun p0 h=>?_) (fun p0 h=>?_)
 refine RG.fg 4 rfl<|Ar (AJ rfl ((b0.memA .hd) 4 _ rfl))<|RG.fg 2 rfl<|Ar (AJ rfl ((b0.memA (.tl .hd)) 2 _ rfl)) ?_
 obtain ⟨G0,A0,h⟩:=bi h
 refine RG.callq' (v:=.bool G0) (fst:=[]) (cap:=[]) (.yes rfl rfl) body111 rfl (e3 rfl rfl rfl) (fun w9 hw9=>wardmoteref16_within_c n _ w9 (b0.hL0 hL hw9) a1.fw (b0.k0 h1_4 hw9) a0.fh (63:Int) A0) rfl<|Ar (Be rfl)<|Bd rfl rfl<|Aa<|MX.ifnb rfl h (fun q0 h=>?_) (fun q0 h=>?_)
 refine Am<|Aj<|Ae<|Bf 5 rfl<|AN rfl ((b0.memA .hd) 5 _ rfl)<|Aa<|MX.ifb rfl h (fun s0 h=>?_) (fun s0 h=>?_)
 refine Ae<|Bf 1 rfl<|AN rfl ((b0.memA .hd) 1 _ rfl)<|Ac (FV.eql (i:=a1.fp) (j:=0) rfl rfl)<|Ab rfl<|Bx (s:=48) rfl h (fun t0 h=>?_) (fun t0 h=>?_)
 refine RG.fg 3 rfl<|Ar (AJ rfl ((b0.memA .hd) 3 _ rfl))<|RG.fg 1 rfl<|Ar (AJ rfl ((b0.memA (.tl .hd)) 1 _ rfl)) ?_
 obtain ⟨H0,B0,h⟩:=bi h
 refine RG.callq' (v:=.bool H0) (fst:=[]) (cap:=[]) (.yes rfl rfl) body111 rfl (e3 rfl rfl rfl) (fun w9 hw9=>wardmoteref16_within_c n _ w9 (b0.hL0 hL hw9) a1.fC (b0.k0 h1_3 hw9) a0.fc (0:Int) B0) rfl<|AG rfl rfl<|Ab rfl<|RG.ifb (s:=55) rfl h (fun u0 h=>?_) (fun u0 h=>?_)
 refine RG.fg 4 rfl<|Ar (AJ rfl ((b0.memA .hd) 4 _ rfl))<|RG.fg 2 rfl<|Ar (AJ rfl ((b0.memA (.tl .hd)) 2 _ rfl)) ?_
 obtain ⟨I0,C0,h⟩:=bi h
 refine RG.callq' (v:=.bool I0) (fst:=[]) (cap:=[]) (.yes rfl rfl) body111 rfl (e3 rfl rfl rfl) (fun w9 hw9=>wardmoteref16_within_c n _ w9 (b0.hL0 hL hw9) a1.fw (b0.k0 h1_4 hw9) a0.fh (0:Int) C0) rfl<|AG rfl rfl<|Af rfl<|Aa<|Ao rfl<|AL hb0 Tryz.func93 rfl rfl ?_
 cases h
 exact b0.gv
 refine Ag<|Ag<|Ag<|Ag<|Ag<|Bd rfl rfl<|Af rfl<|Aa<|Ao rfl<|AL hb0 Tryz.func93 rfl rfl ?_
 cases h
 exact b0.gv
 refine Ag<|Ag<|Ag<|Ag<|Ag<|Bd rfl rfl<|Ab rfl<|Ag<|Ag<|Ag<|Ag<|Ag<|Bd rfl rfl<|Af rfl<|Aa<|Ao rfl<|AL hb0 Tryz.func93 rfl rfl ?_
 cases h
 exact b0.gv
 refine Am<|Ae<|Af rfl<|Aa<|Ao rfl<|AL hb0 Tryz.func93 rfl rfl ?_
 cases h
 exact b0.gv
 refine Ae<|Af rfl<|Aa<|Ao rfl<|AL hb0 Tryz.func93 rfl rfl ?_
 cases h
 exact b0.gv
 refine Ag<|Ag<|Ag<|Ag<|Ag<|Ag<|AG rfl rfl<|Aa<|Bq rfl<|Ae<|Af rfl<|Aa<|Ao rfl<|AL hb0 Tryz.func93 rfl rfl ?_
 cases h
 exact b0.gv
 refine Ag<|Ag<|Ag<|Ag<|Ag<|Ag<|AG rfl rfl<|Ab rfl<|Ag<|Ag<|Ag<|Ag<|Ag<|Ag<|AG rfl rfl<|Aa<|Bq rfl<|Ae<|Af rfl<|Aa<|Ao rfl<|AL hb0 Tryz.func93 rfl rfl ?_
 cases h
 exact b0.gv
 refine Ag<|Ag<|Ag<|AG rfl rfl<|Ab rfl<|Ag<|Ag<|Ag<|AG rfl rfl<|Aa<|Bq rfl<|Ae<|Af rfl<|Aa<|Ao rfl<|AL hb0 Tryz.func93 rfl rfl ?_
 cases h
 exact b0.gv
def tb77_8:List (Nat × Nat × Nat):=[(0,144115188075855872,2),(0,288230376151711744,2),(2,576460752303423488,288230376151711744),(0,1152921504606846976,8),(12,2305843009213693952,1729382256910270464),(16,4611686018427387904,2305843009213693952),(33,9223372036854775808,4755801206503243776),(64,18446744073709551616,9223372036854775808)]
def tb77_13:List (Nat × Nat × Nat):=[(0,1180591620717411303424,2),(1,2361183241434822606848,1180591620717411303424),(0,4722366482869645213696,16),(6,9444732965739290427392,7083549724304467820544),(8,18889465931478580854784,9444732965739290427392),(16,37778931862957161709568,18889465931478580854784),(0,75557863725914323419136,2),(64,151115727451828646838272,75557863725914323419136),(0,302231454903657293676544,8),(384,604462909807314587353088,453347182355485940514816),(512,1208925819614629174706176,604462909807314587353088),(1024,2417851639229258349412352,1208925819614629174706176),(2080,4835703278458516698824704,2455630571092215511121920),(4096,9671406556917033397649408,4835703278458516698824704),(8192,19342813113834066795298816,9671406556917033397649410),(24576,38685626227668133590597632,29014219670751100192948224),(8192,77371252455336267181195264,9671406556917033397649424),(106496,154742504910672534362390528,125728285239921434169442304),(139264,309485009821345068724781056,164413911467589567760039936),(270336,618970019642690137449562112,319156416378262102122430464),(532480,1237940039285380274899124224,628641426199607170847211520),(1048576,2475880078570760549798248448,1237940039285380274899124226),(3145728,4951760157141521099596496896,3713820117856140824697372672),(1048576,9903520314283042199192993792,1237940039285380274899124232),(13631488,19807040628566084398385987584,16093220510709943573688614912),(17825792,39614081257132168796771975168,21044980667851464673285111808),(34603008,79228162514264337593543950336,40852021296417549071671099392),(68157440,158456325028528675187087900672,80466102553549717868443074560),(135274496,316912650057057350374175801344,159703936474370972495384674304),(268443648,633825300114114700748351602688,316922321463614267407573450752)]
theorem body93:bodyB Tryz.prog 93 = true:=by kernel_rfl
def wardmoteref16_CheckRoll_l1 (_n:Nat) (j0:Nat) (a0:TRoll) (d0:TUnit) (c0:Nat → Option ((Int ⊕ Unit) ⊕ Unit)):Nat → Option ((Int ⊕ Unit) ⊕ Unit)
  | b0=>(if b0 < j0 then (a0.fm[b0]?).bind fun g0=>(if g0.ft = d0.ft then some (.inl (.inl (161:Int))) else (if g0.fo = true then (if d0.fo = true then c0 (b0 + 1) else some (.inl (.inl (161:Int)))) else c0 (b0 + 1))) else some (.inr ()))
def wardmoteref16_CheckRoll_l2 (n:Nat) (a0:TRoll) (d0:Nat → Option (Int ⊕ Unit)):Nat → Option (Int ⊕ Unit)
  | b0=>(if b0 < a0.fm.length then (a0.fm[b0]?).bind fun c0=>(wardmoteref16_right_p n a0 c0).bind fun g0=>(if g0 = true then thn (loopF (wardmoteref16_CheckRoll_l1 n b0 a0 c0) n 0) (fun _=>d0 (b0 + 1)) else some (.inl (161:Int))) else some (.inr ()))
def wardmoteref16_CheckRoll_p (n:Nat) (a0:TRoll):Option Int:=
  jn (fun c0=>(if c0 = true then some (161:Int) else (if a0.fm.length < 1 then some (161:Int) else (if 64 < a0.fm.length then some (161:Int) else (a0.fm[0]?).bind fun d0=>(if d0.fo = true then some (161:Int) else thn (loopF (wardmoteref16_CheckRoll_l2 n a0) n 0) (fun _=>some (0:Int))))))) (fun b0=>(if a0.fe < 0 then b0 true else (if 6 < a0.fe then b0 true else (if a0.fc < 0 then b0 true else (if 12 < a0.fc then b0 true else (if a0.fh < 0 then b0 true else b0 (decide (3 < a0.fh))))))))
theorem wardmoteref16_CheckRoll_c (n:Nat) (L:List Nat) (w:World) (hL:∀ b ∈ L,b < w.heap.size) (a0:TRoll) {v0_3:Value} (h0_3:Rep.R w L [v0_3] a0.fm)  {r:Int} (h:wardmoteref16_CheckRoll_p n a0 = some r) :
    Calls Tryz.prog 77 #[.agg #[vI a0.fe,vI a0.fc,vI a0.fh,v0_3]] w (Gives w fun _ u=>u = vI r):=by
 unfold wardmoteref16_CheckRoll_p at h
 have hS0:=AD w
 refine AI Tryz.func77 rfl rfl rfl (fun _ cs0 hb0=>?_)
 refine Ae<|Az .plain rfl (AK hS0 rfl rfl) (fun V1 g0 j0 y2=>?_)
 refine Af rfl<|Aa<|Aj<|Aj<|MX.join (α:=Bool) (fun y0=>[(1,vP g0),(32,.bool y0)]) (fun y0 C0=>St w C0 [.cells g0 [vI a0.fe,vI a0.fc,vI a0.fh,v0_3] 38]∧Tr V1 [.cells g0 [vI a0.fe,vI a0.fc,vI a0.fh,v0_3] 38] C0 [.cells g0 [vI a0.fe,vI a0.fc,vI a0.fh,v0_3] 38]) (fun y0=>y0) h ?_ ?_
 rintro y0 C0 ⟨t0,z2⟩ h
 try dsimp only at h
 refine MX.ifb rfl h (fun Y0 h=>?_) (fun Y0 h=>?_)
 refine Ae<|Af rfl<|Aa<|Ao rfl<|AL hb0 Tryz.func77 rfl rfl ?_
 cases h
 exact t0.gv
 refine Am<|Aj<|Ae<|Bf 3 rfl<|AN rfl ((t0.memA .hd) 3 _ rfl) ?_
 have A0:=Bn h0_3 t0
 have A2:a0.fm.length ≤ 281474976710656:=AO A0
 refine Ac (AZ (xs:=a0.fm) Tryz.underlying36 rfl A0)<|Ac (Bg (i:=a0.fm.length) (j:=1) rfl rfl)<|Ab rfl<|Bx (s:=37) rfl h (fun q1 h=>?_) (fun q1 h=>?_)
 refine Ag<|Ag<|Ag<|Ag<|AG rfl rfl<|Ab rfl<|Ag<|Ag<|Ag<|Ag<|Ag<|AG rfl rfl<|Aa<|Bq rfl<|Ae<|Af rfl<|Aa<|Ao rfl<|AL hb0 Tryz.func77 rfl rfl ?_
 cases h
 exact t0.gv
 refine RG.fg 3 rfl<|Ar (AJ rfl ((t0.memA .hd) 3 _ rfl))<|Ar (AZ (xs:=a0.fm) Tryz.underlying36 rfl A0)<|Ar (FV.gtrN (i:=a0.fm.length) (j:=64) rfl rfl)<|Bd rfl rfl<|Ab rfl<|Bx (s:=43) rfl h (fun s1 h=>?_) (fun s1 h=>?_)
 refine Ag<|Ag<|Ag<|Ag<|Ag<|AG rfl rfl<|Aa<|Bq rfl<|Ae<|Af rfl<|Aa<|Ao rfl<|AL hb0 Tryz.func77 rfl rfl ?_
 cases h
 exact t0.gv
 refine RG.fg 3 rfl<|Ar (AJ rfl ((t0.memA .hd) 3 _ rfl)) ?_
 obtain ⟨j3,R1,h⟩:=bi h
 obtain ⟨c2,s2,z1,B1,x2,P1,D1⟩:=AS A0 R1
 obtain ⟨b3,c3,d3,rfl,H2,I2,J2⟩:=op_TUnit P1
 refine Ar (AY 6 0 rfl z1 rfl rfl B1)<|RG.fg 5 rfl<|Ar (AJ rfl (D1 5 _ rfl))<|Bd rfl rfl<|Aa<|MX.ifb rfl h (fun u1 h=>?_) (fun u1 h=>?_)
 refine Ae<|Af rfl<|Aa<|Ao rfl<|AL hb0 Tryz.func77 rfl rfl ?_
 cases h
 exact t0.gv
 refine Am<|Aj<|Ae<|Af rfl<|Aa<|Au ?_
 obtain ⟨K2,E1,z0⟩:=thn_in h
 refine AW (α:=Nat) (fun d0=>[(1,vP g0),(3,vI ((d0:Nat):Int))]) (fun d0 B0=>St w B0 [.cells g0 [vI a0.fe,vI a0.fc,vI a0.fh,v0_3] 38]∧Tr C0 [.cells g0 [vI a0.fe,vI a0.fc,vI a0.fh,v0_3] 38] B0 [.cells g0 [vI a0.fe,vI a0.fc,vI a0.fh,v0_3] 38]) (fun d0=>d0) 0 E1 ⟨rfl,rfl,trivial⟩ ⟨t0,AA _ _⟩ ?_
 rintro d2 d0 B0 v1 ⟨p0,x1⟩ h
 unfold wardmoteref16_CheckRoll_l2 at h
 try dsimp only at h
 refine Aj<|Ae<|Ab rfl<|Bf 3 rfl<|AN rfl ((p0.memA .hd) 3 _ rfl) ?_
 have M0:=Bn h0_3 p0
 refine Ac (AZ (xs:=a0.fm) Tryz.underlying36 rfl M0)<|Ac (Bg (i:=d0) (j:=a0.fm.length) rfl rfl)<|Aa<|AM rfl h (fun V0 h=>?_) (fun V0 h=>?_)
 refine Am<|Aj<|Au<|Aj<|Aj<|dt 8 tb77_8 (fun u0 v0=>?_)
 refine AV 0 1 192 u0 rfl v0 (AE rfl (p0.memA .hd)) rfl<|Ai 1 3 u0 rfl v0 (fun _=>Br 3 rfl) rfl<|AV 2 7 240 u0 rfl v0 (AJ rfl ((p0.memA .hd) 3 _ rfl)) rfl<|Ai 3 15 u0 rfl v0 (fun _=>Ah rfl) rfl ?_
 obtain ⟨W1,U0,h⟩:=bi h
 obtain ⟨Y1,k2,y1,A1,t2,G1,C1⟩:=AS M0 U0
 obtain ⟨P2,Q2,R2,rfl,H1,I1,J1⟩:=op_TUnit G1
 refine Ai 4 31 u0 rfl v0 (fun _=>AY 6 d0 rfl y1 rfl rfl A1) rfl<|AV 5 63 192 u0 rfl v0 (AE rfl C1) rfl ?_
 obtain ⟨X1,U1,h⟩:=bi h
 refine RD.cq 6 127 128 (.bool X1) u0 rfl v0 body93 rfl (e2 rfl rfl) (fun w9 hw9=>wardmoteref16_right_c n _ w9 (p0.hL0 hL hw9) a0 (p0.k0 h0_3 hw9) W1 (p0.kd H1 hw9) (p0.kd I1 hw9) (p0.kd J1 hw9) U1) rfl<|Ai 7 255 u0 rfl v0 (fun _=>Be rfl) rfl<|AX (dk u0)<|MX.ifnb rfl h (fun W0 h=>?_) (fun W0 h=>?_)
 refine Am<|Ae<|Af rfl<|Aa<|Au ?_
 obtain ⟨M2,F1,E0⟩:=thn_in h
 refine AW (α:=Nat) (fun q0=>[(1,vP g0),(3,vI ((d0:Nat):Int)),(4,vI ((q0:Nat):Int))]) (fun q0 F0=>St w F0 [.cells g0 [vI a0.fe,vI a0.fc,vI a0.fh,v0_3] 38]∧Tr B0 [.cells g0 [vI a0.fe,vI a0.fc,vI a0.fh,v0_3] 38] F0 [.cells g0 [vI a0.fe,vI a0.fc,vI a0.fh,v0_3] 38]) (fun q0=>q0) 0 F1 ⟨rfl,rfl,rfl,trivial⟩ ⟨p0,AA _ _⟩ ?_
 rintro g2 q0 F0 G0 ⟨s0,D0⟩ h
 unfold wardmoteref16_CheckRoll_l1 at h
 try dsimp only at h
 refine Aj<|Ae<|Ab rfl<|Ab rfl<|Ac (Bg (i:=q0) (j:=d0) rfl rfl)<|Aa<|AM rfl h (fun X0 h=>?_) (fun X0 h=>?_)
 refine Am<|Aj<|Au<|Aj<|dt 30 tb77_13 (fun b0 c0=>?_)
 refine Ai 0 1 b0 rfl c0 (fun _=>Br 3 rfl) rfl<|AV 1 3 1073737784 b0 rfl c0 (AJ rfl ((s0.memA .hd) 3 _ rfl)) rfl<|Ai 2 7 b0 rfl c0 (fun _=>Ah rfl) rfl ?_
 obtain ⟨g3,Q1,h⟩:=bi h
 have Q0:=Bn h0_3 s0
 obtain ⟨Z1,p2,H0,J0,u2,K1,P0⟩:=AS Q0 Q1
 obtain ⟨U2,V2,W2,rfl,B2,C2,D2⟩:=op_TUnit K1
 refine Ai 3 15 b0 rfl c0 (fun _=>AY 6 q0 rfl H0 rfl rfl J0) rfl<|Ai 4 31 b0 rfl c0 (fun _=>Br 0 rfl) rfl<|AV 5 63 1073737728 b0 rfl c0 (AJ rfl (P0 0 _ rfl)) rfl<|Ai 6 127 b0 rfl c0 (fun _=>Br 3 rfl) rfl<|AV 7 255 1073741312 b0 rfl c0 (AJ rfl ((s0.memA .hd) 3 _ rfl)) rfl<|Ai 8 511 b0 rfl c0 (fun _=>Ah rfl) rfl ?_
 obtain ⟨b2,q2,I0,K0,v2,M1,R0⟩:=AS Q0 U0
 obtain ⟨X2,Y2,Z2,rfl,E2,F2,G2⟩:=op_TUnit M1
 refine Ai 9 1023 b0 rfl c0 (fun _=>AY 6 d0 rfl I0 rfl rfl K0) rfl<|Ai 10 2047 b0 rfl c0 (fun _=>Br 0 rfl) rfl<|AV 11 4095 1073737728 b0 rfl c0 (AJ rfl (R0 0 _ rfl)) rfl<|Ai 12 8191 b0 rfl c0 (fun _=>FV.eqlS rfl rfl) rfl<|Ai 13 16383 b0 rfl c0 (fun _=>Ah rfl) rfl<|RD.ifd (s:=83) rfl h (fun Z0 h=>?_) (fun Z0 h=>?_)
 refine Bo 536870911 1 [(14,84),(15,85),(16,86),(17,87),(18,88),(19,89),(20,90),(21,91),(22,92),(23,93),(24,94),(25,95),(26,96),(27,97),(28,98)] (F:=[(83,true)]) (U:=[]) b0 c0 (.cons rfl .nil) .nil ?_
 dsimp only [offS,List.map]
 refine Ai 29 1073741823 b0 rfl c0 (fun _=>Bz rfl rfl) rfl<|AX (dk b0)<|Bq rfl<|Ae<|Af rfl<|Aa ?_
 have h:=thn_inl h E0
 have h:=thn_inl h z0
 refine Ao rfl<|AL hb0 Tryz.func77 rfl rfl ?_
 cases h
 exact s0.gv
 refine Bb 14 32767 b0 rfl c0 (.yes rfl rfl) (fun _=>Br 3 rfl) rfl<|RD.val (i:=15) (m' :=65535) (W:=1073610752) (tk b0) rfl c0 (.yes rfl rfl) (AJ rfl ((s0.memA .hd) 3 _ rfl)) rfl<|Bb 16 131071 b0 rfl c0 (.yes rfl rfl) (fun _=>Ah rfl) rfl<|Bb 17 262143 b0 rfl c0 (.yes rfl rfl) (fun _=>AY 6 q0 rfl H0 rfl rfl J0) rfl<|Bb 18 524287 b0 rfl c0 (.yes rfl rfl) (fun _=>Br 5 rfl) rfl<|RD.val (i:=19) (m' :=1048575) (W:=1072693248) (tk b0) rfl c0 (.yes rfl rfl) (AJ rfl (P0 5 _ rfl)) rfl<|Bb 20 2097151 b0 rfl c0 (.yes rfl rfl) (fun _=>Ah rfl) rfl<|RD.ifb (s:=90) rfl h (fun b1 h=>?_) (fun b1 h=>?_)
 refine Bb 21 4194303 b0 rfl c0 (.yes rfl rfl) (fun _=>Br 3 rfl) rfl<|RD.val (i:=22) (m' :=8388607) (W:=1056964608) (tk b0) rfl c0 (.yes rfl rfl) (AJ rfl ((s0.memA .hd) 3 _ rfl)) rfl<|Bb 23 16777215 b0 rfl c0 (.yes rfl rfl) (fun _=>Ah rfl) rfl<|Bb 24 33554431 b0 rfl c0 (.yes rfl rfl) (fun _=>AY 6 d0 rfl I0 rfl rfl K0) rfl<|Bb 25 67108863 b0 rfl c0 (.yes rfl rfl) (fun _=>Br 5 rfl) rfl<|RD.val (i:=26) (m' :=134217727) (W:=939524096) (tk b0) rfl c0 (.yes rfl rfl) (AJ rfl (R0 5 _ rfl)) rfl<|Bb 27 268435455 b0 rfl c0 (.yes rfl rfl) (fun _=>Be rfl) rfl<|Bb 28 536870911 b0 rfl c0 (.yes rfl rfl) (fun _=>Bz rfl rfl) rfl<|Ai 29 1073741823 b0 rfl c0 (fun _=>AP rfl rfl) rfl<|AX (dk b0)<|MX.ifnb rfl h (fun c1 h=>?_) (fun c1 h=>?_)
 refine Am<|Aq<|Al<|Ab rfl<|Ac (AT (i:=q0) (j:=1) rfl rfl (by omega))<|Af rfl<|Aa ?_
 exact G0 (q0 + 1) _ _ ⟨rfl,rfl,rfl,trivial⟩ ⟨s0,D0⟩ h
 refine Ae<|Af rfl<|Aa ?_
 have h:=thn_inl h E0
 have h:=thn_inl h z0
 refine Ao rfl<|AL hb0 Tryz.func77 rfl rfl ?_
 cases h
 exact s0.gv
 refine Bo 268435455 2 [(21,91),(22,92),(23,93),(24,94),(25,95),(26,96),(27,97)] (F:=[(90,false)]) (U:=[]) b0 c0 (.cons rfl .nil) .nil ?_
 dsimp only [offS,List.map]
 refine Bb 28 536870911 b0 rfl c0 (.yes rfl rfl) (fun _=>AP rfl rfl) rfl<|Ai 29 1073741823 b0 rfl c0 (fun _=>AP rfl rfl) rfl<|AX (dk b0)<|Bv rfl<|Am<|Aq<|Al<|Ab rfl<|Ac (AT (i:=q0) (j:=1) rfl rfl (by omega))<|Af rfl<|Aa ?_
 exact G0 (q0 + 1) _ _ ⟨rfl,rfl,rfl,trivial⟩ ⟨s0,D0⟩ h
 refine AR rfl ?_
 have h:=thn_inr h E0
 try dsimp only at h
 refine Aq<|Al<|Ab rfl<|Ac (AT (i:=d0) (j:=1) rfl rfl (by omega))<|Af rfl<|Aa ?_
 exact v1 (d0 + 1) _ _ ⟨rfl,rfl,trivial⟩ ⟨s0,(Tt x1 D0)⟩ h
 refine Ae<|Af rfl<|Aa ?_
 have h:=thn_inl h z0
 refine Ao rfl<|AL hb0 Tryz.func77 rfl rfl ?_
 cases h
 exact p0.gv
 refine AR rfl ?_
 have h:=thn_inr h z0
 try dsimp only at h
 refine Ae<|Af rfl<|Aa<|Ao rfl<|AL hb0 Tryz.func77 rfl rfl ?_
 cases h
 exact p0.gv
 intro j2 x0 h
 try dsimp only at h
 refine Al<|Bf 0 rfl<|AN rfl ((j0.memA .hd) 0 _ rfl)<|Ac (FV.lss (i:=a0.fe) (j:=0) rfl rfl)<|Ab rfl<|Bx (s:=8) rfl h (fun d1 h=>?_) (fun d1 h=>?_)
 refine Ag<|Ag<|Ag<|AG rfl rfl<|Ab rfl<|Ag<|Ag<|Ag<|AG rfl rfl<|Ab rfl<|Ag<|Ag<|Ag<|AG rfl rfl<|Ab rfl<|Ag<|Ag<|Ag<|AG rfl rfl<|Ab rfl<|Ag<|Ag<|Ag<|AG rfl rfl ?_
 refine Aa ?_
 exact x0 true _ _ ⟨rfl,rfl,trivial⟩ ⟨j0,AA _ _⟩ h
 refine RG.fg 0 rfl<|Ar (AJ rfl ((j0.memA .hd) 0 _ rfl))<|Ar (FV.gtr (i:=a0.fe) (j:=6) rfl rfl)<|Bd rfl rfl<|Ab rfl<|Bx (s:=13) rfl h (fun g1 h=>?_) (fun g1 h=>?_)
 refine Ag<|Ag<|Ag<|AG rfl rfl<|Ab rfl<|Ag<|Ag<|Ag<|AG rfl rfl<|Ab rfl<|Ag<|Ag<|Ag<|AG rfl rfl<|Ab rfl<|Ag<|Ag<|Ag<|AG rfl rfl<|Aa ?_
 exact x0 true _ _ ⟨rfl,rfl,trivial⟩ ⟨j0,AA _ _⟩ h
 refine RG.fg 1 rfl<|Ar (AJ rfl ((j0.memA .hd) 1 _ rfl))<|Ar (FV.lss (i:=a0.fc) (j:=0) rfl rfl)<|Bd rfl rfl<|Ab rfl<|Bx (s:=18) rfl h (fun j1 h=>?_) (fun j1 h=>?_)
 refine Ag<|Ag<|Ag<|AG rfl rfl<|Ab rfl<|Ag<|Ag<|Ag<|AG rfl rfl<|Ab rfl<|Ag<|Ag<|Ag<|AG rfl rfl<|Aa ?_
 exact x0 true _ _ ⟨rfl,rfl,trivial⟩ ⟨j0,AA _ _⟩ h
 refine RG.fg 1 rfl<|Ar (AJ rfl ((j0.memA .hd) 1 _ rfl))<|Ar (FV.gtr (i:=a0.fc) (j:=12) rfl rfl)<|Bd rfl rfl<|Ab rfl<|Bx (s:=23) rfl h (fun k1 h=>?_) (fun k1 h=>?_)
 refine Ag<|Ag<|Ag<|AG rfl rfl<|Ab rfl<|Ag<|Ag<|Ag<|AG rfl rfl<|Aa ?_
 exact x0 true _ _ ⟨rfl,rfl,trivial⟩ ⟨j0,AA _ _⟩ h
 refine RG.fg 2 rfl<|Ar (AJ rfl ((j0.memA .hd) 2 _ rfl))<|Ar (FV.lss (i:=a0.fh) (j:=0) rfl rfl)<|Bd rfl rfl<|Ab rfl<|Bx (s:=28) rfl h (fun p1 h=>?_) (fun p1 h=>?_)
 refine Ag<|Ag<|Ag<|AG rfl rfl<|Aa ?_
 exact x0 true _ _ ⟨rfl,rfl,trivial⟩ ⟨j0,AA _ _⟩ h
 refine RG.fg 2 rfl<|Ar (AJ rfl ((j0.memA .hd) 2 _ rfl))<|Ar (FV.gtr (i:=a0.fh) (j:=3) rfl rfl)<|Bd rfl rfl<|Aa ?_
 exact x0 (decide (3 < a0.fh)) _ _ ⟨rfl,rfl,trivial⟩ ⟨j0,AA _ _⟩ h
theorem body77:bodyB Tryz.prog 77 = true:=by kernel_rfl
def wardmoteref23_levelled_p (n:Nat) (a0:TRoll) (a1:Int):Option Int:=
  (wardmoteref16_CheckRoll_p n a0).bind fun b0=>(if b0 = 0 then (if a1 < 0 then some (2:Int) else (if a0.fh ≤ a1 then some (2:Int) else some (0:Int))) else some b0)
theorem wardmoteref23_levelled_c (n:Nat) (L:List Nat) (w:World) (hL:∀ b ∈ L,b < w.heap.size) (a0:TRoll) {v0_3:Value} (h0_3:Rep.R w L [v0_3] a0.fm) (a1:Int)  {r:Int} (h:wardmoteref23_levelled_p n a0 a1 = some r) :
    Calls Tryz.prog 59 #[.agg #[vI a0.fe,vI a0.fc,vI a0.fh,v0_3],vI a1] w (Gives w fun _ u=>u = vI r):=by
 unfold wardmoteref23_levelled_p at h
 have hS0:=AD w
 refine AI Tryz.func59 rfl rfl rfl (fun _ cs0 hb0=>?_)
 refine Ae<|Az .plain rfl (AK hS0 rfl rfl) (fun t0 q0 b0 s0=>?_)
 refine Af rfl<|Aa<|Aj<|Ae<|Ac (AE rfl (b0.memA .hd)) ?_
 obtain ⟨c0,p0,h⟩:=bi h
 refine Bp (vI c0) body77 rfl (e1 rfl) (fun w9 hw9=>wardmoteref16_CheckRoll_c n _ w9 (b0.hL0 hL hw9) a0 (b0.k0 h0_3 hw9) p0) rfl<|Af rfl<|Aa<|Ae<|Ab rfl<|Ac (Bs (i:=c0) (j:=0) rfl rfl)<|Aa<|MX.ifn rfl h (fun d0 h=>?_) (fun d0 h=>?_)
 refine Am<|Aj<|Ae<|Ab rfl<|Ac (FV.lss (i:=a1) (j:=0) rfl rfl)<|Ab rfl<|Bx (s:=13) rfl h (fun g0 h=>?_) (fun g0 h=>?_)
 refine Ag<|Ag<|Ag<|Ag<|AG rfl rfl<|Aa<|Bq rfl<|Ae<|Af rfl<|Aa<|Ao rfl<|AL hb0 Tryz.func59 rfl rfl ?_
 cases h
 exact b0.gv
 refine Ar (Ah rfl)<|RG.fg 2 rfl<|Ar (AJ rfl ((b0.memA .hd) 2 _ rfl))<|Ar (FV.geq (i:=a1) (j:=a0.fh) rfl rfl)<|Bd rfl rfl<|Aa<|AM rfl h (fun j0 h=>?_) (fun j0 h=>?_)
 refine Ae<|Af rfl<|Aa<|Ao rfl<|AL hb0 Tryz.func59 rfl rfl ?_
 cases h
 exact b0.gv
 refine Am<|Ae<|Af rfl<|Aa<|Ao rfl<|AL hb0 Tryz.func59 rfl rfl ?_
 cases h
 exact b0.gv
 refine Ae<|Ab rfl<|Af rfl<|Aa<|Ao rfl<|AL hb0 Tryz.func59 rfl rfl ?_
 cases h
 exact b0.gv
def wardmoteref16_Lands_l1 (_n:Nat) (a0:TRoll) (c0:Nat → Option Nat):Nat → Option Nat
  | b0=>(if b0 < a0.fm.length then (a0.fm[b0]?).bind fun d0=>(if d0.fo = true then some b0 else c0 (b0 + 1)) else some b0)
def wardmoteref16_Lands_p (n:Nat) (a0:TRoll):Option Int:=
  jn (fun c0=>some ((c0:Nat):Int)) (fun b0=>Option.bind (loopF (wardmoteref16_Lands_l1 n a0) n 0) (b0))
theorem wardmoteref16_Lands_c (n:Nat) (L:List Nat) (w:World) (_hL:∀ b ∈ L,b < w.heap.size) (a0:TRoll) {v0_3:Value} (h0_3:Rep.R w L [v0_3] a0.fm)  {r:Int} (h:wardmoteref16_Lands_p n a0 = some r) :
    Calls Tryz.prog 94 #[.agg #[vI a0.fe,vI a0.fc,vI a0.fh,v0_3]] w (Gives w fun _ u=>u = vI r):=by
 unfold wardmoteref16_Lands_p at h
 have hS0:=AD w
 refine AI Tryz.func94 rfl rfl rfl (fun _ cs0 hb0=>?_)
 refine Ae<|Az .plain rfl (AK hS0 rfl rfl) (fun u0 d0 z0 V0=>?_)
 refine Af rfl<|Aa<|Ae<|Af rfl<|Aa<|Aj<|Au<|MX.joinx (α:=Nat) (fun g0=>[(3,vI ((g0:Nat):Int))]) (fun g0 q0=>St w q0 []∧Tr u0 [.cells d0 [vI a0.fe,vI a0.fc,vI a0.fh,v0_3] 38] q0 []) (fun g0=>g0) (id:=0) rfl h ?_ ?_
 rintro g0 q0 ⟨C0,W0⟩ h
 try dsimp only at h
 refine Ae<|Ab rfl<|Af rfl<|Aa<|Ao rfl<|AL hb0 Tryz.func94 rfl rfl ?_
 cases h
 exact C0.gv
 intro Q0 s0 h
 try dsimp only at h
 obtain ⟨c1,I0,t0⟩:=bind_in2 h
 refine AW (α:=Nat) (fun b0=>[(1,vP d0),(3,vI ((b0:Nat):Int))]) (fun b0 p0=>St w p0 [.cells d0 [vI a0.fe,vI a0.fc,vI a0.fh,v0_3] 38]∧Tr u0 [.cells d0 [vI a0.fe,vI a0.fc,vI a0.fh,v0_3] 38] p0 [.cells d0 [vI a0.fe,vI a0.fc,vI a0.fh,v0_3] 38]) (fun b0=>b0) 0 I0 ⟨rfl,rfl,trivial⟩ ⟨z0,AA _ _⟩ ?_
 rintro P0 b0 p0 y0 ⟨c0,j0⟩ h
 unfold wardmoteref16_Lands_l1 at h
 try dsimp only at h
 refine Aj<|Ae<|Ab rfl<|Bf 3 rfl<|AN rfl ((c0.memA .hd) 3 _ rfl) ?_
 have k0:=Bn h0_3 c0
 have X0:a0.fm.length ≤ 281474976710656:=AO k0
 refine Ac (AZ (xs:=a0.fm) Tryz.underlying36 rfl k0)<|Ac (Bg (i:=b0) (j:=a0.fm.length) rfl rfl)<|Ab rfl<|Bx (s:=9) rfl h (fun v0 h=>?_) (fun v0 h=>?_)
 refine RG.fg 3 rfl<|Ar (AJ rfl ((c0.memA .hd) 3 _ rfl))<|Ar (Ah rfl) ?_
 obtain ⟨k1,K0,h⟩:=bi h
 obtain ⟨M0,R0,F0,G0,U0,J0,H0⟩:=AS k0 K0
 obtain ⟨d1,g1,j1,rfl,Y0,Z0,b1⟩:=op_TUnit J0
 refine Ar (AY 6 b0 rfl F0 rfl rfl G0)<|RG.fg 5 rfl<|Ar (AJ rfl (H0 5 _ rfl))<|Ar (Be rfl)<|AG rfl rfl<|Aa<|MX.ifnb rfl h (fun x0 h=>?_) (fun x0 h=>?_)
 refine AR rfl ?_
 have h:=t0 _ h
 try dsimp only at h
 obtain ⟨A0,D0⟩:=Ay c0 .done
 exact s0 b0 _ _ ⟨rfl,trivial⟩ ⟨A0,(Tt j0 D0)⟩ h
 refine Am<|Au<|Al<|Ab rfl<|Ac (AT (i:=b0) (j:=1) rfl rfl (by omega))<|Af rfl<|Aa<|Aq ?_
 exact y0 (b0 + 1) _ _ ⟨rfl,rfl,trivial⟩ ⟨c0,j0⟩ h
 refine Ag<|Ag<|Ag<|Ag<|Ag<|Ag<|Ag<|Bd rfl rfl<|Aa<|Bv rfl<|AR rfl ?_
 have h:=t0 _ h
 try dsimp only at h
 obtain ⟨B0,E0⟩:=Ay c0 .done
 exact s0 b0 _ _ ⟨rfl,trivial⟩ ⟨B0,(Tt j0 E0)⟩ h
theorem body94:bodyB Tryz.prog 94 = true:=by kernel_rfl
def wardmoteref16_Land_p (n:Nat) (a0:TRoll):Option (Int × Int):=
  (wardmoteref16_CheckRoll_p n a0).bind fun b0=>(if b0 = 0 then (wardmoteref16_Lands_p n a0).bind fun c0=>some (c0,(0:Int)) else some ((0:Int),b0))
theorem wardmoteref16_Land_c (n:Nat) (L:List Nat) (w:World) (hL:∀ b ∈ L,b < w.heap.size) (a0:TRoll) {v0_3:Value} (h0_3:Rep.R w L [v0_3] a0.fm)  {r:Int × Int} (h:wardmoteref16_Land_p n a0 = some r) :
    Calls Tryz.prog 79 #[.agg #[vI a0.fe,vI a0.fc,vI a0.fh,v0_3]] w (Gives w fun _ u=>u = .tuple #[vI r.1,vI r.2]):=by
 unfold wardmoteref16_Land_p at h
 have hS0:=AD w
 refine AI Tryz.func79 rfl rfl rfl (fun _ cs0 hb0=>?_)
 refine Ae<|Az .plain rfl (AK hS0 rfl rfl) (fun t0 q0 b0 s0=>?_)
 refine Af rfl<|Af rfl<|Aa<|Aj<|Ae<|Ac (AE rfl (b0.memA .hd)) ?_
 obtain ⟨c0,g0,h⟩:=bi h
 refine Bp (vI c0) body77 rfl (e1 rfl) (fun w9 hw9=>wardmoteref16_CheckRoll_c n _ w9 (b0.hL0 hL hw9) a0 (b0.k0 h0_3 hw9) g0) rfl<|Af rfl<|Aa<|Ae<|Ab rfl<|Ac (Bs (i:=c0) (j:=0) rfl rfl)<|Aa<|MX.ifn rfl h (fun d0 h=>?_) (fun d0 h=>?_)
 refine Am<|Ae<|Ac (AE rfl (b0.memA .hd)) ?_
 obtain ⟨p0,j0,h⟩:=bi h
 refine Bp (vI p0) body94 rfl (e1 rfl) (fun w9 hw9=>wardmoteref16_Lands_c n _ w9 (b0.hL0 hL hw9) a0 (b0.k0 h0_3 hw9) j0) rfl<|Af rfl<|Af rfl<|Aa<|Ao rfl<|AB hb0 Tryz.func79 rfl (.cons (.tmp rfl) (.cons (.tmp rfl) .nil)) rfl ?_
 cases h
 exact b0.gv
 refine Ae<|Ab rfl<|Af rfl<|Af rfl<|Aa<|Ao rfl<|AB hb0 Tryz.func79 rfl (.cons (.tmp rfl) (.cons (.tmp rfl) .nil)) rfl ?_
 cases h
 exact b0.gv
theorem body79:bodyB Tryz.prog 79 = true:=by kernel_rfl
def wardmoteref22_Land_p (n:Nat) (a0:TRoll):Option Int:=
  (wardmoteref16_Land_p n a0).bind fun b0=>some b0.1
theorem wardmoteref22_Land_c (n:Nat) (L:List Nat) (w:World) (hL:∀ b ∈ L,b < w.heap.size) (a0:TRoll) {v0_3:Value} (h0_3:Rep.R w L [v0_3] a0.fm)  {r:Int} (h:wardmoteref22_Land_p n a0 = some r) :
    Calls Tryz.prog 63 #[.agg #[vI a0.fe,vI a0.fc,vI a0.fh,v0_3]] w (Gives w fun _ u=>u = vI r):=by
 unfold wardmoteref22_Land_p at h
 have hS0:=AD w
 refine AI Tryz.func63 rfl rfl rfl (fun _ cs0 hb0=>?_)
 refine Ae<|Az .plain rfl (AK hS0 rfl rfl) (fun p0 g0 b0 j0=>?_)
 refine Af rfl<|Aa<|Ae<|Ac (AE rfl (b0.memA .hd)) ?_
 obtain ⟨c0,d0,h⟩:=bi h
 refine Bp (.tuple #[vI c0.1,vI c0.2]) body79 rfl (e1 rfl) (fun w9 hw9=>wardmoteref16_Land_c n _ w9 (b0.hL0 hL hw9) a0 (b0.k0 h0_3 hw9) d0) rfl<|Ab rfl<|Ac (Ak rfl rfl)<|Ac (Ak rfl rfl)<|Af rfl<|Af rfl<|Aa<|Ae<|Ab rfl<|Af rfl<|Aa<|Ao rfl<|AL hb0 Tryz.func63 rfl rfl ?_
 cases h
 exact b0.gv
def wardmoteref22_counted_p (n:Nat) (a0:TRoll) (a1:Int):Option Int:=
  (wardmoteref16_CheckRoll_p n a0).bind fun b0=>(if b0 = 0 then (if a1 < 1 then some (2:Int) else (if 8 < a1 then some (2:Int) else some (0:Int))) else some b0)
theorem wardmoteref22_counted_c (n:Nat) (L:List Nat) (w:World) (hL:∀ b ∈ L,b < w.heap.size) (a0:TRoll) {v0_3:Value} (h0_3:Rep.R w L [v0_3] a0.fm) (a1:Int)  {r:Int} (h:wardmoteref22_counted_p n a0 a1 = some r) :
    Calls Tryz.prog 87 #[.agg #[vI a0.fe,vI a0.fc,vI a0.fh,v0_3],vI a1] w (Gives w fun _ u=>u = vI r):=by
 unfold wardmoteref22_counted_p at h
 have hS0:=AD w
 refine AI Tryz.func87 rfl rfl rfl (fun _ cs0 hb0=>?_)
 refine Ae<|Az .plain rfl (AK hS0 rfl rfl) (fun t0 q0 b0 s0=>?_)
 refine Af rfl<|Aa<|Aj<|Ae<|Ac (AE rfl (b0.memA .hd)) ?_
 obtain ⟨c0,p0,h⟩:=bi h
 refine Bp (vI c0) body77 rfl (e1 rfl) (fun w9 hw9=>wardmoteref16_CheckRoll_c n _ w9 (b0.hL0 hL hw9) a0 (b0.k0 h0_3 hw9) p0) rfl<|Af rfl<|Aa<|Ae<|Ab rfl<|Ac (Bs (i:=c0) (j:=0) rfl rfl)<|Aa<|MX.ifn rfl h (fun d0 h=>?_) (fun d0 h=>?_)
 refine Am<|Aj<|Ae<|Ab rfl<|Ac (FV.lss (i:=a1) (j:=1) rfl rfl)<|Ab rfl<|Bx (s:=13) rfl h (fun g0 h=>?_) (fun g0 h=>?_)
 refine Ag<|Ag<|AG rfl rfl<|Aa<|Bq rfl<|Ae<|Af rfl<|Aa<|Ao rfl<|AL hb0 Tryz.func87 rfl rfl ?_
 cases h
 exact b0.gv
 refine Ar (Ah rfl)<|Ar (FV.gtr (i:=a1) (j:=8) rfl rfl)<|Bd rfl rfl<|Aa<|AM rfl h (fun j0 h=>?_) (fun j0 h=>?_)
 refine Ae<|Af rfl<|Aa<|Ao rfl<|AL hb0 Tryz.func87 rfl rfl ?_
 cases h
 exact b0.gv
 refine Am<|Ae<|Af rfl<|Aa<|Ao rfl<|AL hb0 Tryz.func87 rfl rfl ?_
 cases h
 exact b0.gv
 refine Ae<|Ab rfl<|Af rfl<|Aa<|Ao rfl<|AL hb0 Tryz.func87 rfl rfl ?_
 cases h
 exact b0.gv
def wardmoteref22_fits_l1 (_n:Nat) (a2:Int) (j0:List Bool) (c0:Int → Option (Bool ⊕ Unit)):Int → Option (Bool ⊕ Unit)
  | b0=>(if b0 < a2 then (idx j0 b0).bind fun g0=>(if g0 = true then (chk (b0 + 1)).bind fun d0=>c0 d0 else some (.inl false)) else some (.inr ()))
def wardmoteref22_fits_l2 (_n:Nat) (a1:Int) (a0:List Int) (a2:Int) (g0:Int × (List Bool) → Option (Bool ⊕ (List Bool))):Int × (List Bool) → Option (Bool ⊕ (List Bool))
  | (d0,c0)=>(if d0 < a1 then (idx a0 d0).bind fun b0=>(if b0 < 0 then some (.inl false) else (if a2 ≤ b0 then some (.inl false) else (idx c0 b0).bind fun _x127=>(put c0 ((b0.toNat:Nat):Int) true).bind fun k0=>(chk (d0 + 1)).bind fun j0=>g0 (j0,k0))) else some (.inr c0))
def wardmoteref22_fits_p (n:Nat) (a0:List Int) (a1:Int) (a2:Int):Option Bool:=
  (if ((a0.length:Nat):Int) = a1 then (mk a2 false).bind fun c0=>thn (loopF (wardmoteref22_fits_l2 n a1 a0 a2) n (0,c0)) (fun b0=>thn (loopF (wardmoteref22_fits_l1 n a2 b0) n 0) (fun _=>some true)) else some false)
theorem wardmoteref22_fits_c (n:Nat) (L:List Nat) (w:World) (_hL:∀ b ∈ L,b < w.heap.size) (a0:List Int) {v0_0:Value} (h0_0:Rep.R w L [v0_0] a0) (a1:Int) (a2:Int)  {r:Bool} (h:wardmoteref22_fits_p n a0 a1 a2 = some r) :
    Calls Tryz.prog 88 #[v0_0,vI a1,vI a2] w (Gives w fun _ u=>u = .bool r):=by
 unfold wardmoteref22_fits_p at h
 have hS0:=AD w
 refine AI Tryz.func88 rfl rfl rfl (fun _ cs0 hb0=>?_)
 refine Ae<|Af rfl<|Aa<|Aj<|Ae<|Ab rfl ?_
 have hl1:a0.length ≤ 281474976710656:=AO h0_0
 refine Ac (AZ (xs:=a0) Tryz.underlying33 rfl h0_0)<|Ab rfl<|Ac (Bs (i:=((a0.length:Nat):Int)) (j:=a1) rfl rfl)<|Aa<|MX.ifn rfl h (fun c2 h=>?_) (fun c2 h=>?_)
 refine Am<|Ae<|Ab rfl ?_
 obtain ⟨D0,K0,h⟩:=bi h
 refine Az .plain rfl (Does.mk (α:=Bool) K0 hS0 el146 rfl) (fun b2 g0 E0 y2=>?_)
 have u1:=Av (cs:=(List.replicate a2.toNat [.bool false]).flatten) (xs:=D0) E0 L (Cells.mk K0 rfl)
 refine Af rfl<|Aa<|Aj<|Ae<|Af rfl<|Aa<|Au ?_
 obtain ⟨A2,F1,y0⟩:=thn_in h
 refine AW (α:=Int × (List Bool) × (List Value)) (fun ⟨d0,b0,c0⟩=>[(0,v0_0),(1,vI a1),(2,vI a2),(7,(.slice (some ⟨g0,0,none⟩) a2.toNat a2.toNat)),(8,vI d0)]) (fun ⟨d0,b0,c0⟩ q0=>St w q0 [.row w.heap.size 4 (Rep.size Bool) (.slice (some ⟨g0,0,none⟩) a2.toNat a2.toNat) b0.length c0]∧Tr b2 [.row w.heap.size 4 (Rep.size Bool) (.slice (some ⟨g0,0,none⟩) a2.toNat a2.toNat) D0.length ((List.replicate a2.toNat [.bool false]).flatten)] q0 [.row w.heap.size 4 (Rep.size Bool) (.slice (some ⟨g0,0,none⟩) a2.toNat a2.toNat) b0.length c0]∧Cells q0 (bl [.row w.heap.size 4 (Rep.size Bool) (.slice (some ⟨g0,0,none⟩) a2.toNat a2.toNat) b0.length c0] ++ L) c0 b0) (fun ⟨d0,b0,c0⟩=>(d0,b0)) (0,D0,(List.replicate a2.toNat [.bool false]).flatten) F1 ⟨rfl,rfl,rfl,rfl,rfl,trivial⟩ ⟨E0,AA _ _,u1⟩ ?_
 rintro p2 ⟨d0,b0,c0⟩ q0 g1 ⟨k0,p1,t0⟩ h
 unfold wardmoteref22_fits_l2 at h
 try dsimp only at h
 refine Aj<|Ae<|Ab rfl<|Ab rfl<|Ac (FV.lss (i:=d0) (j:=a1) rfl rfl)<|Aa<|AM rfl h (fun U0 h=>?_) (fun U0 h=>?_)
 refine Am<|Aj<|Au<|Aj<|Ae<|Ab rfl<|Ab rfl ?_
 obtain ⟨s0,P1,h⟩:=bi h
 obtain ⟨z0,Q1⟩:=idx_in P1
 have C1:=Bn h0_0 k0
 obtain ⟨k2,s2,u0,A0,Z0,H1,B0⟩:=AS C1 Q1
 have v1:Z0 = [vI s0]:=H1; subst v1
 refine Ac (AY 1 (d0.toNat) rfl u0 rfl z0 A0)<|AN rfl (B0 0 _ rfl)<|Ac (FV.lss (i:=s0) (j:=0) rfl rfl)<|Ab rfl<|Bx (s:=26) rfl h (fun V0 h=>?_) (fun V0 h=>?_)
 refine Ag<|Ag<|Ag<|Ag<|Ag<|Ag<|AG rfl rfl<|Aa<|Bq rfl<|Ae<|Af rfl<|Aa ?_
 have h:=thn_inl h y0
 refine Ao rfl<|AL hb0 Tryz.func88 rfl rfl ?_
 cases h
 exact k0.gv
 refine Ar (Ah rfl)<|Ar (Ah rfl)<|Ar (AY 1 (d0.toNat) rfl u0 rfl z0 A0)<|Ar (AJ rfl (B0 0 _ rfl))<|Ar (Ah rfl)<|Ar (FV.geq (i:=s0) (j:=a2) rfl rfl)<|Bd rfl rfl<|Aa<|AM rfl h (fun W0 h=>?_) (fun W0 h=>?_)
 refine Ae<|Af rfl<|Aa ?_
 have h:=thn_inl h y0
 refine Ao rfl<|AL hb0 Tryz.func88 rfl rfl ?_
 cases h
 exact k0.gv
 refine Am<|Al<|Ab rfl<|Ab rfl<|Ab rfl<|Ac (AY 1 (d0.toNat) rfl u0 rfl z0 A0)<|AN rfl (B0 0 _ rfl) ?_
 obtain ⟨d2,R1,h⟩:=bi h
 obtain ⟨A1,U1⟩:=idx_in R1
 obtain ⟨M0,t2,v0,I0,b1,I1,z2⟩:=St.nth (α:=Bool) k0 .hd t0 U1
 obtain ⟨Q0,u2,G0⟩:=St.nthOwn (α:=Bool) k0 .hd I0
 obtain rfl:M0 = ⟨Q0,0,none⟩:=by rw [G0] at v0; cases v0; rfl
 have x1:b1 = [.bool d2]:=I1; subst x1
 refine Ac (AY 1 (s0.toNat) rfl v0 rfl A1 I0) ?_
 obtain ⟨j2,X1,h⟩:=bi h
 refine RG.acts' .plain (Acts.set (α:=Bool) (i:=s0.toNat) X1 k0 G0 (fun _=>.hd) t0 rfl rfl rfl rfl rfl (by kernel_rfl)) (fun C2 ⟨c1,k1,q1,s1⟩=>?_)
 refine Aa<|Aq<|Al<|Ab rfl ?_
 obtain ⟨Y1,K1,h⟩:=bi h
 refine Ac (By (i:=d0) (j:=1) rfl rfl K1)<|Af rfl<|Aa ?_
 exact g1 (Y1,j2,c1) _ _ ⟨rfl,rfl,rfl,rfl,rfl,trivial⟩ ⟨k1,(Tt p1 q1),s1⟩ h
 refine AR rfl ?_
 have h:=thn_inr h y0
 try dsimp only at h
 refine Aj<|Ae<|Af rfl<|Aa<|Au ?_
 obtain ⟨B2,G1,H0⟩:=thn_in h
 refine AW (α:=Int) (fun j0=>[(2,vI a2),(7,(.slice (some ⟨g0,0,none⟩) a2.toNat a2.toNat)),(9,vI j0)]) (fun j0 C0=>St w C0 [.row w.heap.size 4 (Rep.size Bool) (.slice (some ⟨g0,0,none⟩) a2.toNat a2.toNat) b0.length c0]∧Tr q0 [.row w.heap.size 4 (Rep.size Bool) (.slice (some ⟨g0,0,none⟩) a2.toNat a2.toNat) b0.length c0] C0 [.row w.heap.size 4 (Rep.size Bool) (.slice (some ⟨g0,0,none⟩) a2.toNat a2.toNat) b0.length c0]) (fun j0=>j0) 0 G1 ⟨rfl,rfl,rfl,trivial⟩ ⟨k0,AA _ _⟩ ?_
 rintro q2 j0 C0 j1 ⟨p0,F0⟩ h
 unfold wardmoteref22_fits_l1 at h
 try dsimp only at h
 refine Aj<|Ae<|Ab rfl<|Ab rfl<|Ac (FV.lss (i:=j0) (j:=a2) rfl rfl)<|Aa<|AM rfl h (fun X0 h=>?_) (fun X0 h=>?_)
 refine Am<|Aj<|Au<|Ae<|Ab rfl<|Ab rfl ?_
 obtain ⟨g2,V1,h⟩:=bi h
 obtain ⟨B1,W1⟩:=idx_in V1
 have E1:=Ap t0 F0
 obtain ⟨P0,v2,x0,J0,d1,J1,D1⟩:=St.nth (α:=Bool) p0 .hd E1 W1
 obtain ⟨R0,x2,y1⟩:=St.nthOwn (α:=Bool) p0 .hd J0
 obtain rfl:P0 = ⟨R0,0,none⟩:=by rw [y1] at x0; cases x0; rfl
 have z1:d1 = [.bool g2]:=J1; subst z1
 refine Ac (AY 1 (j0.toNat) rfl x0 rfl B1 J0)<|AN rfl (D1 0 _ rfl)<|Ac (Be rfl)<|Aa<|MX.ifnb rfl h (fun Y0 h=>?_) (fun Y0 h=>?_)
 refine Am<|Aq<|Al<|Ab rfl ?_
 obtain ⟨Z1,M1,h⟩:=bi h
 refine Ac (By (i:=j0) (j:=1) rfl rfl M1)<|Af rfl<|Aa ?_
 exact j1 Z1 _ _ ⟨rfl,rfl,rfl,trivial⟩ ⟨p0,F0⟩ h
 refine Ae<|Af rfl<|Aa ?_
 have h:=thn_inl h H0
 refine Ao rfl<|AL hb0 Tryz.func88 rfl rfl ?_
 cases h
 exact p0.gv
 refine AR rfl ?_
 have h:=thn_inr h H0
 try dsimp only at h
 refine Ae<|Af rfl<|Aa<|Ao rfl<|AL hb0 Tryz.func88 rfl rfl ?_
 cases h
 exact p0.gv
 refine Ae<|Af rfl<|Aa<|Ao rfl<|AL hb0 Tryz.func88 rfl rfl ?_
 cases h
 exact hS0.gv
theorem body63:bodyB Tryz.prog 63 = true:=by kernel_rfl
theorem body87:bodyB Tryz.prog 87 = true:=by kernel_rfl
theorem body88:bodyB Tryz.prog 88 = true:=by kernel_rfl
def wardmoteref22_Check_p (n:Nat) (a0:TRoll) (a1:List Int) (a2:Int):Option Int:=
  (wardmoteref22_counted_p n a0 a2).bind fun b0=>(if b0 = 0 then (wardmoteref22_Land_p n a0).bind fun c0=>(wardmoteref22_fits_p n a1 c0 a2).bind fun d0=>(if d0 = true then some (0:Int) else some (220:Int)) else some b0)
theorem wardmoteref22_Check_c (n:Nat) (L:List Nat) (w:World) (hL:∀ b ∈ L,b < w.heap.size) (a0:TRoll) {v0_3:Value} (h0_3:Rep.R w L [v0_3] a0.fm) (a1:List Int) {v1_0:Value} (h1_0:Rep.R w L [v1_0] a1) (a2:Int)  {r:Int} (h:wardmoteref22_Check_p n a0 a1 a2 = some r) :
    Calls Tryz.prog 72 #[.agg #[vI a0.fe,vI a0.fc,vI a0.fh,v0_3],v1_0,vI a2] w (Gives w fun _ u=>u = vI r):=by
 unfold wardmoteref22_Check_p at h
 have hS0:=AD w
 refine AI Tryz.func72 rfl rfl rfl (fun _ cs0 hb0=>?_)
 refine Ae<|Az .plain rfl (AK hS0 rfl rfl) (fun x0 u0 b0 v0=>?_)
 refine Af rfl<|Aa<|Aj<|Ae<|Ac (AE rfl (b0.memA .hd))<|Ab rfl ?_
 obtain ⟨c0,p0,h⟩:=bi h
 refine Bp (vI c0) body87 rfl (e2 rfl rfl) (fun w9 hw9=>wardmoteref22_counted_c n _ w9 (b0.hL0 hL hw9) a0 (b0.k0 h0_3 hw9) a2 p0) rfl<|Af rfl<|Aa<|Ae<|Ab rfl<|Ac (Bs (i:=c0) (j:=0) rfl rfl)<|Aa<|MX.ifn rfl h (fun g0 h=>?_) (fun g0 h=>?_)
 refine Am<|Aj<|Ae<|Ab rfl<|Ac (AE rfl (b0.memA .hd)) ?_
 obtain ⟨d0,q0,h⟩:=bi h
 refine Bp (vI d0) body63 rfl (e1 rfl) (fun w9 hw9=>wardmoteref22_Land_c n _ w9 (b0.hL0 hL hw9) a0 (b0.k0 h0_3 hw9) q0) rfl<|Ab rfl ?_
 obtain ⟨t0,s0,h⟩:=bi h
 refine Bp (.bool t0) body88 rfl (e3 rfl rfl rfl) (fun w9 hw9=>wardmoteref22_fits_c n _ w9 (b0.hL0 hL hw9) a1 (b0.k0 h1_0 hw9) d0 a2 s0) rfl<|Ac (Be rfl)<|Aa<|MX.ifnb rfl h (fun j0 h=>?_) (fun j0 h=>?_)
 refine Am<|Ae<|Af rfl<|Aa<|Ao rfl<|AL hb0 Tryz.func72 rfl rfl ?_
 cases h
 exact b0.gv
 refine Ae<|Af rfl<|Aa<|Ao rfl<|AL hb0 Tryz.func72 rfl rfl ?_
 cases h
 exact b0.gv
 refine Ae<|Ab rfl<|Af rfl<|Aa<|Ao rfl<|AL hb0 Tryz.func72 rfl rfl ?_
 cases h
 exact b0.gv
theorem body59:bodyB Tryz.prog 59 = true:=by kernel_rfl
theorem body72:bodyB Tryz.prog 72 = true:=by kernel_rfl
def wardmoteref23_planned_p (n:Nat) (a0:TRoll) (a1:List Int) (a2:Int) (a3:Int):Option Int:=
  (wardmoteref22_Check_p n a0 a1 a2).bind fun b0=>(if b0 = 0 then (wardmoteref23_levelled_p n a0 a3).bind fun c0=>some c0 else some b0)
theorem wardmoteref23_planned_c (n:Nat) (L:List Nat) (w:World) (hL:∀ b ∈ L,b < w.heap.size) (a0:TRoll) {v0_3:Value} (h0_3:Rep.R w L [v0_3] a0.fm) (a1:List Int) {v1_0:Value} (h1_0:Rep.R w L [v1_0] a1) (a2:Int) (a3:Int)  {r:Int} (h:wardmoteref23_planned_p n a0 a1 a2 a3 = some r) :
    Calls Tryz.prog 47 #[.agg #[vI a0.fe,vI a0.fc,vI a0.fh,v0_3],v1_0,vI a2,vI a3] w (Gives w fun _ u=>u = vI r):=by
 unfold wardmoteref23_planned_p at h
 have hS0:=AD w
 refine AI Tryz.func47 rfl rfl rfl (fun _ cs0 hb0=>?_)
 refine Ae<|Az .plain rfl (AK hS0 rfl rfl) (fun t0 q0 b0 s0=>?_)
 refine Af rfl<|Aa<|Aj<|Ae<|Ac (AE rfl (b0.memA .hd))<|Ab rfl<|Ab rfl ?_
 obtain ⟨c0,g0,h⟩:=bi h
 refine Bp (vI c0) body72 rfl (e3 rfl rfl rfl) (fun w9 hw9=>wardmoteref22_Check_c n _ w9 (b0.hL0 hL hw9) a0 (b0.k0 h0_3 hw9) a1 (b0.k0 h1_0 hw9) a2 g0) rfl<|Af rfl<|Aa<|Ae<|Ab rfl<|Ac (Bs (i:=c0) (j:=0) rfl rfl)<|Aa<|MX.ifn rfl h (fun d0 h=>?_) (fun d0 h=>?_)
 refine Am<|Ae<|Ac (AE rfl (b0.memA .hd))<|Ab rfl ?_
 obtain ⟨p0,j0,h⟩:=bi h
 refine Bp (vI p0) body59 rfl (e2 rfl rfl) (fun w9 hw9=>wardmoteref23_levelled_c n _ w9 (b0.hL0 hL hw9) a0 (b0.k0 h0_3 hw9) a3 j0) rfl<|Af rfl<|Aa<|Ao rfl<|AL hb0 Tryz.func47 rfl rfl ?_
 cases h
 exact b0.gv
 refine Ae<|Ab rfl<|Af rfl<|Aa<|Ao rfl<|AL hb0 Tryz.func47 rfl rfl ?_
 cases h
 exact b0.gv
def wardmoteref23_Units_l1 (n:Nat) (a0:TRoll) (a1:Int) (a2:Int) (d0:Int × (List Int) → Option (List Int)):Int × (List Int) → Option (List Int)
  | (b0,c0)=>(wardmoteref22_Land_p n a0).bind fun s0=>(if b0 < s0 then (idx a0.fm b0).bind fun k0=>(idx k0.fw a1).bind fun p0=>(if p0 = a2 then (app c0 ([b0]:List Int)).bind fun q0=>(chk (b0 + 1)).bind fun g0=>d0 (g0,q0) else (chk (b0 + 1)).bind fun j0=>d0 (j0,c0)) else some c0)
def wardmoteref23_Units_p (n:Nat) (a0:TRoll) (a1:Int) (a2:Int):Option (List Int):=
  Option.bind (loopF (wardmoteref23_Units_l1 n a0 a1 a2) n (0,([]:List Int))) (fun b0=>some b0)
theorem wardmoteref23_Units_c (n:Nat) (L:List Nat) (w:World) (hL:∀ b ∈ L,b < w.heap.size) (a0:TRoll) {v0_3:Value} (h0_3:Rep.R w L [v0_3] a0.fm) (a1:Int) (a2:Int)  {r:List Int} (h:wardmoteref23_Units_p n a0 a1 a2 = some r) :
    Calls Tryz.prog 53 #[.agg #[vI a0.fe,vI a0.fc,vI a0.fh,v0_3],vI a1,vI a2] w (Gives w fun w' u=>∃ v0_0:Value,u = v0_0∧Rep.R w' L [v0_0] r):=by
 unfold wardmoteref23_Units_p at h
 have hS0:=AD w
 refine AI Tryz.func53 rfl rfl rfl (fun _ cs0 hb0=>?_)
 refine Ae<|Az .plain rfl (AK hS0 rfl rfl) (fun K1 p0 x0 Y1=>?_)
 refine Af rfl<|Aa<|Ae<|Af rfl<|Aa<|Aj<|Ae<|Af rfl<|Aa<|Au ?_
 have y0:=x0.nilRow 3 (Rep.size Int)
 have Z1:=BF x0 3 (Rep.size Int)
 have P0:=Av (cs:=[]) (xs:=([]:List Int)) y0 L (AC _ _)
 obtain ⟨g2,p1,W0⟩:=bind_in2 h
 refine AW (α:=Int × (List Int) × Value × (List Value)) (fun ⟨b0,g0,d0,j0⟩=>[(1,vI a1),(2,vI a2),(3,vP p0),(7,d0),(8,vI b0)]) (fun ⟨b0,g0,d0,j0⟩ q0=>St w q0 [.row w.heap.size 3 (Rep.size Int) d0 g0.length j0,.cells p0 [vI a0.fe,vI a0.fc,vI a0.fh,v0_3] 38]∧Tr K1 [.row w.heap.size 3 (Rep.size Int) vN (([]:List Int).length) [],.cells p0 [vI a0.fe,vI a0.fc,vI a0.fh,v0_3] 38] q0 [.row w.heap.size 3 (Rep.size Int) d0 g0.length j0,.cells p0 [vI a0.fe,vI a0.fc,vI a0.fh,v0_3] 38]∧Cells q0 (bl [.row w.heap.size 3 (Rep.size Int) d0 g0.length j0,.cells p0 [vI a0.fe,vI a0.fc,vI a0.fh,v0_3] 38] ++ L) j0 g0) (fun ⟨b0,g0,d0,j0⟩=>(b0,g0)) (0,([]:List Int),vN,[]) p1 ⟨rfl,rfl,rfl,rfl,rfl,trivial⟩ ⟨y0,AA _ _,P0⟩ ?_
 rintro R1 ⟨b0,g0,d0,j0⟩ q0 v0 ⟨c0,z0,u0⟩ h
 unfold wardmoteref23_Units_l1 at h
 try dsimp only at h
 refine Aj<|Ae<|Ab rfl<|Ac (AE rfl (c0.memA (.tl .hd))) ?_
 obtain ⟨D0,G1,h⟩:=bi h
 refine Bp (vI D0) body63 rfl (e1 rfl) (fun w9 hw9=>wardmoteref22_Land_c n _ w9 (c0.hL0 hL hw9) a0 (c0.k0 h0_3 hw9) G1) rfl<|Ac (FV.lss (i:=b0) (j:=D0) rfl rfl)<|Aa<|AM rfl h (fun E0 h=>?_) (fun E0 h=>?_)
 refine Am<|Aj<|Au<|Ae<|Bf 3 rfl<|AN rfl ((c0.memA (.tl .hd)) 3 _ rfl)<|Ab rfl ?_
 obtain ⟨t2,B1,h⟩:=bi h
 obtain ⟨X0,C1⟩:=idx_in B1
 have d1:=Bn h0_3 c0
 obtain ⟨P1,V1,R0,Z0,X1,s1,c1⟩:=AS d1 C1
 obtain ⟨j2,k2,p2,rfl,c2,d2,u1⟩:=op_TUnit s1
 refine Ac (AY 6 (b0.toNat) rfl R0 rfl X0 Z0)<|Bf 4 rfl<|AN rfl (c1 4 _ rfl)<|Ab rfl ?_
 obtain ⟨C0,D1,h⟩:=bi h
 obtain ⟨Y0,E1⟩:=idx_in D1
 obtain ⟨Q1,W1,U0,b1,G0,v1,g1⟩:=AS u1 E1
 have V0:G0 = [vI C0]:=v1; subst V0
 refine Ac (AY 1 (a1.toNat) rfl U0 rfl Y0 b1)<|AN rfl (g1 0 _ rfl)<|Ab rfl<|Ac (FV.eql (i:=C0) (j:=a2) rfl rfl)<|Aa<|AM rfl h (fun F0 h=>?_) (fun F0 h=>?_)
 refine Al<|Ab rfl<|Ab rfl<|Az .plain rfl (AF (α:=Int) (xs:=([b0]:List Int)) (vs:=[vI b0]) (ds' :=[vI b0]) rfl c0 el32 rfl (e1 rfl) (by kernel_rfl) rfl) (fun q2 U1 s0 A0=>?_)
 have M0:=Av (cs:=[vI b0]) (xs:=(([b0]:List Int):List Int)) s0 L (Ax (cs:=[vI b0]) (ds:=[]) rfl (AC _ _))
 obtain ⟨M1,F1,h⟩:=bi h
 have j1:=Ap u0 A0
 refine RG.doesL .plain rfl (Bc (α:=Int) (ys:=([b0]:List Int)) F1 s0 (fun _ _=>(.tl .hd)) el32 rfl rfl j1 (Src.row (α:=Int) s0 .hd M0)) (fun J1 s2 ⟨H0,I0,K0,Q0⟩=>?_)
 refine Af rfl<|Aa<|Aq<|Al<|Ab rfl ?_
 obtain ⟨H1,z1,h⟩:=bi h
 refine Ac (By (i:=b0) (j:=1) rfl rfl z1)<|Af rfl<|Aa ?_
 obtain ⟨J0,B0⟩:=Ay I0 (.one (.tl .hd) (.one (.tl .hd) .done))
 have k1:=Ap Q0 B0
 have q1:=Tt A0 (Tt K0 B0)
 exact v0 (H1,M1,J1,H0) _ _ ⟨rfl,rfl,rfl,rfl,rfl,trivial⟩ ⟨J0,(Tt z0 q1),k1⟩ h
 refine Am<|Aq<|Al<|Ab rfl ?_
 obtain ⟨I1,A1,h⟩:=bi h
 refine Ac (By (i:=b0) (j:=1) rfl rfl A1)<|Af rfl<|Aa ?_
 exact v0 (I1,g0,d0,j0) _ _ ⟨rfl,rfl,rfl,rfl,rfl,trivial⟩ ⟨c0,z0,u0⟩ h
 refine AR rfl ?_
 have h:=W0 _ h
 try dsimp only at h
 refine Ae<|Ab rfl<|Af rfl<|Aa<|Ao rfl ?_
 have x1:=AU (α:=Int) c0 .hd u0 hL
 have t0:=Bk c0 .hd
 have b2:=Bl c0 .hd
 have y1:=Bm (α:=Int) (v:=d0) (xs:=g0) t0 L x1
 refine AL hb0 Tryz.func53 rfl rfl ?_
 cases h
 exact ⟨t0.ag,fun w9 hw9=>⟨d0,rfl,t0.kd y1 hw9⟩⟩
theorem body53:bodyB Tryz.prog 53 = true:=by kernel_rfl
def wardmoteref23_list_l1 (n:Nat) (a0:TRoll) (a1:Int) (d0:Nat × (List Int) → Option (List Int)):Nat × (List Int) → Option (List Int)
  | (b0,c0)=>(if b0 < 64 then (wardmoteref23_Units_p n a0 a1 ((b0:Nat):Int)).bind fun j0=>(if 0 < j0.length then (app c0 ([((b0:Nat):Int)]:List Int)).bind fun g0=>d0 (b0 + 1,g0) else d0 (b0 + 1,c0)) else some c0)
def wardmoteref23_list_p (n:Nat) (a0:TRoll) (a1:Int):Option (List Int):=
  Option.bind (loopF (wardmoteref23_list_l1 n a0 a1) n (0,([]:List Int))) (fun b0=>some b0)
theorem wardmoteref23_list_c (n:Nat) (L:List Nat) (w:World) (hL:∀ b ∈ L,b < w.heap.size) (a0:TRoll) {v0_3:Value} (h0_3:Rep.R w L [v0_3] a0.fm) (a1:Int)  {r:List Int} (h:wardmoteref23_list_p n a0 a1 = some r) :
    Calls Tryz.prog 48 #[.agg #[vI a0.fe,vI a0.fc,vI a0.fh,v0_3],vI a1] w (Gives w fun w' u=>∃ v0_0:Value,u = v0_0∧Rep.R w' L [v0_0] r):=by
 unfold wardmoteref23_list_p at h
 have hS0:=AD w
 refine AI Tryz.func48 rfl rfl rfl (fun _ cs0 hb0=>?_)
 refine Ae<|Az .plain rfl (AK hS0 rfl rfl) (fun k1 k0 z0 u1=>?_)
 refine Af rfl<|Aa<|Ae<|Af rfl<|Aa<|Aj<|Ae<|Af rfl<|Aa<|Au ?_
 have A0:=z0.nilRow 3 (Rep.size Int)
 have x1:=BF z0 3 (Rep.size Int)
 have R0:=Av (cs:=[]) (xs:=([]:List Int)) A0 L (AC _ _)
 obtain ⟨z1,Y0,U0⟩:=bind_in2 h
 refine AW (α:=Nat × (List Int) × Value × (List Value)) (fun ⟨b0,d0,c0,g0⟩=>[(1,vI a1),(2,vP k0),(5,c0),(6,vI ((b0:Nat):Int))]) (fun ⟨b0,d0,c0,g0⟩ q0=>St w q0 [.row w.heap.size 3 (Rep.size Int) c0 d0.length g0,.cells k0 [vI a0.fe,vI a0.fc,vI a0.fh,v0_3] 38]∧Tr k1 [.row w.heap.size 3 (Rep.size Int) vN (([]:List Int).length) [],.cells k0 [vI a0.fe,vI a0.fc,vI a0.fh,v0_3] 38] q0 [.row w.heap.size 3 (Rep.size Int) c0 d0.length g0,.cells k0 [vI a0.fe,vI a0.fc,vI a0.fh,v0_3] 38]∧Cells q0 (bl [.row w.heap.size 3 (Rep.size Int) c0 d0.length g0,.cells k0 [vI a0.fe,vI a0.fc,vI a0.fh,v0_3] 38] ++ L) g0 d0) (fun ⟨b0,d0,c0,g0⟩=>(b0,d0)) (0,([]:List Int),vN,[]) Y0 ⟨rfl,rfl,rfl,rfl,trivial⟩ ⟨A0,AA _ _,R0⟩ ?_
 rintro q1 ⟨b0,d0,c0,g0⟩ q0 x0 ⟨j0,D0,u0⟩ h
 unfold wardmoteref23_list_l1 at h
 try dsimp only at h
 refine Aj<|Ae<|Ab rfl<|Ac (Bg (i:=b0) (j:=64) rfl rfl)<|Aa<|AM rfl h (fun G0 h=>?_) (fun G0 h=>?_)
 refine Am<|Aj<|Au<|Ae<|Ac (AE rfl (j0.memA (.tl .hd)))<|Ab rfl<|Ab rfl ?_
 obtain ⟨v0,g1,h⟩:=bi h
 refine AQ (fst:=[]) (cap:=[]) .plain body53 rfl (e3 rfl rfl rfl) (fun w9 hw9=>wardmoteref23_Units_c n _ w9 (j0.hL hL hw9) a0 (j0.km h0_3 hw9) a1 ((b0:Nat):Int) g1) rfl (fun C1 B1 M0 ⟨A1,hu_,E0⟩=>?_)
 subst hu_
 obtain ⟨y0,p0⟩:=j0.agr M0
 have y1:v0.length ≤ 281474976710656:=AO E0
 refine Ac (AZ (xs:=v0) Tryz.underlying32 rfl E0)<|Ac (FV.gtrN (i:=v0.length) (j:=0) rfl rfl)<|Aa<|AM rfl h (fun F0 h=>?_) (fun F0 h=>?_)
 refine Al<|Ab rfl<|Ab rfl<|Az .plain rfl (AF (α:=Int) (xs:=([((b0:Nat):Int)]:List Int)) (vs:=[vI ((b0:Nat):Int)]) (ds' :=[vI ((b0:Nat):Int)]) rfl y0 el32 rfl (e1 rfl) (by kernel_rfl) rfl) (fun D1 s1 s0 B0=>?_)
 have P0:=Av (cs:=[vI ((b0:Nat):Int)]) (xs:=(([((b0:Nat):Int)]:List Int):List Int)) s0 L (Ax (cs:=[vI ((b0:Nat):Int)]) (ds:=[]) rfl (AC _ _))
 obtain ⟨p1,d1,h⟩:=bi h
 have V0:=Ap u0 (Tt p0 B0)
 refine RG.doesL .plain rfl (Bc (α:=Int) (ys:=([((b0:Nat):Int)]:List Int)) d1 s0 (fun _ _=>(.tl .hd)) el32 rfl rfl V0 (Src.row (α:=Int) s0 .hd P0)) (fun j1 E1 ⟨H0,I0,K0,Q0⟩=>?_)
 refine Af rfl<|Aa<|Aq<|Al<|Ab rfl<|Ac (AT (i:=b0) (j:=1) rfl rfl (by omega))<|Af rfl<|Aa ?_
 obtain ⟨J0,C0⟩:=Ay I0 (.one (.tl .hd) (.one (.tl .hd) .done))
 have W0:=Ap Q0 C0
 have Z0:=Tt p0 (Tt B0 (Tt K0 C0))
 exact x0 (b0 + 1,p1,j1,H0) _ _ ⟨rfl,rfl,rfl,rfl,trivial⟩ ⟨J0,(Tt D0 Z0),W0⟩ h
 refine Am<|Aq<|Al<|Ab rfl<|Ac (AT (i:=b0) (j:=1) rfl rfl (by omega))<|Af rfl<|Aa ?_
 have X0:=Ap u0 p0
 exact x0 (b0 + 1,d0,c0,g0) _ _ ⟨rfl,rfl,rfl,rfl,trivial⟩ ⟨y0,(Tt D0 p0),X0⟩ h
 refine AR rfl ?_
 have h:=U0 _ h
 try dsimp only at h
 refine Ae<|Ab rfl<|Af rfl<|Aa<|Ao rfl ?_
 have b1:=AU (α:=Int) j0 .hd u0 hL
 have t0:=Bk j0 .hd
 have v1:=Bl j0 .hd
 have c1:=Bm (α:=Int) (v:=c0) (xs:=d0) t0 L b1
 refine AL hb0 Tryz.func48 rfl rfl ?_
 cases h
 exact ⟨t0.ag,fun w9 hw9=>⟨c0,rfl,t0.kd c1 hw9⟩⟩
def wardmoteref23_pieces_l1 (_n:Nat) (g0:List Int) (a1:List Int) (s0:Int) (j0:Bool × Nat → Option Bool):Bool × Nat → Option Bool
  | (d0,b0)=>(if b0 < g0.length then (g0[b0]?).bind fun p0=>(idx a1 p0).bind fun q0=>jn (fun k0=>j0 (k0,b0 + 1)) (fun c0=>(if q0 = s0 then c0 true else c0 d0)) else some d0)
def wardmoteref23_pieces_l2 (n:Nat) (a2:Int) (q0:List Int) (a1:List Int) (d0:Int × Int → Option Int):Int × Int → Option Int
  | (c0,b0)=>(if b0 < a2 then Option.bind (loopF (wardmoteref23_pieces_l1 n q0 a1 b0) n (false,0)) (fun g0=>(if g0 = true then (chk (c0 + 1)).bind fun j0=>(chk (b0 + 1)).bind fun k0=>d0 (j0,k0) else (chk (b0 + 1)).bind fun p0=>d0 (c0,p0))) else some c0)
def wardmoteref23_pieces_p (n:Nat) (a0:TRoll) (a1:List Int) (a2:Int) (a3:Int) (a4:Int):Option Int:=
  (wardmoteref23_Units_p n a0 a3 a4).bind fun b0=>Option.bind (loopF (wardmoteref23_pieces_l2 n a2 b0 a1) n (0,0)) (fun c0=>some c0)
theorem wardmoteref23_pieces_c (n:Nat) (L:List Nat) (w:World) (hL:∀ b ∈ L,b < w.heap.size) (a0:TRoll) {v0_3:Value} (h0_3:Rep.R w L [v0_3] a0.fm) (a1:List Int) {v1_0:Value} (h1_0:Rep.R w L [v1_0] a1) (a2:Int) (a3:Int) (a4:Int)  {r:Int} (h:wardmoteref23_pieces_p n a0 a1 a2 a3 a4 = some r) :
    Calls Tryz.prog 49 #[.agg #[vI a0.fe,vI a0.fc,vI a0.fh,v0_3],v1_0,vI a2,vI a3,vI a4] w (Gives w fun _ u=>u = vI r):=by
 unfold wardmoteref23_pieces_p at h
 have hS0:=AD w
 refine AI Tryz.func49 rfl rfl rfl (fun _ cs0 hb0=>?_)
 refine Ae<|Az .plain rfl (AK hS0 rfl rfl) (fun k2 W1 p0 Z1=>?_)
 refine Af rfl<|Aa<|Ae<|Ac (AE rfl (p0.memA .hd))<|Ab rfl<|Ab rfl ?_
 obtain ⟨z0,H1,h⟩:=bi h
 refine AQ (fst:=[]) (cap:=[]) .plain body53 rfl (e3 rfl rfl rfl) (fun w9 hw9=>wardmoteref23_Units_c n _ w9 (p0.hL hL hw9) a0 (p0.km h0_3 hw9) a3 a4 H1) rfl (fun M1 x0 W0 ⟨j2,hu_,y1⟩=>?_)
 subst hu_
 obtain ⟨P0,b2⟩:=p0.agr W0
 refine Af rfl<|Aa<|Ae<|Af rfl<|Aa<|Aj<|Ae<|Af rfl<|Aa<|Au ?_
 obtain ⟨Q0,U0⟩:=Ay P0 .done
 obtain ⟨d2,u1,c1⟩:=bind_in2 h
 refine AW (α:=Int × Int) (fun ⟨d0,b0⟩=>[(1,v1_0),(2,vI a2),(11,x0),(12,vI d0),(13,vI b0)]) (fun ⟨d0,b0⟩ s0=>St w s0 []∧Tr M1 [] s0 []) (fun ⟨d0,b0⟩=>(d0,b0)) (0,0) u1 ⟨rfl,rfl,rfl,rfl,rfl,trivial⟩ ⟨Q0,AA _ _⟩ ?_
 rintro R1 ⟨d0,b0⟩ s0 A0 ⟨C0,u0⟩ h
 unfold wardmoteref23_pieces_l2 at h
 try dsimp only at h
 refine Aj<|Ae<|Ab rfl<|Ab rfl<|Ac (FV.lss (i:=b0) (j:=a2) rfl rfl)<|Aa<|AM rfl h (fun F0 h=>?_) (fun F0 h=>?_)
 refine Am<|Aj<|Au<|Ae<|Af rfl<|Aa<|Aj<|Ae<|Af rfl<|Aa<|Au ?_
 obtain ⟨g2,v1,d1⟩:=bind_in2 h
 refine AW (α:=Bool × Nat) (fun ⟨g0,c0⟩=>[(1,v1_0),(2,vI a2),(11,x0),(12,vI d0),(13,vI b0),(14,.bool g0),(15,vI ((c0:Nat):Int))]) (fun ⟨g0,c0⟩ t0=>St w t0 []∧Tr s0 [] t0 []) (fun ⟨g0,c0⟩=>(g0,c0)) (false,0) v1 ⟨rfl,rfl,rfl,rfl,rfl,rfl,rfl,trivial⟩ ⟨C0,AA _ _⟩ ?_
 rintro U1 ⟨g0,c0⟩ t0 M0 ⟨k0,q0⟩ h
 unfold wardmoteref23_pieces_l1 at h
 try dsimp only at h
 refine Aj<|Ae<|Ab rfl<|Ab rfl ?_
 have x1:=Tt U0 (Tt u0 q0)
 have v0:=Aw y1 x1
 have c2:z0.length ≤ 281474976710656:=AO v0
 refine Ac (AZ (xs:=z0) Tryz.underlying32 rfl v0)<|Ac (Bg (i:=c0) (j:=z0.length) rfl rfl)<|Aa<|AM rfl h (fun G0 h=>?_) (fun G0 h=>?_)
 refine Am<|Aj<|Au<|Ae<|Ab rfl<|Ab rfl<|Ab rfl ?_
 obtain ⟨D0,E1,h⟩:=bi h
 obtain ⟨P1,X1,X0,j1,J0,z1,p1⟩:=AS v0 E1
 have Y0:J0 = [vI D0]:=z1; subst Y0
 refine Ac (AY 1 c0 rfl X0 rfl rfl j1)<|AN rfl (p1 0 _ rfl) ?_
 obtain ⟨E0,F1,h⟩:=bi h
 obtain ⟨g1,G1⟩:=idx_in F1
 have s1:=Bn h1_0 k0
 obtain ⟨Q1,Y1,Z0,k1,K0,A1,q1⟩:=AS s1 G1
 have b1:K0 = [vI E0]:=A1; subst b1
 refine Ac (AY 1 (D0.toNat) rfl Z0 rfl g1 k1)<|AN rfl (q1 0 _ rfl)<|Ab rfl<|Ac (FV.eql (i:=E0) (j:=b0) rfl rfl)<|Aa<|MX.join (α:=Bool) (fun j0=>[(1,v1_0),(2,vI a2),(11,x0),(12,vI d0),(13,vI b0),(14,.bool j0),(15,vI ((c0:Nat):Int))]) (fun j0 y0=>St w y0 []∧Tr t0 [] y0 []) (fun j0=>j0) h ?_ ?_
 rintro j0 y0 ⟨R0,V0⟩ h
 try dsimp only at h
 refine Aq<|Al<|Ab rfl<|Ac (AT (i:=c0) (j:=1) rfl rfl (by omega))<|Af rfl<|Aa ?_
 exact M0 (j0,c0 + 1) _ _ ⟨rfl,rfl,rfl,rfl,rfl,rfl,rfl,trivial⟩ ⟨R0,(Tt q0 V0)⟩ h
 intro V1 B0 h
 try dsimp only at h
 refine AM rfl h (fun H0 h=>?_) (fun H0 h=>?_)
 refine Al<|Af rfl<|Aa ?_
 exact B0 true _ _ ⟨rfl,rfl,rfl,rfl,rfl,rfl,rfl,trivial⟩ ⟨k0,AA _ _⟩ h
 refine Am ?_
 exact B0 g0 _ _ ⟨rfl,rfl,rfl,rfl,rfl,rfl,rfl,trivial⟩ ⟨k0,AA _ _⟩ h
 refine AR rfl ?_
 have h:=d1 _ h
 try dsimp only at h
 refine Ae<|Ab rfl<|Aa<|MX.ifb rfl h (fun I0 h=>?_) (fun I0 h=>?_)
 refine Al<|Ab rfl ?_
 obtain ⟨I1,B1,h⟩:=bi h
 refine Ac (By (i:=d0) (j:=1) rfl rfl B1)<|Af rfl<|Aa<|Aq<|Al<|Ab rfl ?_
 obtain ⟨J1,C1,h⟩:=bi h
 refine Ac (By (i:=b0) (j:=1) rfl rfl C1)<|Af rfl<|Aa ?_
 exact A0 (I1,J1) _ _ ⟨rfl,rfl,rfl,rfl,rfl,trivial⟩ ⟨k0,(Tt u0 q0)⟩ h
 refine Am<|Aq<|Al<|Ab rfl ?_
 obtain ⟨K1,D1,h⟩:=bi h
 refine Ac (By (i:=b0) (j:=1) rfl rfl D1)<|Af rfl<|Aa ?_
 exact A0 (d0,K1) _ _ ⟨rfl,rfl,rfl,rfl,rfl,trivial⟩ ⟨k0,(Tt u0 q0)⟩ h
 refine AR rfl ?_
 have h:=c1 _ h
 try dsimp only at h
 refine Ae<|Ab rfl<|Af rfl<|Aa<|Ao rfl<|AL hb0 Tryz.func49 rfl rfl ?_
 cases h
 exact C0.gv
def tb16_9:List (Nat × Nat × Nat):=[(0,2147483648,4096),(0,4294967296,16),(0,8589934592,2),(0,17179869184,4),(0,34359738368,8),(0,68719476736,2048),(0,137438953472,8192),(96,274877906944,206158430208),(128,549755813888,274877906944),(286,1099511627776,614180323328),(512,2199023255552,1099511627776),(1537,4398046511104,2201170739200),(4095,4096,4398046511104)]
theorem body47:bodyB Tryz.prog 47 = true:=by kernel_rfl
theorem body48:bodyB Tryz.prog 48 = true:=by kernel_rfl
theorem body49:bodyB Tryz.prog 49 = true:=by kernel_rfl
def wardmoteref23_Pieces_l1 (n:Nat) (d0:List Int) (a0:TRoll) (a1:List Int) (a2:Int) (a3:Int) (g0:Nat × (List Int) → Option (List Int)):Nat × (List Int) → Option (List Int)
  | (b0,c0)=>(if b0 < d0.length then (d0[b0]?).bind fun j0=>(wardmoteref23_pieces_p n a0 a1 a2 a3 j0).bind fun p0=>(app c0 ([p0]:List Int)).bind fun k0=>g0 (b0 + 1,k0) else some c0)
def wardmoteref23_Pieces_p (n:Nat) (a0:TRoll) (a1:List Int) (a2:Int) (a3:Int):Option ((List Int) × Int):=
  (wardmoteref23_planned_p n a0 a1 a2 a3).bind fun b0=>(if b0 = 0 then (wardmoteref23_list_p n a0 a3).bind fun d0=>Option.bind (loopF (wardmoteref23_Pieces_l1 n d0 a0 a1 a2 a3) n (0,([]:List Int))) (fun c0=>some (c0,(0:Int))) else some (([]:List Int),b0))
theorem wardmoteref23_Pieces_c (n:Nat) (L:List Nat) (w:World) (hL:∀ b ∈ L,b < w.heap.size) (a0:TRoll) {v0_3:Value} (h0_3:Rep.R w L [v0_3] a0.fm) (a1:List Int) {v1_0:Value} (h1_0:Rep.R w L [v1_0] a1) (a2:Int) (a3:Int)  {r:(List Int) × Int} (h:wardmoteref23_Pieces_p n a0 a1 a2 a3 = some r) :
    Calls Tryz.prog 16 #[.agg #[vI a0.fe,vI a0.fc,vI a0.fh,v0_3],v1_0,vI a2,vI a3] w (Gives w fun w' u=>∃ v0_0:Value,u = .tuple #[v0_0,vI r.2]∧Rep.R w' L [v0_0] r.1):=by
 unfold wardmoteref23_Pieces_p at h
 have hS0:=AD w
 refine AI Tryz.func16 rfl rfl rfl (fun _ cs0 hb0=>?_)
 refine Ae<|Az .plain rfl (AK hS0 rfl rfl) (fun Y1 u0 c0 Q1=>?_)
 refine Af rfl<|Af rfl<|Aa<|Aj<|Ae<|Ac (AE rfl (c0.memA .hd))<|Ab rfl<|Ab rfl<|Ab rfl ?_
 obtain ⟨I0,D1,h⟩:=bi h
 refine Bp (vI I0) body47 rfl (e4 rfl rfl rfl rfl) (fun w9 hw9=>wardmoteref23_planned_c n _ w9 (c0.hL0 hL hw9) a0 (c0.k0 h0_3 hw9) a1 (c0.k0 h1_0 hw9) a2 a3 D1) rfl<|Af rfl<|Aa<|Ae<|Ab rfl<|Ac (Bs (i:=I0) (j:=0) rfl rfl)<|Aa<|MX.ifn rfl h (fun K0 h=>?_) (fun K0 h=>?_)
 refine Am<|Ae<|Ac (AE rfl (c0.memA .hd))<|Ab rfl ?_
 obtain ⟨A0,E1,h⟩:=bi h
 refine AQ (fst:=[]) (cap:=[]) .plain body48 rfl (e2 rfl rfl) (fun w9 hw9=>wardmoteref23_list_c n _ w9 (c0.hL hL hw9) a0 (c0.km h0_3 hw9) a3 E1) rfl (fun H1 G1 X0 ⟨X1,hu_,z1⟩=>?_)
 subst hu_
 obtain ⟨B0,U1⟩:=c0.agr X0
 refine Af rfl<|Aa<|Ae<|Af rfl<|Aa<|Aj<|Ae<|Af rfl<|Aa<|Au ?_
 have C0:=B0.nilRow 3 (Rep.size Int)
 have W0:=BF B0 3 (Rep.size Int)
 have b1:=Av (cs:=[]) (xs:=([]:List Int)) C0 L (AC _ _)
 obtain ⟨W1,s1,g1⟩:=bind_in2 h
 refine AW (α:=Nat × (List Int) × Value × (List Value)) (fun ⟨g0,p0,j0,t0⟩=>[(1,v1_0),(2,vI a2),(3,vI a3),(4,vP u0),(11,G1),(12,j0),(13,vI ((g0:Nat):Int))]) (fun ⟨g0,p0,j0,t0⟩ v0=>St w v0 [.row w.heap.size 3 (Rep.size Int) j0 p0.length t0,.cells u0 [vI a0.fe,vI a0.fc,vI a0.fh,v0_3] 38]∧Tr H1 [.row w.heap.size 3 (Rep.size Int) vN (([]:List Int).length) [],.cells u0 [vI a0.fe,vI a0.fc,vI a0.fh,v0_3] 38] v0 [.row w.heap.size 3 (Rep.size Int) j0 p0.length t0,.cells u0 [vI a0.fe,vI a0.fc,vI a0.fh,v0_3] 38]∧Cells v0 (bl [.row w.heap.size 3 (Rep.size Int) j0 p0.length t0,.cells u0 [vI a0.fe,vI a0.fc,vI a0.fh,v0_3] 38] ++ L) t0 p0) (fun ⟨g0,p0,j0,t0⟩=>(g0,p0)) (0,([]:List Int),vN,[]) s1 ⟨rfl,rfl,rfl,rfl,rfl,rfl,rfl,trivial⟩ ⟨C0,AA _ _,b1⟩ ?_
 rintro K1 ⟨g0,p0,j0,t0⟩ v0 Q0 ⟨q0,D0,G0⟩ h
 unfold wardmoteref23_Pieces_l1 at h
 try dsimp only at h
 refine Aj<|Ae<|Ab rfl<|Ab rfl ?_
 have z0:=Aw z1 (Tt W0 D0)
 have V1:A0.length ≤ 281474976710656:=AO z0
 refine Ac (AZ (xs:=A0) Tryz.underlying32 rfl z0)<|Ac (Bg (i:=g0) (j:=A0.length) rfl rfl)<|Aa<|AM rfl h (fun J0 h=>?_) (fun J0 h=>?_)
 refine Am<|Aj<|Au<|dt 11 tb16_9 (fun b0 d0=>?_)
 refine Ai 0 1 b0 rfl d0 (fun _=>Ah rfl) rfl<|AV 1 3 7680 b0 rfl d0 (AE rfl (q0.memA (.tl .hd))) rfl<|Ai 2 7 b0 rfl d0 (fun _=>Ah rfl) rfl<|Ai 3 15 b0 rfl d0 (fun _=>Ah rfl) rfl<|Ai 4 31 b0 rfl d0 (fun _=>Ah rfl) rfl<|Ai 5 63 b0 rfl d0 (fun _=>Ah rfl) rfl<|Ai 6 127 b0 rfl d0 (fun _=>Ah rfl) rfl ?_
 obtain ⟨H0,A1,h⟩:=bi h
 obtain ⟨J1,P1,c1,j1,M0,u1,k1⟩:=AS z0 A1
 have d1:M0 = [vI H0]:=u1; subst d1
 refine Ai 7 255 b0 rfl d0 (fun _=>AY 1 g0 rfl c1 rfl rfl j1) rfl<|AV 8 511 7680 b0 rfl d0 (AJ rfl (k1 0 _ rfl)) rfl ?_
 obtain ⟨s0,C1,h⟩:=bi h
 refine RD.cq 9 1023 7168 (vI s0) b0 rfl d0 body49 rfl (e5 rfl rfl rfl rfl rfl) (fun w9 hw9=>wardmoteref23_pieces_c n _ w9 (q0.hL0 hL hw9) a0 (q0.k0 h0_3 hw9) a1 (q0.k0 h1_0 hw9) a2 a3 H0 C1) rfl<|RD.nu 10 2047 b0 rfl .plain rfl (AF (α:=Int) (xs:=([s0]:List Int)) (vs:=[vI s0]) (ds' :=[vI s0]) rfl q0 el32 rfl (e1 rfl) (by kernel_rfl) rfl) (fun Z1 M1 x0 E0=>?_)
 have Y0:=Av (cs:=[vI s0]) (xs:=(([s0]:List Int):List Int)) x0 L (Ax (cs:=[vI s0]) (ds:=[]) rfl (AC _ _))
 obtain ⟨I1,B1,h⟩:=bi h
 have p1:=Ap G0 E0
 refine RD.one (i:=11) (rk b0) (BD (m' :=4095) (sk b0) rfl rfl .plain rfl (Bc (α:=Int) (ys:=([s0]:List Int)) B1 x0 (fun _ _=>(.tl .hd)) el32 rfl rfl p1 (Src.row (α:=Int) x0 .hd Y0)) (fun F1 b2 ⟨P0,R0,V0,Z0⟩=>?_))
 refine Ai 12 8191 b0 rfl d0 (fun _=>Bw rfl) rfl<|AX (dk b0)<|Aq<|Al<|Ab rfl<|Ac (AT (i:=g0) (j:=1) rfl rfl (by omega))<|Af rfl<|Aa ?_
 obtain ⟨U0,F0⟩:=Ay R0 (.one (.tl .hd) (.one (.tl .hd) .done))
 have q1:=Ap Z0 F0
 have t1:=Tt E0 (Tt V0 F0)
 exact Q0 (g0 + 1,I1,F1,P0) _ _ ⟨rfl,rfl,rfl,rfl,rfl,rfl,rfl,trivial⟩ ⟨U0,(Tt D0 t1),q1⟩ h
 refine AR rfl ?_
 have h:=g1 _ h
 try dsimp only at h
 refine Ae<|Ab rfl<|Af rfl<|Af rfl<|Aa<|Ao rfl ?_
 have v1:=AU (α:=Int) q0 .hd G0 hL
 have y0:=Bk q0 .hd
 have R1:=Bl q0 .hd
 have x1:=Bm (α:=Int) (v:=j0) (xs:=p0) y0 L v1
 refine AB hb0 Tryz.func16 rfl (.cons (.tmp rfl) (.cons (.tmp rfl) .nil)) rfl ?_
 cases h
 exact ⟨y0.ag,fun w9 hw9=>⟨j0,rfl,y0.kd x1 hw9⟩⟩
 refine Ae<|Ab rfl<|Af rfl<|Af rfl<|Aa<|Ao rfl ?_
 have y1:=Bt (α:=Int) c0 L
 refine AB hb0 Tryz.func16 rfl (.cons (.tmp rfl) (.cons (.tmp rfl) .nil)) rfl ?_
 cases h
 exact ⟨c0.ag,fun w9 hw9=>⟨vN,rfl,c0.kd y1 hw9⟩⟩
def tb18_10:List (Nat × Nat × Nat):=[(0,2199023255552,4096),(1,4398046511104,2199023255552),(0,8796093022208,1024),(0,17592186044416,8192),(12,35184372088832,26388279066624),(16,70368744177664,35184372088832),(34,140737488355328,74766790688768),(127,281474976710656,4096),(255,0,422212465065984)]
theorem body16:bodyB Tryz.prog 16 = true:=by kernel_rfl
def wardmoteref23_Splits_l1 (_n:Nat) (j0:(List Int) × Int) (p0:Nat × Int × Int → Option (Int × Int)):Nat × Int × Int → Option (Int × Int)
  | (b0,c0,k0)=>(if b0 < j0.1.length then (j0.1[b0]?).bind fun g0=>jn (fun t0=>(chk (k0 + g0)).bind fun q0=>p0 (b0 + 1,t0,q0)) (fun d0=>(if 2 ≤ g0 then (chk (c0 + 1)).bind fun s0=>d0 s0 else d0 c0)) else some (c0,k0))
def wardmoteref23_Splits_p (n:Nat) (a0:TRoll) (a1:List Int) (a2:Int) (a3:Int):Option (TSplits × Int):=
  (wardmoteref23_Pieces_p n a0 a1 a2 a3).bind fun b0=>(if b0.2 = 0 then Option.bind (loopF (wardmoteref23_Splits_l1 n b0) n (0,0,0)) (fun (c0,d0)=>some ((⟨c0,d0⟩:TSplits),(0:Int))) else some ((⟨(0:Int),(0:Int)⟩:TSplits),b0.2))
theorem wardmoteref23_Splits_c (n:Nat) (L:List Nat) (w:World) (hL:∀ b ∈ L,b < w.heap.size) (a0:TRoll) {v0_3:Value} (h0_3:Rep.R w L [v0_3] a0.fm) (a1:List Int) {v1_0:Value} (h1_0:Rep.R w L [v1_0] a1) (a2:Int) (a3:Int)  {r:TSplits × Int} (h:wardmoteref23_Splits_p n a0 a1 a2 a3 = some r) :
    Calls Tryz.prog 18 #[.agg #[vI a0.fe,vI a0.fc,vI a0.fh,v0_3],v1_0,vI a2,vI a3] w (Gives w fun _ u=>u = .tuple #[.agg #[vI r.1.fx,vI r.1.fv],vI r.2]):=by
 unfold wardmoteref23_Splits_p at h
 have hS0:=AD w
 refine AI Tryz.func18 rfl rfl rfl (fun _ cs0 hb0=>?_)
 refine Ae<|Az .plain rfl (AK hS0 rfl rfl) (fun j2 R1 Y0 W1=>?_)
 refine Az .plain rfl (Ba [vI 0,vI 0] Y0) (fun k2 k0 t0 X1=>?_)
 refine Af rfl<|Aa<|Ae<|Ac (AE rfl (t0.memA (.tl .hd)))<|Ab rfl<|Ab rfl<|Ab rfl ?_
 obtain ⟨x0,I1,h⟩:=bi h
 refine AQ (fst:=[]) (cap:=[]) .plain body16 rfl (e4 rfl rfl rfl rfl) (fun w9 hw9=>wardmoteref23_Pieces_c n _ w9 (t0.hL hL hw9) a0 (t0.km h0_3 hw9) a1 (t0.km h1_0 hw9) a2 a3 I1) rfl (fun u2 g2 q1 ⟨P0,hu_,K0⟩=>?_)
 subst hu_
 obtain ⟨G0,b2⟩:=t0.agr q1
 refine Ab rfl<|Ac (Ak rfl rfl)<|Ac (Ak rfl rfl)<|Af rfl<|Af rfl<|Aa<|Aj<|Ae<|Ab rfl<|Ac (Bs (i:=x0.2) (j:=0) rfl rfl)<|Aa<|MX.ifn rfl h (fun U0 h=>?_) (fun U0 h=>?_)
 refine Am<|Ae<|Az .plain rfl (Ba [vI 0,vI 0] G0) (fun J1 p0 d1 p1=>?_)
 refine Aa<|Aj<|Ae<|Af rfl<|Aa<|Au ?_
 obtain ⟨Z0,g1⟩:=Ay d1 (.one .hd (.one .hd .done))
 obtain ⟨d2,D1,x1⟩:=bind_in2 h
 refine AW (α:=Nat × Int × Int) (fun ⟨d0,c0,b0⟩=>[(8,vP k0),(10,P0),(12,vP p0),(13,vI ((d0:Nat):Int))]) (fun ⟨d0,c0,b0⟩ u0=>St w u0 [.cells p0 [vI c0,vI b0] 50,.cells k0 [vI 0,vI 0] 50]∧Tr J1 [.cells p0 [vI 0,vI 0] 50,.cells k0 [vI 0,vI 0] 50] u0 [.cells p0 [vI c0,vI b0] 50,.cells k0 [vI 0,vI 0] 50]) (fun ⟨d0,c0,b0⟩=>(d0,c0,b0)) (0,0,0) D1 ⟨rfl,rfl,rfl,rfl,trivial⟩ ⟨Z0,AA _ _⟩ ?_
 rintro P1 ⟨d0,c0,b0⟩ u0 X0 ⟨s0,H0⟩ h
 unfold wardmoteref23_Splits_l1 at h
 try dsimp only at h
 refine Aj<|Ae<|Ab rfl<|Ab rfl ?_
 have J0:=Tt p1 (Tt g1 H0)
 have y0:=Aw K0 J0
 have c2:x0.1.length ≤ 281474976710656:=AO y0
 refine Ac (AZ (xs:=x0.1) Tryz.underlying32 rfl y0)<|Ac (Bg (i:=d0) (j:=x0.1.length) rfl rfl)<|Aa<|AM rfl h (fun Q0 h=>?_) (fun Q0 h=>?_)
 refine Am<|Aj<|Au<|Aj<|Ae<|Ab rfl<|Ab rfl ?_
 obtain ⟨v0,M0,h⟩:=bi h
 obtain ⟨K1,U1,s1,y1,V0,E1,A1⟩:=AS y0 M0
 have t1:V0 = [vI v0]:=E1; subst t1
 refine Ac (AY 1 d0 rfl s1 rfl rfl y1)<|AN rfl (A1 0 _ rfl)<|Ac (FV.geq (i:=v0) (j:=2) rfl rfl)<|Aa<|MX.join (α:=Int) (fun j0=>[(8,vP k0),(10,P0),(12,vP p0),(13,vI ((d0:Nat):Int))]) (fun j0 B0=>St w B0 [.cells p0 [vI j0,vI b0] 50,.cells k0 [vI 0,vI 0] 50]∧Tr u0 [.cells p0 [vI c0,vI b0] 50,.cells k0 [vI 0,vI 0] 50] B0 [.cells p0 [vI j0,vI b0] 50,.cells k0 [vI 0,vI 0] 50]) (fun j0=>j0) h ?_ ?_
 rintro j0 B0 ⟨D0,I0⟩ h
 try dsimp only at h
 refine dt 8 tb18_10 (fun g0 q0=>?_)
 refine Ai 0 1 g0 rfl q0 (fun _=>Br 1 rfl) rfl<|AV 1 3 448 g0 rfl q0 (AJ rfl ((D0.memA .hd) 1 _ rfl)) rfl<|Ai 2 7 g0 rfl q0 (fun _=>Ah rfl) rfl<|Ai 3 15 g0 rfl q0 (fun _=>Ah rfl) rfl ?_
 have C1:=Aw K0 (Tt J0 I0)
 obtain ⟨M1,V1,u1,z1,W0,F1,B1⟩:=AS C1 M0
 have v1:W0 = [vI v0]:=F1; subst v1
 refine Ai 4 31 g0 rfl q0 (fun _=>AY 1 d0 rfl u1 rfl rfl z1) rfl<|AV 5 63 448 g0 rfl q0 (AJ rfl (B1 0 _ rfl)) rfl ?_
 obtain ⟨z0,G1,h⟩:=bi h
 refine Ai 6 127 g0 rfl q0 (fun _=>By (i:=b0) (j:=v0) rfl rfl G1) rfl<|Ai 7 255 g0 rfl q0 (fun _=>Br 1 rfl) rfl<|RD.nw 8 511 g0 rfl rfl .plain (BH (j:=1) (old:=[vI j0,vI b0]) (news:=[vI z0]) (new' :=[vI j0,vI z0]) D0 .hd rfl rfl rfl rfl rfl rfl (o1 rfl) rfl) (fun p2 b1 j1=>?_)
 refine AX (dk g0)<|Aq<|Al<|Ab rfl<|Ac (AT (i:=d0) (j:=1) rfl rfl (by omega))<|Af rfl<|Aa ?_
 exact X0 (d0 + 1,j0,z0) _ _ ⟨rfl,rfl,rfl,rfl,trivial⟩ ⟨b1,(Tt H0 (Tt I0 j1))⟩ h
 intro Q1 C0 h
 try dsimp only at h
 refine AM rfl h (fun R0 h=>?_) (fun R0 h=>?_)
 refine Al<|Bf 0 rfl<|AN rfl ((s0.memA .hd) 0 _ rfl) ?_
 obtain ⟨A0,H1,h⟩:=bi h
 refine Ac (By (i:=c0) (j:=1) rfl rfl H1)<|Bf 0 rfl<|RG.now .plain (BH (j:=0) (old:=[vI c0,vI b0]) (news:=[vI A0]) (new' :=[vI A0,vI b0]) s0 .hd rfl rfl rfl rfl rfl rfl (o1 rfl) rfl) (fun q2 c1 k1=>?_)
 refine Aa ?_
 exact C0 A0 _ _ ⟨rfl,rfl,rfl,rfl,trivial⟩ ⟨c1,k1⟩ h
 refine Am ?_
 exact C0 c0 _ _ ⟨rfl,rfl,rfl,rfl,trivial⟩ ⟨s0,AA _ _⟩ h
 refine AR rfl ?_
 have h:=x1 _ h
 try dsimp only at h
 refine Ae<|Ac (AE rfl (s0.memA .hd))<|Bu [vI c0,vI b0] s0 (.tl .hd) (onesB rfl) (fun s2 E0 Y1=>?_)
 refine Af rfl<|Aa<|Ao rfl<|AB hb0 Tryz.func18 rfl (.cons (.many (cs:=[vI c0,vI b0]) (by kernel_rfl) rfl (E0.memA (.tl .hd))) (.cons (.tmp rfl) .nil)) rfl ?_
 cases h
 exact E0.gv
 refine Ae<|Ac (Bh (vs:=[]) (u:=.agg #[vI 0,vI 0]) evs_nil (fun w9=>by kernel_rfl))<|Ab rfl<|Bu [vI 0,vI 0] G0 .hd (onesB rfl) (fun t2 F0 Z1=>?_)
 refine Af rfl<|Aa<|Ao rfl<|AB hb0 Tryz.func18 rfl (.cons (.many (cs:=[vI 0,vI 0]) (by kernel_rfl) rfl (F0.memA .hd)) (.cons (.tmp rfl) .nil)) rfl ?_
 cases h
 exact F0.gv
def wardmoteref23_Keeps_p (n:Nat) (a0:TRoll) (a1:List Int) (a2:Int) (a3:Int) (a4:Int):Option (Bool × Int):=
  (wardmoteref23_planned_p n a0 a1 a2 a3).bind fun b0=>(if b0 = 0 then (wardmoteref23_Units_p n a0 a3 a4).bind fun c0=>(if c0.length = 0 then some (false,(4:Int)) else (wardmoteref23_pieces_p n a0 a1 a2 a3 a4).bind fun d0=>some ((decide (d0 < 2)),(0:Int))) else some (false,b0))
theorem wardmoteref23_Keeps_c (n:Nat) (L:List Nat) (w:World) (hL:∀ b ∈ L,b < w.heap.size) (a0:TRoll) {v0_3:Value} (h0_3:Rep.R w L [v0_3] a0.fm) (a1:List Int) {v1_0:Value} (h1_0:Rep.R w L [v1_0] a1) (a2:Int) (a3:Int) (a4:Int)  {r:Bool × Int} (h:wardmoteref23_Keeps_p n a0 a1 a2 a3 a4 = some r) :
    Calls Tryz.prog 20 #[.agg #[vI a0.fe,vI a0.fc,vI a0.fh,v0_3],v1_0,vI a2,vI a3,vI a4] w (Gives w fun _ u=>u = .tuple #[.bool r.1,vI r.2]):=by
 unfold wardmoteref23_Keeps_p at h
 have hS0:=AD w
 refine AI Tryz.func20 rfl rfl rfl (fun _ cs0 hb0=>?_)
 refine Ae<|Az .plain rfl (AK hS0 rfl rfl) (fun E0 y0 b0 z0=>?_)
 refine Af rfl<|Af rfl<|Aa<|Aj<|Ae<|Ac (AE rfl (b0.memA .hd))<|Ab rfl<|Ab rfl<|Ab rfl ?_
 obtain ⟨j0,u0,h⟩:=bi h
 refine Bp (vI j0) body47 rfl (e4 rfl rfl rfl rfl) (fun w9 hw9=>wardmoteref23_planned_c n _ w9 (b0.hL0 hL hw9) a0 (b0.k0 h0_3 hw9) a1 (b0.k0 h1_0 hw9) a2 a3 u0) rfl<|Af rfl<|Aa<|Ae<|Ab rfl<|Ac (Bs (i:=j0) (j:=0) rfl rfl)<|Aa<|MX.ifn rfl h (fun q0 h=>?_) (fun q0 h=>?_)
 refine Am<|Aj<|Ae<|Ac (AE rfl (b0.memA .hd))<|Ab rfl<|Ab rfl ?_
 obtain ⟨d0,v0,h⟩:=bi h
 refine AQ (fst:=[]) (cap:=[]) .plain body53 rfl (e3 rfl rfl rfl) (fun w9 hw9=>wardmoteref23_Units_c n _ w9 (b0.hL hL hw9) a0 (b0.km h0_3 hw9) a3 a4 v0) rfl (fun F0 D0 t0 ⟨C0,hu_,g0⟩=>?_)
 subst hu_
 obtain ⟨c0,A0⟩:=b0.agr t0
 have B0:d0.length ≤ 281474976710656:=AO g0
 refine Ac (AZ (xs:=d0) Tryz.underlying32 rfl g0)<|Ac (BG (i:=d0.length) (j:=0) rfl rfl)<|Aa<|AM rfl h (fun s0 h=>?_) (fun s0 h=>?_)
 refine Ae<|Af rfl<|Af rfl<|Aa<|Ao rfl<|AB hb0 Tryz.func20 rfl (.cons (.tmp rfl) (.cons (.tmp rfl) .nil)) rfl ?_
 cases h
 exact c0.gv
 refine Am<|Ae<|Ac (AE rfl (c0.memA .hd))<|Ab rfl<|Ab rfl<|Ab rfl<|Ab rfl ?_
 obtain ⟨p0,x0,h⟩:=bi h
 refine Bp (vI p0) body49 rfl (e5 rfl rfl rfl rfl rfl) (fun w9 hw9=>wardmoteref23_pieces_c n _ w9 (c0.hL0 hL hw9) a0 (c0.k0 h0_3 hw9) a1 (c0.k0 h1_0 hw9) a2 a3 a4 x0) rfl<|Ac (FV.lss (i:=p0) (j:=2) rfl rfl)<|Af rfl<|Af rfl<|Aa<|Ao rfl<|AB hb0 Tryz.func20 rfl (.cons (.tmp rfl) (.cons (.tmp rfl) .nil)) rfl ?_
 cases h
 exact c0.gv
 refine Ae<|Ab rfl<|Af rfl<|Af rfl<|Aa<|Ao rfl<|AB hb0 Tryz.func20 rfl (.cons (.tmp rfl) (.cons (.tmp rfl) .nil)) rfl ?_
 cases h
 exact b0.gv
def tb3_5:List (Nat × Nat × Nat):=[(0,35184372088832,32768),(0,70368744177664,128),(0,140737488355328,8192),(4,281474976710656,140737488355328),(10,562949953421312,351843720888320),(0,1125899906842624,512),(0,2251799813685248,32768),(112,4503599627370496,3377699720527872),(0,9007199254740992,0),(401,18014398509481984,14108933207621632),(0,36028797018963968,0)]
theorem op_TRoll {w:World} {L:List Nat} {cs:List Value} {x:TRoll} (h:Rep.R w L cs x):∃ v3:Value,cs = [vI x.fe,vI x.fc,vI x.fh,v3]∧Rep.R w L [v3] x.fm:=by
  obtain ⟨c0,r0,rfl,h0,h⟩:=h
  have e0:c0 = [vI x.fe]:=h0; subst e0
  obtain ⟨c1,r1,rfl,h1,h⟩:=h
  have e1:c1 = [vI x.fc]:=h1; subst e1
  obtain ⟨c2,r2,rfl,h2,h⟩:=h
  have e2:c2 = [vI x.fh]:=h2; subst e2
  obtain ⟨v3,rfl,kv3⟩:=lst_one (xs:=x.fm) h
  exact ⟨v3,rfl,kv3⟩
theorem mk_TRoll {w:World} {L:List Nat} (a0:Int) (a1:Int) (a2:Int) (a3:List TUnit) {u3:Value} (h3:Rep.R w L [u3] a3):Rep.R w L [vI a0,vI a1,vI a2,u3] (⟨a0,a1,a2,a3⟩:TRoll):=⟨[vI a0],[vI a1,vI a2,u3],rfl,rfl,⟨[vI a1],[vI a2,u3],rfl,rfl,⟨[vI a2],[u3],rfl,rfl,h3⟩⟩⟩
theorem op_A44 {w:World} {L:List Nat} {cs:List Value} {x:Int × Int} (h:Rep.R w L cs x):cs = [vI x.1,vI x.2]:=by
  obtain ⟨c0,r0,rfl,h0,h⟩:=h
  have e0:c0 = [vI x.1]:=h0; subst e0
  have e1:r0 = [vI x.2]:=h; subst e1
  rfl
theorem mk_A44 {w:World} {L:List Nat} (a0:Int) (a1:Int):Rep.R w L [vI a0,vI a1] ((a0,a1):Int × Int):=⟨[vI a0],[vI a1],rfl,rfl,rfl⟩
theorem body9:bodyB Tryz.prog 9 = true:=by kernel_rfl
theorem body10:bodyB Tryz.prog 10 = true:=by kernel_rfl
theorem body11:bodyB Tryz.prog 11 = true:=by kernel_rfl
theorem body13:bodyB Tryz.prog 13 = true:=by kernel_rfl
theorem body14:bodyB Tryz.prog 14 = true:=by kernel_rfl
theorem body18:bodyB Tryz.prog 18 = true:=by kernel_rfl
theorem body20:bodyB Tryz.prog 20 = true:=by kernel_rfl
def wardmotelaw23_SplitPieces_l1 (n:Nat) (a5:Int) (a4:Int) (j0:TRoll) (g0:List Int) (d0:(List Int) × Int) (x0:Nat → Option ((Bool ⊕ Unit) ⊕ Unit)):Nat → Option ((Bool ⊕ Unit) ⊕ Unit)
  | k0=>(if k0 < 3 then (([((0:Int),(1:Int)),((1:Int),a5),(a4,a5)]:List (Int × Int))[k0]?).bind fun b0=>(split_Pieces_p n j0 g0 d0.2 b0.1).bind fun p0=>(wardmoteref23_Pieces_p n j0 g0 d0.2 b0.1).bind fun q0=>(split_Splits_p n j0 g0 d0.2 b0.1).bind fun s0=>(wardmoteref23_Splits_p n j0 g0 d0.2 b0.1).bind fun t0=>(split_Keeps_p n j0 g0 d0.2 b0.1 b0.2).bind fun u0=>(wardmoteref23_Keeps_p n j0 g0 d0.2 b0.1 b0.2).bind fun v0=>jn (fun y0=>(if y0 = true then some (.inl (.inl false)) else x0 (k0 + 1))) (fun c0=>(slices_Equal_int_int_p n p0.1 q0.1).bind fun z0=>(if z0 = true then (if p0.2 = q0.2 then (if s0.1 = t0.1 then (if s0.2 = t0.2 then (if (u0.1 == v0.1) = true then c0 (!(decide (u0.2 = v0.2))) else c0 true) else c0 true) else c0 true) else c0 true) else c0 true)) else some (.inr ()))
def wardmotelaw23_SplitPieces_l2 (n:Nat) (a5:Int) (a4:Int) (g0:TRoll) (b0:(List Int) × Int) (v0:Nat → Option ((Bool ⊕ Unit) ⊕ Unit)):Nat → Option ((Bool ⊕ Unit) ⊕ Unit)
  | j0=>(if j0 < 3 then (([((0:Int),(1:Int)),((1:Int),a5),(a4,a5)]:List (Int × Int))[j0]?).bind fun c0=>(split_Pieces_p n g0 b0.1 b0.2 c0.1).bind fun k0=>(wardmoteref23_Pieces_p n g0 b0.1 b0.2 c0.1).bind fun p0=>(split_Splits_p n g0 b0.1 b0.2 c0.1).bind fun q0=>(wardmoteref23_Splits_p n g0 b0.1 b0.2 c0.1).bind fun s0=>(split_Keeps_p n g0 b0.1 b0.2 c0.1 c0.2).bind fun t0=>(wardmoteref23_Keeps_p n g0 b0.1 b0.2 c0.1 c0.2).bind fun u0=>jn (fun x0=>(if x0 = true then some (.inl (.inl false)) else v0 (j0 + 1))) (fun d0=>(slices_Equal_int_int_p n k0.1 p0.1).bind fun y0=>(if y0 = true then (if k0.2 = p0.2 then (if q0.1 = s0.1 then (if q0.2 = s0.2 then (if (t0.1 == u0.1) = true then d0 (!(decide (t0.2 = u0.2))) else d0 true) else d0 true) else d0 true) else d0 true) else d0 true)) else some (.inr ()))
def wardmotelaw23_SplitPieces_l3 (n:Nat) (j0:TRoll) (p0:TRoll) (q0:TRoll) (a2:TBend) (c0:(List Int) × Int) (a5:Int) (a4:Int) (g0:Nat → Option (Bool ⊕ Unit)):Nat → Option (Bool ⊕ Unit)
  | b0=>(if b0 < 4 then (([j0,p0,q0,(⟨(0:Int),(0:Int),(0:Int),([]:List TUnit)⟩:TRoll)]:List TRoll)[b0]?).bind fun d0=>(wardmoteref21_Bend_Of_p n a2 c0.1).bind fun k0=>thn (loopF (wardmotelaw23_SplitPieces_l2 n a5 a4 d0 c0) n 0) (fun _=>thn (loopF (wardmotelaw23_SplitPieces_l1 n a5 a4 d0 k0 c0) n 0) (fun _=>g0 (b0 + 1))) else some (.inr ()))
def wardmotelaw23_SplitPieces_p (n:Nat) (a0:TDraft) (a1:TDraft26) (a2:TBend) (a3:TBend) (a4:Int) (a5:Int):Option Bool:=
  (wardmotelaw23_works_p n).bind fun d0=>(if d0 = true then (wardmoteref21_Draft_Loose_p n a0).bind fun b0=>(wardmoteref22_Draft_Full_p n a1 ((b0.1.length:Nat):Int)).bind fun c0=>(wardmoteref22_Draft_Roll_p n a1 ((b0.1.length:Nat):Int)).bind fun g0=>(wardmoteref22_Bend_Of_p n a3 c0).bind fun j0=>thn (loopF (wardmotelaw23_SplitPieces_l3 n c0 g0 j0 a2 b0 a5 a4) n 0) (fun _=>some true) else some false)
theorem wardmotelaw23_SplitPieces_c (n:Nat) (L:List Nat) (w:World) (hL:∀ b ∈ L,b < w.heap.size) (a0:TDraft) {v0_1:Value} (h0_1:Rep.R w L [v0_1] a0.fw) {v0_2:Value} (h0_2:Rep.R w L [v0_2] a0.fMore) {v0_3:Value} (h0_3:Rep.R w L [v0_3] a0.fE) (a1:TDraft26) {v1_4:Value} (h1_4:Rep.R w L [v1_4] a1.fF) (a2:TBend) (a3:TBend) (a4:Int) (a5:Int)  {r:Bool} (h:wardmotelaw23_SplitPieces_p n a0 a1 a2 a3 a4 a5 = some r) :
    Calls Tryz.prog 3 #[.agg #[.int .u8 (a0.fN.toNat:Int),v0_1,v0_2,v0_3,.int .u8 (a0.fK.toNat:Int)],.agg #[.int .u8 (a1.fe.toNat:Int),.int .u8 (a1.fc.toNat:Int),.int .u8 (a1.fh.toNat:Int),.int .u8 (a1.fo.toNat:Int),v1_4],.agg #[.int .u8 (a2.fB.toNat:Int),.int .u8 (a2.fAt.toNat:Int),vI a2.fN],.agg #[.int .u8 (a3.fB.toNat:Int),.int .u8 (a3.fAt.toNat:Int),vI a3.fN],vI a4,vI a5] w (Gives w fun _ u=>u = .bool r):=by
 unfold wardmotelaw23_SplitPieces_p at h
 have hS0:=AD w
 refine AI Tryz.func3 rfl rfl rfl (fun _ cs0 hb0=>?_)
 refine Ae<|Az .plain rfl (AK hS0 rfl rfl) (fun Z9 K8 F4 c9=>?_)
 refine Az .plain rfl (AK F4 rfl rfl) (fun w16 M8 G4 d9=>?_)
 refine Az .plain rfl (AK G4 rfl rfl) (fun w21 s0 H4 g9=>?_)
 refine Az .plain rfl (AK H4 rfl rfl) (fun w26 P8 R0 j9=>?_)
 refine Af rfl<|Aa<|Aj<|Ae ?_
 obtain ⟨y8,P7,h⟩:=bi h
 refine Bp (.bool y8) body9 rfl evs_nil (fun w9 hw9=>wardmotelaw23_works_c n _ w9 (R0.hL0 hL hw9)  P7) rfl<|Ac (Be rfl)<|Aa<|MX.ifnb rfl h (fun W3 h=>?_) (fun W3 h=>?_)
 refine Am<|Ae<|Ac (AE rfl (R0.memA (.tl (.tl (.tl .hd))))) ?_
 obtain ⟨j0,Q7,h⟩:=bi h
 refine AQ (fst:=[]) (cap:=[]) .plain body10 rfl (e1 rfl) (fun w9 hw9=>wardmoteref21_Draft_Loose_c n _ w9 (R0.hL hL hw9) a0 (R0.km h0_1 hw9) (R0.km h0_2 hw9) (R0.km h0_3 hw9) Q7) rfl (fun w33 H9 B5 ⟨u0,hu_,G0⟩=>?_)
 subst hu_
 obtain ⟨d1,k9⟩:=R0.agr B5
 refine Ab rfl<|Ac (Ak rfl rfl)<|Ac (Ak rfl rfl)<|Af rfl<|Af rfl<|Aa<|Ae<|Ac (AE rfl (d1.memA (.tl (.tl .hd))))<|Ab rfl ?_
 have s9:j0.1.length ≤ 281474976710656:=AO G0
 refine Ac (AZ (xs:=j0.1) Tryz.underlying33 rfl G0) ?_
 obtain ⟨d0,R7,h⟩:=bi h
 refine AQ (fst:=[]) (cap:=[]) .plain body11 rfl (e2 rfl rfl) (fun w9 hw9=>own_gives (b0:=w.heap.size) (wardmoteref22_Draft_Full_c n _ w9 (d1.hL hL hw9) a1 (d1.km h1_4 hw9) ((j0.1.length:Nat):Int) R7) hw9 (Nat.le_trans d1.ag.size hw9.size)) rfl (fun w42 I9 p9 ⟨H0,k4,v7,y3,G5⟩=>?_)
 subst v7
 have P2:=own_push d1 y3
 have D1:=own_tr d1 y3
 have H5:=Av (cs:=k4) (xs:=(d0.fm:List TUnit)) P2 L (own_cells G5)
 refine Az .plain rfl (Ba [vI 0,vI 0,vI 0,vN] P2) (fun w55 Q8 Q2 p1=>?_)
 refine Bu [vI d0.fe,vI d0.fc,vI d0.fh,H0] Q2 .hd (o4 rfl rfl rfl (St.o1 (α:=TUnit) Q2 (.tl .hd))) (fun w59 J0 q1=>?_)
 refine Aa<|Aj<|Aj<|dt 11 tb3_5 (fun y0 P0=>?_)
 refine AV 0 1 512 y0 rfl P0 (AE rfl (J0.memA .hd)) rfl<|AV 1 3 656 y0 rfl P0 (AE rfl (J0.memA (.tl (.tl (.tl (.tl .hd)))))) rfl<|Ai 2 7 y0 rfl P0 (fun _=>Ah rfl) rfl ?_
 have s3:=Tt D1 (Tt p1 q1)
 have p6:=Aw G0 s3
 refine AV 3 15 656 y0 rfl P0 (AZ (xs:=j0.1) Tryz.underlying33 rfl p6) rfl<|AV 5 47 640 y0 rfl P0 (AE rfl (J0.memA (.tl (.tl .hd)))) rfl<|AV 6 111 640 y0 rfl P0 (AE rfl (J0.memA .hd)) rfl<|Ai 8 367 y0 rfl P0 (fun _=>Bh (vs:=[]) (u:=.agg #[vI 0,vI 0,vI 0,vN]) evs_nil (fun w9=>by kernel_rfl)) rfl<|Ai 10 1391 y0 rfl P0 (fun _=>Ah rfl) rfl ?_
 obtain ⟨g0,V7,h⟩:=bi h
 refine RD.cl 4 1407 y0 rfl .plain body12 rfl (e2 rfl rfl) (fun w9 hw9=>own_gives (b0:=w.heap.size) (wardmoteref22_Draft_Roll_c n _ w9 (J0.hL hL hw9) a1 (J0.km h1_4 hw9) ((j0.1.length:Nat):Int) V7) hw9 (Nat.le_trans J0.ag.size hw9.size)) rfl (fun w67 J9 q9 ⟨Q0,p4,x7,z3,I5⟩=>?_)
 subst x7
 have R1:=own_push J0 z3
 have s1:=own_tr J0 z3
 have J5:=Av (cs:=p4) (xs:=(g0.fm:List TUnit)) R1 L (own_cells I5)
 have U6:=Tt p1 (Tt q1 s1)
 have B6:=Ap H5 U6
 have s7:=AU (α:=TUnit) R1 (.tl (.tl .hd)) B6 hL
 have u2:=Bk R1 (.tl (.tl .hd))
 have u1:=Bl R1 (.tl (.tl .hd))
 have E2:=Bm (α:=TUnit) (v:=H0) (xs:=d0.fm) u2 L s7
 obtain ⟨k0,W7,h⟩:=bi h
 refine RD.cl 7 1535 y0 rfl .plain body13 rfl (e2 rfl rfl) (fun w9 hw9=>wardmoteref22_Bend_Of_c n _ w9 (u2.hL hL hw9) a3 d0 (AH E2 hw9) W7) rfl (fun v8 P9 F5 ⟨W0,hu_,x3⟩=>?_)
 subst hu_
 obtain ⟨W1,V0⟩:=u2.agr F5
 have E6:=Aw E2 V0
 obtain ⟨D8,W8,E7,_⟩:=Rep.sl E6
 obtain ⟨E8,X8,K5⟩:=St.rowV (α:=TUnit) W1 .hd
 obtain ⟨A8,R8,z7,_⟩:=Rep.sl x3
 refine Ai 9 2047 y0 rfl P0 (fun _=>Bh (vs:=[.agg #[vI d0.fe,vI d0.fc,vI d0.fh,H0],.agg #[vI g0.fe,vI g0.fc,vI g0.fh,Q0],.agg #[vI k0.fe,vI k0.fc,vI k0.fh,W0],.agg #[vI 0,vI 0,vI 0,vN]]) (u:=.agg #[vI d0.fe,vI d0.fc,vI d0.fh,H0,vI g0.fe,vI g0.fc,vI g0.fh,Q0,vI k0.fe,vI k0.fc,vI k0.fh,W0,vI 0,vI 0,vI 0,vN]) (e4 rfl rfl rfl rfl) (fun w9=>by rw [E7,K5,z7]; try kernel_rfl)) rfl<|AX (dk y0)<|Au ?_
 have W5:=Ap J5 (Tt u1 V0)
 have c7:=AU (α:=TUnit) W1 .hd W5 hL
 have K2:=Bk W1 .hd
 have k1:=Bl W1 .hd
 have j7:=Bm (α:=TUnit) (v:=Q0) (xs:=g0.fm) K2 L c7
 obtain ⟨I4,X0⟩:=Ay K2 (.one (.tl (.tl .hd)) .done)
 obtain ⟨u9,G6,z2⟩:=thn_in h
 refine AW (α:=Nat) (fun x0=>[(4,vI a4),(5,vI a5),(8,vP s0),(13,u0),(14,vI j0.2),(55,vI ((x0:Nat):Int)),(54,.agg #[vI d0.fe,vI d0.fc,vI d0.fh,H0,vI g0.fe,vI g0.fc,vI g0.fh,Q0,vI k0.fe,vI k0.fc,vI k0.fh,W0,vI 0,vI 0,vI 0,vN])]) (fun x0 H2=>St w H2 [.cells s0 [.int .u8 (a2.fB.toNat:Int),.int .u8 (a2.fAt.toNat:Int),vI a2.fN] 29]∧Tr v8 [.cells s0 [.int .u8 (a2.fB.toNat:Int),.int .u8 (a2.fAt.toNat:Int),vI a2.fN] 29] H2 [.cells s0 [.int .u8 (a2.fB.toNat:Int),.int .u8 (a2.fAt.toNat:Int),vI a2.fN] 29]) (fun x0=>x0) 0 G6 ⟨rfl,rfl,rfl,rfl,rfl,rfl,rfl,trivial⟩ ⟨I4,AA _ _⟩ ?_
 rintro H8 x0 H2 s4 ⟨s2,U0⟩ h
 unfold wardmotelaw23_SplitPieces_l3 at h
 try dsimp only at h
 refine Ae<|Ac (Bg (i:=x0) (j:=4) rfl rfl)<|Aa<|Aj<|AM rfl h (fun X3 h=>?_) (fun X3 h=>?_)
 refine Am<|Aj<|Au<|Ae ?_
 have k7:=Bt (α:=TUnit) s2 L
 obtain ⟨c0,k8,h⟩:=bi h
 have q3:=Tt k1 (Tt X0 U0)
 have c6:=Aw x3 q3
 have d6:=Aw j7 (Tt X0 U0)
 have g6:=Aw E2 (Tt V0 q3)
 refine RG.valE .plain rfl (FV.idxR (css:=[[vI d0.fe,vI d0.fc,vI d0.fh,H0],[vI g0.fe,vI g0.fc,vI g0.fh,Q0],[vI k0.fe,vI k0.fc,vI k0.fh,W0],[vI 0,vI 0,vI 0,vN]]) (xs:=([d0,g0,k0,(⟨(0:Int),(0:Int),(0:Int),([]:List TUnit)⟩:TRoll)]:List TRoll)) (len:=4) (by kernel_rfl) (by kernel_rfl) rfl rfl rfl rfl rfl (.cons (mk_TRoll d0.fe d0.fc d0.fh d0.fm g6) (.cons (mk_TRoll g0.fe g0.fc g0.fh g0.fm d6) (.cons (mk_TRoll k0.fe k0.fc k0.fh k0.fm c6) (.cons (mk_TRoll (0:Int) (0:Int) (0:Int) ([]:List TUnit) k7) .nil)))) k8) (fun A9 ⟨Z8,A7,p7⟩=>?_)
 subst A7
 obtain ⟨v0,rfl,B0⟩:=op_TRoll p7
 refine Az .plain rfl (Ba [vI 0,vI 0,vI 0,vN] s2) (fun q00 t0 J4 E1=>?_)
 have j6:=Aw B0 E1
 refine Bu [vI c0.fe,vI c0.fc,vI c0.fh,v0] J4 .hd (o4 rfl rfl rfl (BI j6)) (fun s00 t2 Z1=>?_)
 refine Aa<|Ae<|Ab rfl<|Ac (AE rfl (t2.memA (.tl .hd)))<|Ab rfl ?_
 obtain ⟨x1,U7,h⟩:=bi h
 have t3:=Tt s3 (Tt s1 (Tt u1 (Tt V0 (Tt k1 (Tt X0 (Tt U0 (Tt E1 Z1)))))))
 have k6:=Aw G0 t3
 refine AQ (fst:=[]) (cap:=[]) .plain body14 rfl (e2 rfl rfl) (fun w9 hw9=>wardmoteref21_Bend_Of_c n _ w9 (t2.hL hL hw9) a2 j0.1 (AH k6 hw9) U7) rfl (fun s8 I0 C5 ⟨B9,hu_,v1⟩=>?_)
 subst hu_
 obtain ⟨K4,b2⟩:=t2.agr C5
 have q6:=Aw G0 (Tt t3 b2)
 obtain ⟨B8,U8,B7,_⟩:=Rep.sl q6
 obtain ⟨C8,V8,C7,_⟩:=Rep.sl v1
 refine Ac (Bh (vs:=[u0,I0]) (u:=.agg #[u0,I0]) (e2 rfl rfl) (fun w9=>by rw [B7,C7]; try kernel_rfl))<|Ab rfl<|Aa<|Au<|MX.loop1<|Ae<|Ac (Bg (i:=0) (j:=2) rfl rfl)<|Aa<|Aj<|Bq rfl<|Am<|Aj<|Au<|Ae<|Ac (FV.idx1 (cs:=[u0,I0]) (k:=0) (m:=1) (len:=2) (by kernel_rfl) (by kernel_rfl) rfl rfl rfl (by omega) rfl)<|Af rfl<|Aa<|Ae<|Ac (Bh (vs:=[vI 0,vI 1]) (u:=.agg #[vI 0,vI 1]) (e2 rfl rfl) (fun w9=>by kernel_rfl))<|Ab rfl<|Ac (Bh (vs:=[vI 1,vI a5]) (u:=.agg #[vI 1,vI a5]) (e2 rfl rfl) (fun w9=>by kernel_rfl))<|Ab rfl<|Ab rfl<|Ac (Bh (vs:=[vI a4,vI a5]) (u:=.agg #[vI a4,vI a5]) (e2 rfl rfl) (fun w9=>by kernel_rfl)) ?_
 refine Ac (Bh (vs:=[.agg #[vI 0,vI 1],.agg #[vI 1,vI a5],.agg #[vI a4,vI a5]]) (u:=.agg #[vI 0,vI 1,vI 1,vI a5,vI a4,vI a5]) (e3 rfl rfl rfl) (fun w9=>by kernel_rfl))<|Ab rfl<|Aa<|Au ?_
 obtain ⟨v9,H6,Y2⟩:=thn_in h
 refine AW (α:=Nat) (fun M0=>[(4,vI a4),(5,vI a5),(8,vP s0),(13,u0),(14,vI j0.2),(55,vI ((x0:Nat):Int)),(54,.agg #[vI d0.fe,vI d0.fc,vI d0.fh,H0,vI g0.fe,vI g0.fc,vI g0.fh,Q0,vI k0.fe,vI k0.fc,vI k0.fh,W0,vI 0,vI 0,vI 0,vN]),(17,vP t0),(62,.agg #[u0,I0]),(63,vI 0),(19,u0),(72,.agg #[vI 0,vI 1,vI 1,vI a5,vI a4,vI a5]),(73,vI ((M0:Nat):Int))]) (fun M0 q2=>St w q2 [.cells t0 [vI c0.fe,vI c0.fc,vI c0.fh,v0] 38,.cells s0 [.int .u8 (a2.fB.toNat:Int),.int .u8 (a2.fAt.toNat:Int),vI a2.fN] 29]∧Tr s8 [.cells t0 [vI c0.fe,vI c0.fc,vI c0.fh,v0] 38,.cells s0 [.int .u8 (a2.fB.toNat:Int),.int .u8 (a2.fAt.toNat:Int),vI a2.fN] 29] q2 [.cells t0 [vI c0.fe,vI c0.fc,vI c0.fh,v0] 38,.cells s0 [.int .u8 (a2.fB.toNat:Int),.int .u8 (a2.fAt.toNat:Int),vI a2.fN] 29]) (fun M0=>M0) 0 H6 ⟨rfl,rfl,rfl,rfl,rfl,rfl,rfl,rfl,rfl,rfl,rfl,rfl,rfl,trivial⟩ ⟨K4,AA _ _⟩ ?_
 rintro I8 M0 q2 t4 ⟨R2,F1⟩ h
 unfold wardmotelaw23_SplitPieces_l2 at h
 try dsimp only at h
 refine Ae<|Ac (Bg (i:=M0) (j:=3) rfl rfl)<|Aa<|Aj<|AM rfl h (fun Y3 h=>?_) (fun Y3 h=>?_)
 refine Am<|Aj<|Au<|Ae ?_
 obtain ⟨A0,p8,h⟩:=bi h
 refine RG.valE .plain rfl (FV.idxR (L:=[]) (css:=[[vI 0,vI 1],[vI 1,vI a5],[vI a4,vI a5]]) (xs:=([((0:Int),(1:Int)),((1:Int),a5),(a4,a5)]:List (Int × Int))) (len:=3) (by kernel_rfl) (by kernel_rfl) rfl rfl rfl rfl rfl (.cons (mk_A44 (0:Int) (1:Int)) (.cons (mk_A44 (1:Int) a5) (.cons (mk_A44 a4 a5) .nil))) p8) (fun C9 ⟨b9,D7,q7⟩=>?_)
 subst D7
 obtain rfl:=op_A44 q7
 refine Az .plain rfl (Ba [vI 0,vI 0] R2) (fun u00 H3 M4 V2=>?_)
 refine Bu [vI A0.1,vI A0.2] M4 .hd (onesB rfl) (fun v00 U1 W2=>?_)
 refine Aa<|Ae<|Ac (AE rfl (U1.memA (.tl .hd)))<|Ab rfl<|Ab rfl<|Ac (Bj (m:=1) (k:=0) (len:=2) (by kernel_rfl) rfl rfl rfl (by omega))<|AN rfl ((U1.memA .hd) 0 _ rfl) ?_
 obtain ⟨C3,X7,h⟩:=bi h
 have p2:=Tt E1 (Tt Z1 (Tt b2 (Tt F1 (Tt V2 W2))))
 have s6:=Aw B0 p2
 have u3:=Tt D1 (Tt p1 (Tt q1 (Tt s1 (Tt u1 (Tt V0 (Tt k1 (Tt X0 (Tt U0 p2))))))))
 have t6:=Aw G0 u3
 refine AQ (fst:=[]) (cap:=[]) .plain body15 rfl (e4 rfl rfl rfl rfl) (fun w9 hw9=>split_Pieces_c n _ w9 (U1.hL hL hw9) c0 (AH s6 hw9) j0.1 (AH t6 hw9) j0.2 A0.1 X7) rfl (fun x00 K9 D5 ⟨D9,hu_,t7⟩=>?_)
 subst hu_
 obtain ⟨V1,c2⟩:=U1.agr D5
 refine Ab rfl<|Ac (Ak rfl rfl)<|Ac (Ak rfl rfl)<|Af rfl<|Af rfl<|Aa<|Ae<|Ac (AE rfl (V1.memA (.tl .hd)))<|Ab rfl<|Ab rfl<|Ac (Bj (m:=1) (k:=0) (len:=2) (by kernel_rfl) rfl rfl rfl (by omega))<|AN rfl ((V1.memA .hd) 0 _ rfl) ?_
 obtain ⟨D3,Y7,h⟩:=bi h
 have u6:=Aw B0 (Tt p2 c2)
 have v6:=Aw G0 (Tt u3 c2)
 refine AQ (fst:=[]) (cap:=[]) .plain body16 rfl (e4 rfl rfl rfl rfl) (fun w9 hw9=>wardmoteref23_Pieces_c n _ w9 (V1.hL hL hw9) c0 (AH u6 hw9) j0.1 (AH v6 hw9) j0.2 A0.1 Y7) rfl (fun y00 M9 E5 ⟨E9,hu_,u7⟩=>?_)
 subst hu_
 obtain ⟨g1,y2⟩:=V1.agr E5
 refine Ab rfl<|Ac (Ak rfl rfl)<|Ac (Ak rfl rfl)<|Af rfl<|Af rfl<|Aa<|Ae<|Ac (AE rfl (g1.memA (.tl .hd)))<|Ab rfl<|Ab rfl<|Ac (Bj (m:=1) (k:=0) (len:=2) (by kernel_rfl) rfl rfl rfl (by omega))<|AN rfl ((g1.memA .hd) 0 _ rfl) ?_
 obtain ⟨E0,Z7,h⟩:=bi h
 have C2:=Tt p2 (Tt c2 y2)
 have x6:=Aw B0 C2
 have R6:=Tt D1 (Tt p1 (Tt q1 (Tt s1 (Tt u1 (Tt V0 (Tt k1 (Tt X0 (Tt U0 C2))))))))
 have y6:=Aw G0 R6
 refine Bp (.tuple #[.agg #[vI E0.1.fx,vI E0.1.fv],vI E0.2]) body17 rfl (e4 rfl rfl rfl rfl) (fun w9 hw9=>split_Splits_c n _ w9 (g1.hL0 hL hw9) c0 (g1.kd x6 hw9) j0.1 (g1.kd y6 hw9) j0.2 A0.1 Z7) rfl<|Ab rfl<|Ac (Ak rfl rfl)<|Ac (Ak rfl rfl)<|Az .plain rfl (Ba [vI 0,vI 0] g1) (fun z00 I3 P4 d2=>?_)
 refine Bu [vI E0.1.fx,vI E0.1.fv] P4 .hd (onesB rfl) (fun A00 j1 g2=>?_)
 refine Af rfl<|Aa<|Ae<|Ac (AE rfl (j1.memA (.tl (.tl .hd))))<|Ab rfl<|Ab rfl<|Ac (Bj (m:=1) (k:=0) (len:=2) (by kernel_rfl) rfl rfl rfl (by omega))<|AN rfl ((j1.memA (.tl .hd)) 0 _ rfl) ?_
 obtain ⟨F0,b8,h⟩:=bi h
 have D2:=Tt C2 (Tt d2 g2)
 have z6:=Aw B0 D2
 have V6:=Tt D1 (Tt p1 (Tt q1 (Tt s1 (Tt u1 (Tt V0 (Tt k1 (Tt X0 (Tt U0 D2))))))))
 have A6:=Aw G0 V6
 refine Bp (.tuple #[.agg #[vI F0.1.fx,vI F0.1.fv],vI F0.2]) body18 rfl (e4 rfl rfl rfl rfl) (fun w9 hw9=>wardmoteref23_Splits_c n _ w9 (j1.hL0 hL hw9) c0 (j1.kd z6 hw9) j0.1 (j1.kd A6 hw9) j0.2 A0.1 b8) rfl<|Ab rfl<|Ac (Ak rfl rfl)<|Ac (Ak rfl rfl)<|Az .plain rfl (Ba [vI 0,vI 0] j1) (fun B00 J3 Q4 j2=>?_)
 refine Bu [vI F0.1.fx,vI F0.1.fv] Q4 .hd (onesB rfl) (fun t8 q0 k2=>?_)
 refine Af rfl<|Aa<|Ae<|Ac (AE rfl (q0.memA (.tl (.tl (.tl .hd)))))<|Ab rfl<|Ab rfl<|Ac (Bj (m:=1) (k:=0) (len:=2) (by kernel_rfl) rfl rfl rfl (by omega))<|AN rfl ((q0.memA (.tl (.tl .hd))) 0 _ rfl)<|Ac (Bj (m:=1) (k:=1) (len:=2) (by kernel_rfl) rfl rfl rfl (by omega))<|AN rfl ((q0.memA (.tl (.tl .hd))) 1 _ rfl) ?_
 obtain ⟨K1,c8,h⟩:=bi h
 have v3:=Tt D2 (Tt j2 k2)
 have c3:=Aw B0 v3
 have W6:=Tt D1 (Tt p1 (Tt q1 (Tt s1 (Tt u1 (Tt V0 (Tt k1 (Tt X0 (Tt U0 v3))))))))
 have d3:=Aw G0 W6
 refine Bp (.tuple #[.bool K1.1,vI K1.2]) body19 rfl (e5 rfl rfl rfl rfl rfl) (fun w9 hw9=>split_Keeps_c n _ w9 (q0.hL0 hL hw9) c0 (q0.kd c3 hw9) j0.1 (q0.kd d3 hw9) j0.2 A0.1 A0.2 c8) rfl<|Ab rfl<|Ac (Ak rfl rfl)<|Ac (Ak rfl rfl)<|Af rfl<|Af rfl<|Aa<|Ae<|Ac (AE rfl (q0.memA (.tl (.tl (.tl .hd)))))<|Ab rfl<|Ab rfl<|Ac (Bj (m:=1) (k:=0) (len:=2) (by kernel_rfl) rfl rfl rfl (by omega))<|AN rfl ((q0.memA (.tl (.tl .hd))) 0 _ rfl)<|Ac (Bj (m:=1) (k:=1) (len:=2) (by kernel_rfl) rfl rfl rfl (by omega))<|AN rfl ((q0.memA (.tl (.tl .hd))) 1 _ rfl) ?_
 obtain ⟨M1,d8,h⟩:=bi h
 refine Bp (.tuple #[.bool M1.1,vI M1.2]) body20 rfl (e5 rfl rfl rfl rfl rfl) (fun w9 hw9=>wardmoteref23_Keeps_c n _ w9 (q0.hL0 hL hw9) c0 (q0.kd c3 hw9) j0.1 (q0.kd d3 hw9) j0.2 A0.1 A0.2 d8) rfl<|Ab rfl<|Ac (Ak rfl rfl)<|Ac (Ak rfl rfl)<|Af rfl<|Af rfl<|Aa<|Aj<|MX.join (α:=Bool) (fun H1=>[(4,vI a4),(5,vI a5),(8,vP s0),(13,u0),(14,vI j0.2),(55,vI ((x0:Nat):Int)),(54,.agg #[vI d0.fe,vI d0.fc,vI d0.fh,H0,vI g0.fe,vI g0.fc,vI g0.fh,Q0,vI k0.fe,vI k0.fc,vI k0.fh,W0,vI 0,vI 0,vI 0,vN]),(17,vP t0),(62,.agg #[u0,I0]),(63,vI 0),(19,u0),(72,.agg #[vI 0,vI 1,vI 1,vI a5,vI a4,vI a5]),(73,vI ((M0:Nat):Int)),(162,.bool H1)]) (fun H1 I2=>St w I2 [.cells t0 [vI c0.fe,vI c0.fc,vI c0.fh,v0] 38,.cells s0 [.int .u8 (a2.fB.toNat:Int),.int .u8 (a2.fAt.toNat:Int),vI a2.fN] 29]∧Tr t8 [.cells J3 [vI F0.1.fx,vI F0.1.fv] 50,.cells I3 [vI E0.1.fx,vI E0.1.fv] 50,.cells H3 [vI A0.1,vI A0.2] 44,.cells t0 [vI c0.fe,vI c0.fc,vI c0.fh,v0] 38,.cells s0 [.int .u8 (a2.fB.toNat:Int),.int .u8 (a2.fAt.toNat:Int),vI a2.fN] 29] I2 [.cells t0 [vI c0.fe,vI c0.fc,vI c0.fh,v0] 38,.cells s0 [.int .u8 (a2.fB.toNat:Int),.int .u8 (a2.fAt.toNat:Int),vI a2.fN] 29]) (fun H1=>H1) h ?_ ?_
 rintro H1 I2 ⟨U2,q5⟩ h
 try dsimp only at h
 refine MX.ifb rfl h (fun Z3 h=>?_) (fun Z3 h=>?_)
 refine Ae<|Af rfl<|Aa ?_
 have h:=thn_inl h Y2
 have h:=thn_inl h z2
 refine Ao rfl<|AL hb0 Tryz.func3 rfl rfl ?_
 cases h
 exact U2.gv
 refine Am<|Aq<|Al<|Ac (AT (i:=M0) (j:=1) rfl rfl (by omega))<|Ab rfl<|Aa ?_
 have X6:=Tt V2 (Tt W2 (Tt c2 (Tt y2 (Tt d2 (Tt g2 (Tt j2 (Tt k2 q5)))))))
 exact t4 (M0 + 1) _ _ ⟨rfl,rfl,rfl,rfl,rfl,rfl,rfl,rfl,rfl,rfl,rfl,rfl,rfl,trivial⟩ ⟨U2,(Tt F1 X6)⟩ h
 intro J8 Z0 h
 try dsimp only at h
 refine Al<|Ab rfl<|Ab rfl ?_
 obtain ⟨z8,g8,h⟩:=bi h
 have Y6:=Tt y2 (Tt d2 (Tt g2 (Tt j2 k2)))
 have C6:=Aw t7 Y6
 have Z6:=Tt d2 (Tt g2 (Tt j2 k2))
 have D6:=Aw u7 Z6
 refine Bp (.bool z8) body21 rfl (e2 rfl rfl) (fun w9 hw9=>slices_Equal_int_int_c n _ w9 (q0.hL0 hL hw9) C3.1 (q0.kd C6 hw9) D3.1 (q0.kd D6 hw9) g8) rfl<|Ac (Be rfl)<|Ab rfl<|RG.ifnb (s:=138) rfl h (fun b4 h=>?_) (fun b4 h=>?_)
 refine Ar (Ah rfl)<|Ar (Ah rfl)<|Ar (Bs (i:=C3.2) (j:=D3.2) rfl rfl)<|Bd rfl rfl<|Ab rfl<|RG.ifn (s:=143) rfl h (fun c4 h=>?_) (fun c4 h=>?_)
 refine Ar (AE rfl (q0.memA (.tl .hd)))<|Ar (AE rfl (q0.memA .hd))<|Ar (FV.neqV (xs:=([vI E0.1.fx,vI E0.1.fv]).toArray) (ys:=([vI F0.1.fx,vI F0.1.fv]).toArray) rfl rfl (by kernel_rfl) (eqlD_50 E0.1 F0.1))<|Bd rfl rfl<|Ab rfl<|RG.ifn (s:=148) rfl h (fun d4 h=>?_) (fun d4 h=>?_)
 refine Ar (Ah rfl)<|Ar (Ah rfl)<|Ar (Bs (i:=E0.2) (j:=F0.2) rfl rfl)<|Bd rfl rfl<|Ab rfl<|RG.ifn (s:=153) rfl h (fun g4 h=>?_) (fun g4 h=>?_)
 refine Ar (Ah rfl)<|Ar (Ah rfl)<|Ar (FV.neqB (a:=K1.1) (b:=M1.1) Tryz.underlying4 rfl rfl)<|Bd rfl rfl<|Ab rfl<|RG.ifnb (s:=158) rfl h (fun j4 h=>?_) (fun j4 h=>?_)
 refine Ar (Ah rfl)<|Ar (Ah rfl)<|Ar (Bs (i:=K1.2) (j:=M1.2) rfl rfl)<|Bd rfl rfl<|Aa ?_
 obtain ⟨R4,s5⟩:=Ay q0 (.one (.tl (.tl (.tl .hd))) (.one (.tl (.tl (.tl .hd))) .done))
 exact Z0 (!(decide (K1.2 = M1.2))) _ _ ⟨rfl,rfl,rfl,rfl,rfl,rfl,rfl,rfl,rfl,rfl,rfl,rfl,rfl,rfl,trivial⟩ ⟨R4,s5⟩ h
 refine Ag<|Ag<|Ag<|AG rfl rfl<|Aa ?_
 obtain ⟨U4,t5⟩:=Ay q0 (.one (.tl (.tl (.tl .hd))) (.one (.tl (.tl (.tl .hd))) .done))
 exact Z0 true _ _ ⟨rfl,rfl,rfl,rfl,rfl,rfl,rfl,rfl,rfl,rfl,rfl,rfl,rfl,rfl,trivial⟩ ⟨U4,t5⟩ h
 refine Ag<|Ag<|Ag<|AG rfl rfl<|Ab rfl<|Ag<|Ag<|Ag<|AG rfl rfl<|Aa ?_
 obtain ⟨V4,u5⟩:=Ay q0 (.one (.tl (.tl (.tl .hd))) (.one (.tl (.tl (.tl .hd))) .done))
 exact Z0 true _ _ ⟨rfl,rfl,rfl,rfl,rfl,rfl,rfl,rfl,rfl,rfl,rfl,rfl,rfl,rfl,trivial⟩ ⟨V4,u5⟩ h
 refine Ag<|Ag<|Ag<|AG rfl rfl<|Ab rfl<|Ag<|Ag<|Ag<|AG rfl rfl<|Ab rfl<|Ag<|Ag<|Ag<|AG rfl rfl<|Aa ?_
 obtain ⟨W4,v5⟩:=Ay q0 (.one (.tl (.tl (.tl .hd))) (.one (.tl (.tl (.tl .hd))) .done))
 exact Z0 true _ _ ⟨rfl,rfl,rfl,rfl,rfl,rfl,rfl,rfl,rfl,rfl,rfl,rfl,rfl,rfl,trivial⟩ ⟨W4,v5⟩ h
 refine Ag<|Ag<|Ag<|AG rfl rfl<|Ab rfl<|Ag<|Ag<|Ag<|AG rfl rfl<|Ab rfl<|Ag<|Ag<|Ag<|AG rfl rfl<|Ab rfl<|Ag<|Ag<|Ag<|AG rfl rfl<|Aa ?_
 obtain ⟨X4,x5⟩:=Ay q0 (.one (.tl (.tl (.tl .hd))) (.one (.tl (.tl (.tl .hd))) .done))
 exact Z0 true _ _ ⟨rfl,rfl,rfl,rfl,rfl,rfl,rfl,rfl,rfl,rfl,rfl,rfl,rfl,rfl,trivial⟩ ⟨X4,x5⟩ h
 refine Ag<|Ag<|Ag<|AG rfl rfl<|Ab rfl<|Ag<|Ag<|Ag<|AG rfl rfl<|Ab rfl<|Ag<|Ag<|Ag<|AG rfl rfl<|Ab rfl<|Ag<|Ag<|Ag<|AG rfl rfl<|Ab rfl<|Ag<|Ag<|Ag<|AG rfl rfl ?_
 refine Aa ?_
 obtain ⟨Y4,y5⟩:=Ay q0 (.one (.tl (.tl (.tl .hd))) (.one (.tl (.tl (.tl .hd))) .done))
 exact Z0 true _ _ ⟨rfl,rfl,rfl,rfl,rfl,rfl,rfl,rfl,rfl,rfl,rfl,rfl,rfl,rfl,trivial⟩ ⟨Y4,y5⟩ h
 refine AR rfl ?_
 have h:=thn_inr h Y2
 try dsimp only at h
 refine Aq<|Al<|Ac (FV.add (i:=0) (j:=1) (r:=1) rfl rfl (by decide))<|Ab rfl<|Aa<|MX.again1<|Ae<|Ac (Bg (i:=1) (j:=2) rfl rfl)<|Aa<|Aj<|Bq rfl<|Am<|Aj<|Au<|Ae<|Ac (FV.idx1 (cs:=[u0,I0]) (k:=1) (m:=1) (len:=2) (by kernel_rfl) (by kernel_rfl) rfl rfl rfl (by omega) rfl)<|Af rfl<|Aa<|Ae<|Ac (Bh (vs:=[vI 0,vI 1]) (u:=.agg #[vI 0,vI 1]) (e2 rfl rfl) (fun w9=>by kernel_rfl))<|Ab rfl<|Ac (Bh (vs:=[vI 1,vI a5]) (u:=.agg #[vI 1,vI a5]) (e2 rfl rfl) (fun w9=>by kernel_rfl))<|Ab rfl<|Ab rfl ?_
 refine Ac (Bh (vs:=[vI a4,vI a5]) (u:=.agg #[vI a4,vI a5]) (e2 rfl rfl) (fun w9=>by kernel_rfl))<|Ac (Bh (vs:=[.agg #[vI 0,vI 1],.agg #[vI 1,vI a5],.agg #[vI a4,vI a5]]) (u:=.agg #[vI 0,vI 1,vI 1,vI a5,vI a4,vI a5]) (e3 rfl rfl rfl) (fun w9=>by kernel_rfl))<|Ab rfl<|Aa<|Au ?_
 obtain ⟨t9,F6,X2⟩:=thn_in h
 refine AW (α:=Nat) (fun K0=>[(4,vI a4),(5,vI a5),(8,vP s0),(13,u0),(14,vI j0.2),(55,vI ((x0:Nat):Int)),(54,.agg #[vI d0.fe,vI d0.fc,vI d0.fh,H0,vI g0.fe,vI g0.fc,vI g0.fh,Q0,vI k0.fe,vI k0.fc,vI k0.fh,W0,vI 0,vI 0,vI 0,vN]),(17,vP t0),(62,.agg #[u0,I0]),(63,vI 1),(19,I0),(72,.agg #[vI 0,vI 1,vI 1,vI a5,vI a4,vI a5]),(73,vI ((K0:Nat):Int))]) (fun K0 F2=>St w F2 [.cells t0 [vI c0.fe,vI c0.fc,vI c0.fh,v0] 38,.cells s0 [.int .u8 (a2.fB.toNat:Int),.int .u8 (a2.fAt.toNat:Int),vI a2.fN] 29]∧Tr q2 [.cells t0 [vI c0.fe,vI c0.fc,vI c0.fh,v0] 38,.cells s0 [.int .u8 (a2.fB.toNat:Int),.int .u8 (a2.fAt.toNat:Int),vI a2.fN] 29] F2 [.cells t0 [vI c0.fe,vI c0.fc,vI c0.fh,v0] 38,.cells s0 [.int .u8 (a2.fB.toNat:Int),.int .u8 (a2.fAt.toNat:Int),vI a2.fN] 29]) (fun K0=>K0) 0 F6 ⟨rfl,rfl,rfl,rfl,rfl,rfl,rfl,rfl,rfl,rfl,rfl,rfl,rfl,trivial⟩ ⟨R2,AA _ _⟩ ?_
 rintro F8 K0 F2 q4 ⟨J2,X1⟩ h
 unfold wardmotelaw23_SplitPieces_l1 at h
 try dsimp only at h
 refine Ae<|Ac (Bg (i:=K0) (j:=3) rfl rfl)<|Aa<|Aj<|AM rfl h (fun K3 h=>?_) (fun K3 h=>?_)
 refine Am<|Aj<|Au<|Ae ?_
 obtain ⟨z0,j8,h⟩:=bi h
 refine RG.valE .plain rfl (FV.idxR (L:=[]) (css:=[[vI 0,vI 1],[vI 1,vI a5],[vI a4,vI a5]]) (xs:=([((0:Int),(1:Int)),((1:Int),a5),(a4,a5)]:List (Int × Int))) (len:=3) (by kernel_rfl) (by kernel_rfl) rfl rfl rfl rfl rfl (.cons (mk_A44 (0:Int) (1:Int)) (.cons (mk_A44 (1:Int) a5) (.cons (mk_A44 a4 a5) .nil))) j8) (fun x9 ⟨Y8,y7,b7⟩=>?_)
 subst y7
 obtain rfl:=op_A44 b7
 refine Az .plain rfl (Ba [vI 0,vI 0] J2) (fun Q9 E3 u4 v2=>?_)
 refine Bu [vI z0.1,vI z0.2] u4 .hd (onesB rfl) (fun R9 P1 x2=>?_)
 refine Aa<|Ae<|Ac (AE rfl (P1.memA (.tl .hd)))<|Ab rfl<|Ab rfl<|Ac (Bj (m:=1) (k:=0) (len:=2) (by kernel_rfl) rfl rfl rfl (by omega))<|AN rfl ((P1.memA .hd) 0 _ rfl) ?_
 obtain ⟨A3,F7,h⟩:=bi h
 have A2:=Tt E1 (Tt Z1 (Tt b2 (Tt F1 (Tt X1 (Tt v2 x2)))))
 have M5:=Aw B0 A2
 have B2:=Tt F1 (Tt X1 (Tt v2 x2))
 have P5:=Aw v1 B2
 refine AQ (fst:=[]) (cap:=[]) .plain body15 rfl (e4 rfl rfl rfl rfl) (fun w9 hw9=>split_Pieces_c n _ w9 (P1.hL hL hw9) c0 (AH M5 hw9) x1 (AH P5 hw9) j0.2 z0.1 F7) rfl (fun U9 F9 z5 ⟨y9,hu_,d7⟩=>?_)
 subst hu_
 obtain ⟨Q1,y1⟩:=P1.agr z5
 refine Ab rfl<|Ac (Ak rfl rfl)<|Ac (Ak rfl rfl)<|Af rfl<|Af rfl<|Aa<|Ae<|Ac (AE rfl (Q1.memA (.tl .hd)))<|Ab rfl<|Ab rfl<|Ac (Bj (m:=1) (k:=0) (len:=2) (by kernel_rfl) rfl rfl rfl (by omega))<|AN rfl ((Q1.memA .hd) 0 _ rfl) ?_
 obtain ⟨B3,G7,h⟩:=bi h
 have Q5:=Aw B0 (Tt A2 y1)
 have R5:=Aw v1 (Tt B2 y1)
 refine AQ (fst:=[]) (cap:=[]) .plain body16 rfl (e4 rfl rfl rfl rfl) (fun w9 hw9=>wardmoteref23_Pieces_c n _ w9 (Q1.hL hL hw9) c0 (AH Q5 hw9) x1 (AH R5 hw9) j0.2 z0.1 G7) rfl (fun V9 G9 A5 ⟨z9,hu_,g7⟩=>?_)
 subst hu_
 obtain ⟨b1,Y1⟩:=Q1.agr A5
 refine Ab rfl<|Ac (Ak rfl rfl)<|Ac (Ak rfl rfl)<|Af rfl<|Af rfl<|Aa<|Ae<|Ac (AE rfl (b1.memA (.tl .hd)))<|Ab rfl<|Ab rfl<|Ac (Bj (m:=1) (k:=0) (len:=2) (by kernel_rfl) rfl rfl rfl (by omega))<|AN rfl ((b1.memA .hd) 0 _ rfl) ?_
 obtain ⟨C0,H7,h⟩:=bi h
 have g3:=Tt A2 (Tt y1 Y1)
 have U5:=Aw B0 g3
 have j3:=Tt B2 (Tt y1 Y1)
 have V5:=Aw v1 j3
 refine Bp (.tuple #[.agg #[vI C0.1.fx,vI C0.1.fv],vI C0.2]) body17 rfl (e4 rfl rfl rfl rfl) (fun w9 hw9=>split_Splits_c n _ w9 (b1.hL0 hL hw9) c0 (b1.kd U5 hw9) x1 (b1.kd V5 hw9) j0.2 z0.1 H7) rfl<|Ab rfl<|Ac (Ak rfl rfl)<|Ac (Ak rfl rfl)<|Az .plain rfl (Ba [vI 0,vI 0] b1) (fun W9 F3 v4 z1=>?_)
 refine Bu [vI C0.1.fx,vI C0.1.fv] v4 .hd (onesB rfl) (fun X9 c1 A1=>?_)
 refine Af rfl<|Aa<|Ae<|Ac (AE rfl (c1.memA (.tl (.tl .hd))))<|Ab rfl<|Ab rfl<|Ac (Bj (m:=1) (k:=0) (len:=2) (by kernel_rfl) rfl rfl rfl (by omega))<|AN rfl ((c1.memA (.tl .hd)) 0 _ rfl) ?_
 obtain ⟨D0,I7,h⟩:=bi h
 have k3:=Tt g3 (Tt z1 A1)
 have X5:=Aw B0 k3
 have p3:=Tt j3 (Tt z1 A1)
 have Y5:=Aw v1 p3
 refine Bp (.tuple #[.agg #[vI D0.1.fx,vI D0.1.fv],vI D0.2]) body18 rfl (e4 rfl rfl rfl rfl) (fun w9 hw9=>wardmoteref23_Splits_c n _ w9 (c1.hL0 hL hw9) c0 (c1.kd X5 hw9) x1 (c1.kd Y5 hw9) j0.2 z0.1 I7) rfl<|Ab rfl<|Ac (Ak rfl rfl)<|Ac (Ak rfl rfl)<|Az .plain rfl (Ba [vI 0,vI 0] c1) (fun Y9 G3 x4 B1=>?_)
 refine Bu [vI D0.1.fx,vI D0.1.fv] x4 .hd (onesB rfl) (fun q8 p0 C1=>?_)
 refine Af rfl<|Aa<|Ae<|Ac (AE rfl (p0.memA (.tl (.tl (.tl .hd)))))<|Ab rfl<|Ab rfl<|Ac (Bj (m:=1) (k:=0) (len:=2) (by kernel_rfl) rfl rfl rfl (by omega))<|AN rfl ((p0.memA (.tl (.tl .hd))) 0 _ rfl)<|Ac (Bj (m:=1) (k:=1) (len:=2) (by kernel_rfl) rfl rfl rfl (by omega))<|AN rfl ((p0.memA (.tl (.tl .hd))) 1 _ rfl) ?_
 obtain ⟨I1,J7,h⟩:=bi h
 have I6:=Tt k3 (Tt B1 C1)
 have Z2:=Aw B0 I6
 have J6:=Tt p3 (Tt B1 C1)
 have b3:=Aw v1 J6
 refine Bp (.tuple #[.bool I1.1,vI I1.2]) body19 rfl (e5 rfl rfl rfl rfl rfl) (fun w9 hw9=>split_Keeps_c n _ w9 (p0.hL0 hL hw9) c0 (p0.kd Z2 hw9) x1 (p0.kd b3 hw9) j0.2 z0.1 z0.2 J7) rfl<|Ab rfl<|Ac (Ak rfl rfl)<|Ac (Ak rfl rfl)<|Af rfl<|Af rfl<|Aa<|Ae<|Ac (AE rfl (p0.memA (.tl (.tl (.tl .hd)))))<|Ab rfl<|Ab rfl<|Ac (Bj (m:=1) (k:=0) (len:=2) (by kernel_rfl) rfl rfl rfl (by omega))<|AN rfl ((p0.memA (.tl (.tl .hd))) 0 _ rfl)<|Ac (Bj (m:=1) (k:=1) (len:=2) (by kernel_rfl) rfl rfl rfl (by omega))<|AN rfl ((p0.memA (.tl (.tl .hd))) 1 _ rfl) ?_
 obtain ⟨J1,K7,h⟩:=bi h
 refine Bp (.tuple #[.bool J1.1,vI J1.2]) body20 rfl (e5 rfl rfl rfl rfl rfl) (fun w9 hw9=>wardmoteref23_Keeps_c n _ w9 (p0.hL0 hL hw9) c0 (p0.kd Z2 hw9) x1 (p0.kd b3 hw9) j0.2 z0.1 z0.2 K7) rfl<|Ab rfl<|Ac (Ak rfl rfl)<|Ac (Ak rfl rfl)<|Af rfl<|Af rfl<|Aa<|Aj<|MX.join (α:=Bool) (fun G1=>[(4,vI a4),(5,vI a5),(8,vP s0),(13,u0),(14,vI j0.2),(55,vI ((x0:Nat):Int)),(54,.agg #[vI d0.fe,vI d0.fc,vI d0.fh,H0,vI g0.fe,vI g0.fc,vI g0.fh,Q0,vI k0.fe,vI k0.fc,vI k0.fh,W0,vI 0,vI 0,vI 0,vN]),(17,vP t0),(62,.agg #[u0,I0]),(63,vI 1),(19,I0),(72,.agg #[vI 0,vI 1,vI 1,vI a5,vI a4,vI a5]),(73,vI ((K0:Nat):Int)),(162,.bool G1)]) (fun G1 G2=>St w G2 [.cells t0 [vI c0.fe,vI c0.fc,vI c0.fh,v0] 38,.cells s0 [.int .u8 (a2.fB.toNat:Int),.int .u8 (a2.fAt.toNat:Int),vI a2.fN] 29]∧Tr q8 [.cells G3 [vI D0.1.fx,vI D0.1.fv] 50,.cells F3 [vI C0.1.fx,vI C0.1.fv] 50,.cells E3 [vI z0.1,vI z0.2] 44,.cells t0 [vI c0.fe,vI c0.fc,vI c0.fh,v0] 38,.cells s0 [.int .u8 (a2.fB.toNat:Int),.int .u8 (a2.fAt.toNat:Int),vI a2.fN] 29] G2 [.cells t0 [vI c0.fe,vI c0.fc,vI c0.fh,v0] 38,.cells s0 [.int .u8 (a2.fB.toNat:Int),.int .u8 (a2.fAt.toNat:Int),vI a2.fN] 29]) (fun G1=>G1) h ?_ ?_
 rintro G1 G2 ⟨M2,Z4⟩ h
 try dsimp only at h
 refine MX.ifb rfl h (fun M3 h=>?_) (fun M3 h=>?_)
 refine Ae<|Af rfl<|Aa ?_
 have h:=thn_inl h X2
 have h:=thn_inl h z2
 refine Ao rfl<|AL hb0 Tryz.func3 rfl rfl ?_
 cases h
 exact M2.gv
 refine Am<|Aq<|Al<|Ac (AT (i:=K0) (j:=1) rfl rfl (by omega))<|Ab rfl<|Aa ?_
 have K6:=Tt v2 (Tt x2 (Tt y1 (Tt Y1 (Tt z1 (Tt A1 (Tt B1 (Tt C1 Z4)))))))
 exact q4 (K0 + 1) _ _ ⟨rfl,rfl,rfl,rfl,rfl,rfl,rfl,rfl,rfl,rfl,rfl,rfl,rfl,trivial⟩ ⟨M2,(Tt X1 K6)⟩ h
 intro G8 Y0 h
 try dsimp only at h
 refine Al<|Ab rfl<|Ab rfl ?_
 obtain ⟨x8,M7,h⟩:=bi h
 have M6:=Tt Y1 (Tt z1 (Tt A1 (Tt B1 C1)))
 have Z5:=Aw d7 M6
 have P6:=Tt z1 (Tt A1 (Tt B1 C1))
 have b6:=Aw g7 P6
 refine Bp (.bool x8) body21 rfl (e2 rfl rfl) (fun w9 hw9=>slices_Equal_int_int_c n _ w9 (p0.hL0 hL hw9) A3.1 (p0.kd Z5 hw9) B3.1 (p0.kd b6 hw9) M7) rfl<|Ac (Be rfl)<|Ab rfl<|RG.ifnb (s:=138) rfl h (fun P3 h=>?_) (fun P3 h=>?_)
 refine Ar (Ah rfl)<|Ar (Ah rfl)<|Ar (Bs (i:=A3.2) (j:=B3.2) rfl rfl)<|Bd rfl rfl<|Ab rfl<|RG.ifn (s:=143) rfl h (fun Q3 h=>?_) (fun Q3 h=>?_)
 refine Ar (AE rfl (p0.memA (.tl .hd)))<|Ar (AE rfl (p0.memA .hd))<|Ar (FV.neqV (xs:=([vI C0.1.fx,vI C0.1.fv]).toArray) (ys:=([vI D0.1.fx,vI D0.1.fv]).toArray) rfl rfl (by kernel_rfl) (eqlD_50 C0.1 D0.1))<|Bd rfl rfl<|Ab rfl<|RG.ifn (s:=148) rfl h (fun R3 h=>?_) (fun R3 h=>?_)
 refine Ar (Ah rfl)<|Ar (Ah rfl)<|Ar (Bs (i:=C0.2) (j:=D0.2) rfl rfl)<|Bd rfl rfl<|Ab rfl<|RG.ifn (s:=153) rfl h (fun U3 h=>?_) (fun U3 h=>?_)
 refine Ar (Ah rfl)<|Ar (Ah rfl)<|Ar (FV.neqB (a:=I1.1) (b:=J1.1) Tryz.underlying4 rfl rfl)<|Bd rfl rfl<|Ab rfl<|RG.ifnb (s:=158) rfl h (fun V3 h=>?_) (fun V3 h=>?_)
 refine Ar (Ah rfl)<|Ar (Ah rfl)<|Ar (Bs (i:=I1.2) (j:=J1.2) rfl rfl)<|Bd rfl rfl<|Aa ?_
 obtain ⟨y4,b5⟩:=Ay p0 (.one (.tl (.tl (.tl .hd))) (.one (.tl (.tl (.tl .hd))) .done))
 exact Y0 (!(decide (I1.2 = J1.2))) _ _ ⟨rfl,rfl,rfl,rfl,rfl,rfl,rfl,rfl,rfl,rfl,rfl,rfl,rfl,rfl,trivial⟩ ⟨y4,b5⟩ h
 refine Ag<|Ag<|Ag<|AG rfl rfl<|Aa ?_
 obtain ⟨z4,c5⟩:=Ay p0 (.one (.tl (.tl (.tl .hd))) (.one (.tl (.tl (.tl .hd))) .done))
 exact Y0 true _ _ ⟨rfl,rfl,rfl,rfl,rfl,rfl,rfl,rfl,rfl,rfl,rfl,rfl,rfl,rfl,trivial⟩ ⟨z4,c5⟩ h
 refine Ag<|Ag<|Ag<|AG rfl rfl<|Ab rfl<|Ag<|Ag<|Ag<|AG rfl rfl<|Aa ?_
 obtain ⟨A4,d5⟩:=Ay p0 (.one (.tl (.tl (.tl .hd))) (.one (.tl (.tl (.tl .hd))) .done))
 exact Y0 true _ _ ⟨rfl,rfl,rfl,rfl,rfl,rfl,rfl,rfl,rfl,rfl,rfl,rfl,rfl,rfl,trivial⟩ ⟨A4,d5⟩ h
 refine Ag<|Ag<|Ag<|AG rfl rfl<|Ab rfl<|Ag<|Ag<|Ag<|AG rfl rfl<|Ab rfl<|Ag<|Ag<|Ag<|AG rfl rfl<|Aa ?_
 obtain ⟨B4,g5⟩:=Ay p0 (.one (.tl (.tl (.tl .hd))) (.one (.tl (.tl (.tl .hd))) .done))
 exact Y0 true _ _ ⟨rfl,rfl,rfl,rfl,rfl,rfl,rfl,rfl,rfl,rfl,rfl,rfl,rfl,rfl,trivial⟩ ⟨B4,g5⟩ h
 refine Ag<|Ag<|Ag<|AG rfl rfl<|Ab rfl<|Ag<|Ag<|Ag<|AG rfl rfl<|Ab rfl<|Ag<|Ag<|Ag<|AG rfl rfl<|Ab rfl<|Ag<|Ag<|Ag<|AG rfl rfl<|Aa ?_
 obtain ⟨C4,j5⟩:=Ay p0 (.one (.tl (.tl (.tl .hd))) (.one (.tl (.tl (.tl .hd))) .done))
 exact Y0 true _ _ ⟨rfl,rfl,rfl,rfl,rfl,rfl,rfl,rfl,rfl,rfl,rfl,rfl,rfl,rfl,trivial⟩ ⟨C4,j5⟩ h
 refine Ag<|Ag<|Ag<|AG rfl rfl<|Ab rfl<|Ag<|Ag<|Ag<|AG rfl rfl<|Ab rfl<|Ag<|Ag<|Ag<|AG rfl rfl<|Ab rfl<|Ag<|Ag<|Ag<|AG rfl rfl<|Ab rfl<|Ag<|Ag<|Ag<|AG rfl rfl ?_
 refine Aa ?_
 obtain ⟨D4,k5⟩:=Ay p0 (.one (.tl (.tl (.tl .hd))) (.one (.tl (.tl (.tl .hd))) .done))
 exact Y0 true _ _ ⟨rfl,rfl,rfl,rfl,rfl,rfl,rfl,rfl,rfl,rfl,rfl,rfl,rfl,rfl,trivial⟩ ⟨D4,k5⟩ h
 refine AR rfl ?_
 have h:=thn_inr h X2
 try dsimp only at h
 refine Aq<|Al<|Ac (FV.add (i:=1) (j:=1) (r:=2) rfl rfl (by decide))<|Ab rfl<|Aa<|MX.again1<|Ae<|Ac (Bg (i:=2) (j:=2) rfl rfl)<|Aa<|Aj<|Bv rfl<|AR rfl<|Aq<|Al<|Ac (AT (i:=x0) (j:=1) rfl rfl (by omega))<|Ab rfl<|Aa ?_
 obtain ⟨E4,p5⟩:=Ay J2 (.one (.tl .hd) .done)
 have Q6:=Tt E1 (Tt Z1 (Tt b2 (Tt F1 (Tt X1 p5))))
 exact s4 (x0 + 1) _ _ ⟨rfl,rfl,rfl,rfl,rfl,rfl,rfl,trivial⟩ ⟨E4,(Tt U0 Q6)⟩ h
 refine AR rfl ?_
 have h:=thn_inr h z2
 try dsimp only at h
 refine Ae<|Af rfl<|Aa<|Ao rfl<|AL hb0 Tryz.func3 rfl rfl ?_
 cases h
 exact s2.gv
 refine Ae<|Af rfl<|Aa<|Ao rfl<|AL hb0 Tryz.func3 rfl rfl ?_
 cases h
 exact R0.gv
end Go.Proofs.YtfncplndfpgngaaGreatDoor
