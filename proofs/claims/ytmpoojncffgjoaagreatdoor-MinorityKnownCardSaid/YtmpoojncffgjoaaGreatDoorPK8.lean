/- Functions of the program, and what they give: part 8. -/
import Derived.Test.YtmpoojncffgjoaaGreatDoorPK7
namespace Go.Proofs.YtmpoojncffgjoaaGreatDoor
open Go Go.RowKit
set_option maxRecDepth 4000
set_option maxHeartbeats 4000000

def tb3_20 : List (Nat × Nat × Nat) := [(0, 23384026197294446691258957323460528314494920687616, 4194304), (1, 46768052394588893382517914646921056628989841375232, 23384026197294446691258957323460528314494920687616), (2, 93536104789177786765035829293842113257979682750464, 46768052394588893382517914646921056628989908484096), (6, 187072209578355573530071658587684226515959365500928, 140304157183766680147553743940763169886969524125696), (10, 374144419156711147060143317175368453031918731001856, 233840261972944466912589573234605283144949206876160), (18, 748288838313422294120286634350736906063837462003712, 374144419156711147060143317175368453031918731001856), (32, 1496577676626844588240573268701473812127674924007424, 748288838313422294120286634350736906063837730439168), (96, 2993155353253689176481146537402947624255349848014848, 2244866514940266882360859903052210718191512386011136), (160, 5986310706507378352962293074805895248510699696029696, 3741444191567111470601433171753684530319187310018560), (288, 11972621413014756705924586149611790497021399392059392, 5986310706507378352962293074805895248510699696029696), (512, 23945242826029513411849172299223580994042798784118784, 11972621413014756705924586149611790497021399392059392), (1536, 47890485652059026823698344598447161988085597568237568, 11972621413014756705924586149611790497021399392059392), (3584, 95780971304118053647396689196894323976171195136475136, 83808349891103296941472103047282533479149795744415744), (512, 191561942608236107294793378393788647952342390272950272, 11972621413014756705924586149611790497021399928930304), (12800, 383123885216472214589586756787577295904684780545900544, 203534564021250864000717964543400438449363789665009664), (16896, 766247770432944429179173513575154591809369561091801088, 395096506629486971295511342937189086401706179937959936), (16896, 1532495540865888858358347027150309183618739122183602176, 395096506629486971295511342937189086401706179937959936), (16896, 3064991081731777716716694054300618367237478244367204352, 395096506629486971295511342937189086401706179937959936), (250368, 6129982163463555433433388108601236734474956488734408704, 5471487985747743814607535870372588257138779522171142144), (262656, 12259964326927110866866776217202473468949912977468817408, 6141954784876570190139312694750848524971977888126468096), (786432, 24519928653854221733733552434404946937899825954937634816, 12259964326927110866866776217202473468949912977468817408), (1048576, 49039857307708443467467104868809893875799651909875269632, 24519928653854221733733552434404946937899825954937634816), (1048576, 98079714615416886934934209737619787751599303819750539264, 24519928653854221733733552434404946937899825955474505728), (7340032, 196159429230833773869868419475239575503198607639501078528, 122599643269271108668667762172024734689499129774688174080), (9437184, 392318858461667547739736838950479151006397215279002157056, 220679357884687995603601971909644522441098433594438713344), (9437184, 784637716923335095479473677900958302012794430558004314112, 220679357884687995603601971909644522441098433594438713344), (61865984, 1569275433846670190958947355801916604025588861116008628224, 1250516361346565308420411174154652293832891123701819375616), (68157440, 3138550867693340381917894711603833208051177722232017256448, 1593795362500524412692680908236321550963488687070946263040), (268435455, 4194304, 3138550867693340381917894711603833208051177722232017256448)]
def tb3_24 : List (Nat × Nat × Nat) := [(0, 13164036458569648337239753460458804039861886925068638906788872192, 0), (1, 26328072917139296674479506920917608079723773850137277813577744384, 13164036458569648337239753460458804039861886925068638906793066496), (3, 52656145834278593348959013841835216159447547700274555627155488768, 39492109375708945011719260381376412119585660775205916720366616576), (5, 105312291668557186697918027683670432318895095400549111254310977536, 52656145834278593348959013841835216159447547700274555627155488768), (8, 210624583337114373395836055367340864637790190801098222508621955072, 105312291668557186697918027683670432318895095400549111256458461184), (24, 421249166674228746791672110734681729275580381602196445017243910144, 315936875005671560093754083051011296956685286201647333762932932608), (40, 842498333348457493583344221469363458551160763204392890034487820288, 526561458342785933489590138418352161594475477002745556271554887680), (72, 1684996666696914987166688442938726917102321526408785780068975640576, 842498333348457493583344221469363458551160763204392890034487820288), (128, 3369993333393829974333376885877453834204643052817571560137951281152, 1684996666696914987166688442938726917102321526408785780077565575168), (384, 6739986666787659948666753771754907668409286105635143120275902562304, 5054990000090744961500065328816180751306964579226357340206926921728), (640, 13479973333575319897333507543509815336818572211270286240551805124608, 8424983333484574935833442214693634585511607632043928900344878202880), (1152, 26959946667150639794667015087019630673637144422540572481103610249216, 13479973333575319897333507543509815336818572211270286240551805124608), (2048, 53919893334301279589334030174039261347274288845081144962207220498432, 26959946667150639794667015087019630673637144422540572481137969987584), (6144, 107839786668602559178668060348078522694548577690162289924414440996864, 80879840001451919384001045261058892020911433267621717443310830747648), (10240, 215679573337205118357336120696157045389097155380324579848828881993728, 134799733335753198973335075435098153368185722112702862405518051246080), (18432, 431359146674410236714672241392314090778194310760649159697657763987456, 215679573337205118357336120696157045389097155380324579848828881993728), (32768, 862718293348820473429344482784628181556388621521298319395315527974912, 431359146674410236714672241392314090778194310760649159697674943856640), (32768, 1725436586697640946858688965569256363112777243042596638790631055949824, 431359146674410236714672241392314090778194310760649159697657763987456), (163840, 3450873173395281893717377931138512726225554486085193277581262111899648, 431359146674410236714672241392314090778194310760649159697657763987456), (294912, 6901746346790563787434755862277025452451108972170386555162524223799296, 431359146674410236714672241392314090778194310760649159697657763987456), (950272, 13803492693581127574869511724554050904902217944340773110325048447598592, 12509415253557896864725495000377108632567635012058825631232075155636224), (1671168, 27606985387162255149739023449108101809804435888681546220650096895197184, 15097570133604358285013528448730993177236800876622720589418021739560960), (2129920, 55213970774324510299478046898216203619608871777363092441300193790394368, 28038344533836665386453695690500415900582630199442195380347754659184640), (6291456, 110427941548649020598956093796432407239217743554726184882600387580788736, 55213970774324510299478046898216203619608871777363092441300193790394368), (8388608, 220855883097298041197912187592864814478435487109452369765200775161577472, 110427941548649020598956093796432407239217743554726184882600387580788736), (25165824, 441711766194596082395824375185729628956870974218904739530401550323154944, 331283824645947061796868281389297221717653230664178554647801162742366208), (8388608, 883423532389192164791648750371459257913741948437809479060803100646309888, 110427941548649020598956093796432407239217743554726184882600387589177344), (8388608, 1766847064778384329583297500742918515827483896875618958121606201292619776, 110427941548649020598956093796432407239217743554726184882600387580788736), (41943040, 3533694129556768659166595001485837031654967793751237916243212402585239552, 110427941548649020598956093796432407239217743554726184882600387580788736), (478150656, 7067388259113537318333190002971674063309935587502475832486424805170479104, 6294392668272994174140497346396647212635411382619392538308222092104957952), (545259520, 14134776518227074636666380005943348126619871175004951664972849610340958208, 7177816200662186338932146096768106470549153331057202017369025192751267840), (545259520, 28269553036454149273332760011886696253239742350009903329945699220681916416, 7177816200662186338932146096768106470549153331057202017369025192751267840), (3800039424, 56539106072908298546665520023773392506479484700019806659891398441363832832, 42956469262424469012993920486812206416055702242788485919331550768926818304), (4303355904, 113078212145816597093331040047546785012958969400039613319782796882727665664, 56649534014456947567264476117569824913718702443574532844773998828944621568), (17179869183, 1, 113078212145816597093331040047546785012958969400039613319782796882727665664)]
theorem body4 : bodyB Tryz.prog 4 = true := by kernel_rfl
theorem body11 : bodyB Tryz.prog 11 = true := by kernel_rfl
def wardmotelaw29_MinorityKnown_p (n : Nat) : Option Bool :=
  (wardmotelaw29_works_p n).bind fun y1 => (if y1 = true then (wardmotelaw29_example_p n).bind fun y3 => (wardmotelaw29_example_p n).bind fun y0 => (y0.fUnits[0]?).bind fun x0 => (put y0.fUnits ((0 : Nat) : Int) (⟨x0.fName, (-1 : Int), x0.fGroups, x0.fVotes, x0.fParents, x0.fWater⟩ : TUnit)).bind fun xs0 => (minority_Shares_p n (⟨y0.fGroups, y0.fParties, y0.fLevels, xs0⟩ : TRoll) ([] : List Int) (9 : Int) (9 : Int)).bind fun y2 => (minority_Index_p n y3 ([(0 : Int), (0 : Int), (1 : Int)] : List Int) (3 : Int) (9 : Int)).bind fun y4 => (minority_Index_p n y3 ([(0 : Int), (0 : Int), (1 : Int)] : List Int) (2 : Int) (-1 : Int)).bind fun y5 => (minority_Majority_p n y3 ([(0 : Int), (0 : Int), (1 : Int)] : List Int) (2 : Int) (9 : Int) (⟨((0 : UInt64), (0 : UInt64), (0 : UInt64), (0 : UInt64), (0 : UInt64), (0 : UInt64), (0 : UInt64), (0 : UInt64)), ((0 : UInt64), (0 : UInt64), (0 : UInt64), (0 : UInt64), (0 : UInt64), (0 : UInt64), (0 : UInt64), (0 : UInt64))⟩ : TShare)).bind fun y6 => (minority_Majority_p n y3 ([(0 : Int), (0 : Int), (1 : Int)] : List Int) (2 : Int) (0 : Int) (⟨((0 : UInt64), (0 : UInt64), (0 : UInt64), (0 : UInt64), (0 : UInt64), (0 : UInt64), (0 : UInt64), (0 : UInt64)), ((0 : UInt64), (0 : UInt64), (0 : UInt64), (0 : UInt64), (0 : UInt64), (0 : UInt64), (0 : UInt64), (0 : UInt64))⟩ : TShare)).bind fun y7 => (minority_Line_p n (⟨y0.fGroups, y0.fParties, y0.fLevels, xs0⟩ : TRoll) (9 : Int) (9 : Int)).bind fun y8 => (minority_Line_p n y3 (0 : Int) (2 : Int)).bind fun y9 => (minority_Fit_p n y3 (-1 : Int) (0 : Int)).bind fun y10 => jn (fun q0 => (minority_Line_p n (⟨(1 : Int), (2 : Int), (0 : Int), ([(⟨⟨#[97]⟩, (0 : Int), ([(0 : Int)] : List Int), ([(5 : Int), (5 : Int)] : List Int), ([] : List Int), false⟩ : TUnit), (⟨⟨#[98]⟩, (9 : Int), ([(9 : Int)] : List Int), ([(0 : Int), (0 : Int)] : List Int), ([] : List Int), false⟩ : TUnit), (⟨⟨#[99]⟩, (4 : Int), ([(1 : Int)] : List Int), ([(1 : Int), (3 : Int)] : List Int), ([] : List Int), false⟩ : TUnit)] : List TUnit)⟩ : TRoll) (0 : Int) (0 : Int)).bind fun y11 => (minority_Fit_p n (⟨(1 : Int), (2 : Int), (0 : Int), ([(⟨⟨#[97]⟩, (0 : Int), ([(0 : Int)] : List Int), ([(5 : Int), (5 : Int)] : List Int), ([] : List Int), false⟩ : TUnit), (⟨⟨#[98]⟩, (9 : Int), ([(9 : Int)] : List Int), ([(0 : Int), (0 : Int)] : List Int), ([] : List Int), false⟩ : TUnit), (⟨⟨#[99]⟩, (4 : Int), ([(1 : Int)] : List Int), ([(1 : Int), (3 : Int)] : List Int), ([] : List Int), false⟩ : TUnit)] : List TUnit)⟩ : TRoll) (0 : Int) (0 : Int)).bind fun y12 => (slices_Clone_api_Unit_api_Unit_p n ([(⟨⟨#[97]⟩, (0 : Int), ([(0 : Int)] : List Int), ([(5 : Int), (5 : Int)] : List Int), ([] : List Int), false⟩ : TUnit), (⟨⟨#[98]⟩, (9 : Int), ([(9 : Int)] : List Int), ([(0 : Int), (0 : Int)] : List Int), ([] : List Int), false⟩ : TUnit), (⟨⟨#[99]⟩, (4 : Int), ([(1 : Int)] : List Int), ([(1 : Int), (3 : Int)] : List Int), ([] : List Int), false⟩ : TUnit)] : List TUnit)).bind fun y13 => (app y13 ([(⟨⟨#[100]⟩, (2 : Int), ([(1 : Int)] : List Int), ([(1 : Int), (1 : Int)] : List Int), ([] : List Int), false⟩ : TUnit)] : List TUnit)).bind fun xs1 => jn (fun q1 => (minority_Index_p n (⟨(1 : Int), (2 : Int), (0 : Int), ([(⟨⟨#[97]⟩, (0 : Int), ([(0 : Int)] : List Int), ([(5 : Int), (5 : Int)] : List Int), ([] : List Int), false⟩ : TUnit), (⟨⟨#[98]⟩, (9 : Int), ([(9 : Int)] : List Int), ([(0 : Int), (0 : Int)] : List Int), ([] : List Int), false⟩ : TUnit), (⟨⟨#[99]⟩, (4 : Int), ([(1 : Int)] : List Int), ([(1 : Int), (3 : Int)] : List Int), ([] : List Int), false⟩ : TUnit)] : List TUnit)⟩ : TRoll) ([(0 : Int), (0 : Int), (0 : Int)] : List Int) (1 : Int) (0 : Int)).bind fun y14 => (minority_Index_p n (⟨(1 : Int), (0 : Int), (0 : Int), ([(⟨⟨#[120]⟩, (3 : Int), ([(3 : Int)] : List Int), ([] : List Int), ([] : List Int), false⟩ : TUnit)] : List TUnit)⟩ : TRoll) ([(0 : Int)] : List Int) (1 : Int) (0 : Int)).bind fun y15 => (minority_Shares_p n (⟨(1 : Int), (2 : Int), (0 : Int), ([(⟨⟨#[97]⟩, (0 : Int), ([(0 : Int)] : List Int), ([(5 : Int), (5 : Int)] : List Int), ([] : List Int), false⟩ : TUnit), (⟨⟨#[98]⟩, (9 : Int), ([(9 : Int)] : List Int), ([(0 : Int), (0 : Int)] : List Int), ([] : List Int), false⟩ : TUnit), (⟨⟨#[99]⟩, (4 : Int), ([(1 : Int)] : List Int), ([(1 : Int), (3 : Int)] : List Int), ([] : List Int), false⟩ : TUnit)] : List TUnit)⟩ : TRoll) ([(0 : Int), (1 : Int), (2 : Int)] : List Int) (3 : Int) (0 : Int)).bind fun y16 => (if q1 = true then (if y14.2 = 0 then (if y15.2 = 7 then (if y16.2 = 0 then (wardmotelaw29_of_p n (0 : Int) (1 : Int)).bind fun y17 => (wardmotelaw29_of_p n (1 : Int) (1 : Int)).bind fun y18 => (wardmotelaw29_of_p n (1 : Int) (4 : Int)).bind fun y19 => (slices_Equal_api_Share_api_Share_p n y16.1 ([y17, y18, y19] : List TShare)).bind fun y20 => (if y20 = true then (wardmotelaw29_of_p n (1 : Int) (4 : Int)).bind fun y21 => (minority_Majority_p n (⟨(1 : Int), (2 : Int), (0 : Int), ([(⟨⟨#[97]⟩, (0 : Int), ([(0 : Int)] : List Int), ([(5 : Int), (5 : Int)] : List Int), ([] : List Int), false⟩ : TUnit), (⟨⟨#[98]⟩, (9 : Int), ([(9 : Int)] : List Int), ([(0 : Int), (0 : Int)] : List Int), ([] : List Int), false⟩ : TUnit), (⟨⟨#[99]⟩, (4 : Int), ([(1 : Int)] : List Int), ([(1 : Int), (3 : Int)] : List Int), ([] : List Int), false⟩ : TUnit)] : List TUnit)⟩ : TRoll) ([(0 : Int), (1 : Int), (2 : Int)] : List Int) (3 : Int) (0 : Int) y21).bind fun y22 => (wardmotelaw29_lists_1_p n y22.1 y22.2 ([(1 : Int)] : List Int)).bind fun y23 => some y23 else some false) else some false) else some false) else some false) else some false)) (fun J0 => (if q0 = true then (if y11.2.2 = 7 then (if y12.2 = 7 then (wardmotelaw29_of_p n (1 : Int) (1 : Int)).bind fun y24 => (wardmotelaw29_of_p n (0 : Int) (1 : Int)).bind fun y25 => (minority_Line_p n (⟨(1 : Int), (2 : Int), (0 : Int), xs1⟩ : TRoll) (0 : Int) (0 : Int)).bind fun y26 => (wardmotelaw29_line_1_p n y26.1 y26.2.1 y26.2.2 y24 y25).bind fun y27 => (if y27 = true then (minority_Fit_p n (⟨(1 : Int), (2 : Int), (0 : Int), xs1⟩ : TRoll) (0 : Int) (0 : Int)).bind fun y28 => (wardmotelaw29_is_1_p n y28.1 y28.2 (1 : Int) (1 : Int)).bind fun y29 => J0 y29 else J0 false) else J0 false) else J0 false) else J0 false))) (fun J1 => (if y2.2 = 0 then J1 false else (if y2.2 = 2 then J1 false else (if y4.2 = 220 then (if y5.2 = 2 then (if y6.2 = 2 then (if y7.2 = 0 then J1 false else (if y7.2 = 2 then J1 false else (if y8.2.2 = y2.2 then (if y9.2.2 = 2 then J1 (decide (y10.2 = 2)) else J1 false) else J1 false))) else J1 false) else J1 false) else J1 false)))) else some false)
theorem wardmotelaw29_MinorityKnown_c (n : Nat) (L : List Nat) (w : World) (hL : ∀ b ∈ L, b < w.heap.size)  {r : Bool} (h : wardmotelaw29_MinorityKnown_p n = some r) :
    Calls Tryz.prog 3 #[] w (Gives w fun _ u => u = .bool r) := by
 unfold wardmotelaw29_MinorityKnown_p at h
 have hS0 := St.start w
 refine MX.start Tryz.func3 rfl rfl rfl (fun _ cs0 hb0 => ?_)
 refine MX.sr <| RG.so rfl <| RG.nil <| MX.seq <| MX.sr ?_
 obtain ⟨y1, hy1, h⟩ := bind_in h
 refine RG.cq (.bool y1) body4 rfl evs_nil (fun w9 hw9 => wardmotelaw29_works_c n _ w9 (hS0.hL0 hL hw9)  hy1) rfl <| RG.va (FV.not rfl) <| RG.nil <| MX.ifnb rfl h (fun c2 h => ?_) (fun c2 h => ?_)
 refine MX.skip <| MX.sr ?_
 obtain ⟨y3, hy3, h⟩ := bind_in h
 refine RG.call' (fst := []) (cap := []) .plain body5 rfl evs_nil (fun w9 hw9 => own_gives (b0 := w.heap.size) (wardmotelaw29_example_c n _ w9 (hS0.hL hL hw9)  hy3) hw9 (Nat.le_trans hS0.ag.size hw9.size)) rfl (fun w4 vu5 hag6 ⟨v0, cs1, hu8, s7, hc0⟩ => ?_)
 subst hu8
 have hS9 := own_push hS0 s7
 have hT0 := own_tr hS0 s7
 have hc1 := Cells.at_ (cs := cs1) (xs := (y3.fUnits : List TUnit)) hS9 L (own_cells hc0)
 refine RG.new .plain rfl (Does.build (α := Int) (xs := ([(0 : Int), (0 : Int), (1 : Int)] : List Int)) (vs := [vI 0, vI 0, vI 1]) (ds' := [vI 0, vI 0, vI 1]) rfl hS9 el28 rfl (e3 rfl rfl rfl) (by kernel_rfl) rfl) (fun w0 b1 hS1 hT1 => ?_)
 have hc2 := Cells.at_ (cs := [vI 0, vI 0, vI 1]) (xs := (([(0 : Int), (0 : Int), (1 : Int)] : List Int) : List Int)) hS1 L (Cells.cons (cs := [vI 0]) (ds := [vI 0, vI 1]) rfl (Cells.cons (cs := [vI 0]) (ds := [vI 1]) rfl (Cells.cons (cs := [vI 1]) (ds := []) rfl (Cells.nil _ _))))
 refine RG.new .plain rfl (Does.alloc (zs := [vI 0, vI 0, vI 0, vN]) hS1 (zB (by kernel_rfl))) (fun w1 b2 hS2 hT2 => ?_)
 refine RG.now .plain (Acts.storeAll (news := [vI y3.fGroups, vI y3.fParties, vI y3.fLevels, v0]) hS2 .hd rfl rfl rfl rfl rfl rfl (o4 rfl rfl rfl (St.o1 (α := TUnit) hS2 (.tl (.tl .hd))))) (fun w2 hS3 hT3 => ?_)
 refine RG.so rfl <| RG.nil <| MX.sr ?_
 obtain ⟨y0, hy0, h⟩ := bind_in h
 refine RG.call' (fst := []) (cap := []) .plain body5 rfl evs_nil (fun w9 hw9 => own_gives (b0 := w.heap.size) (wardmotelaw29_example_c n _ w9 (hS3.hL hL hw9)  hy0) hw9 (Nat.le_trans hS3.ag.size hw9.size)) rfl (fun w3 vu0 hag0 ⟨v1, cs2, hu0, s0, hc3⟩ => ?_)
 subst hu0
 have hS4 := own_push hS3 s0
 have hT4 := own_tr hS3 s0
 have hc4 := Cells.at_ (cs := cs2) (xs := (y0.fUnits : List TUnit)) hS4 L (own_cells hc3)
 refine RG.new .plain rfl (Does.alloc (zs := [vI 0, vI 0, vI 0, vN]) hS4 (zB (by kernel_rfl))) (fun w5 b3 hS5 hT5 => ?_)
 refine RG.now .plain (Acts.storeAll (news := [vI y0.fGroups, vI y0.fParties, vI y0.fLevels, v1]) hS5 .hd rfl rfl rfl rfl rfl rfl (o4 rfl rfl rfl (St.o1 (α := TUnit) hS5 (.tl .hd)))) (fun w6 hS6 hT6 => ?_)
 refine RG.nil <| MX.sr <| RG.fa 3 rfl <| RG.l1 rfl ((hS6.memA .hd) 3 _ rfl) ?_
 obtain ⟨x0, hx0, h⟩ := bind_in h
 have hm0 := Cells.mv hc4 (Tr.trans hT5 hT6)
 obtain ⟨A52, c0, he0, hk0, cs3, hr0, hm1⟩ := St.nth (α := TUnit) hS6 (.tl .hd) hm0 hx0
 obtain ⟨b4, c1, he1⟩ := St.nthOwn (α := TUnit) hS6 (.tl .hd) hk0
 obtain rfl : A52 = ⟨b4, 0, none⟩ := by rw [he1] at he0; cases he0; rfl
 obtain ⟨v2, v3, v4, rfl, hr1, hr2, hr3⟩ := op_TUnit hr0
 refine RG.va (FV.ia 6 0 rfl he0 rfl rfl hk0) <| RG.fa 1 rfl ?_
 obtain ⟨c3, he2, hk1, cs4, hr4, hm2, hch0⟩ := St.nthAt (α := TUnit) hS6 (.tl .hd) hm0 hx0 he1
 obtain ⟨v5, v6, v7, rfl, hr5, hr6, hr7⟩ := op_TUnit hr4
 obtain ⟨xs0, hxs82, h⟩ := bind_in h
 refine RG.acts' .plain (Acts.setPart (α := TUnit) (i := 0) (tot := 1) (ds := [.string x0.fName, vI x0.fPeople, v5, v6, v7, .bool x0.fWater]) (news := [vI (-1)]) (full := [.string x0.fName, vI (-1), v5, v6, v7, .bool x0.fWater]) hxs82 hS6 he2 (fun _ => (.tl .hd)) hm0 hch0 rfl (by kernel_rfl) rfl rfl rfl rfl (mk_TUnit x0.fName (-1 : Int) x0.fGroups hr5 x0.fVotes hr6 x0.fParents hr7 x0.fWater) (by kernel_rfl) (o1 rfl)) (fun w7 ⟨cs5, hS7, hT7, hc5⟩ => ?_)
 refine RG.nil <| MX.sr <| RG.va (FV.lN rfl (hS7.memA .hd)) ?_
 have hr8 := St.freeze (α := TUnit) hS7 (.tl .hd) hc5 hL
 have hS8 := St.delS hS7 (.tl .hd)
 have hT8 := St.delT hS7 (.tl .hd)
 have hr9 := Rep.at_ (α := TUnit) (v := v1) (xs := xs0) hS8 L hr8
 have hr93 := Rep.nilAt (α := Int) hS8 L
 obtain ⟨y2, hy2, h⟩ := bind_in h
 refine RG.call' (fst := []) (cap := []) .plain body6 rfl (e4 rfl rfl rfl rfl) (fun w9 hw9 => minority_Shares_c n _ w9 (hS8.hL hL hw9) (⟨y0.fGroups, y0.fParties, y0.fLevels, xs0⟩ : TRoll) (Rep.keep0 hr9 hw9) ([] : List Int) (Rep.keep0 hr93 hw9) (9 : Int) (9 : Int) hy2) rfl (fun w94 vu1 hag1 ⟨v8, hu_, hr10⟩ => ?_)
 subst hu_
 obtain ⟨hS97, hT9⟩ := hS8.agr hag1
 refine RG.mo rfl <| RG.va (FV.extract rfl rfl) <| RG.va (FV.extract rfl rfl) <| RG.so rfl <| RG.so rfl <| RG.nil ?_
 refine MX.sr <| RG.va (FV.lN rfl (hS97.memA (.tl .hd))) <| RG.mo rfl ?_
 obtain ⟨y4, hy4, h⟩ := bind_in h
 have hq102 := Tr.trans hT1 (Tr.trans hT2 (Tr.trans hT3 (Tr.trans hT4 (Tr.trans hT5 (Tr.trans hT6 (Tr.trans hT7 (Tr.trans hT8 hT9)))))))
 have hm3 := Cells.mv hc1 hq102
 have hq104 := Tr.trans hT2 (Tr.trans hT3 (Tr.trans hT4 (Tr.trans hT5 (Tr.trans hT6 (Tr.trans hT7 (Tr.trans hT8 hT9))))))
 have hm4 := Cells.mv hc2 hq104
 refine RG.cq (.tuple #[.agg ((cs_TShare y4.1)).toArray, vI y4.2]) body7 rfl (e4 rfl rfl rfl rfl) (fun w9 hw9 => minority_Index_c n _ w9 (hS97.hL0 hL hw9) y3 (Rep.keep0 (St.lend (α := TUnit) (L := L) hS97 (.tl (.tl (.tl .hd))) hm3 hL) hw9) ([(0 : Int), (0 : Int), (1 : Int)] : List Int) (Rep.keep0 (St.lend (α := Int) (L := L) hS97 (.tl (.tl .hd)) hm4 hL) hw9) (3 : Int) (9 : Int) hy4) rfl <| RG.mo rfl <| RG.va (FV.extract rfl rfl) <| RG.va (FV.extract rfl rfl) <| RG.new .plain rfl (Does.alloc (zs := [.int .u64 0, .int .u64 0, .int .u64 0, .int .u64 0, .int .u64 0, .int .u64 0, .int .u64 0, .int .u64 0, .int .u64 0, .int .u64 0, .int .u64 0, .int .u64 0, .int .u64 0, .int .u64 0, .int .u64 0, .int .u64 0]) hS97 (zB (by kernel_rfl))) (fun w10 b5 hS10 hT11 => ?_)
 refine RG.now .plain (Acts.storeAll (news := (cs_TShare y4.1)) hS10 .hd rfl rfl rfl rfl rfl rfl (onesB rfl)) (fun w11 hS11 hT12 => ?_)
 refine RG.so rfl <| RG.nil <| MX.sr <| RG.va (FV.lN rfl (hS11.memA (.tl (.tl .hd)))) <| RG.mo rfl ?_
 obtain ⟨y5, hy5, h⟩ := bind_in h
 have hq115 := Tr.trans hq102 (Tr.trans hT11 hT12)
 have hm5 := Cells.mv hc1 hq115
 have hq117 := Tr.trans hq104 (Tr.trans hT11 hT12)
 have hm6 := Cells.mv hc2 hq117
 refine RG.cq (.tuple #[.agg ((cs_TShare y5.1)).toArray, vI y5.2]) body7 rfl (e4 rfl rfl rfl rfl) (fun w9 hw9 => minority_Index_c n _ w9 (hS11.hL0 hL hw9) y3 (Rep.keep0 (St.lend (α := TUnit) (L := L) hS11 (.tl (.tl (.tl (.tl .hd)))) hm5 hL) hw9) ([(0 : Int), (0 : Int), (1 : Int)] : List Int) (Rep.keep0 (St.lend (α := Int) (L := L) hS11 (.tl (.tl (.tl .hd))) hm6 hL) hw9) (2 : Int) (-1 : Int) hy5) rfl <| RG.mo rfl <| RG.va (FV.extract rfl rfl) <| RG.va (FV.extract rfl rfl) <| RG.new .plain rfl (Does.alloc (zs := [.int .u64 0, .int .u64 0, .int .u64 0, .int .u64 0, .int .u64 0, .int .u64 0, .int .u64 0, .int .u64 0, .int .u64 0, .int .u64 0, .int .u64 0, .int .u64 0, .int .u64 0, .int .u64 0, .int .u64 0, .int .u64 0]) hS11 (zB (by kernel_rfl))) (fun w12 b6 hS12 hT13 => ?_)
 refine RG.now .plain (Acts.storeAll (news := (cs_TShare y5.1)) hS12 .hd rfl rfl rfl rfl rfl rfl (onesB rfl)) (fun w13 hS13 hT14 => ?_)
 refine RG.so rfl <| RG.nil <| MX.sr <| RG.va (FV.lN rfl (hS13.memA (.tl (.tl (.tl .hd))))) <| RG.mo rfl <| RG.va (FV.buildV (vs := []) (u := .agg #[.int .u64 0, .int .u64 0, .int .u64 0, .int .u64 0, .int .u64 0, .int .u64 0, .int .u64 0, .int .u64 0, .int .u64 0, .int .u64 0, .int .u64 0, .int .u64 0, .int .u64 0, .int .u64 0, .int .u64 0, .int .u64 0]) evs_nil (fun w9 => by kernel_rfl)) ?_
 have hq131 := Tr.trans hq115 (Tr.trans hT13 hT14)
 have hm7 := Cells.mv hc1 hq131
 have hr11 := St.freeze (α := TUnit) hS13 (.tl (.tl (.tl (.tl (.tl .hd))))) hm7 hL
 have hS14 := St.delS hS13 (.tl (.tl (.tl (.tl (.tl .hd)))))
 have hT15 := St.delT hS13 (.tl (.tl (.tl (.tl (.tl .hd)))))
 have hr12 := Rep.at_ (α := TUnit) (v := v0) (xs := y3.fUnits) hS14 L hr11
 have hq137 := Tr.trans hq117 (Tr.trans hT13 (Tr.trans hT14 hT15))
 have hm8 := Cells.mv hc2 hq137
 have hr13 := St.freeze (α := Int) hS14 (.tl (.tl (.tl (.tl .hd)))) hm8 hL
 have hS15 := St.delS hS14 (.tl (.tl (.tl (.tl .hd))))
 have hT16 := St.delT hS14 (.tl (.tl (.tl (.tl .hd))))
 have hr14 := Rep.at_ (α := Int) (v := (vS b1 3)) (xs := ([(0 : Int), (0 : Int), (1 : Int)] : List Int)) hS15 L hr13
 obtain ⟨y6, hy6, h⟩ := bind_in h
 have hm9 := Rep.mv hr12 hT16
 refine RG.call' (fst := []) (cap := []) .plain body8 rfl (e5 rfl rfl rfl rfl rfl) (fun w9 hw9 => minority_Majority_c n _ w9 (hS15.hL hL hw9) y3 (Rep.keep0 hm9 hw9) ([(0 : Int), (0 : Int), (1 : Int)] : List Int) (Rep.keep0 hr14 hw9) (2 : Int) (9 : Int) (⟨((0 : UInt64), (0 : UInt64), (0 : UInt64), (0 : UInt64), (0 : UInt64), (0 : UInt64), (0 : UInt64), (0 : UInt64)), ((0 : UInt64), (0 : UInt64), (0 : UInt64), (0 : UInt64), (0 : UInt64), (0 : UInt64), (0 : UInt64), (0 : UInt64))⟩ : TShare) hy6) rfl (fun w14 vu2 hag2 ⟨v10, hu_, hr15⟩ => ?_)
 subst hu_
 obtain ⟨hS16, hT17⟩ := hS15.agr hag2
 refine RG.mo rfl <| RG.va (FV.extract rfl rfl) <| RG.va (FV.extract rfl rfl) <| RG.so rfl <| RG.so rfl <| RG.nil ?_
 refine MX.sr <| RG.va (FV.lN rfl (hS16.memA (.tl (.tl (.tl .hd))))) <| RG.mo rfl <| RG.va (FV.buildV (vs := []) (u := .agg #[.int .u64 0, .int .u64 0, .int .u64 0, .int .u64 0, .int .u64 0, .int .u64 0, .int .u64 0, .int .u64 0, .int .u64 0, .int .u64 0, .int .u64 0, .int .u64 0, .int .u64 0, .int .u64 0, .int .u64 0, .int .u64 0]) evs_nil (fun w9 => by kernel_rfl)) ?_
 obtain ⟨y7, hy7, h⟩ := bind_in h
 have hm10 := Rep.mv hr12 (Tr.trans hT16 hT17)
 have hm11 := Rep.mv hr14 hT17
 refine RG.call' (fst := []) (cap := []) .plain body8 rfl (e5 rfl rfl rfl rfl rfl) (fun w9 hw9 => minority_Majority_c n _ w9 (hS16.hL hL hw9) y3 (Rep.keep0 hm10 hw9) ([(0 : Int), (0 : Int), (1 : Int)] : List Int) (Rep.keep0 hm11 hw9) (2 : Int) (0 : Int) (⟨((0 : UInt64), (0 : UInt64), (0 : UInt64), (0 : UInt64), (0 : UInt64), (0 : UInt64), (0 : UInt64), (0 : UInt64)), ((0 : UInt64), (0 : UInt64), (0 : UInt64), (0 : UInt64), (0 : UInt64), (0 : UInt64), (0 : UInt64), (0 : UInt64))⟩ : TShare) hy7) rfl (fun w15 vu3 hag3 ⟨v12, hu_, hr16⟩ => ?_)
 subst hu_
 obtain ⟨hS17, hT18⟩ := hS16.agr hag3
 refine RG.mo rfl <| RG.va (FV.extract rfl rfl) <| RG.va (FV.extract rfl rfl) <| RG.so rfl <| RG.so rfl <| RG.nil ?_
 refine MX.sr <| RG.va (FV.lN rfl (hS17.memA (.tl (.tl .hd)))) ?_
 obtain ⟨y8, hy8, h⟩ := bind_in h
 have hq159 := Tr.trans hT9 (Tr.trans hT11 (Tr.trans hT12 (Tr.trans hT13 (Tr.trans hT14 (Tr.trans hT15 (Tr.trans hT16 (Tr.trans hT17 hT18)))))))
 have hm12 := Rep.mv hr9 hq159
 refine RG.cq (.tuple #[.agg ((cs_TShare y8.1)).toArray, .agg ((cs_TShare y8.2.1)).toArray, vI y8.2.2]) body9 rfl (e3 rfl rfl rfl) (fun w9 hw9 => minority_Line_c n _ w9 (hS17.hL0 hL hw9) (⟨y0.fGroups, y0.fParties, y0.fLevels, xs0⟩ : TRoll) (hS17.kd hm12 hw9) (9 : Int) (9 : Int) hy8) rfl <| RG.mo rfl <| RG.va (FV.extract rfl rfl) <| RG.va (FV.extract rfl rfl) <| RG.va (FV.extract rfl rfl) <| RG.new .plain rfl (Does.alloc (zs := [.int .u64 0, .int .u64 0, .int .u64 0, .int .u64 0, .int .u64 0, .int .u64 0, .int .u64 0, .int .u64 0, .int .u64 0, .int .u64 0, .int .u64 0, .int .u64 0, .int .u64 0, .int .u64 0, .int .u64 0, .int .u64 0]) hS17 (zB (by kernel_rfl))) (fun w16 b7 hS19 hT20 => ?_)
 refine RG.new .plain rfl (Does.alloc (zs := [.int .u64 0, .int .u64 0, .int .u64 0, .int .u64 0, .int .u64 0, .int .u64 0, .int .u64 0, .int .u64 0, .int .u64 0, .int .u64 0, .int .u64 0, .int .u64 0, .int .u64 0, .int .u64 0, .int .u64 0, .int .u64 0]) hS19 (zB (by kernel_rfl))) (fun w18 b8 hS20 hT21 => ?_)
 refine RG.now .plain (Acts.storeAll (news := (cs_TShare y8.1)) hS20 (.tl .hd) rfl rfl rfl rfl rfl rfl (onesB rfl)) (fun w19 hS21 hT22 => ?_)
 refine RG.now .plain (Acts.storeAll (news := (cs_TShare y8.2.1)) hS21 .hd rfl rfl rfl rfl rfl rfl (onesB rfl)) (fun w20 hS22 hT23 => ?_)
 refine RG.so rfl <| RG.nil <| MX.sr <| RG.va (FV.lN rfl (hS22.memA (.tl (.tl (.tl (.tl (.tl .hd))))))) ?_
 obtain ⟨y9, hy9, h⟩ := bind_in h
 have hq178 := Tr.trans hT16 (Tr.trans hT17 (Tr.trans hT18 (Tr.trans hT20 (Tr.trans hT21 (Tr.trans hT22 hT23)))))
 have hm13 := Rep.mv hr12 hq178
 refine RG.cq (.tuple #[.agg ((cs_TShare y9.1)).toArray, .agg ((cs_TShare y9.2.1)).toArray, vI y9.2.2]) body9 rfl (e3 rfl rfl rfl) (fun w9 hw9 => minority_Line_c n _ w9 (hS22.hL0 hL hw9) y3 (hS22.kd hm13 hw9) (0 : Int) (2 : Int) hy9) rfl <| RG.mo rfl <| RG.va (FV.extract rfl rfl) <| RG.va (FV.extract rfl rfl) <| RG.va (FV.extract rfl rfl) <| RG.new .plain rfl (Does.alloc (zs := [.int .u64 0, .int .u64 0, .int .u64 0, .int .u64 0, .int .u64 0, .int .u64 0, .int .u64 0, .int .u64 0, .int .u64 0, .int .u64 0, .int .u64 0, .int .u64 0, .int .u64 0, .int .u64 0, .int .u64 0, .int .u64 0]) hS22 (zB (by kernel_rfl))) (fun w21 b9 hS23 hT24 => ?_)
 refine RG.new .plain rfl (Does.alloc (zs := [.int .u64 0, .int .u64 0, .int .u64 0, .int .u64 0, .int .u64 0, .int .u64 0, .int .u64 0, .int .u64 0, .int .u64 0, .int .u64 0, .int .u64 0, .int .u64 0, .int .u64 0, .int .u64 0, .int .u64 0, .int .u64 0]) hS23 (zB (by kernel_rfl))) (fun w22 b10 hS25 hT26 => ?_)
 refine RG.now .plain (Acts.storeAll (news := (cs_TShare y9.1)) hS25 (.tl .hd) rfl rfl rfl rfl rfl rfl (onesB rfl)) (fun w24 hS26 hT27 => ?_)
 refine RG.now .plain (Acts.storeAll (news := (cs_TShare y9.2.1)) hS26 .hd rfl rfl rfl rfl rfl rfl (onesB rfl)) (fun w25 hS27 hT28 => ?_)
 refine RG.so rfl <| RG.nil <| MX.sr <| RG.va (FV.lN rfl (hS27.memA (.tl (.tl (.tl (.tl (.tl (.tl (.tl .hd))))))))) ?_
 obtain ⟨y10, hy10, h⟩ := bind_in h
 have hq197 := Tr.trans hq178 (Tr.trans hT24 (Tr.trans hT26 (Tr.trans hT27 hT28)))
 have hm14 := Rep.mv hr12 hq197
 refine RG.cq (.tuple #[.agg ((cs_TShare y10.1)).toArray, vI y10.2]) body10 rfl (e3 rfl rfl rfl) (fun w9 hw9 => minority_Fit_c n _ w9 (hS27.hL0 hL hw9) y3 (hS27.kd hm14 hw9) (-1 : Int) (0 : Int) hy10) rfl <| RG.mo rfl <| RG.va (FV.extract rfl rfl) <| RG.va (FV.extract rfl rfl) <| RG.new .plain rfl (Does.alloc (zs := [.int .u64 0, .int .u64 0, .int .u64 0, .int .u64 0, .int .u64 0, .int .u64 0, .int .u64 0, .int .u64 0, .int .u64 0, .int .u64 0, .int .u64 0, .int .u64 0, .int .u64 0, .int .u64 0, .int .u64 0, .int .u64 0]) hS27 (zB (by kernel_rfl))) (fun w26 b11 hS29 hT30 => ?_)
 refine RG.now .plain (Acts.storeAll (news := (cs_TShare y10.1)) hS29 .hd rfl rfl rfl rfl rfl rfl (onesB rfl)) (fun w28 hS30 hT31 => ?_)
 refine RG.so rfl <| RG.nil <| MX.seq <| MX.join (α := Bool) (fun q0 => [(22, .bool q0)]) (fun q0 wx0 => St w wx0 [] ∧ Tr w28 [.cells b11 (cs_TShare y10.1) 39, .cells b10 (cs_TShare y9.2.1) 39, .cells b9 (cs_TShare y9.1) 39, .cells b8 (cs_TShare y8.2.1) 39, .cells b7 (cs_TShare y8.1) 39, .cells b6 (cs_TShare y5.1) 39, .cells b5 (cs_TShare y4.1) 39, .cells b3 [vI y0.fGroups, vI y0.fParties, vI y0.fLevels, v1] 25, .cells b2 [vI y3.fGroups, vI y3.fParties, vI y3.fLevels, v0] 25] wx0 []) (fun q0 => q0) h ?_ ?_
 rintro q0 wx0 ⟨hS31, hT32⟩ h
 try dsimp only at h
 refine MX.sr <| RG.new .plain rfl (Does.build (α := Int) (xs := ([(0 : Int)] : List Int)) (vs := [vI 0]) (ds' := [vI 0]) rfl hS31 el27 rfl (e1 rfl) (by kernel_rfl) rfl) (fun w29 b12 hS32 hT33 => ?_)
 have hc6 := Cells.at_ (cs := [vI 0]) (xs := (([(0 : Int)] : List Int) : List Int)) hS32 L (Cells.cons (cs := [vI 0]) (ds := []) rfl (Cells.nil _ _))
 refine RG.new .plain rfl (Does.build (α := Int) (xs := ([(5 : Int), (5 : Int)] : List Int)) (vs := [vI 5, vI 5]) (ds' := [vI 5, vI 5]) rfl hS32 el27 rfl (e2 rfl rfl) (by kernel_rfl) rfl) (fun w30 b13 hS33 hT34 => ?_)
 have hc7 := Cells.at_ (cs := [vI 5, vI 5]) (xs := (([(5 : Int), (5 : Int)] : List Int) : List Int)) hS33 L (Cells.cons (cs := [vI 5]) (ds := [vI 5]) rfl (Cells.cons (cs := [vI 5]) (ds := []) rfl (Cells.nil _ _)))
 refine RG.va (FV.buildV (vs := [.string ⟨#[97]⟩, (vS b12 1), (vS b13 2)]) (u := .agg #[.string ⟨#[97]⟩, vI 0, (vS b12 1), (vS b13 2), vN, .bool false]) (e3 rfl rfl rfl) (fun w9 => by kernel_rfl)) <| RG.new .plain rfl (Does.build (α := Int) (xs := ([(9 : Int)] : List Int)) (vs := [vI 9]) (ds' := [vI 9]) rfl hS33 el27 rfl (e1 rfl) (by kernel_rfl) rfl) (fun w32 b14 hS34 hT35 => ?_)
 have hc8 := Cells.at_ (cs := [vI 9]) (xs := (([(9 : Int)] : List Int) : List Int)) hS34 L (Cells.cons (cs := [vI 9]) (ds := []) rfl (Cells.nil _ _))
 refine RG.new .plain rfl (Does.build (α := Int) (xs := ([(0 : Int), (0 : Int)] : List Int)) (vs := [vI 0, vI 0]) (ds' := [vI 0, vI 0]) rfl hS34 el27 rfl (e2 rfl rfl) (by kernel_rfl) rfl) (fun w33 b15 hS35 hT36 => ?_)
 have hc9 := Cells.at_ (cs := [vI 0, vI 0]) (xs := (([(0 : Int), (0 : Int)] : List Int) : List Int)) hS35 L (Cells.cons (cs := [vI 0]) (ds := [vI 0]) rfl (Cells.cons (cs := [vI 0]) (ds := []) rfl (Cells.nil _ _)))
 refine RG.va (FV.buildV (vs := [.string ⟨#[98]⟩, vI 9, (vS b14 1), (vS b15 2)]) (u := .agg #[.string ⟨#[98]⟩, vI 9, (vS b14 1), (vS b15 2), vN, .bool false]) (e4 rfl rfl rfl rfl) (fun w9 => by kernel_rfl)) <| RG.new .plain rfl (Does.build (α := Int) (xs := ([(1 : Int)] : List Int)) (vs := [vI 1]) (ds' := [vI 1]) rfl hS35 el27 rfl (e1 rfl) (by kernel_rfl) rfl) (fun w34 b16 hS37 hT38 => ?_)
 have hc10 := Cells.at_ (cs := [vI 1]) (xs := (([(1 : Int)] : List Int) : List Int)) hS37 L (Cells.cons (cs := [vI 1]) (ds := []) rfl (Cells.nil _ _))
 refine RG.new .plain rfl (Does.build (α := Int) (xs := ([(1 : Int), (3 : Int)] : List Int)) (vs := [vI 1, vI 3]) (ds' := [vI 1, vI 3]) rfl hS37 el27 rfl (e2 rfl rfl) (by kernel_rfl) rfl) (fun w35 b17 hS38 hT39 => ?_)
 have hc11 := Cells.at_ (cs := [vI 1, vI 3]) (xs := (([(1 : Int), (3 : Int)] : List Int) : List Int)) hS38 L (Cells.cons (cs := [vI 1]) (ds := [vI 3]) rfl (Cells.cons (cs := [vI 3]) (ds := []) rfl (Cells.nil _ _)))
 refine RG.va (FV.buildV (vs := [.string ⟨#[99]⟩, vI 4, (vS b16 1), (vS b17 2)]) (u := .agg #[.string ⟨#[99]⟩, vI 4, (vS b16 1), (vS b17 2), vN, .bool false]) (e4 rfl rfl rfl rfl) (fun w9 => by kernel_rfl)) ?_
 have hq262 := Tr.trans hT34 (Tr.trans hT35 (Tr.trans hT36 (Tr.trans hT38 hT39)))
 have hm15 := Cells.mv hc6 hq262
 have hr17 := St.freeze (α := Int) hS38 (.tl (.tl (.tl (.tl (.tl .hd))))) hm15 hL
 have hS39 := St.delS hS38 (.tl (.tl (.tl (.tl (.tl .hd)))))
 have hT40 := St.delT hS38 (.tl (.tl (.tl (.tl (.tl .hd)))))
 have hr18 := Rep.at_ (α := Int) (v := (vS b12 1)) (xs := ([(0 : Int)] : List Int)) hS39 L hr17
 have hq268 := Tr.trans hT35 (Tr.trans hT36 (Tr.trans hT38 (Tr.trans hT39 hT40)))
 have hm16 := Cells.mv hc7 hq268
 have hr19 := St.freeze (α := Int) hS39 (.tl (.tl (.tl (.tl .hd)))) hm16 hL
 have hS40 := St.delS hS39 (.tl (.tl (.tl (.tl .hd))))
 have hT41 := St.delT hS39 (.tl (.tl (.tl (.tl .hd))))
 have hr20 := Rep.at_ (α := Int) (v := (vS b13 2)) (xs := ([(5 : Int), (5 : Int)] : List Int)) hS40 L hr19
 have hr21 := Rep.nilAt (α := Int) hS40 L
 have hq275 := Tr.trans hT36 (Tr.trans hT38 (Tr.trans hT39 (Tr.trans hT40 hT41)))
 have hm17 := Cells.mv hc8 hq275
 have hr22 := St.freeze (α := Int) hS40 (.tl (.tl (.tl .hd))) hm17 hL
 have hS41 := St.delS hS40 (.tl (.tl (.tl .hd)))
 have hT42 := St.delT hS40 (.tl (.tl (.tl .hd)))
 have hr23 := Rep.at_ (α := Int) (v := (vS b14 1)) (xs := ([(9 : Int)] : List Int)) hS41 L hr22
 have hq281 := Tr.trans hT38 (Tr.trans hT39 (Tr.trans hT40 (Tr.trans hT41 hT42)))
 have hm18 := Cells.mv hc9 hq281
 have hr24 := St.freeze (α := Int) hS41 (.tl (.tl .hd)) hm18 hL
 have hS42 := St.delS hS41 (.tl (.tl .hd))
 have hT43 := St.delT hS41 (.tl (.tl .hd))
 have hr25 := Rep.at_ (α := Int) (v := (vS b15 2)) (xs := ([(0 : Int), (0 : Int)] : List Int)) hS42 L hr24
 have hr26 := Rep.nilAt (α := Int) hS42 L
 have hq288 := Tr.trans hT39 (Tr.trans hT40 (Tr.trans hT41 (Tr.trans hT42 hT43)))
 have hm19 := Cells.mv hc10 hq288
 have hr27 := St.freeze (α := Int) hS42 (.tl .hd) hm19 hL
 have hS43 := St.delS hS42 (.tl .hd)
 have hT44 := St.delT hS42 (.tl .hd)
 have hr28 := Rep.at_ (α := Int) (v := (vS b16 1)) (xs := ([(1 : Int)] : List Int)) hS43 L hr27
 have hq294 := Tr.trans hT40 (Tr.trans hT41 (Tr.trans hT42 (Tr.trans hT43 hT44)))
 have hm20 := Cells.mv hc11 hq294
 have hr29 := St.freeze (α := Int) hS43 .hd hm20 hL
 have hS44 := St.delS hS43 .hd
 have hT45 := St.delT hS43 .hd
 have hr30 := Rep.at_ (α := Int) (v := (vS b17 2)) (xs := ([(1 : Int), (3 : Int)] : List Int)) hS44 L hr29
 have hr31 := Rep.nilAt (α := Int) hS44 L
 have hq298 := Tr.trans hT41 (Tr.trans hT42 (Tr.trans hT43 (Tr.trans hT44 hT45)))
 have hm21 := Rep.mv hr18 hq298
 have hq300 := Tr.trans hT42 (Tr.trans hT43 (Tr.trans hT44 hT45))
 have hm22 := Rep.mv hr20 hq300
 have hq302 := Tr.trans hT43 (Tr.trans hT44 hT45)
 have hm23 := Rep.mv hr23 hq302
 have hm24 := Rep.mv hr25 (Tr.trans hT44 hT45)
 have hm25 := Rep.mv hr28 hT45
 refine RG.new .plain rfl (Does.build (α := TUnit) (xs := ([(⟨⟨#[97]⟩, (0 : Int), ([(0 : Int)] : List Int), ([(5 : Int), (5 : Int)] : List Int), ([] : List Int), false⟩ : TUnit), (⟨⟨#[98]⟩, (9 : Int), ([(9 : Int)] : List Int), ([(0 : Int), (0 : Int)] : List Int), ([] : List Int), false⟩ : TUnit), (⟨⟨#[99]⟩, (4 : Int), ([(1 : Int)] : List Int), ([(1 : Int), (3 : Int)] : List Int), ([] : List Int), false⟩ : TUnit)] : List TUnit)) (vs := [.agg #[.string ⟨#[97]⟩, vI 0, (vS b12 1), (vS b13 2), vN, .bool false], .agg #[.string ⟨#[98]⟩, vI 9, (vS b14 1), (vS b15 2), vN, .bool false], .agg #[.string ⟨#[99]⟩, vI 4, (vS b16 1), (vS b17 2), vN, .bool false]]) (ds' := [.string ⟨#[97]⟩, vI 0, (vS b12 1), (vS b13 2), vN, .bool false, .string ⟨#[98]⟩, vI 9, (vS b14 1), (vS b15 2), vN, .bool false, .string ⟨#[99]⟩, vI 4, (vS b16 1), (vS b17 2), vN, .bool false]) rfl hS44 el23 rfl (e3 rfl rfl rfl) (by kernel_rfl) rfl) (fun w36 b18 hS46 hT47 => ?_)
 have hm26 := Rep.mv hr28 (Tr.trans hT45 hT47)
 have hm27 := Rep.mv hr30 hT47
 have hr32 := Rep.nilAt (α := Int) hS46 L
 have hm28 := Rep.mv hr23 (Tr.trans hq302 hT47)
 have hq315 := Tr.trans hT44 (Tr.trans hT45 hT47)
 have hm29 := Rep.mv hr25 hq315
 have hm30 := Rep.mv hr18 (Tr.trans hq298 hT47)
 have hm31 := Rep.mv hr20 (Tr.trans hq300 hT47)
 have hc12 := Cells.at_ (cs := [.string ⟨#[97]⟩, vI 0, (vS b12 1), (vS b13 2), vN, .bool false, .string ⟨#[98]⟩, vI 9, (vS b14 1), (vS b15 2), vN, .bool false, .string ⟨#[99]⟩, vI 4, (vS b16 1), (vS b17 2), vN, .bool false]) (xs := (([(⟨⟨#[97]⟩, (0 : Int), ([(0 : Int)] : List Int), ([(5 : Int), (5 : Int)] : List Int), ([] : List Int), false⟩ : TUnit), (⟨⟨#[98]⟩, (9 : Int), ([(9 : Int)] : List Int), ([(0 : Int), (0 : Int)] : List Int), ([] : List Int), false⟩ : TUnit), (⟨⟨#[99]⟩, (4 : Int), ([(1 : Int)] : List Int), ([(1 : Int), (3 : Int)] : List Int), ([] : List Int), false⟩ : TUnit)] : List TUnit) : List TUnit)) hS46 L (Cells.cons (cs := [.string ⟨#[97]⟩, vI 0, (vS b12 1), (vS b13 2), vN, .bool false]) (ds := [.string ⟨#[98]⟩, vI 9, (vS b14 1), (vS b15 2), vN, .bool false, .string ⟨#[99]⟩, vI 4, (vS b16 1), (vS b17 2), vN, .bool false]) (mk_TUnit ⟨#[97]⟩ (0 : Int) ([(0 : Int)] : List Int) hm30 ([(5 : Int), (5 : Int)] : List Int) hm31 ([] : List Int) hr32 false) (Cells.cons (cs := [.string ⟨#[98]⟩, vI 9, (vS b14 1), (vS b15 2), vN, .bool false]) (ds := [.string ⟨#[99]⟩, vI 4, (vS b16 1), (vS b17 2), vN, .bool false]) (mk_TUnit ⟨#[98]⟩ (9 : Int) ([(9 : Int)] : List Int) hm28 ([(0 : Int), (0 : Int)] : List Int) hm29 ([] : List Int) hr32 false) (Cells.cons (cs := [.string ⟨#[99]⟩, vI 4, (vS b16 1), (vS b17 2), vN, .bool false]) (ds := []) (mk_TUnit ⟨#[99]⟩ (4 : Int) ([(1 : Int)] : List Int) hm26 ([(1 : Int), (3 : Int)] : List Int) hm27 ([] : List Int) hr32 false) (Cells.nil _ _))))
 refine RG.va (FV.buildV (vs := [vI 1, vI 2, (vS b18 3)]) (u := .agg #[vI 1, vI 2, vI 0, (vS b18 3)]) (e3 rfl rfl rfl) (fun w9 => by kernel_rfl)) <| RG.new .plain rfl (Does.alloc (zs := [vI 0, vI 0, vI 0, vN]) hS46 (zB (by kernel_rfl))) (fun w37 b19 hS47 hT48 => ?_)
 refine RG.now .plain (Acts.storeAll (news := [vI 1, vI 2, vI 0, (vS b18 3)]) hS47 .hd rfl rfl rfl rfl rfl rfl (o4 rfl rfl rfl (St.o1 (α := TUnit) hS47 (.tl .hd)))) (fun w38 hS48 hT49 => ?_)
 refine RG.nil <| MX.sr <| RG.va (FV.lN rfl (hS48.memA .hd)) ?_
 obtain ⟨y11, hy11, h⟩ := bind_in h
 have hm32 := Cells.mv hc12 (Tr.trans hT48 hT49)
 refine RG.cq (.tuple #[.agg ((cs_TShare y11.1)).toArray, .agg ((cs_TShare y11.2.1)).toArray, vI y11.2.2]) body9 rfl (e3 rfl rfl rfl) (fun w9 hw9 => minority_Line_c n _ w9 (hS48.hL0 hL hw9) (⟨(1 : Int), (2 : Int), (0 : Int), ([(⟨⟨#[97]⟩, (0 : Int), ([(0 : Int)] : List Int), ([(5 : Int), (5 : Int)] : List Int), ([] : List Int), false⟩ : TUnit), (⟨⟨#[98]⟩, (9 : Int), ([(9 : Int)] : List Int), ([(0 : Int), (0 : Int)] : List Int), ([] : List Int), false⟩ : TUnit), (⟨⟨#[99]⟩, (4 : Int), ([(1 : Int)] : List Int), ([(1 : Int), (3 : Int)] : List Int), ([] : List Int), false⟩ : TUnit)] : List TUnit)⟩ : TRoll) (Rep.keep0 (St.lend (α := TUnit) (L := L) hS48 (.tl .hd) hm32 hL) hw9) (0 : Int) (0 : Int) hy11) rfl <| RG.mo rfl <| RG.va (FV.extract rfl rfl) <| RG.va (FV.extract rfl rfl) <| RG.va (FV.extract rfl rfl) <| RG.new .plain rfl (Does.alloc (zs := [.int .u64 0, .int .u64 0, .int .u64 0, .int .u64 0, .int .u64 0, .int .u64 0, .int .u64 0, .int .u64 0, .int .u64 0, .int .u64 0, .int .u64 0, .int .u64 0, .int .u64 0, .int .u64 0, .int .u64 0, .int .u64 0]) hS48 (zB (by kernel_rfl))) (fun w39 b21 hS50 hT51 => ?_)
 refine RG.new .plain rfl (Does.alloc (zs := [.int .u64 0, .int .u64 0, .int .u64 0, .int .u64 0, .int .u64 0, .int .u64 0, .int .u64 0, .int .u64 0, .int .u64 0, .int .u64 0, .int .u64 0, .int .u64 0, .int .u64 0, .int .u64 0, .int .u64 0, .int .u64 0]) hS50 (zB (by kernel_rfl))) (fun w40 b22 hS51 hT52 => ?_)
 refine RG.now .plain (Acts.storeAll (news := (cs_TShare y11.1)) hS51 (.tl .hd) rfl rfl rfl rfl rfl rfl (onesB rfl)) (fun w41 hS52 hT53 => ?_)
 refine RG.now .plain (Acts.storeAll (news := (cs_TShare y11.2.1)) hS52 .hd rfl rfl rfl rfl rfl rfl (onesB rfl)) (fun w42 hS53 hT54 => ?_)
 refine RG.so rfl <| RG.nil <| MX.sr <| RG.va (FV.lN rfl (hS53.memA (.tl (.tl .hd)))) ?_
 obtain ⟨y12, hy12, h⟩ := bind_in h
 have hq346 := Tr.trans hT48 (Tr.trans hT49 (Tr.trans hT51 (Tr.trans hT52 (Tr.trans hT53 hT54))))
 have hm33 := Cells.mv hc12 hq346
 refine RG.cq (.tuple #[.agg ((cs_TShare y12.1)).toArray, vI y12.2]) body10 rfl (e3 rfl rfl rfl) (fun w9 hw9 => minority_Fit_c n _ w9 (hS53.hL0 hL hw9) (⟨(1 : Int), (2 : Int), (0 : Int), ([(⟨⟨#[97]⟩, (0 : Int), ([(0 : Int)] : List Int), ([(5 : Int), (5 : Int)] : List Int), ([] : List Int), false⟩ : TUnit), (⟨⟨#[98]⟩, (9 : Int), ([(9 : Int)] : List Int), ([(0 : Int), (0 : Int)] : List Int), ([] : List Int), false⟩ : TUnit), (⟨⟨#[99]⟩, (4 : Int), ([(1 : Int)] : List Int), ([(1 : Int), (3 : Int)] : List Int), ([] : List Int), false⟩ : TUnit)] : List TUnit)⟩ : TRoll) (Rep.keep0 (St.lend (α := TUnit) (L := L) hS53 (.tl (.tl (.tl .hd))) hm33 hL) hw9) (0 : Int) (0 : Int) hy12) rfl <| RG.mo rfl <| RG.va (FV.extract rfl rfl) <| RG.va (FV.extract rfl rfl) <| RG.new .plain rfl (Does.alloc (zs := [.int .u64 0, .int .u64 0, .int .u64 0, .int .u64 0, .int .u64 0, .int .u64 0, .int .u64 0, .int .u64 0, .int .u64 0, .int .u64 0, .int .u64 0, .int .u64 0, .int .u64 0, .int .u64 0, .int .u64 0, .int .u64 0]) hS53 (zB (by kernel_rfl))) (fun w43 b23 hS54 hT55 => ?_)
 refine RG.now .plain (Acts.storeAll (news := (cs_TShare y12.1)) hS54 .hd rfl rfl rfl rfl rfl rfl (onesB rfl)) (fun w45 hS55 hT56 => ?_)
 refine RG.so rfl <| RG.nil <| MX.sr <| RG.va (FV.lN rfl (hS55.memA (.tl (.tl (.tl .hd))))) <| RG.new .plain rfl (Does.alloc (zs := [vI 0, vI 0, vI 0, vN]) hS55 (zB (by kernel_rfl))) (fun w46 b24 hS56 hT57 => ?_)
 refine RG.now .plain (Acts.storeAll (news := [vI 1, vI 2, vI 0, (vS b18 3)]) hS56 .hd rfl rfl rfl rfl rfl rfl (o4 rfl rfl rfl (St.o1 (α := TUnit) hS56 (.tl (.tl (.tl (.tl (.tl .hd)))))))) (fun w47 hS57 hT58 => ?_)
 refine RG.nil <| MX.sr <| RG.fa 3 rfl <| RG.va (FV.l1 rfl ((hS57.memA (.tl (.tl (.tl (.tl .hd))))) 3 _ rfl)) ?_
 have hq368 := Tr.trans hq346 (Tr.trans hT55 (Tr.trans hT56 (Tr.trans hT57 hT58)))
 have hm34 := Cells.mv hc12 hq368
 have hr33 := St.freeze (α := TUnit) hS57 (.tl (.tl (.tl (.tl (.tl .hd))))) hm34 hL
 have hS58 := St.delS hS57 (.tl (.tl (.tl (.tl (.tl .hd)))))
 have hT59 := St.delT hS57 (.tl (.tl (.tl (.tl (.tl .hd)))))
 have hr34 := Rep.at_ (α := TUnit) (v := (vS b18 3)) (xs := ([(⟨⟨#[97]⟩, (0 : Int), ([(0 : Int)] : List Int), ([(5 : Int), (5 : Int)] : List Int), ([] : List Int), false⟩ : TUnit), (⟨⟨#[98]⟩, (9 : Int), ([(9 : Int)] : List Int), ([(0 : Int), (0 : Int)] : List Int), ([] : List Int), false⟩ : TUnit), (⟨⟨#[99]⟩, (4 : Int), ([(1 : Int)] : List Int), ([(1 : Int), (3 : Int)] : List Int), ([] : List Int), false⟩ : TUnit)] : List TUnit)) hS58 L hr33
 obtain ⟨y13, hy13, h⟩ := bind_in h
 refine RG.call' (fst := []) (cap := []) .plain body11 rfl (e1 rfl) (fun w9 hw9 => own_gives (b0 := w.heap.size) (slices_Clone_api_Unit_api_Unit_c n _ w9 (hS58.hL hL hw9) ([(⟨⟨#[97]⟩, (0 : Int), ([(0 : Int)] : List Int), ([(5 : Int), (5 : Int)] : List Int), ([] : List Int), false⟩ : TUnit), (⟨⟨#[98]⟩, (9 : Int), ([(9 : Int)] : List Int), ([(0 : Int), (0 : Int)] : List Int), ([] : List Int), false⟩ : TUnit), (⟨⟨#[99]⟩, (4 : Int), ([(1 : Int)] : List Int), ([(1 : Int), (3 : Int)] : List Int), ([] : List Int), false⟩ : TUnit)] : List TUnit) (Rep.keep0 hr34 hw9) hy13) hw9 (Nat.le_trans hS58.ag.size hw9.size)) rfl (fun w49 vu4 hag4 ⟨v13, cs6, hu1, s1, hc14⟩ => ?_)
 subst hu1
 have hS59 := own_push hS58 s1
 have hT60 := own_tr hS58 s1
 have hc16 := Cells.at_ (cs := cs6) (xs := (y13 : List TUnit)) hS59 L (own_cells hc14)
 refine RG.new .plain rfl (Does.build (α := Int) (xs := ([(1 : Int)] : List Int)) (vs := [vI 1]) (ds' := [vI 1]) rfl hS59 el27 rfl (e1 rfl) (by kernel_rfl) rfl) (fun w50 b25 hS60 hT61 => ?_)
 have hc17 := Cells.at_ (cs := [vI 1]) (xs := (([(1 : Int)] : List Int) : List Int)) hS60 L (Cells.cons (cs := [vI 1]) (ds := []) rfl (Cells.nil _ _))
 refine RG.new .plain rfl (Does.build (α := Int) (xs := ([(1 : Int), (1 : Int)] : List Int)) (vs := [vI 1, vI 1]) (ds' := [vI 1, vI 1]) rfl hS60 el27 rfl (e2 rfl rfl) (by kernel_rfl) rfl) (fun w51 b27 hS61 hT62 => ?_)
 have hc18 := Cells.at_ (cs := [vI 1, vI 1]) (xs := (([(1 : Int), (1 : Int)] : List Int) : List Int)) hS61 L (Cells.cons (cs := [vI 1]) (ds := [vI 1]) rfl (Cells.cons (cs := [vI 1]) (ds := []) rfl (Cells.nil _ _)))
 refine RG.va (FV.buildV (vs := [.string ⟨#[100]⟩, vI 2, (vS b25 1), (vS b27 2)]) (u := .agg #[.string ⟨#[100]⟩, vI 2, (vS b25 1), (vS b27 2), vN, .bool false]) (e4 rfl rfl rfl rfl) (fun w9 => by kernel_rfl)) ?_
 have hm35 := Cells.mv hc17 hT62
 have hr35 := St.freeze (α := Int) hS61 (.tl .hd) hm35 hL
 have hS62 := St.delS hS61 (.tl .hd)
 have hT63 := St.delT hS61 (.tl .hd)
 have hr36 := Rep.at_ (α := Int) (v := (vS b25 1)) (xs := ([(1 : Int)] : List Int)) hS62 L hr35
 have hm36 := Cells.mv hc18 hT63
 have hr37 := St.freeze (α := Int) hS62 .hd hm36 hL
 have hS63 := St.delS hS62 .hd
 have hT64 := St.delT hS62 .hd
 have hr38 := Rep.at_ (α := Int) (v := (vS b27 2)) (xs := ([(1 : Int), (1 : Int)] : List Int)) hS63 L hr37
 have hr39 := Rep.nilAt (α := Int) hS63 L
 have hm37 := Rep.mv hr36 hT64
 refine RG.new .plain rfl (Does.build (α := TUnit) (xs := ([(⟨⟨#[100]⟩, (2 : Int), ([(1 : Int)] : List Int), ([(1 : Int), (1 : Int)] : List Int), ([] : List Int), false⟩ : TUnit)] : List TUnit)) (vs := [.agg #[.string ⟨#[100]⟩, vI 2, (vS b25 1), (vS b27 2), vN, .bool false]]) (ds' := [.string ⟨#[100]⟩, vI 2, (vS b25 1), (vS b27 2), vN, .bool false]) rfl hS63 el23 rfl (e1 rfl) (by kernel_rfl) rfl) (fun w52 b28 hS64 hT65 => ?_)
 have hm38 := Rep.mv hr36 (Tr.trans hT64 hT65)
 have hm39 := Rep.mv hr38 hT65
 have hr40 := Rep.nilAt (α := Int) hS64 L
 have hc19 := Cells.at_ (cs := [.string ⟨#[100]⟩, vI 2, (vS b25 1), (vS b27 2), vN, .bool false]) (xs := (([(⟨⟨#[100]⟩, (2 : Int), ([(1 : Int)] : List Int), ([(1 : Int), (1 : Int)] : List Int), ([] : List Int), false⟩ : TUnit)] : List TUnit) : List TUnit)) hS64 L (Cells.cons (cs := [.string ⟨#[100]⟩, vI 2, (vS b25 1), (vS b27 2), vN, .bool false]) (ds := []) (mk_TUnit ⟨#[100]⟩ (2 : Int) ([(1 : Int)] : List Int) hm38 ([(1 : Int), (1 : Int)] : List Int) hm39 ([] : List Int) hr40 false) (Cells.nil _ _))
 obtain ⟨xs1, hxs416, h⟩ := bind_in h
 have hq417 := Tr.trans hT61 (Tr.trans hT62 (Tr.trans hT63 (Tr.trans hT64 hT65)))
 have hm40 := Cells.mv hc16 hq417
 refine RG.doesL .plain rfl (DoesL.app (α := TUnit) (ys := ([(⟨⟨#[100]⟩, (2 : Int), ([(1 : Int)] : List Int), ([(1 : Int), (1 : Int)] : List Int), ([] : List Int), false⟩ : TUnit)] : List TUnit)) hxs416 hS64 (fun _ _ => (.tl .hd)) el23 rfl rfl hm40 (Src.row (α := TUnit) hS64 .hd hc19)) (fun v14 w53 ⟨cs7, hS65, hT66, hc20⟩ => ?_)
 refine RG.fa 3 rfl <| RG.now .plain (Acts.store (j := 3) (old := [vI 1, vI 2, vI 0, (vS b18 3)]) (news := [v14]) (new' := [vI 1, vI 2, vI 0, v14]) hS65 (.tl (.tl .hd)) rfl rfl rfl (St.c1 (α := TUnit) hS65 (.tl .hd)) rfl rfl (o1 (St.o1 (α := TUnit) hS65 (.tl .hd))) rfl) (fun w54 hS66 hT67 => ?_)
 refine RG.nil <| MX.seq <| MX.join (α := Bool) (fun q1 => [(22, .bool q1), (23, vP b19)]) (fun q1 wx1 => St w wx1 [.cells b19 [vI 1, vI 2, vI 0, (vS b18 3)] 25] ∧ Tr w54 [.row w.heap.size 30 (Rep.size TUnit) (vS b28 1) (([(⟨⟨#[100]⟩, (2 : Int), ([(1 : Int)] : List Int), ([(1 : Int), (1 : Int)] : List Int), ([] : List Int), false⟩ : TUnit)] : List TUnit).length) [.string ⟨#[100]⟩, vI 2, (vS b25 1), (vS b27 2), vN, .bool false], .row w.heap.size 30 (Rep.size TUnit) v14 xs1.length cs7, .cells b24 [vI 1, vI 2, vI 0, v14] 25, .cells b23 (cs_TShare y12.1) 39, .cells b22 (cs_TShare y11.2.1) 39, .cells b21 (cs_TShare y11.1) 39, .cells b19 [vI 1, vI 2, vI 0, (vS b18 3)] 25] wx1 [.cells b19 [vI 1, vI 2, vI 0, (vS b18 3)] 25]) (fun q1 => q1) h ?_ ?_
 rintro q1 wx1 ⟨hS67, hT68⟩ h
 try dsimp only at h
 refine MX.sr <| RG.va (FV.lN rfl (hS67.memA .hd)) <| RG.new .plain rfl (Does.build (α := Int) (xs := ([(0 : Int), (0 : Int), (0 : Int)] : List Int)) (vs := [vI 0, vI 0, vI 0]) (ds' := [vI 0, vI 0, vI 0]) rfl hS67 el28 rfl (e3 rfl rfl rfl) (by kernel_rfl) rfl) (fun w55 b29 hS68 hT69 => ?_)
 have hc22 := Cells.at_ (cs := [vI 0, vI 0, vI 0]) (xs := (([(0 : Int), (0 : Int), (0 : Int)] : List Int) : List Int)) hS68 L (Cells.cons (cs := [vI 0]) (ds := [vI 0, vI 0]) rfl (Cells.cons (cs := [vI 0]) (ds := [vI 0]) rfl (Cells.cons (cs := [vI 0]) (ds := []) rfl (Cells.nil _ _))))
 obtain ⟨y14, hy14, h⟩ := bind_in h
 have hq479 := Tr.trans hT60 (Tr.trans hT61 (Tr.trans hT62 (Tr.trans hT63 (Tr.trans hT64 (Tr.trans hT65 (Tr.trans hT66 (Tr.trans hT67 (Tr.trans hT68 hT69))))))))
 have hm41 := Rep.mv hr34 hq479
 refine RG.cq (.tuple #[.agg ((cs_TShare y14.1)).toArray, vI y14.2]) body7 rfl (e4 rfl rfl rfl rfl) (fun w9 hw9 => minority_Index_c n _ w9 (hS68.hL0 hL hw9) (⟨(1 : Int), (2 : Int), (0 : Int), ([(⟨⟨#[97]⟩, (0 : Int), ([(0 : Int)] : List Int), ([(5 : Int), (5 : Int)] : List Int), ([] : List Int), false⟩ : TUnit), (⟨⟨#[98]⟩, (9 : Int), ([(9 : Int)] : List Int), ([(0 : Int), (0 : Int)] : List Int), ([] : List Int), false⟩ : TUnit), (⟨⟨#[99]⟩, (4 : Int), ([(1 : Int)] : List Int), ([(1 : Int), (3 : Int)] : List Int), ([] : List Int), false⟩ : TUnit)] : List TUnit)⟩ : TRoll) (hS68.kd hm41 hw9) ([(0 : Int), (0 : Int), (0 : Int)] : List Int) (Rep.keep0 (St.lend (α := Int) (L := L) hS68 .hd hc22 hL) hw9) (1 : Int) (0 : Int) hy14) rfl <| RG.mo rfl <| RG.va (FV.extract rfl rfl) <| RG.va (FV.extract rfl rfl) <| RG.new .plain rfl (Does.alloc (zs := [.int .u64 0, .int .u64 0, .int .u64 0, .int .u64 0, .int .u64 0, .int .u64 0, .int .u64 0, .int .u64 0, .int .u64 0, .int .u64 0, .int .u64 0, .int .u64 0, .int .u64 0, .int .u64 0, .int .u64 0, .int .u64 0]) hS68 (zB (by kernel_rfl))) (fun w56 b30 hS69 hT70 => ?_)
 refine RG.now .plain (Acts.storeAll (news := (cs_TShare y14.1)) hS69 .hd rfl rfl rfl rfl rfl rfl (onesB rfl)) (fun w57 hS70 hT71 => ?_)
 refine RG.so rfl <| RG.nil <| MX.sr <| RG.new .plain rfl (Does.build (α := Int) (xs := ([(3 : Int)] : List Int)) (vs := [vI 3]) (ds' := [vI 3]) rfl hS70 el27 rfl (e1 rfl) (by kernel_rfl) rfl) (fun w58 b31 hS71 hT72 => ?_)
 have hc23 := Cells.at_ (cs := [vI 3]) (xs := (([(3 : Int)] : List Int) : List Int)) hS71 L (Cells.cons (cs := [vI 3]) (ds := []) rfl (Cells.nil _ _))
 refine RG.va (FV.buildV (vs := [.string ⟨#[120]⟩, vI 3, (vS b31 1)]) (u := .agg #[.string ⟨#[120]⟩, vI 3, (vS b31 1), vN, vN, .bool false]) (e3 rfl rfl rfl) (fun w9 => by kernel_rfl)) ?_
 have hr41 := St.freeze (α := Int) hS71 .hd hc23 hL
 have hS72 := St.delS hS71 .hd
 have hT73 := St.delT hS71 .hd
 have hr42 := Rep.at_ (α := Int) (v := (vS b31 1)) (xs := ([(3 : Int)] : List Int)) hS72 L hr41
 have hr43 := Rep.nilAt (α := Int) hS72 L
 refine RG.new .plain rfl (Does.build (α := TUnit) (xs := ([(⟨⟨#[120]⟩, (3 : Int), ([(3 : Int)] : List Int), ([] : List Int), ([] : List Int), false⟩ : TUnit)] : List TUnit)) (vs := [.agg #[.string ⟨#[120]⟩, vI 3, (vS b31 1), vN, vN, .bool false]]) (ds' := [.string ⟨#[120]⟩, vI 3, (vS b31 1), vN, vN, .bool false]) rfl hS72 el23 rfl (e1 rfl) (by kernel_rfl) rfl) (fun w59 b32 hS73 hT74 => ?_)
 have hm42 := Rep.mv hr42 hT74
 have hr44 := Rep.nilAt (α := Int) hS73 L
 have hc24 := Cells.at_ (cs := [.string ⟨#[120]⟩, vI 3, (vS b31 1), vN, vN, .bool false]) (xs := (([(⟨⟨#[120]⟩, (3 : Int), ([(3 : Int)] : List Int), ([] : List Int), ([] : List Int), false⟩ : TUnit)] : List TUnit) : List TUnit)) hS73 L (Cells.cons (cs := [.string ⟨#[120]⟩, vI 3, (vS b31 1), vN, vN, .bool false]) (ds := []) (mk_TUnit ⟨#[120]⟩ (3 : Int) ([(3 : Int)] : List Int) hm42 ([] : List Int) hr44 ([] : List Int) hr44 false) (Cells.nil _ _))
 refine RG.va (FV.buildV (vs := [vI 1, (vS b32 1)]) (u := .agg #[vI 1, vI 0, vI 0, (vS b32 1)]) (e2 rfl rfl) (fun w9 => by kernel_rfl)) <| RG.new .plain rfl (Does.build (α := Int) (xs := ([(0 : Int)] : List Int)) (vs := [vI 0]) (ds' := [vI 0]) rfl hS73 el28 rfl (e1 rfl) (by kernel_rfl) rfl) (fun w60 b33 hS74 hT75 => ?_)
 have hc25 := Cells.at_ (cs := [vI 0]) (xs := (([(0 : Int)] : List Int) : List Int)) hS74 L (Cells.cons (cs := [vI 0]) (ds := []) rfl (Cells.nil _ _))
 obtain ⟨y15, hy15, h⟩ := bind_in h
 have hm43 := Cells.mv hc24 hT75
 refine RG.cq (.tuple #[.agg ((cs_TShare y15.1)).toArray, vI y15.2]) body7 rfl (e4 rfl rfl rfl rfl) (fun w9 hw9 => minority_Index_c n _ w9 (hS74.hL0 hL hw9) (⟨(1 : Int), (0 : Int), (0 : Int), ([(⟨⟨#[120]⟩, (3 : Int), ([(3 : Int)] : List Int), ([] : List Int), ([] : List Int), false⟩ : TUnit)] : List TUnit)⟩ : TRoll) (Rep.keep0 (St.lend (α := TUnit) (L := L) hS74 (.tl .hd) hm43 hL) hw9) ([(0 : Int)] : List Int) (Rep.keep0 (St.lend (α := Int) (L := L) hS74 .hd hc25 hL) hw9) (1 : Int) (0 : Int) hy15) rfl <| RG.mo rfl <| RG.va (FV.extract rfl rfl) <| RG.va (FV.extract rfl rfl) <| RG.new .plain rfl (Does.alloc (zs := [.int .u64 0, .int .u64 0, .int .u64 0, .int .u64 0, .int .u64 0, .int .u64 0, .int .u64 0, .int .u64 0, .int .u64 0, .int .u64 0, .int .u64 0, .int .u64 0, .int .u64 0, .int .u64 0, .int .u64 0, .int .u64 0]) hS74 (zB (by kernel_rfl))) (fun w61 b34 hS75 hT76 => ?_)
 refine RG.now .plain (Acts.storeAll (news := (cs_TShare y15.1)) hS75 .hd rfl rfl rfl rfl rfl rfl (onesB rfl)) (fun w62 hS76 hT77 => ?_)
 refine RG.so rfl <| RG.nil <| MX.sr <| RG.va (FV.lN rfl (hS76.memA (.tl (.tl (.tl (.tl (.tl .hd))))))) <| RG.new .plain rfl (Does.build (α := Int) (xs := ([(0 : Int), (1 : Int), (2 : Int)] : List Int)) (vs := [vI 0, vI 1, vI 2]) (ds' := [vI 0, vI 1, vI 2]) rfl hS76 el28 rfl (e3 rfl rfl rfl) (by kernel_rfl) rfl) (fun w63 b35 hS77 hT78 => ?_)
 have hc26 := Cells.at_ (cs := [vI 0, vI 1, vI 2]) (xs := (([(0 : Int), (1 : Int), (2 : Int)] : List Int) : List Int)) hS77 L (Cells.cons (cs := [vI 0]) (ds := [vI 1, vI 2]) rfl (Cells.cons (cs := [vI 1]) (ds := [vI 2]) rfl (Cells.cons (cs := [vI 2]) (ds := []) rfl (Cells.nil _ _))))
 have hr45 := St.freeze (α := Int) hS77 .hd hc26 hL
 have hS78 := St.delS hS77 .hd
 have hT79 := St.delT hS77 .hd
 have hr46 := Rep.at_ (α := Int) (v := (vS b35 3)) (xs := ([(0 : Int), (1 : Int), (2 : Int)] : List Int)) hS78 L hr45
 obtain ⟨y16, hy16, h⟩ := bind_in h
 have hq535 := Tr.trans hq479 (Tr.trans hT70 (Tr.trans hT71 (Tr.trans hT72 (Tr.trans hT73 (Tr.trans hT74 (Tr.trans hT75 (Tr.trans hT76 (Tr.trans hT77 (Tr.trans hT78 hT79)))))))))
 have hm44 := Rep.mv hr34 hq535
 refine RG.call' (fst := []) (cap := []) .plain body6 rfl (e4 rfl rfl rfl rfl) (fun w9 hw9 => minority_Shares_c n _ w9 (hS78.hL hL hw9) (⟨(1 : Int), (2 : Int), (0 : Int), ([(⟨⟨#[97]⟩, (0 : Int), ([(0 : Int)] : List Int), ([(5 : Int), (5 : Int)] : List Int), ([] : List Int), false⟩ : TUnit), (⟨⟨#[98]⟩, (9 : Int), ([(9 : Int)] : List Int), ([(0 : Int), (0 : Int)] : List Int), ([] : List Int), false⟩ : TUnit), (⟨⟨#[99]⟩, (4 : Int), ([(1 : Int)] : List Int), ([(1 : Int), (3 : Int)] : List Int), ([] : List Int), false⟩ : TUnit)] : List TUnit)⟩ : TRoll) (Rep.keep0 hm44 hw9) ([(0 : Int), (1 : Int), (2 : Int)] : List Int) (Rep.keep0 hr46 hw9) (3 : Int) (0 : Int) hy16) rfl (fun w64 vu6 hag5 ⟨v15, hu_, hr47⟩ => ?_)
 subst hu_
 obtain ⟨hS79, hT80⟩ := hS78.agr hag5
 refine RG.mo rfl <| RG.va (FV.extract rfl rfl) <| RG.va (FV.extract rfl rfl) <| RG.so rfl <| RG.so rfl <| RG.nil ?_
 refine MX.seq <| MX.drawT 35 tb3_24 (by kernel_rfl) (by kernel_rfl) (by kernel_rfl) (fun kt0 kp0 => ?_)
 refine RD.vw 0 1 kt0 rfl kp0 (fun _ => FV.move rfl) rfl <| RD.vP 1 3 kt0 rfl kp0 (.yes rfl rfl) (fun _ => FV.move rfl) rfl <| RD.vw 2 7 kt0 rfl kp0 (fun _ => FV.pick_t rfl rfl) rfl <| RD.vw 3 15 kt0 rfl kp0 (fun _ => FV.move rfl) rfl <| RD.ifb (s := 216) rfl h (fun c4 h => ?_) (fun c4 h => ?_)
 refine RD.vP 4 31 kt0 rfl kp0 (.yes rfl rfl) (fun _ => FV.move rfl) rfl <| RD.vP 5 63 kt0 rfl kp0 (.yes rfl rfl) (fun _ => FV.eql (i := y14.2) (j := 0) rfl rfl) rfl <| RD.vw 6 127 kt0 rfl kp0 (fun _ => FV.pick_t rfl rfl) rfl <| RD.vw 7 255 kt0 rfl kp0 (fun _ => FV.move rfl) rfl <| RD.ifd (s := 220) rfl h (fun c5 h => ?_) (fun c5 h => ?_)
 refine RD.vP 8 511 kt0 rfl kp0 (.yes rfl rfl) (fun _ => FV.move rfl) rfl <| RD.vP 9 1023 kt0 rfl kp0 (.yes rfl rfl) (fun _ => FV.eql (i := y15.2) (j := 7) rfl rfl) rfl <| RD.vw 10 2047 kt0 rfl kp0 (fun _ => FV.pick_t rfl rfl) rfl <| RD.vw 11 4095 kt0 rfl kp0 (fun _ => FV.move rfl) rfl <| RD.ifd (s := 224) rfl h (fun c6 h => ?_) (fun c6 h => ?_)
 refine RD.vP 12 8191 kt0 rfl kp0 (.yes rfl rfl) (fun _ => FV.move rfl) rfl <| RD.vP 13 16383 kt0 rfl kp0 (.yes rfl rfl) (fun _ => FV.eql (i := y16.2) (j := 0) rfl rfl) rfl <| RD.vw 14 32767 kt0 rfl kp0 (fun _ => FV.pick_t rfl rfl) rfl <| RD.vw 15 65535 kt0 rfl kp0 (fun _ => FV.move rfl) rfl <| RD.ifd (s := 228) rfl h (fun c7 h => ?_) (fun c7 h => ?_)
 refine RD.vP 16 131071 kt0 rfl kp0 (.yes rfl rfl) (fun _ => FV.move rfl) rfl ?_
 obtain ⟨y17, hy17, h⟩ := bind_in h
 refine RD.callq (i := 17) (m' := 262143) (W := 34359476224) (takeC_ok kt0 (by kernel_rfl)) rfl kp0 (v := .agg ((cs_TShare y17)).toArray) (fst := []) (cap := []) (.yes rfl rfl) body13 rfl (e2 rfl rfl) (fun w9 hw9 => wardmotelaw29_of_c n _ w9 (hS79.hL0 hL hw9) (0 : Int) (1 : Int) hy17) rfl ?_
 obtain ⟨y18, hy18, h⟩ := bind_in h
 refine RD.callq (i := 18) (m' := 524287) (W := 34359214080) (takeC_ok kt0 (by kernel_rfl)) rfl kp0 (v := .agg ((cs_TShare y18)).toArray) (fst := []) (cap := []) (.yes rfl rfl) body13 rfl (e2 rfl rfl) (fun w9 hw9 => wardmotelaw29_of_c n _ w9 (hS79.hL0 hL hw9) (1 : Int) (1 : Int) hy18) rfl ?_
 obtain ⟨y19, hy19, h⟩ := bind_in h
 refine RD.callq (i := 19) (m' := 1048575) (W := 34358689792) (takeC_ok kt0 (by kernel_rfl)) rfl kp0 (v := .agg ((cs_TShare y19)).toArray) (fst := []) (cap := []) (.yes rfl rfl) body13 rfl (e2 rfl rfl) (fun w9 hw9 => wardmotelaw29_of_c n _ w9 (hS79.hL0 hL hw9) (1 : Int) (4 : Int) hy19) rfl <| RD.nu 20 2097151 kt0 rfl (.yes rfl rfl) rfl (Does.build (α := TShare) (xs := ([y17, y18, y19] : List TShare)) (vs := [.agg ((cs_TShare y17)).toArray, .agg ((cs_TShare y18)).toArray, .agg ((cs_TShare y19)).toArray]) (ds' := (cs_TShare y17 ++ cs_TShare y18 ++ cs_TShare y19)) rfl hS79 el31 rfl (e3 rfl rfl rfl) (by kernel_rfl) rfl) (fun w65 b36 hS80 hT81 => ?_)
 have hc27 := Cells.at_ (cs := (cs_TShare y17 ++ cs_TShare y18 ++ cs_TShare y19)) (xs := (([y17, y18, y19] : List TShare) : List TShare)) hS80 L (Cells.cons (cs := (cs_TShare y17)) (ds := (cs_TShare y18 ++ cs_TShare y19)) (mk_TShare y17.fN y17.fD) (Cells.cons (cs := (cs_TShare y18)) (ds := (cs_TShare y19)) (mk_TShare y18.fN y18.fD) (Cells.cons (cs := (cs_TShare y19)) (ds := []) (mk_TShare y19.fN y19.fD) (Cells.nil _ _))))
 obtain ⟨y20, hy20, h⟩ := bind_in h
 have hm45 := Rep.mv hr47 hT81
 refine RD.callq (i := 21) (m' := 4194303) (W := 34355544064) (takeC_ok kt0 (by kernel_rfl)) rfl kp0 (v := .bool y20) (fst := []) (cap := []) (.yes rfl rfl) body15 rfl (e2 rfl rfl) (fun w9 hw9 => slices_Equal_api_Share_api_Share_c n _ w9 (hS80.hL0 hL hw9) y16.1 (hS80.kd hm45 hw9) ([y17, y18, y19] : List TShare) (Rep.keep0 (St.lend (α := TShare) (L := L) hS80 .hd hc27 hL) hw9) hy20) rfl <| RD.vw 22 8388607 kt0 rfl kp0 (fun _ => FV.pick_t rfl rfl) rfl <| RD.vw 23 16777215 kt0 rfl kp0 (fun _ => FV.move rfl) rfl <| RD.ifb (s := 236) rfl h (fun c8 h => ?_) (fun c8 h => ?_)
 refine RD.val (i := 26) (m' := 83886079) (W := 33822867456) (takeC_ok kt0 (by kernel_rfl)) rfl kp0 (.yes rfl rfl) (FV.lN rfl (hS80.memA (.tl (.tl (.tl (.tl (.tl (.tl .hd)))))))) rfl ?_
 obtain ⟨y21, hy21, h⟩ := bind_in h
 refine RD.meet (α := Value × (List Value) × Value × Nat) (fun ⟨v16, cs8, v17, b37⟩ => [(236, .bool true), (239, .agg #[vI 1, vI 2, vI 0, (vS b18 3)]), (238, .func (.func 46) #[] #[vP b37]), (241, .agg ((cs_TShare y21)).toArray), (240, v16)]) (fun ⟨v16, cs8, v17, b37⟩ wx2 => St w wx2 [.row w.heap.size 3 (Rep.size Int) v16 (([(0 : Int), (1 : Int), (2 : Int)] : List Int).length) cs8, .cells b37 [v17] 27] ∧ Tr w65 [.row w.heap.size 39 (Rep.size TShare) (vS b36 3) (([y17, y18, y19] : List TShare).length) (cs_TShare y17 ++ cs_TShare y18 ++ cs_TShare y19), .cells b34 (cs_TShare y15.1) 39, .row w.heap.size 3 (Rep.size Int) (vS b33 1) (([(0 : Int)] : List Int).length) [vI 0], .row w.heap.size 30 (Rep.size TUnit) (vS b32 1) (([(⟨⟨#[120]⟩, (3 : Int), ([(3 : Int)] : List Int), ([] : List Int), ([] : List Int), false⟩ : TUnit)] : List TUnit).length) [.string ⟨#[120]⟩, vI 3, (vS b31 1), vN, vN, .bool false], .cells b30 (cs_TShare y14.1) 39, .row w.heap.size 3 (Rep.size Int) (vS b29 3) (([(0 : Int), (0 : Int), (0 : Int)] : List Int).length) [vI 0, vI 0, vI 0], .cells b19 [vI 1, vI 2, vI 0, (vS b18 3)] 25] wx2 [.row w.heap.size 3 (Rep.size Int) v16 (([(0 : Int), (1 : Int), (2 : Int)] : List Int).length) cs8, .cells b37 [v17] 27] ∧ Cells wx2 (bl [.row w.heap.size 3 (Rep.size Int) v16 (([(0 : Int), (1 : Int), (2 : Int)] : List Int).length) cs8, .cells b37 [v17] 27] ++ L) cs8 (([(0 : Int), (1 : Int), (2 : Int)] : List Int) : List Int) ∧ Rep.R wx2 (bl [.row w.heap.size 3 (Rep.size Int) v16 (([(0 : Int), (1 : Int), (2 : Int)] : List Int).length) cs8, .cells b37 [v17] 27] ++ L) [v17] ([(1 : Int)] : List Int)) 6 536870911 ?_ ?_
 rintro ⟨v16, cs8, v17, b37⟩ wx2 ⟨hS81, hT82, hc28, hr48⟩
 try dsimp only
 have hr49 := St.freeze (α := Int) hS81 .hd hc28 hL
 have hS82 := St.delS hS81 .hd
 have hT83 := St.delT hS81 .hd
 have hr50 := Rep.at_ (α := Int) (v := v16) (xs := ([(0 : Int), (1 : Int), (2 : Int)] : List Int)) hS82 L hr49
 obtain ⟨y22, hy22, h⟩ := bind_in h
 have hq2402 := Tr.trans hq535 (Tr.trans hT80 (Tr.trans hT81 (Tr.trans hT82 hT83)))
 have hm46 := Rep.mv hr34 hq2402
 refine RD.cl 29 1073741823 kt0 rfl (.yes rfl rfl) body8 rfl (e5 rfl rfl rfl rfl rfl) (fun w9 hw9 => minority_Majority_c n _ w9 (hS82.hL hL hw9) (⟨(1 : Int), (2 : Int), (0 : Int), ([(⟨⟨#[97]⟩, (0 : Int), ([(0 : Int)] : List Int), ([(5 : Int), (5 : Int)] : List Int), ([] : List Int), false⟩ : TUnit), (⟨⟨#[98]⟩, (9 : Int), ([(9 : Int)] : List Int), ([(0 : Int), (0 : Int)] : List Int), ([] : List Int), false⟩ : TUnit), (⟨⟨#[99]⟩, (4 : Int), ([(1 : Int)] : List Int), ([(1 : Int), (3 : Int)] : List Int), ([] : List Int), false⟩ : TUnit)] : List TUnit)⟩ : TRoll) (Rep.keep0 hm46 hw9) ([(0 : Int), (1 : Int), (2 : Int)] : List Int) (Rep.keep0 hr50 hw9) (3 : Int) (0 : Int) y21 hy22) rfl (fun w66 vu7 hag7 ⟨v18, hu_, hr51⟩ => ?_)
 subst hu_
 obtain ⟨hS83, hT84⟩ := hS82.agr hag7
 refine RD.vP 30 2147483647 kt0 rfl kp0 (.yes rfl rfl) (fun _ => FV.extract rfl rfl) rfl <| RD.vP 31 4294967295 kt0 rfl kp0 (.yes rfl rfl) (fun _ => FV.extract rfl rfl) rfl ?_
 obtain ⟨y23, hy23, h⟩ := bind_in h
 have hm47 := Rep.mv hr48 (Tr.trans hT83 hT84)
 refine RD.callq (i := 32) (m' := 8589934591) (W := 25769803776) (takeC_ok kt0 (by kernel_rfl)) rfl kp0 (v := .bool y23) (fst := []) (cap := [vP b37]) (.yes rfl rfl) body46 rfl (e2 rfl rfl) (fun w9 hw9 => wardmotelaw29_lists_1_c n _ w9 (hS83.hL0 hL hw9) y22.1 (hS83.kd hr51 hw9) y22.2 ([(1 : Int)] : List Int) (hS83.kd hm47 hw9) (fun j9 v9 h9 => hw9.cell0 ((hS83.memA .hd) j9 v9 h9)) hy23) rfl <| RD.vw 33 17179869183 kt0 rfl kp0 (fun _ => FV.pick_t rfl rfl) rfl <| RD.vw 34 34359738367 kt0 rfl kp0 (fun _ => FV.assign rfl) rfl <| RD.done (doneD_ok kt0 (by kernel_rfl)) <| MX.ret rfl <| RT.t1 hb0 Tryz.func3 rfl rfl ?_
 cases h
 exact hS83.gv
 intro hJ2413
 refine RD.each [24, 27] (readyD_ok kt0 (by kernel_rfl)) ⟨?_, ?_, trivial⟩
 refine RO.new (m' := 100663295) (stepC_ok kt0 (by kernel_rfl)) rfl (.yes rfl rfl) rfl (Does.build (α := Int) (xs := ([(1 : Int)] : List Int)) (vs := [vI 1]) (ds' := [vI 1]) rfl hS80 el27 rfl (e1 rfl) (by kernel_rfl) rfl) (fun w67 b38 hS85 hT86 => ?_)
 have hc29 := Cells.at_ (cs := [vI 1]) (xs := (([(1 : Int)] : List Int) : List Int)) hS85 L (Cells.cons (cs := [vI 1]) (ds := []) rfl (Cells.nil _ _))
 refine RD.each [25, 27] (readyD_ok kt0 (by kernel_rfl)) ⟨?_, ?_, trivial⟩
 have hr52 := St.freeze (α := Int) hS85 .hd hc29 hL
 have hS86 := St.delS hS85 .hd
 have hT87 := St.delT hS85 .hd
 have hr53 := Rep.at_ (α := Int) (v := (vS b38 1)) (xs := ([(1 : Int)] : List Int)) hS86 L hr52
 refine RO.call (m' := 134217727) (fst := []) (cap := []) (stepC_ok kt0 (by kernel_rfl)) rfl (.yes rfl rfl) body16 rfl (e1 rfl) (fun w9 hw9 => Calls.gives (wardmotelaw29_lists_c n _ w9 (hS86.hL hL hw9) ([(1 : Int)] : List Int) (Rep.keep0 hr53 hw9)) fun (w8 : World) (u8 : Value) ⟨b0_, hu_, s_⟩ => (⟨b0_, hu_, s_.from hw9⟩ : ∃ b39 : Nat, u8 = Value.func (.func 46) #[] #[vP b39] ∧ St w67 w8 [.cells b39 [(vS b38 1)] 27])) rfl (fun w68 vu8 hag8 ⟨b39, hu2, s2⟩ => ?_)
 subst hu2
 have hS87 : St w w68 [.cells b39 [(vS b38 1)] 27, .row w.heap.size 39 (Rep.size TShare) (vS b36 3) (([y17, y18, y19] : List TShare).length) (cs_TShare y17 ++ cs_TShare y18 ++ cs_TShare y19), .cells b34 (cs_TShare y15.1) 39, .row w.heap.size 3 (Rep.size Int) (vS b33 1) (([(0 : Int)] : List Int).length) [vI 0], .row w.heap.size 30 (Rep.size TUnit) (vS b32 1) (([(⟨⟨#[120]⟩, (3 : Int), ([(3 : Int)] : List Int), ([] : List Int), ([] : List Int), false⟩ : TUnit)] : List TUnit).length) [.string ⟨#[120]⟩, vI 3, (vS b31 1), vN, vN, .bool false], .cells b30 (cs_TShare y14.1) 39, .row w.heap.size 3 (Rep.size Int) (vS b29 3) (([(0 : Int), (0 : Int), (0 : Int)] : List Int).length) [vI 0, vI 0, vI 0], .cells b19 [vI 1, vI 2, vI 0, (vS b18 3)] 25] := St.merge hS86 s2
 have hT88 : Tr w67 [.row w.heap.size 39 (Rep.size TShare) (vS b36 3) (([y17, y18, y19] : List TShare).length) (cs_TShare y17 ++ cs_TShare y18 ++ cs_TShare y19), .cells b34 (cs_TShare y15.1) 39, .row w.heap.size 3 (Rep.size Int) (vS b33 1) (([(0 : Int)] : List Int).length) [vI 0], .row w.heap.size 30 (Rep.size TUnit) (vS b32 1) (([(⟨⟨#[120]⟩, (3 : Int), ([(3 : Int)] : List Int), ([] : List Int), ([] : List Int), false⟩ : TUnit)] : List TUnit).length) [.string ⟨#[120]⟩, vI 3, (vS b31 1), vN, vN, .bool false], .cells b30 (cs_TShare y14.1) 39, .row w.heap.size 3 (Rep.size Int) (vS b29 3) (([(0 : Int), (0 : Int), (0 : Int)] : List Int).length) [vI 0, vI 0, vI 0], .cells b19 [vI 1, vI 2, vI 0, (vS b18 3)] 25] w68 [.cells b39 [(vS b38 1)] 27, .row w.heap.size 39 (Rep.size TShare) (vS b36 3) (([y17, y18, y19] : List TShare).length) (cs_TShare y17 ++ cs_TShare y18 ++ cs_TShare y19), .cells b34 (cs_TShare y15.1) 39, .row w.heap.size 3 (Rep.size Int) (vS b33 1) (([(0 : Int)] : List Int).length) [vI 0], .row w.heap.size 30 (Rep.size TUnit) (vS b32 1) (([(⟨⟨#[120]⟩, (3 : Int), ([(3 : Int)] : List Int), ([] : List Int), ([] : List Int), false⟩ : TUnit)] : List TUnit).length) [.string ⟨#[120]⟩, vI 3, (vS b31 1), vN, vN, .bool false], .cells b30 (cs_TShare y14.1) 39, .row w.heap.size 3 (Rep.size Int) (vS b29 3) (([(0 : Int), (0 : Int), (0 : Int)] : List Int).length) [vI 0, vI 0, vI 0], .cells b19 [vI 1, vI 2, vI 0, (vS b18 3)] 25] := Tr.merge hS86 s2
 refine RD.callq (i := 28) (m' := 402653183) (W := 33822867456) (takeC_ok kt0 (by kernel_rfl)) rfl kp0 (v := .agg ((cs_TShare y21)).toArray) (fst := []) (cap := []) (.yes rfl rfl) body13 rfl (e2 rfl rfl) (fun w9 hw9 => wardmotelaw29_of_c n _ w9 (hS87.hL0 hL hw9) (1 : Int) (4 : Int) hy21) rfl <| RD.nu 27 536870911 kt0 rfl (.yes rfl rfl) rfl (Does.build (α := Int) (xs := ([(0 : Int), (1 : Int), (2 : Int)] : List Int)) (vs := [vI 0, vI 1, vI 2]) (ds' := [vI 0, vI 1, vI 2]) rfl hS87 el28 rfl (e3 rfl rfl rfl) (by kernel_rfl) rfl) (fun w69 b40 hS88 hT89 => ?_)
 have hc30 := Cells.at_ (cs := [vI 0, vI 1, vI 2]) (xs := (([(0 : Int), (1 : Int), (2 : Int)] : List Int) : List Int)) hS88 L (Cells.cons (cs := [vI 0]) (ds := [vI 1, vI 2]) rfl (Cells.cons (cs := [vI 1]) (ds := [vI 2]) rfl (Cells.cons (cs := [vI 2]) (ds := []) rfl (Cells.nil _ _))))
 obtain ⟨hS89, hT90⟩ := St.arrB hS88 (.one .hd (.one .hd .done))
 have hm48 := Cells.mv hc30 hT90
 have hq2417 := Tr.trans hT88 (Tr.trans hT89 hT90)
 have hm49 := Rep.mv hr53 hq2417
 have hq2419 := Tr.trans hT86 (Tr.trans hT87 (Tr.trans hT88 (Tr.trans hT89 hT90)))
 exact hJ2413 ((vS b40 3), [vI 0, vI 1, vI 2], (vS b38 1), b39) _ _ ⟨rfl, rfl, rfl, rfl, rfl, trivial⟩ ⟨hS89, hq2419, hm48, hm49⟩
 refine RO.new (m' := 234881023) (stepC_ok kt0 (by kernel_rfl)) rfl (.yes rfl rfl) rfl (Does.build (α := Int) (xs := ([(0 : Int), (1 : Int), (2 : Int)] : List Int)) (vs := [vI 0, vI 1, vI 2]) (ds' := [vI 0, vI 1, vI 2]) rfl hS85 el28 rfl (e3 rfl rfl rfl) (by kernel_rfl) rfl) (fun w69 b40 hS88 hT89 => ?_)
 have hc30 := Cells.at_ (cs := [vI 0, vI 1, vI 2]) (xs := (([(0 : Int), (1 : Int), (2 : Int)] : List Int) : List Int)) hS88 L (Cells.cons (cs := [vI 0]) (ds := [vI 1, vI 2]) rfl (Cells.cons (cs := [vI 1]) (ds := [vI 2]) rfl (Cells.cons (cs := [vI 2]) (ds := []) rfl (Cells.nil _ _))))
 have hm50 := Cells.mv hc29 hT89
 have hr52 := St.freeze (α := Int) hS88 (.tl .hd) hm50 hL
 have hS86 := St.delS hS88 (.tl .hd)
 have hT87 := St.delT hS88 (.tl .hd)
 have hr54 := Rep.at_ (α := Int) (v := (vS b38 1)) (xs := ([(1 : Int)] : List Int)) hS86 L hr52
 refine RD.cl 25 268435455 kt0 rfl (.yes rfl rfl) body16 rfl (e1 rfl) (fun w9 hw9 => Calls.gives (wardmotelaw29_lists_c n _ w9 (hS86.hL hL hw9) ([(1 : Int)] : List Int) (Rep.keep0 hr54 hw9)) fun (w8 : World) (u8 : Value) ⟨b0_, hu_, s_⟩ => (⟨b0_, hu_, s_.from hw9⟩ : ∃ b41 : Nat, u8 = Value.func (.func 46) #[] #[vP b41] ∧ St w69 w8 [.cells b41 [(vS b38 1)] 27])) rfl (fun w70 vu9 hag9 ⟨b41, hu3, s3⟩ => ?_)
 subst hu3
 have hS91 : St w w70 [.cells b41 [(vS b38 1)] 27, .row w.heap.size 3 (Rep.size Int) (vS b40 3) (([(0 : Int), (1 : Int), (2 : Int)] : List Int).length) [vI 0, vI 1, vI 2], .row w.heap.size 39 (Rep.size TShare) (vS b36 3) (([y17, y18, y19] : List TShare).length) (cs_TShare y17 ++ cs_TShare y18 ++ cs_TShare y19), .cells b34 (cs_TShare y15.1) 39, .row w.heap.size 3 (Rep.size Int) (vS b33 1) (([(0 : Int)] : List Int).length) [vI 0], .row w.heap.size 30 (Rep.size TUnit) (vS b32 1) (([(⟨⟨#[120]⟩, (3 : Int), ([(3 : Int)] : List Int), ([] : List Int), ([] : List Int), false⟩ : TUnit)] : List TUnit).length) [.string ⟨#[120]⟩, vI 3, (vS b31 1), vN, vN, .bool false], .cells b30 (cs_TShare y14.1) 39, .row w.heap.size 3 (Rep.size Int) (vS b29 3) (([(0 : Int), (0 : Int), (0 : Int)] : List Int).length) [vI 0, vI 0, vI 0], .cells b19 [vI 1, vI 2, vI 0, (vS b18 3)] 25] := St.merge hS86 s3
 have hT92 : Tr w69 [.row w.heap.size 3 (Rep.size Int) (vS b40 3) (([(0 : Int), (1 : Int), (2 : Int)] : List Int).length) [vI 0, vI 1, vI 2], .row w.heap.size 39 (Rep.size TShare) (vS b36 3) (([y17, y18, y19] : List TShare).length) (cs_TShare y17 ++ cs_TShare y18 ++ cs_TShare y19), .cells b34 (cs_TShare y15.1) 39, .row w.heap.size 3 (Rep.size Int) (vS b33 1) (([(0 : Int)] : List Int).length) [vI 0], .row w.heap.size 30 (Rep.size TUnit) (vS b32 1) (([(⟨⟨#[120]⟩, (3 : Int), ([(3 : Int)] : List Int), ([] : List Int), ([] : List Int), false⟩ : TUnit)] : List TUnit).length) [.string ⟨#[120]⟩, vI 3, (vS b31 1), vN, vN, .bool false], .cells b30 (cs_TShare y14.1) 39, .row w.heap.size 3 (Rep.size Int) (vS b29 3) (([(0 : Int), (0 : Int), (0 : Int)] : List Int).length) [vI 0, vI 0, vI 0], .cells b19 [vI 1, vI 2, vI 0, (vS b18 3)] 25] w70 [.cells b41 [(vS b38 1)] 27, .row w.heap.size 3 (Rep.size Int) (vS b40 3) (([(0 : Int), (1 : Int), (2 : Int)] : List Int).length) [vI 0, vI 1, vI 2], .row w.heap.size 39 (Rep.size TShare) (vS b36 3) (([y17, y18, y19] : List TShare).length) (cs_TShare y17 ++ cs_TShare y18 ++ cs_TShare y19), .cells b34 (cs_TShare y15.1) 39, .row w.heap.size 3 (Rep.size Int) (vS b33 1) (([(0 : Int)] : List Int).length) [vI 0], .row w.heap.size 30 (Rep.size TUnit) (vS b32 1) (([(⟨⟨#[120]⟩, (3 : Int), ([(3 : Int)] : List Int), ([] : List Int), ([] : List Int), false⟩ : TUnit)] : List TUnit).length) [.string ⟨#[120]⟩, vI 3, (vS b31 1), vN, vN, .bool false], .cells b30 (cs_TShare y14.1) 39, .row w.heap.size 3 (Rep.size Int) (vS b29 3) (([(0 : Int), (0 : Int), (0 : Int)] : List Int).length) [vI 0, vI 0, vI 0], .cells b19 [vI 1, vI 2, vI 0, (vS b18 3)] 25] := Tr.merge hS86 s3
 refine RD.callq (i := 28) (m' := 536870911) (W := 33822867456) (takeC_ok kt0 (by kernel_rfl)) rfl kp0 (v := .agg ((cs_TShare y21)).toArray) (fst := []) (cap := []) (.yes rfl rfl) body13 rfl (e2 rfl rfl) (fun w9 hw9 => wardmotelaw29_of_c n _ w9 (hS91.hL0 hL hw9) (1 : Int) (4 : Int) hy21) rfl ?_
 obtain ⟨hS92, hT93⟩ := St.arrB hS91 (.one (.tl .hd) (.one .hd .done))
 have hq2422 := Tr.trans hT87 (Tr.trans hT92 hT93)
 have hm51 := Cells.mv hc30 hq2422
 have hm52 := Rep.mv hr54 (Tr.trans hT92 hT93)
 have hq2425 := Tr.trans hT86 (Tr.trans hT89 (Tr.trans hT87 (Tr.trans hT92 hT93)))
 exact hJ2413 ((vS b40 3), [vI 0, vI 1, vI 2], (vS b38 1), b41) _ _ ⟨rfl, rfl, rfl, rfl, rfl, trivial⟩ ⟨hS92, hq2425, hm51, hm52⟩
 refine RO.new (m' := 218103807) (stepC_ok kt0 (by kernel_rfl)) rfl (.yes rfl rfl) rfl (Does.build (α := Int) (xs := ([(0 : Int), (1 : Int), (2 : Int)] : List Int)) (vs := [vI 0, vI 1, vI 2]) (ds' := [vI 0, vI 1, vI 2]) rfl hS80 el28 rfl (e3 rfl rfl rfl) (by kernel_rfl) rfl) (fun w69 b40 hS88 hT89 => ?_)
 have hc30 := Cells.at_ (cs := [vI 0, vI 1, vI 2]) (xs := (([(0 : Int), (1 : Int), (2 : Int)] : List Int) : List Int)) hS88 L (Cells.cons (cs := [vI 0]) (ds := [vI 1, vI 2]) rfl (Cells.cons (cs := [vI 1]) (ds := [vI 2]) rfl (Cells.cons (cs := [vI 2]) (ds := []) rfl (Cells.nil _ _))))
 refine RD.nu 24 234881023 kt0 rfl (.yes rfl rfl) rfl (Does.build (α := Int) (xs := ([(1 : Int)] : List Int)) (vs := [vI 1]) (ds' := [vI 1]) rfl hS88 el27 rfl (e1 rfl) (by kernel_rfl) rfl) (fun w67 b38 hS85 hT86 => ?_)
 have hc29 := Cells.at_ (cs := [vI 1]) (xs := (([(1 : Int)] : List Int) : List Int)) hS85 L (Cells.cons (cs := [vI 1]) (ds := []) rfl (Cells.nil _ _))
 have hr52 := St.freeze (α := Int) hS85 .hd hc29 hL
 have hS86 := St.delS hS85 .hd
 have hT87 := St.delT hS85 .hd
 have hr53 := Rep.at_ (α := Int) (v := (vS b38 1)) (xs := ([(1 : Int)] : List Int)) hS86 L hr52
 refine RD.cl 25 268435455 kt0 rfl (.yes rfl rfl) body16 rfl (e1 rfl) (fun w9 hw9 => Calls.gives (wardmotelaw29_lists_c n _ w9 (hS86.hL hL hw9) ([(1 : Int)] : List Int) (Rep.keep0 hr53 hw9)) fun (w8 : World) (u8 : Value) ⟨b0_, hu_, s_⟩ => (⟨b0_, hu_, s_.from hw9⟩ : ∃ b39 : Nat, u8 = Value.func (.func 46) #[] #[vP b39] ∧ St w67 w8 [.cells b39 [(vS b38 1)] 27])) rfl (fun w68 vu8 hag8 ⟨b39, hu2, s2⟩ => ?_)
 subst hu2
 have hS87 : St w w68 [.cells b39 [(vS b38 1)] 27, .row w.heap.size 3 (Rep.size Int) (vS b40 3) (([(0 : Int), (1 : Int), (2 : Int)] : List Int).length) [vI 0, vI 1, vI 2], .row w.heap.size 39 (Rep.size TShare) (vS b36 3) (([y17, y18, y19] : List TShare).length) (cs_TShare y17 ++ cs_TShare y18 ++ cs_TShare y19), .cells b34 (cs_TShare y15.1) 39, .row w.heap.size 3 (Rep.size Int) (vS b33 1) (([(0 : Int)] : List Int).length) [vI 0], .row w.heap.size 30 (Rep.size TUnit) (vS b32 1) (([(⟨⟨#[120]⟩, (3 : Int), ([(3 : Int)] : List Int), ([] : List Int), ([] : List Int), false⟩ : TUnit)] : List TUnit).length) [.string ⟨#[120]⟩, vI 3, (vS b31 1), vN, vN, .bool false], .cells b30 (cs_TShare y14.1) 39, .row w.heap.size 3 (Rep.size Int) (vS b29 3) (([(0 : Int), (0 : Int), (0 : Int)] : List Int).length) [vI 0, vI 0, vI 0], .cells b19 [vI 1, vI 2, vI 0, (vS b18 3)] 25] := St.merge hS86 s2
 have hT88 : Tr w67 [.row w.heap.size 3 (Rep.size Int) (vS b40 3) (([(0 : Int), (1 : Int), (2 : Int)] : List Int).length) [vI 0, vI 1, vI 2], .row w.heap.size 39 (Rep.size TShare) (vS b36 3) (([y17, y18, y19] : List TShare).length) (cs_TShare y17 ++ cs_TShare y18 ++ cs_TShare y19), .cells b34 (cs_TShare y15.1) 39, .row w.heap.size 3 (Rep.size Int) (vS b33 1) (([(0 : Int)] : List Int).length) [vI 0], .row w.heap.size 30 (Rep.size TUnit) (vS b32 1) (([(⟨⟨#[120]⟩, (3 : Int), ([(3 : Int)] : List Int), ([] : List Int), ([] : List Int), false⟩ : TUnit)] : List TUnit).length) [.string ⟨#[120]⟩, vI 3, (vS b31 1), vN, vN, .bool false], .cells b30 (cs_TShare y14.1) 39, .row w.heap.size 3 (Rep.size Int) (vS b29 3) (([(0 : Int), (0 : Int), (0 : Int)] : List Int).length) [vI 0, vI 0, vI 0], .cells b19 [vI 1, vI 2, vI 0, (vS b18 3)] 25] w68 [.cells b39 [(vS b38 1)] 27, .row w.heap.size 3 (Rep.size Int) (vS b40 3) (([(0 : Int), (1 : Int), (2 : Int)] : List Int).length) [vI 0, vI 1, vI 2], .row w.heap.size 39 (Rep.size TShare) (vS b36 3) (([y17, y18, y19] : List TShare).length) (cs_TShare y17 ++ cs_TShare y18 ++ cs_TShare y19), .cells b34 (cs_TShare y15.1) 39, .row w.heap.size 3 (Rep.size Int) (vS b33 1) (([(0 : Int)] : List Int).length) [vI 0], .row w.heap.size 30 (Rep.size TUnit) (vS b32 1) (([(⟨⟨#[120]⟩, (3 : Int), ([(3 : Int)] : List Int), ([] : List Int), ([] : List Int), false⟩ : TUnit)] : List TUnit).length) [.string ⟨#[120]⟩, vI 3, (vS b31 1), vN, vN, .bool false], .cells b30 (cs_TShare y14.1) 39, .row w.heap.size 3 (Rep.size Int) (vS b29 3) (([(0 : Int), (0 : Int), (0 : Int)] : List Int).length) [vI 0, vI 0, vI 0], .cells b19 [vI 1, vI 2, vI 0, (vS b18 3)] 25] := Tr.merge hS86 s2
 refine RD.callq (i := 28) (m' := 536870911) (W := 33822867456) (takeC_ok kt0 (by kernel_rfl)) rfl kp0 (v := .agg ((cs_TShare y21)).toArray) (fst := []) (cap := []) (.yes rfl rfl) body13 rfl (e2 rfl rfl) (fun w9 hw9 => wardmotelaw29_of_c n _ w9 (hS87.hL0 hL hw9) (1 : Int) (4 : Int) hy21) rfl ?_
 obtain ⟨hS93, hT94⟩ := St.arrB hS87 (.one (.tl .hd) (.one .hd .done))
 have hq2428 := Tr.trans hT86 (Tr.trans hT87 (Tr.trans hT88 hT94))
 have hm53 := Cells.mv hc30 hq2428
 have hm54 := Rep.mv hr53 (Tr.trans hT88 hT94)
 have hq2431 := Tr.trans hT89 (Tr.trans hT86 (Tr.trans hT87 (Tr.trans hT88 hT94)))
 exact hJ2413 ((vS b40 3), [vI 0, vI 1, vI 2], (vS b38 1), b39) _ _ ⟨rfl, rfl, rfl, rfl, rfl, trivial⟩ ⟨hS93, hq2431, hm53, hm54⟩
 refine RD.offs 8589934591 2 [(24, 237), (25, 238), (26, 239), (27, 240), (28, 241), (29, 242), (30, 243), (31, 244), (32, 245)] (F := [(236, false)]) (U := []) kt0 kp0 (.cons rfl .nil) .nil ?_
 dsimp only [offS, List.map]
 refine RD.vw 33 17179869183 kt0 rfl kp0 (fun _ => FV.pick_f rfl rfl) rfl <| RD.vw 34 34359738367 kt0 rfl kp0 (fun _ => FV.assign rfl) rfl <| RD.done (doneD_ok kt0 (by kernel_rfl)) <| MX.ret rfl <| RT.t1 hb0 Tryz.func3 rfl rfl ?_
 cases h
 exact hS80.gv
 refine RD.offs 4194303 13 [(16, 229), (17, 230), (18, 231), (19, 232), (20, 233), (21, 234)] (F := [(228, false)]) (U := []) kt0 kp0 (.cons rfl .nil) .nil ?_
 dsimp only [offS, List.map]
 refine RD.vw 22 8388607 kt0 rfl kp0 (fun _ => FV.pick_f rfl rfl) rfl <| RD.vw 23 16777215 kt0 rfl kp0 (fun _ => FV.move rfl) rfl <| RD.offs 8589934591 2 [(24, 237), (25, 238), (26, 239), (27, 240), (28, 241), (29, 242), (30, 243), (31, 244), (32, 245)] (F := [(236, false)]) (U := []) kt0 kp0 (.cons rfl .nil) .nil ?_
 dsimp only [offS, List.map]
 refine RD.vw 33 17179869183 kt0 rfl kp0 (fun _ => FV.pick_f rfl rfl) rfl <| RD.vw 34 34359738367 kt0 rfl kp0 (fun _ => FV.assign rfl) rfl <| RD.done (doneD_ok kt0 (by kernel_rfl)) <| MX.ret rfl <| RT.t1 hb0 Tryz.func3 rfl rfl ?_
 cases h
 exact hS79.gv
 refine RD.offs 16383 21 [(12, 225), (13, 226)] (F := [(224, false)]) (U := []) kt0 kp0 (.cons rfl .nil) .nil ?_
 dsimp only [offS, List.map]
 refine RD.vw 14 32767 kt0 rfl kp0 (fun _ => FV.pick_f rfl rfl) rfl <| RD.vw 15 65535 kt0 rfl kp0 (fun _ => FV.move rfl) rfl <| RD.offs 4194303 13 [(16, 229), (17, 230), (18, 231), (19, 232), (20, 233), (21, 234)] (F := [(228, false)]) (U := []) kt0 kp0 (.cons rfl .nil) .nil ?_
 dsimp only [offS, List.map]
 refine RD.vw 22 8388607 kt0 rfl kp0 (fun _ => FV.pick_f rfl rfl) rfl <| RD.vw 23 16777215 kt0 rfl kp0 (fun _ => FV.move rfl) rfl <| RD.offs 8589934591 2 [(24, 237), (25, 238), (26, 239), (27, 240), (28, 241), (29, 242), (30, 243), (31, 244), (32, 245)] (F := [(236, false)]) (U := []) kt0 kp0 (.cons rfl .nil) .nil ?_
 dsimp only [offS, List.map]
 refine RD.vw 33 17179869183 kt0 rfl kp0 (fun _ => FV.pick_f rfl rfl) rfl <| RD.vw 34 34359738367 kt0 rfl kp0 (fun _ => FV.assign rfl) rfl <| RD.done (doneD_ok kt0 (by kernel_rfl)) <| MX.ret rfl <| RT.t1 hb0 Tryz.func3 rfl rfl ?_
 cases h
 exact hS79.gv
 refine RD.offs 1023 25 [(8, 221), (9, 222)] (F := [(220, false)]) (U := []) kt0 kp0 (.cons rfl .nil) .nil ?_
 dsimp only [offS, List.map]
 refine RD.vw 10 2047 kt0 rfl kp0 (fun _ => FV.pick_f rfl rfl) rfl <| RD.vw 11 4095 kt0 rfl kp0 (fun _ => FV.move rfl) rfl <| RD.offs 16383 21 [(12, 225), (13, 226)] (F := [(224, false)]) (U := []) kt0 kp0 (.cons rfl .nil) .nil ?_
 dsimp only [offS, List.map]
 refine RD.vw 14 32767 kt0 rfl kp0 (fun _ => FV.pick_f rfl rfl) rfl <| RD.vw 15 65535 kt0 rfl kp0 (fun _ => FV.move rfl) rfl <| RD.offs 4194303 13 [(16, 229), (17, 230), (18, 231), (19, 232), (20, 233), (21, 234)] (F := [(228, false)]) (U := []) kt0 kp0 (.cons rfl .nil) .nil ?_
 dsimp only [offS, List.map]
 refine RD.vw 22 8388607 kt0 rfl kp0 (fun _ => FV.pick_f rfl rfl) rfl <| RD.vw 23 16777215 kt0 rfl kp0 (fun _ => FV.move rfl) rfl <| RD.offs 8589934591 2 [(24, 237), (25, 238), (26, 239), (27, 240), (28, 241), (29, 242), (30, 243), (31, 244), (32, 245)] (F := [(236, false)]) (U := []) kt0 kp0 (.cons rfl .nil) .nil ?_
 dsimp only [offS, List.map]
 refine RD.vw 33 17179869183 kt0 rfl kp0 (fun _ => FV.pick_f rfl rfl) rfl <| RD.vw 34 34359738367 kt0 rfl kp0 (fun _ => FV.assign rfl) rfl <| RD.done (doneD_ok kt0 (by kernel_rfl)) <| MX.ret rfl <| RT.t1 hb0 Tryz.func3 rfl rfl ?_
 cases h
 exact hS79.gv
 refine RD.offs 63 29 [(4, 217), (5, 218)] (F := [(216, false)]) (U := []) kt0 kp0 (.cons rfl .nil) .nil ?_
 dsimp only [offS, List.map]
 refine RD.vw 6 127 kt0 rfl kp0 (fun _ => FV.pick_f rfl rfl) rfl <| RD.vw 7 255 kt0 rfl kp0 (fun _ => FV.move rfl) rfl <| RD.offs 1023 25 [(8, 221), (9, 222)] (F := [(220, false)]) (U := []) kt0 kp0 (.cons rfl .nil) .nil ?_
 dsimp only [offS, List.map]
 refine RD.vw 10 2047 kt0 rfl kp0 (fun _ => FV.pick_f rfl rfl) rfl <| RD.vw 11 4095 kt0 rfl kp0 (fun _ => FV.move rfl) rfl <| RD.offs 16383 21 [(12, 225), (13, 226)] (F := [(224, false)]) (U := []) kt0 kp0 (.cons rfl .nil) .nil ?_
 dsimp only [offS, List.map]
 refine RD.vw 14 32767 kt0 rfl kp0 (fun _ => FV.pick_f rfl rfl) rfl <| RD.vw 15 65535 kt0 rfl kp0 (fun _ => FV.move rfl) rfl <| RD.offs 4194303 13 [(16, 229), (17, 230), (18, 231), (19, 232), (20, 233), (21, 234)] (F := [(228, false)]) (U := []) kt0 kp0 (.cons rfl .nil) .nil ?_
 dsimp only [offS, List.map]
 refine RD.vw 22 8388607 kt0 rfl kp0 (fun _ => FV.pick_f rfl rfl) rfl <| RD.vw 23 16777215 kt0 rfl kp0 (fun _ => FV.move rfl) rfl <| RD.offs 8589934591 2 [(24, 237), (25, 238), (26, 239), (27, 240), (28, 241), (29, 242), (30, 243), (31, 244), (32, 245)] (F := [(236, false)]) (U := []) kt0 kp0 (.cons rfl .nil) .nil ?_
 dsimp only [offS, List.map]
 refine RD.vw 33 17179869183 kt0 rfl kp0 (fun _ => FV.pick_f rfl rfl) rfl <| RD.vw 34 34359738367 kt0 rfl kp0 (fun _ => FV.assign rfl) rfl <| RD.done (doneD_ok kt0 (by kernel_rfl)) <| MX.ret rfl <| RT.t1 hb0 Tryz.func3 rfl rfl ?_
 cases h
 exact hS79.gv
 intro J0 hJ471 h
 try dsimp only at h
 refine MX.drawT 29 tb3_20 (by kernel_rfl) (by kernel_rfl) (by kernel_rfl) (fun kt1 kp1 => ?_)
 refine RD.vw 0 1 kt1 rfl kp1 (fun _ => FV.move rfl) rfl <| RD.vw 1 3 kt1 rfl kp1 (fun _ => FV.move rfl) rfl <| RD.ifb (s := 165) rfl h (fun c9 h => ?_) (fun c9 h => ?_)
 refine RD.vP 2 7 kt1 rfl kp1 (.yes rfl rfl) (fun _ => FV.move rfl) rfl <| RD.vP 3 15 kt1 rfl kp1 (.yes rfl rfl) (fun _ => FV.eql (i := y11.2.2) (j := 7) rfl rfl) rfl <| RD.vw 4 31 kt1 rfl kp1 (fun _ => FV.pick_t rfl rfl) rfl <| RD.vw 5 63 kt1 rfl kp1 (fun _ => FV.move rfl) rfl <| RD.ifd (s := 169) rfl h (fun c10 h => ?_) (fun c10 h => ?_)
 refine RD.vP 6 127 kt1 rfl kp1 (.yes rfl rfl) (fun _ => FV.move rfl) rfl <| RD.vP 7 255 kt1 rfl kp1 (.yes rfl rfl) (fun _ => FV.eql (i := y12.2) (j := 7) rfl rfl) rfl <| RD.vw 8 511 kt1 rfl kp1 (fun _ => FV.pick_t rfl rfl) rfl <| RD.vw 9 1023 kt1 rfl kp1 (fun _ => FV.move rfl) rfl <| RD.ifd (s := 173) rfl h (fun c11 h => ?_) (fun c11 h => ?_)
 obtain ⟨y24, hy24, h⟩ := bind_in h
 refine RD.callq (i := 10) (m' := 2047) (W := 536860672) (takeC_ok kt1 (by kernel_rfl)) rfl kp1 (v := .agg ((cs_TShare y24)).toArray) (fst := []) (cap := []) (.yes rfl rfl) body13 rfl (e2 rfl rfl) (fun w9 hw9 => wardmotelaw29_of_c n _ w9 (hS66.hL0 hL hw9) (1 : Int) (1 : Int) hy24) rfl ?_
 obtain ⟨y25, hy25, h⟩ := bind_in h
 refine RD.callq (i := 11) (m' := 4095) (W := 536858624) (takeC_ok kt1 (by kernel_rfl)) rfl kp1 (v := .agg ((cs_TShare y25)).toArray) (fst := []) (cap := []) (.yes rfl rfl) body13 rfl (e2 rfl rfl) (fun w9 hw9 => wardmotelaw29_of_c n _ w9 (hS66.hL0 hL hw9) (0 : Int) (1 : Int) hy25) rfl <| RD.val (i := 13) (m' := 12287) (W := 536854528) (takeC_ok kt1 (by kernel_rfl)) rfl kp1 (.yes rfl rfl) (FV.lN rfl (hS66.memA (.tl (.tl .hd)))) rfl <| RD.cl 12 16383 kt1 rfl (.yes rfl rfl) body12 rfl (e2 rfl rfl) (fun w9 hw9 => Calls.gives (wardmotelaw29_line_c n _ w9 (hS66.hL hL hw9) y24 y25) fun (w8 : World) (u8 : Value) ⟨b0_, b1_, hu_, s_⟩ => (⟨b0_, b1_, hu_, s_.from hw9⟩ : ∃ b42 b43 : Nat, u8 = Value.func (.func 43) #[] #[vP b42, vP b43] ∧ St w54 w8 [.cells b42 (cs_TShare y24) 39, .cells b43 (cs_TShare y25) 39])) rfl (fun w71 vu10 hag10 ⟨b42, b43, hu4, s4⟩ => ?_)
 subst hu4
 have hS94 : St w w71 [.cells b42 (cs_TShare y24) 39, .cells b43 (cs_TShare y25) 39, .row w.heap.size 30 (Rep.size TUnit) (vS b28 1) (([(⟨⟨#[100]⟩, (2 : Int), ([(1 : Int)] : List Int), ([(1 : Int), (1 : Int)] : List Int), ([] : List Int), false⟩ : TUnit)] : List TUnit).length) [.string ⟨#[100]⟩, vI 2, (vS b25 1), (vS b27 2), vN, .bool false], .row w.heap.size 30 (Rep.size TUnit) v14 xs1.length cs7, .cells b24 [vI 1, vI 2, vI 0, v14] 25, .cells b23 (cs_TShare y12.1) 39, .cells b22 (cs_TShare y11.2.1) 39, .cells b21 (cs_TShare y11.1) 39, .cells b19 [vI 1, vI 2, vI 0, (vS b18 3)] 25] := St.merge hS66 s4
 have hT95 : Tr w54 [.row w.heap.size 30 (Rep.size TUnit) (vS b28 1) (([(⟨⟨#[100]⟩, (2 : Int), ([(1 : Int)] : List Int), ([(1 : Int), (1 : Int)] : List Int), ([] : List Int), false⟩ : TUnit)] : List TUnit).length) [.string ⟨#[100]⟩, vI 2, (vS b25 1), (vS b27 2), vN, .bool false], .row w.heap.size 30 (Rep.size TUnit) v14 xs1.length cs7, .cells b24 [vI 1, vI 2, vI 0, v14] 25, .cells b23 (cs_TShare y12.1) 39, .cells b22 (cs_TShare y11.2.1) 39, .cells b21 (cs_TShare y11.1) 39, .cells b19 [vI 1, vI 2, vI 0, (vS b18 3)] 25] w71 [.cells b42 (cs_TShare y24) 39, .cells b43 (cs_TShare y25) 39, .row w.heap.size 30 (Rep.size TUnit) (vS b28 1) (([(⟨⟨#[100]⟩, (2 : Int), ([(1 : Int)] : List Int), ([(1 : Int), (1 : Int)] : List Int), ([] : List Int), false⟩ : TUnit)] : List TUnit).length) [.string ⟨#[100]⟩, vI 2, (vS b25 1), (vS b27 2), vN, .bool false], .row w.heap.size 30 (Rep.size TUnit) v14 xs1.length cs7, .cells b24 [vI 1, vI 2, vI 0, v14] 25, .cells b23 (cs_TShare y12.1) 39, .cells b22 (cs_TShare y11.2.1) 39, .cells b21 (cs_TShare y11.1) 39, .cells b19 [vI 1, vI 2, vI 0, (vS b18 3)] 25] := Tr.merge hS66 s4
 obtain ⟨y26, hy26, h⟩ := bind_in h
 have hm55 := Cells.mv hc20 (Tr.trans hT67 hT95)
 refine RD.callq (i := 14) (m' := 32767) (W := 536838144) (takeC_ok kt1 (by kernel_rfl)) rfl kp1 (v := .tuple #[.agg ((cs_TShare y26.1)).toArray, .agg ((cs_TShare y26.2.1)).toArray, vI y26.2.2]) (fst := []) (cap := []) (.yes rfl rfl) body9 rfl (e3 rfl rfl rfl) (fun w9 hw9 => minority_Line_c n _ w9 (hS94.hL0 hL hw9) (⟨(1 : Int), (2 : Int), (0 : Int), xs1⟩ : TRoll) (Rep.keep0 (St.lend (α := TUnit) (L := L) hS94 (.tl (.tl (.tl .hd))) hm55 hL) hw9) (0 : Int) (0 : Int) hy26) rfl <| RD.vP 15 65535 kt1 rfl kp1 (.yes rfl rfl) (fun _ => FV.extract rfl rfl) rfl <| RD.vP 16 131071 kt1 rfl kp1 (.yes rfl rfl) (fun _ => FV.extract rfl rfl) rfl <| RD.vP 17 262143 kt1 rfl kp1 (.yes rfl rfl) (fun _ => FV.extract rfl rfl) rfl ?_
 obtain ⟨y27, hy27, h⟩ := bind_in h
 refine RD.callq (i := 18) (m' := 524287) (W := 536346624) (takeC_ok kt1 (by kernel_rfl)) rfl kp1 (v := .bool y27) (fst := []) (cap := [vP b42, vP b43]) (.yes rfl rfl) body43 rfl (e3 rfl rfl rfl) (fun w9 hw9 => wardmotelaw29_line_1_c n _ w9 (hS94.hL0 hL hw9) y26.1 y26.2.1 y26.2.2 y24 (fun j9 v9 h9 => hw9.cell0 ((hS94.memA .hd) j9 v9 h9)) y25 (fun j9 v9 h9 => hw9.cell0 ((hS94.memA (.tl .hd)) j9 v9 h9)) hy27) rfl <| RD.vw 19 1048575 kt1 rfl kp1 (fun _ => FV.pick_t rfl rfl) rfl <| RD.vw 20 2097151 kt1 rfl kp1 (fun _ => FV.move rfl) rfl <| RD.ifb (s := 184) rfl h (fun c12 h => ?_) (fun c12 h => ?_)
 refine RD.val (i := 22) (m' := 6291455) (W := 528482304) (takeC_ok kt1 (by kernel_rfl)) rfl kp1 (.yes rfl rfl) (FV.lN rfl (hS94.memA (.tl (.tl (.tl (.tl .hd)))))) rfl <| RD.cl 21 8388607 kt1 rfl (.yes rfl rfl) body14 rfl (e2 rfl rfl) (fun w9 hw9 => Calls.gives (wardmotelaw29_is_c n _ w9 (hS94.hL hL hw9) (1 : Int) (1 : Int)) fun (w8 : World) (u8 : Value) ⟨b0_, b1_, hu_, s_⟩ => (⟨b0_, b1_, hu_, s_.from hw9⟩ : ∃ b44 b45 : Nat, u8 = Value.func (.func 45) #[] #[vP b44, vP b45] ∧ St w71 w8 [.cells b44 [vI 1] 3, .cells b45 [vI 1] 3])) rfl (fun w72 vu11 hag11 ⟨b44, b45, hu5, s5⟩ => ?_)
 subst hu5
 have hS95 : St w w72 [.cells b44 [vI 1] 3, .cells b45 [vI 1] 3, .cells b42 (cs_TShare y24) 39, .cells b43 (cs_TShare y25) 39, .row w.heap.size 30 (Rep.size TUnit) (vS b28 1) (([(⟨⟨#[100]⟩, (2 : Int), ([(1 : Int)] : List Int), ([(1 : Int), (1 : Int)] : List Int), ([] : List Int), false⟩ : TUnit)] : List TUnit).length) [.string ⟨#[100]⟩, vI 2, (vS b25 1), (vS b27 2), vN, .bool false], .row w.heap.size 30 (Rep.size TUnit) v14 xs1.length cs7, .cells b24 [vI 1, vI 2, vI 0, v14] 25, .cells b23 (cs_TShare y12.1) 39, .cells b22 (cs_TShare y11.2.1) 39, .cells b21 (cs_TShare y11.1) 39, .cells b19 [vI 1, vI 2, vI 0, (vS b18 3)] 25] := St.merge hS94 s5
 have hT96 : Tr w71 [.cells b42 (cs_TShare y24) 39, .cells b43 (cs_TShare y25) 39, .row w.heap.size 30 (Rep.size TUnit) (vS b28 1) (([(⟨⟨#[100]⟩, (2 : Int), ([(1 : Int)] : List Int), ([(1 : Int), (1 : Int)] : List Int), ([] : List Int), false⟩ : TUnit)] : List TUnit).length) [.string ⟨#[100]⟩, vI 2, (vS b25 1), (vS b27 2), vN, .bool false], .row w.heap.size 30 (Rep.size TUnit) v14 xs1.length cs7, .cells b24 [vI 1, vI 2, vI 0, v14] 25, .cells b23 (cs_TShare y12.1) 39, .cells b22 (cs_TShare y11.2.1) 39, .cells b21 (cs_TShare y11.1) 39, .cells b19 [vI 1, vI 2, vI 0, (vS b18 3)] 25] w72 [.cells b44 [vI 1] 3, .cells b45 [vI 1] 3, .cells b42 (cs_TShare y24) 39, .cells b43 (cs_TShare y25) 39, .row w.heap.size 30 (Rep.size TUnit) (vS b28 1) (([(⟨⟨#[100]⟩, (2 : Int), ([(1 : Int)] : List Int), ([(1 : Int), (1 : Int)] : List Int), ([] : List Int), false⟩ : TUnit)] : List TUnit).length) [.string ⟨#[100]⟩, vI 2, (vS b25 1), (vS b27 2), vN, .bool false], .row w.heap.size 30 (Rep.size TUnit) v14 xs1.length cs7, .cells b24 [vI 1, vI 2, vI 0, v14] 25, .cells b23 (cs_TShare y12.1) 39, .cells b22 (cs_TShare y11.2.1) 39, .cells b21 (cs_TShare y11.1) 39, .cells b19 [vI 1, vI 2, vI 0, (vS b18 3)] 25] := Tr.merge hS94 s5
 obtain ⟨y28, hy28, h⟩ := bind_in h
 have hq2466 := Tr.trans hT67 (Tr.trans hT95 hT96)
 have hm56 := Cells.mv hc20 hq2466
 refine RD.callq (i := 23) (m' := 16777215) (W := 520093696) (takeC_ok kt1 (by kernel_rfl)) rfl kp1 (v := .tuple #[.agg ((cs_TShare y28.1)).toArray, vI y28.2]) (fst := []) (cap := []) (.yes rfl rfl) body10 rfl (e3 rfl rfl rfl) (fun w9 hw9 => minority_Fit_c n _ w9 (hS95.hL0 hL hw9) (⟨(1 : Int), (2 : Int), (0 : Int), xs1⟩ : TRoll) (Rep.keep0 (St.lend (α := TUnit) (L := L) hS95 (.tl (.tl (.tl (.tl (.tl .hd))))) hm56 hL) hw9) (0 : Int) (0 : Int) hy28) rfl <| RD.vP 24 33554431 kt1 rfl kp1 (.yes rfl rfl) (fun _ => FV.extract rfl rfl) rfl <| RD.vP 25 67108863 kt1 rfl kp1 (.yes rfl rfl) (fun _ => FV.extract rfl rfl) rfl ?_
 obtain ⟨y29, hy29, h⟩ := bind_in h
 refine RD.callq (i := 26) (m' := 134217727) (W := 402653184) (takeC_ok kt1 (by kernel_rfl)) rfl kp1 (v := .bool y29) (fst := []) (cap := [vP b44, vP b45]) (.yes rfl rfl) body45 rfl (e2 rfl rfl) (fun w9 hw9 => wardmotelaw29_is_1_c n _ w9 (hS95.hL0 hL hw9) y28.1 y28.2 (1 : Int) (fun j9 v9 h9 => hw9.cell0 ((hS95.memA .hd) j9 v9 h9)) (1 : Int) (fun j9 v9 h9 => hw9.cell0 ((hS95.memA (.tl .hd)) j9 v9 h9)) hy29) rfl <| RD.vw 27 268435455 kt1 rfl kp1 (fun _ => FV.pick_t rfl rfl) rfl <| RD.vw 28 536870911 kt1 rfl kp1 (fun _ => FV.assign rfl) rfl <| RD.done (doneD_ok kt1 (by kernel_rfl)) ?_
 obtain ⟨hS96, hT97⟩ := St.arrB hS95 (.one (.tl (.tl (.tl (.tl (.tl (.tl (.tl (.tl (.tl (.tl .hd)))))))))) .done)
 have hq2471 := Tr.trans hT95 (Tr.trans hT96 hT97)
 exact hJ471 y29 _ _ ⟨rfl, rfl, trivial⟩ ⟨hS96, hq2471⟩ h
 refine RD.offs 134217727 2 [(21, 185), (22, 186), (23, 187), (24, 188), (25, 189), (26, 190)] (F := [(184, false)]) (U := []) kt1 kp1 (.cons rfl .nil) .nil ?_
 dsimp only [offS, List.map]
 refine RD.vw 27 268435455 kt1 rfl kp1 (fun _ => FV.pick_f rfl rfl) rfl <| RD.vw 28 536870911 kt1 rfl kp1 (fun _ => FV.assign rfl) rfl <| RD.done (doneD_ok kt1 (by kernel_rfl)) ?_
 obtain ⟨hS98, hT99⟩ := St.arrB hS94 (.one (.tl (.tl (.tl (.tl (.tl (.tl (.tl (.tl .hd)))))))) .done)
 exact hJ471 false _ _ ⟨rfl, rfl, trivial⟩ ⟨hS98, (Tr.trans hT95 hT99)⟩ h
 refine RD.offs 524287 10 [(10, 174), (11, 175), (12, 176), (13, 177), (14, 178), (15, 179), (16, 180), (17, 181), (18, 182)] (F := [(173, false)]) (U := []) kt1 kp1 (.cons rfl .nil) .nil ?_
 dsimp only [offS, List.map]
 refine RD.vw 19 1048575 kt1 rfl kp1 (fun _ => FV.pick_f rfl rfl) rfl <| RD.vw 20 2097151 kt1 rfl kp1 (fun _ => FV.move rfl) rfl <| RD.offs 134217727 2 [(21, 185), (22, 186), (23, 187), (24, 188), (25, 189), (26, 190)] (F := [(184, false)]) (U := []) kt1 kp1 (.cons rfl .nil) .nil ?_
 dsimp only [offS, List.map]
 refine RD.vw 27 268435455 kt1 rfl kp1 (fun _ => FV.pick_f rfl rfl) rfl <| RD.vw 28 536870911 kt1 rfl kp1 (fun _ => FV.assign rfl) rfl <| RD.done (doneD_ok kt1 (by kernel_rfl)) ?_
 obtain ⟨hS99, hT100⟩ := St.arrB hS66 (.one (.tl (.tl (.tl (.tl (.tl (.tl .hd)))))) .done)
 exact hJ471 false _ _ ⟨rfl, rfl, trivial⟩ ⟨hS99, hT100⟩ h
 refine RD.offs 255 21 [(6, 170), (7, 171)] (F := [(169, false)]) (U := []) kt1 kp1 (.cons rfl .nil) .nil ?_
 dsimp only [offS, List.map]
 refine RD.vw 8 511 kt1 rfl kp1 (fun _ => FV.pick_f rfl rfl) rfl <| RD.vw 9 1023 kt1 rfl kp1 (fun _ => FV.move rfl) rfl <| RD.offs 524287 10 [(10, 174), (11, 175), (12, 176), (13, 177), (14, 178), (15, 179), (16, 180), (17, 181), (18, 182)] (F := [(173, false)]) (U := []) kt1 kp1 (.cons rfl .nil) .nil ?_
 dsimp only [offS, List.map]
 refine RD.vw 19 1048575 kt1 rfl kp1 (fun _ => FV.pick_f rfl rfl) rfl <| RD.vw 20 2097151 kt1 rfl kp1 (fun _ => FV.move rfl) rfl <| RD.offs 134217727 2 [(21, 185), (22, 186), (23, 187), (24, 188), (25, 189), (26, 190)] (F := [(184, false)]) (U := []) kt1 kp1 (.cons rfl .nil) .nil ?_
 dsimp only [offS, List.map]
 refine RD.vw 27 268435455 kt1 rfl kp1 (fun _ => FV.pick_f rfl rfl) rfl <| RD.vw 28 536870911 kt1 rfl kp1 (fun _ => FV.assign rfl) rfl <| RD.done (doneD_ok kt1 (by kernel_rfl)) ?_
 obtain ⟨hS100, hT101⟩ := St.arrB hS66 (.one (.tl (.tl (.tl (.tl (.tl (.tl .hd)))))) .done)
 exact hJ471 false _ _ ⟨rfl, rfl, trivial⟩ ⟨hS100, hT101⟩ h
 refine RD.offs 15 25 [(2, 166), (3, 167)] (F := [(165, false)]) (U := []) kt1 kp1 (.cons rfl .nil) .nil ?_
 dsimp only [offS, List.map]
 refine RD.vw 4 31 kt1 rfl kp1 (fun _ => FV.pick_f rfl rfl) rfl <| RD.vw 5 63 kt1 rfl kp1 (fun _ => FV.move rfl) rfl <| RD.offs 255 21 [(6, 170), (7, 171)] (F := [(169, false)]) (U := []) kt1 kp1 (.cons rfl .nil) .nil ?_
 dsimp only [offS, List.map]
 refine RD.vw 8 511 kt1 rfl kp1 (fun _ => FV.pick_f rfl rfl) rfl <| RD.vw 9 1023 kt1 rfl kp1 (fun _ => FV.move rfl) rfl <| RD.offs 524287 10 [(10, 174), (11, 175), (12, 176), (13, 177), (14, 178), (15, 179), (16, 180), (17, 181), (18, 182)] (F := [(173, false)]) (U := []) kt1 kp1 (.cons rfl .nil) .nil ?_
 dsimp only [offS, List.map]
 refine RD.vw 19 1048575 kt1 rfl kp1 (fun _ => FV.pick_f rfl rfl) rfl <| RD.vw 20 2097151 kt1 rfl kp1 (fun _ => FV.move rfl) rfl <| RD.offs 134217727 2 [(21, 185), (22, 186), (23, 187), (24, 188), (25, 189), (26, 190)] (F := [(184, false)]) (U := []) kt1 kp1 (.cons rfl .nil) .nil ?_
 dsimp only [offS, List.map]
 refine RD.vw 27 268435455 kt1 rfl kp1 (fun _ => FV.pick_f rfl rfl) rfl <| RD.vw 28 536870911 kt1 rfl kp1 (fun _ => FV.assign rfl) rfl <| RD.done (doneD_ok kt1 (by kernel_rfl)) ?_
 obtain ⟨hS101, hT102⟩ := St.arrB hS66 (.one (.tl (.tl (.tl (.tl (.tl (.tl .hd)))))) .done)
 exact hJ471 false _ _ ⟨rfl, rfl, trivial⟩ ⟨hS101, hT102⟩ h
 intro J1 hJ221 h
 try dsimp only at h
 refine MX.region <| RG.mo rfl <| RG.va (FV.neq (i := y2.2) (j := 0) rfl rfl) <| RG.mo rfl <| RG.ifn (s := 95) rfl h (fun c13 h => ?_) (fun c13 h => ?_)
 refine RG.no <| RG.no <| RG.pf rfl rfl <| RG.mo rfl <| RG.no <| RG.no ?_
 refine RG.pf rfl rfl <| RG.mo rfl <| RG.no <| RG.no <| RG.pf rfl rfl <| RG.mo rfl ?_
 refine RG.no <| RG.no <| RG.pf rfl rfl <| RG.mo rfl <| RG.no <| RG.no ?_
 refine RG.pf rfl rfl <| RG.mo rfl <| RG.no <| RG.no <| RG.pf rfl rfl <| RG.mo rfl ?_
 refine RG.no <| RG.no <| RG.no <| RG.pf rfl rfl <| RG.mo rfl <| RG.no ?_
 refine RG.no <| RG.pf rfl rfl <| RG.mo rfl <| RG.no <| RG.no <| RG.pf rfl rfl ?_
 refine RG.so rfl <| RG.nil ?_
 obtain ⟨hS102, hT103⟩ := St.arrB hS30 .done
 exact hJ221 false _ _ ⟨rfl, trivial⟩ ⟨hS102, hT103⟩ h
 refine RG.ga (FV.move rfl) <| RG.ga (FV.neq (i := y2.2) (j := 2) rfl rfl) <| RG.pt rfl rfl <| RG.mo rfl <| RG.ifn (s := 99) rfl h (fun c14 h => ?_) (fun c14 h => ?_)
 refine RG.no <| RG.no <| RG.pf rfl rfl <| RG.mo rfl <| RG.no <| RG.no ?_
 refine RG.pf rfl rfl <| RG.mo rfl <| RG.no <| RG.no <| RG.pf rfl rfl <| RG.mo rfl ?_
 refine RG.no <| RG.no <| RG.pf rfl rfl <| RG.mo rfl <| RG.no <| RG.no ?_
 refine RG.pf rfl rfl <| RG.mo rfl <| RG.no <| RG.no <| RG.no <| RG.pf rfl rfl ?_
 refine RG.mo rfl <| RG.no <| RG.no <| RG.pf rfl rfl <| RG.mo rfl <| RG.no ?_
 refine RG.no <| RG.pf rfl rfl <| RG.so rfl <| RG.nil ?_
 obtain ⟨hS103, hT104⟩ := St.arrB hS30 .done
 exact hJ221 false _ _ ⟨rfl, trivial⟩ ⟨hS103, hT104⟩ h
 refine RG.ga (FV.move rfl) <| RG.ga (FV.eql (i := y4.2) (j := 220) rfl rfl) <| RG.pt rfl rfl <| RG.mo rfl <| RG.ifd (s := 103) rfl h (fun c15 h => ?_) (fun c15 h => ?_)
 refine RG.ga (FV.move rfl) <| RG.ga (FV.eql (i := y5.2) (j := 2) rfl rfl) <| RG.pt rfl rfl <| RG.mo rfl <| RG.ifd (s := 107) rfl h (fun c16 h => ?_) (fun c16 h => ?_)
 refine RG.ga (FV.move rfl) <| RG.ga (FV.eql (i := y6.2) (j := 2) rfl rfl) <| RG.pt rfl rfl <| RG.mo rfl <| RG.ifd (s := 111) rfl h (fun c17 h => ?_) (fun c17 h => ?_)
 refine RG.ga (FV.move rfl) <| RG.ga (FV.neq (i := y7.2) (j := 0) rfl rfl) <| RG.pt rfl rfl <| RG.mo rfl <| RG.ifn (s := 115) rfl h (fun c18 h => ?_) (fun c18 h => ?_)
 refine RG.no <| RG.no <| RG.pf rfl rfl <| RG.mo rfl <| RG.no <| RG.no ?_
 refine RG.no <| RG.pf rfl rfl <| RG.mo rfl <| RG.no <| RG.no <| RG.pf rfl rfl ?_
 refine RG.mo rfl <| RG.no <| RG.no <| RG.pf rfl rfl <| RG.so rfl <| RG.nil ?_
 obtain ⟨hS104, hT105⟩ := St.arrB hS30 .done
 exact hJ221 false _ _ ⟨rfl, trivial⟩ ⟨hS104, hT105⟩ h
 refine RG.ga (FV.move rfl) <| RG.ga (FV.neq (i := y7.2) (j := 2) rfl rfl) <| RG.pt rfl rfl <| RG.mo rfl <| RG.ifn (s := 119) rfl h (fun c19 h => ?_) (fun c19 h => ?_)
 refine RG.no <| RG.no <| RG.no <| RG.pf rfl rfl <| RG.mo rfl <| RG.no ?_
 refine RG.no <| RG.pf rfl rfl <| RG.mo rfl <| RG.no <| RG.no <| RG.pf rfl rfl ?_
 refine RG.so rfl <| RG.nil ?_
 obtain ⟨hS105, hT106⟩ := St.arrB hS30 .done
 exact hJ221 false _ _ ⟨rfl, trivial⟩ ⟨hS105, hT106⟩ h
 refine RG.ga (FV.move rfl) <| RG.ga (FV.move rfl) <| RG.ga (FV.eql (i := y8.2.2) (j := y2.2) rfl rfl) <| RG.pt rfl rfl <| RG.mo rfl <| RG.ifd (s := 124) rfl h (fun c20 h => ?_) (fun c20 h => ?_)
 refine RG.ga (FV.move rfl) <| RG.ga (FV.eql (i := y9.2.2) (j := 2) rfl rfl) <| RG.pt rfl rfl <| RG.mo rfl <| RG.ifd (s := 128) rfl h (fun c21 h => ?_) (fun c21 h => ?_)
 refine RG.ga (FV.move rfl) <| RG.ga (FV.eql (i := y10.2) (j := 2) rfl rfl) <| RG.pt rfl rfl <| RG.so rfl <| RG.nil ?_
 obtain ⟨hS106, hT107⟩ := St.arrB hS30 .done
 exact hJ221 (decide (y10.2 = 2)) _ _ ⟨rfl, trivial⟩ ⟨hS106, hT107⟩ h
 refine RG.no <| RG.no <| RG.pf rfl rfl <| RG.so rfl <| RG.nil ?_
 obtain ⟨hS107, hT108⟩ := St.arrB hS30 .done
 exact hJ221 false _ _ ⟨rfl, trivial⟩ ⟨hS107, hT108⟩ h
 refine RG.no <| RG.no <| RG.pf rfl rfl <| RG.mo rfl <| RG.no <| RG.no ?_
 refine RG.pf rfl rfl <| RG.so rfl <| RG.nil ?_
 obtain ⟨hS109, hT110⟩ := St.arrB hS30 .done
 exact hJ221 false _ _ ⟨rfl, trivial⟩ ⟨hS109, hT110⟩ h
 refine RG.no <| RG.no <| RG.pf rfl rfl <| RG.mo rfl <| RG.no <| RG.no ?_
 refine RG.pf rfl rfl <| RG.mo rfl <| RG.no <| RG.no <| RG.no <| RG.pf rfl rfl ?_
 refine RG.mo rfl <| RG.no <| RG.no <| RG.pf rfl rfl <| RG.mo rfl <| RG.no ?_
 refine RG.no <| RG.pf rfl rfl <| RG.so rfl <| RG.nil ?_
 obtain ⟨hS110, hT111⟩ := St.arrB hS30 .done
 exact hJ221 false _ _ ⟨rfl, trivial⟩ ⟨hS110, hT111⟩ h
 refine RG.no <| RG.no <| RG.pf rfl rfl <| RG.mo rfl <| RG.no <| RG.no ?_
 refine RG.pf rfl rfl <| RG.mo rfl <| RG.no <| RG.no <| RG.pf rfl rfl <| RG.mo rfl ?_
 refine RG.no <| RG.no <| RG.no <| RG.pf rfl rfl <| RG.mo rfl <| RG.no ?_
 refine RG.no <| RG.pf rfl rfl <| RG.mo rfl <| RG.no <| RG.no <| RG.pf rfl rfl ?_
 refine RG.so rfl <| RG.nil ?_
 obtain ⟨hS111, hT112⟩ := St.arrB hS30 .done
 exact hJ221 false _ _ ⟨rfl, trivial⟩ ⟨hS111, hT112⟩ h
 refine RG.no <| RG.no <| RG.pf rfl rfl <| RG.mo rfl <| RG.no <| RG.no ?_
 refine RG.pf rfl rfl <| RG.mo rfl <| RG.no <| RG.no <| RG.pf rfl rfl <| RG.mo rfl ?_
 refine RG.no <| RG.no <| RG.pf rfl rfl <| RG.mo rfl <| RG.no <| RG.no ?_
 refine RG.no <| RG.pf rfl rfl <| RG.mo rfl <| RG.no <| RG.no <| RG.pf rfl rfl ?_
 refine RG.mo rfl <| RG.no <| RG.no <| RG.pf rfl rfl <| RG.so rfl <| RG.nil ?_
 obtain ⟨hS113, hT114⟩ := St.arrB hS30 .done
 exact hJ221 false _ _ ⟨rfl, trivial⟩ ⟨hS113, hT114⟩ h
 refine MX.sr <| RG.so rfl <| RG.nil <| MX.ret rfl <| RT.t1 hb0 Tryz.func3 rfl rfl ?_
 cases h
 exact hS0.gv
end Go.Proofs.YtmpoojncffgjoaaGreatDoor
