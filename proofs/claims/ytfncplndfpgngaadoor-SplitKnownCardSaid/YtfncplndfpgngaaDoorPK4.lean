/- Functions of the program, and what they give: part 4. -/
import Derived.Test.YtfncplndfpgngaaDoorPK3
namespace Go.Proofs.YtfncplndfpgngaaDoor
open Go Go.RowKit
set_option maxRecDepth 4000
set_option maxHeartbeats 4000000

def tb3_21:List (Nat × Nat × Nat):=[(0,23384026197294446691258957323460528314494920687616,0),(1,46768052394588893382517914646921056628989841375232,23384026197294446691258957323460528314495457558528),(3,93536104789177786765035829293842113257979682750464,70152078591883340073776871970381584943484762062848),(5,187072209578355573530071658587684226515959365500928,93536104789177786765035829293842113257979682750464),(8,374144419156711147060143317175368453031918731001856,187072209578355573530071658587684226515959365500928),(24,748288838313422294120286634350736906063837462003712,561216628735066720590214975763052679547878096502784),(8,1496577676626844588240573268701473812127674924007424,187072209578355573530071658587684226515959365500930),(8,2993155353253689176481146537402947624255349848014848,187072209578355573530071658587684226515959365500932),(232,5986310706507378352962293074805895248510699696029696,4676805239458889338251791464692105662898984137523200),(264,11972621413014756705924586149611790497021399392059392,6173382916085733926492364733393579475026659061530624),(264,23945242826029513411849172299223580994042798784118784,6173382916085733926492364733393579475026659061530624),(1832,47890485652059026823698344598447161988085597568237568,36853225286936047985424116741773792623643995003682816),(2056,95780971304118053647396689196894323976171195136475136,48077557861637382397228416257034846214601556933738496),(6144,191561942608236107294793378393788647952342390272950272,95780971304118053647396689196894323976171195136475136),(8192,383123885216472214589586756787577295904684780545900544,191561942608236107294793378393788647952342390272950272),(8192,766247770432944429179173513575154591809369561091801088,191561942608236107294793378393788647952342390272950274),(8192,1532495540865888858358347027150309183618739122183602176,191561942608236107294793378393788647952342390272950272),(122880,3064991081731777716716694054300618367237478244367204352,2490305253907069394832313919119252423380451073548353536),(139264,6129982163463555433433388108601236734474956488734408704,3256553024340013824011487432694407015189820634640154624),(139264,12259964326927110866866776217202473468949912977468817408,3256553024340013824011487432694407015189820634640154624),(942080,24519928653854221733733552434404946937899825954937634816,18964632318215374622184544460985076147281896637022076928),(1056768,49039857307708443467467104868809893875799651909875269632,24711490596462457841028345812798735585852168345210585088),(3145728,98079714615416886934934209737619787751599303819750539264,49039857307708443467467104868809893875799651909875269632),(4194304,196159429230833773869868419475239575503198607639501078528,98079714615416886934934209737619787751599303819750539264),(12582912,392318858461667547739736838950479151006397215279002157056,294239143846250660804802629212859363254797911459251617792),(4194304,784637716923335095479473677900958302012794430558004314112,98079714615416886934934209737619787751599303820018974720),(54525952,1569275433846670190958947355801916604025588861116008628224,882717431538751982414407887638578089764393734377754853376),(71303168,3138550867693340381917894711603833208051177722232017256448,1667355148462087077893881565539536391777188164935759167488),(71303168,6277101735386680763835789423207666416102355444464034512896,1667355148462087077893881565539536391777188164935759167488),(490733568,12554203470773361527671578846415332832204710888928069025792,9906051176157105580428355183499598562911529685794804465664),(541065216,25108406941546723055343157692830665664409421777856138051584,12652283185388778414606513056152952619956310192747819565056),(1610612736,50216813883093446110686315385661331328818843555712276103168,25108406941546723055343157692830665664409421777856138051584),(2147483648,100433627766186892221372630771322662657637687111424552206336,50216813883093446110686315385661331328818843555712276103168),(6442450944,200867255532373784442745261542645325315275374222849104412672,150650441649280338332058946156983993986456530667136828309504),(2147483648,401734511064747568885490523085290650630550748445698208825344,50216813883093446110686315385661331328818843555712544538624),(2147483648,803469022129495137770981046170581301261101496891396417650688,50216813883093446110686315385661331328818843555712276103168),(62277025792,1606938044258990275541962092341162602522202993782792835301376,1255420347077336152767157884641533283220471088892806902579200),(70866960384,3213876088517980551083924184682325205044405987565585670602752,1657154858142083721652648407726823933851021837338505111404544),(70866960384,6427752177035961102167848369364650410088811975131171341205504,1657154858142083721652648407726823933851021837338505111404544),(491773755392,12855504354071922204335696738729300820177623950262342682411008,9892712334969408883805204130975282271777312180475318392324096),(551903297536,25711008708143844408671393477458601640355247900524685364822016,12905721167955015650446383054114962151506442793818054958514176),(1649267441664,51422017416287688817342786954917203280710495801049370729644032,25711008708143844408671393477458601640355247900524685364822016),(2199023255552,102844034832575377634685573909834406561420991602098741459288064,51422017416287688817342786954917203280710495801049370729644032),(6597069766656,205688069665150755269371147819668813122841983204197482918576128,154266052248863066452028360864751609842131487403148112188932096),(2199023255552,411376139330301510538742295639337626245683966408394965837152256,51422017416287688817342786954917203280710495801049370729644034),(28587302322176,822752278660603021077484591278675252491367932816789931674304512,462798156746589199356085082594254829526394462209444336566796288),(37383395344384,1645504557321206042154969182557350504982735865633579863348609024,874174296076890709894827378233592455772078428617839302403948544),(37383395344384,3291009114642412084309938365114701009965471731267159726697218048,874174296076890709894827378233592455772078428617839302403948544),(257285720899584,6582018229284824168619876730229402019930943462534319453394436096,5193623759045056570551621482446637531351760075905986443694047232),(283673999966208,13164036458569648337239753460458804039861886925068638906788872192,6633440246701111857437219517184319223211653958335368824124080128),(844424930131968,26328072917139296674479506920917608079723773850137277813577744384,13164036458569648337239753460458804039861886925068638906788872192),(1125899906842624,52656145834278593348959013841835216159447547700274555627155488768,26328072917139296674479506920917608079723773850137277813577744384),(3377699720527872,105312291668557186697918027683670432318895095400549111254310977536,78984218751417890023438520762752824239171321550411833440733233152),(1125899906842624,210624583337114373395836055367340864637790190801098222508621955072,26328072917139296674479506920917608079723773850137277813577744386),(14636698788954112,421249166674228746791672110734681729275580381602196445017243910144,236952656254253670070315562288258472717513964651235500322199699456),(19140298416324608,842498333348457493583344221469363458551160763204392890034487820288,447577239591368043466151617655599337355304155452333722830821654528),(19140298416324608,1684996666696914987166688442938726917102321526408785780068975640576,447577239591368043466151617655599337355304155452333722830821654528),(131730289100587008,3369993333393829974333376885877453834204643052817571560137951281152,2659135364631068964122430199012678416052101158863865059171352182784),(145241087982698496,6739986666787659948666753771754907668409286105635143120275902562304,3396321406310969271007856392798371442284366826667708837951529025536),(432345564227567616,13479973333575319897333507543509815336818572211270286240551805124608,6739986666787659948666753771754907668409286105635143120275902562304),(576460752303423488,26959946667150639794667015087019630673637144422540572481103610249216,13479973333575319897333507543509815336818572211270286240551805124608),(576460752303423488,53919893334301279589334030174039261347274288845081144962207220498432,13479973333575319897333507543509815336818572211270286240551805124610),(4035225266123964416,107839786668602559178668060348078522694548577690162289924414440996864,67399866667876599486667537717549076684092861056351431202759025623040),(5188146770730811392,215679573337205118357336120696157045389097155380324579848828881993728,121319760002177879076001567891588338031367149901432576164966246121472),(5188146770730811392,431359146674410236714672241392314090778194310760649159697657763987456,121319760002177879076001567891588338031367149901432576164966246121472),(34011184385901985792,862718293348820473429344482784628181556388621521298319395315527974912,687478640012341314764008884719000582177747182774784598268142061355008),(37469948899722526720,1725436586697640946858688965569256363112777243042596638790631055949824,876198266682395793326677990328137996893207193732568605635867333099520),(110680464442257309696,3450873173395281893717377931138512726225554486085193277581262111899648,1725436586697640946858688965569256363112777243042596638790631055949824),(147573952589676412928,6901746346790563787434755862277025452451108972170386555162524223799296,3450873173395281893717377931138512726225554486085193277581262111899648),(147573952589676412928,13803492693581127574869511724554050904902217944340773110325048447598592,3450873173395281893717377931138512726225554486085193277581262111899650),(1033017668127734890496,27606985387162255149739023449108101809804435888681546220650096895197184,17254365866976409468586889655692563631127772430425966387906310559498240),(1328165573307087716352,55213970774324510299478046898216203619608871777363092441300193790394368,31057858560557537043456401380246614536029990374766739498231359007096832),(1328165573307087716352,110427941548649020598956093796432407239217743554726184882600387580788736,31057858560557537043456401380246614536029990374766739498231359007096832),(8706863202790908362752,220855883097298041197912187592864814478435487109452369765200775161577472,175994531843159376579586274488064149037503278790344857156644367706882048),(9592306918328966840320,441711766194596082395824375185729628956870974218904739530401550323154944,224306756270693323091629565524003327204661041595537563042782037273477120),(37778931862957161709567,1,441711766194596082395824375185729628956870974218904739530401550323154944)]
theorem body4:bodyB Tryd.prog 4 = true:=by kernel_rfl
theorem body9:bodyB Tryd.prog 9 = true:=by kernel_rfl
def wardmotelaw23_SplitKnown_p (n:Nat):Option Bool:=
  (wardmotelaw23_works_p n).bind fun y1=>(if y1 = true then (wardmotelaw23_four_p n).bind fun y3=>(wardmotelaw23_four_p n).bind fun g0=>(g0.fo[1]?).bind fun d0=>(put g0.fo ((1:Nat):Int) (⟨d0.fq,(-5:Int),d0.fh,d0.fVotes,d0.fy,d0.ft⟩:TUnit)).bind fun A0=>(split_Pieces_p n (⟨g0.fh,g0.fc,g0.fe,A0⟩:TRoll) ([]:List Int) (9:Int) (9:Int)).bind fun y0=>(split_Pieces_p n y3 ([(0:Int),(1:Int),(1:Int),(1:Int)]:List Int) (9:Int) (9:Int)).bind fun B0=>(split_Pieces_p n y3 ([(0:Int),(1:Int),(1:Int),(1:Int)]:List Int) (3:Int) (9:Int)).bind fun C0=>(split_Pieces_p n y3 ([(0:Int),(1:Int),(1:Int),(1:Int)]:List Int) (2:Int) (-1:Int)).bind fun D0=>(split_Keeps_p n y3 ([(0:Int),(1:Int),(1:Int),(1:Int)]:List Int) (2:Int) (1:Int) (99:Int)).bind fun E0=>(split_Keeps_p n y3 ([(0:Int),(1:Int),(1:Int),(1:Int)]:List Int) (2:Int) (0:Int) (-1:Int)).bind fun F0=>(split_Keeps_p n y3 ([(0:Int),(1:Int),(1:Int),(1:Int)]:List Int) (2:Int) (0:Int) (64:Int)).bind fun G0=>(split_Forced_p n y3 (-1:Int) (0:Int)).bind fun H0=>(split_Nested_p n y3 (0:Int) (1:Int)).bind fun K0=>(split_Nested_p n y3 (1:Int) (0:Int)).bind fun M0=>(split_People_p n y3 (1:Int)).bind fun P0=>(split_Splits_p n y3 ([(0:Int)]:List Int) (1:Int) (0:Int)).bind fun Q0=>(wardmotelaw23_four_p n).bind fun c0=>(app c0.fo ([(⟨⟨#[115,101,97]⟩,(0:Int),([]:List Int),([]:List Int),([(0:Int)]:List Int),true⟩:TUnit)]:List TUnit)).bind fun j0=>jn (fun z0=>(if z0 = true then (split_Pieces_p n y3 ([(0:Int),(1:Int),(1:Int),(1:Int)]:List Int) (2:Int) (0:Int)).bind fun q0=>(wardmotelaw23_is_1_p n q0.1 q0.2 ([(1:Int),(2:Int)]:List Int)).bind fun R0=>(if R0 = true then (split_Splits_p n y3 ([(0:Int),(1:Int),(0:Int),(1:Int)]:List Int) (2:Int) (0:Int)).bind fun k0=>(wardmotelaw23_count_1_p n k0.1 k0.2 (2:Int) (4:Int)).bind fun I0=>(if I0 = true then (split_Parents_p n (⟨c0.fh,c0.fc,c0.fe,j0⟩:TRoll) (0:Int)).bind fun p0=>(wardmotelaw23_is_1_p n p0.1 p0.2 ([(2:Int),(5:Int)]:List Int)).bind fun J0=>(if J0 = true then (split_Pieces_p n (⟨c0.fh,c0.fc,c0.fe,j0⟩:TRoll) ([(0:Int),(0:Int),(1:Int),(1:Int)]:List Int) (2:Int) (0:Int)).bind fun s0=>(wardmotelaw23_is_1_p n s0.1 s0.2 ([(1:Int),(1:Int)]:List Int)).bind fun U0=>(if U0 = true then (split_Forced_p n y3 (0:Int) (29:Int)).bind fun t0=>(wardmotelaw23_is_1_p n t0.1 t0.2 ([(2:Int),(5:Int)]:List Int)).bind fun V0=>(if V0 = true then (split_Forced_p n y3 (0:Int) (30:Int)).bind fun u0=>(wardmotelaw23_is_1_p n u0.1 u0.2 ([(2:Int)]:List Int)).bind fun W0=>(if W0 = true then (split_Forced_p n y3 (0:Int) (70:Int)).bind fun v0=>(wardmotelaw23_is_1_p n v0.1 v0.2 ([]:List Int)).bind fun X0=>(if X0 = true then (split_Nested_p n y3 (0:Int) (0:Int)).bind fun x0=>(wardmotelaw23_truth_1_p n x0.1 x0.2 true).bind fun Y0=>some Y0 else some false) else some false) else some false) else some false) else some false) else some false) else some false) else some false)) (fun b0=>(if y0.2 = 0 then b0 false else (if y0.2 = 2 then b0 false else (if B0.2 = 2 then (if C0.2 = 220 then (if D0.2 = 2 then (if E0.2 = 2 then (if F0.2 = 4 then (if G0.2 = 4 then (if H0.2 = 2 then (if K0.2 = 2 then (if M0.2 = 2 then (if P0.2 = 2 then b0 (decide (Q0.2 = 220)) else b0 false) else b0 false) else b0 false) else b0 false) else b0 false) else b0 false) else b0 false) else b0 false) else b0 false) else b0 false)))) else some false)
theorem wardmotelaw23_SplitKnown_c (n:Nat) (L:List Nat) (w:World) (hL:∀ b ∈ L,b < w.heap.size)  {r:Bool} (h:wardmotelaw23_SplitKnown_p n = some r) :
    Calls Tryd.prog 3 #[] w (Gives w fun _ u=>u = .bool r):=by
 unfold wardmotelaw23_SplitKnown_p at h
 have hS0:=AC w
 refine AF Tryd.func3 rfl rfl rfl (fun _ cs0 hb0=>?_)
 refine Ae<|Af rfl<|Aa<|Am<|Ae ?_
 obtain ⟨y1,hy1,h⟩:=bi h
 refine RG.cq (.bool y1) body4 rfl evs_nil (fun w9 hw9=>wardmotelaw23_works_c n _ w9 (hS0.hL0 hL hw9)  hy1) rfl<|Ac (FV.not rfl)<|Aa<|MX.ifnb rfl h (fun c2 h=>?_) (fun c2 h=>?_)
 refine Aq<|Ae ?_
 obtain ⟨y3,hy3,h⟩:=bi h
 refine AY (fst:=[]) (cap:=[]) .plain body5 rfl evs_nil (fun w9 hw9=>own_gives (b0:=w.heap.size) (wardmotelaw23_four_c n _ w9 (hS0.hL hL hw9)  hy3) hw9 (Nat.le_trans hS0.ag.size hw9.size)) rfl (fun w4 vu5 hag6 ⟨q0,u7,hu8,s7,Y8⟩=>?_)
 subst hu8
 have hS9:=own_push hS0 s7
 have G03:=own_tr hS0 s7
 have Z8:=Az (cs:=u7) (xs:=(y3.fo:List TUnit)) hS9 L (own_cells Y8)
 refine Ax .plain rfl (AD (α:=Int) (xs:=([(0:Int),(1:Int),(1:Int),(1:Int)]:List Int)) (vs:=[vI 0,vI 1,vI 1,vI 1]) (ds' :=[vI 0,vI 1,vI 1,vI 1]) rfl hS9 el28 rfl (e4 rfl rfl rfl rfl) (by kernel_rfl) rfl) (fun w17 d4 q4 Y7=>?_)
 have p9:=Az (cs:=[vI 0,vI 1,vI 1,vI 1]) (xs:=(([(0:Int),(1:Int),(1:Int),(1:Int)]:List Int):List Int)) q4 L (Ai (cs:=[vI 0]) (ds:=[vI 1,vI 1,vI 1]) rfl (Ai (cs:=[vI 1]) (ds:=[vI 1,vI 1]) rfl (Ai (cs:=[vI 1]) (ds:=[vI 1]) rfl (Ai (cs:=[vI 1]) (ds:=[]) rfl (AB _ _)))))
 refine Ax .plain rfl (AO [vI 0,vI 0,vI 0,vN] q4) (fun w23 k0 v4 U4=>?_)
 refine RG.sa [vI y3.fh,vI y3.fc,vI y3.fe,q0] v4 .hd (o4 rfl rfl rfl (St.o1 (α:=TUnit) v4 (.tl (.tl .hd)))) (fun w27 k2 V4=>?_)
 refine Af rfl<|Aa<|Ae ?_
 obtain ⟨F0,y02,h⟩:=bi h
 refine AY (fst:=[]) (cap:=[]) .plain body5 rfl evs_nil (fun w9 hw9=>own_gives (b0:=w.heap.size) (wardmotelaw23_four_c n _ w9 (k2.hL hL hw9)  y02) hw9 (Nat.le_trans k2.ag.size hw9.size)) rfl (fun w31 p05 U03 ⟨R3,x7,Q01,j6,A9⟩=>?_)
 subst Q01
 have B4:=own_push k2 j6
 have q5:=own_tr k2 j6
 have B9:=Az (cs:=x7) (xs:=(F0.fo:List TUnit)) B4 L (own_cells A9)
 refine Ax .plain rfl (AO [vI 0,vI 0,vI 0,vN] B4) (fun w44 I6 C4 D3=>?_)
 refine RG.sa [vI F0.fh,vI F0.fc,vI F0.fe,R3] C4 .hd (o4 rfl rfl rfl (St.o1 (α:=TUnit) C4 (.tl .hd))) (fun w48 B1 E3=>?_)
 refine Aa<|Ae<|RG.fa 3 rfl<|Ba rfl ((B1.memA .hd) 3 _ rfl) ?_
 obtain ⟨D0,V5,h⟩:=bi h
 have K3:=AJ B9 (Tt D3 E3)
 obtain ⟨E6,c53,H3,x5,D03,x01,W03⟩:=St.nth (α:=TUnit) B1 (.tl .hd) K3 V5
 obtain ⟨J6,c61,v5⟩:=St.nthOwn (α:=TUnit) B1 (.tl .hd) x5
 obtain rfl:E6 = ⟨J6,0,none⟩:=by rw [v5] at H3; cases H3; rfl
 obtain ⟨v63,v64,v65,rfl,p04,q04,s04⟩:=op_TUnit x01
 refine Ac (FV.ia 6 1 rfl H3 rfl rfl x5)<|RG.fa 1 rfl ?_
 obtain ⟨c69,E9,V03,E03,y01,X03,D9⟩:=St.nthAt (α:=TUnit) B1 (.tl .hd) K3 V5 v5
 obtain ⟨p6,q6,s6,rfl,z01,A01,B01⟩:=op_TUnit y01
 obtain ⟨v6,U01,h⟩:=bi h
 refine RG.acts' .plain (Acts.setPart (α:=TUnit) (i:=1) (tot:=1) (ds:=[.string D0.fq,vI D0.fp,p6,q6,s6,.bool D0.ft]) (news:=[vI (-5)]) (full:=[.string D0.fq,vI (-5),p6,q6,s6,.bool D0.ft]) U01 B1 E9 (fun _=>(.tl .hd)) K3 D9 rfl (by kernel_rfl) rfl rfl rfl rfl (mk_TUnit D0.fq (-5:Int) D0.fh z01 D0.fVotes A01 D0.fy B01 D0.ft) (by kernel_rfl) (o1 rfl)) (fun w83 ⟨F03,u2,s5,C9⟩=>?_)
 refine Aa<|Ae<|Ac (AI rfl (u2.memA .hd)) ?_
 have C01:=AP (α:=TUnit) u2 (.tl .hd) C9 hL
 have v2:=St.delS u2 (.tl .hd)
 have t5:=St.delT u2 (.tl .hd)
 have D01:=Rep.at_ (α:=TUnit) (v:=R3) (xs:=v6) v2 L C01
 have E01:=AN (α:=Int) v2 L
 obtain ⟨D6,J02,h⟩:=bi h
 refine AY (fst:=[]) (cap:=[]) .plain body6 rfl (e4 rfl rfl rfl rfl) (fun w9 hw9=>split_Pieces_c n _ w9 (v2.hL hL hw9) (⟨F0.fh,F0.fc,F0.fe,v6⟩:TRoll) (Aw D01 hw9) ([]:List Int) (Aw E01 hw9) (9:Int) (9:Int) J02) rfl (fun w94 s05 X8 ⟨v99,hu_,Y03⟩=>?_)
 subst hu_
 obtain ⟨x2,u5⟩:=v2.agr X8
 refine Ab rfl<|Ac (Aj rfl rfl)<|Ac (Aj rfl rfl)<|Af rfl<|Af rfl<|Aa<|Ae<|Ac (AI rfl (x2.memA (.tl .hd)))<|Ab rfl ?_
 have C00:=Tt Y7 (Tt U4 (Tt V4 (Tt q5 (Tt D3 (Tt E3 (Tt s5 (Tt t5 u5)))))))
 have F9:=AJ Z8 C00
 have R00:=AP (α:=TUnit) x2 (.tl (.tl (.tl .hd))) F9 hL
 have X1:=St.delS x2 (.tl (.tl (.tl .hd)))
 have X7:=St.delT x2 (.tl (.tl (.tl .hd)))
 have v0:=Rep.at_ (α:=TUnit) (v:=q0) (xs:=y3.fo) X1 L R00
 have D00:=Tt U4 (Tt V4 (Tt q5 (Tt D3 (Tt E3 (Tt s5 (Tt t5 (Tt u5 X7)))))))
 have G9:=AJ p9 D00
 have U00:=AP (α:=Int) X1 (.tl (.tl .hd)) G9 hL
 have M2:=St.delS X1 (.tl (.tl .hd))
 have d3:=St.delT X1 (.tl (.tl .hd))
 have F1:=Rep.at_ (α:=Int) (v:=(vS d4 4)) (xs:=([(0:Int),(1:Int),(1:Int),(1:Int)]:List Int)) M2 L U00
 obtain ⟨c03,V01,h⟩:=bi h
 have H9:=AE v0 d3
 refine AY (fst:=[]) (cap:=[]) .plain body6 rfl (e4 rfl rfl rfl rfl) (fun w9 hw9=>split_Pieces_c n _ w9 (M2.hL hL hw9) y3 (Aw H9 hw9) ([(0:Int),(1:Int),(1:Int),(1:Int)]:List Int) (Aw F1 hw9) (9:Int) (9:Int) V01) rfl (fun t05 J04 F8 ⟨t04,hu_,Z03⟩=>?_)
 subst hu_
 obtain ⟨P2,C1⟩:=M2.agr F8
 refine Ab rfl<|Ac (Aj rfl rfl)<|Ac (Aj rfl rfl)<|Af rfl<|Af rfl<|Aa<|Ae<|Ac (AI rfl (P2.memA (.tl .hd)))<|Ab rfl ?_
 obtain ⟨d03,W01,h⟩:=bi h
 have I9:=AE v0 (Tt d3 C1)
 have J9:=AE F1 C1
 refine AY (fst:=[]) (cap:=[]) .plain body6 rfl (e4 rfl rfl rfl rfl) (fun w9 hw9=>split_Pieces_c n _ w9 (P2.hL hL hw9) y3 (Aw I9 hw9) ([(0:Int),(1:Int),(1:Int),(1:Int)]:List Int) (Aw J9 hw9) (3:Int) (9:Int) W01) rfl (fun u05 K04 G8 ⟨u04,hu_,b04⟩=>?_)
 subst hu_
 obtain ⟨Q2,g3⟩:=P2.agr G8
 refine Ab rfl<|Ac (Aj rfl rfl)<|Ac (Aj rfl rfl)<|Af rfl<|Af rfl<|Aa<|Ae<|Ac (AI rfl (Q2.memA (.tl .hd)))<|Ab rfl ?_
 obtain ⟨g03,X01,h⟩:=bi h
 have M3:=Tt d3 (Tt C1 g3)
 have K9:=AE v0 M3
 have M9:=AE F1 (Tt C1 g3)
 refine AY (fst:=[]) (cap:=[]) .plain body6 rfl (e4 rfl rfl rfl rfl) (fun w9 hw9=>split_Pieces_c n _ w9 (Q2.hL hL hw9) y3 (Aw K9 hw9) ([(0:Int),(1:Int),(1:Int),(1:Int)]:List Int) (Aw M9 hw9) (2:Int) (-1:Int) X01) rfl (fun v05 M04 H8 ⟨v04,hu_,c04⟩=>?_)
 subst hu_
 obtain ⟨p0,j3⟩:=Q2.agr H8
 refine Ab rfl<|Ac (Aj rfl rfl)<|Ac (Aj rfl rfl)<|Af rfl<|Af rfl<|Aa<|Ae<|Ac (AI rfl (p0.memA (.tl .hd)))<|Ab rfl ?_
 obtain ⟨X3,Y01,h⟩:=bi h
 have E2:=AE v0 (Tt M3 j3)
 have y5:=Tt C1 (Tt g3 j3)
 have I3:=AE F1 y5
 refine RG.cq (.tuple #[.bool X3.1,vI X3.2]) body7 rfl (e5 rfl rfl rfl rfl rfl) (fun w9 hw9=>split_Keeps_c n _ w9 (p0.hL0 hL hw9) y3 (p0.kd E2 hw9) ([(0:Int),(1:Int),(1:Int),(1:Int)]:List Int) (p0.kd I3 hw9) (2:Int) (1:Int) (99:Int) Y01) rfl<|Ab rfl<|Ac (Aj rfl rfl)<|Ac (Aj rfl rfl)<|Af rfl<|Af rfl<|Aa<|Ae<|Ac (AI rfl (p0.memA (.tl .hd)))<|Ab rfl ?_
 obtain ⟨Y3,Z01,h⟩:=bi h
 refine RG.cq (.tuple #[.bool Y3.1,vI Y3.2]) body7 rfl (e5 rfl rfl rfl rfl rfl) (fun w9 hw9=>split_Keeps_c n _ w9 (p0.hL0 hL hw9) y3 (p0.kd E2 hw9) ([(0:Int),(1:Int),(1:Int),(1:Int)]:List Int) (p0.kd I3 hw9) (2:Int) (0:Int) (-1:Int) Z01) rfl<|Ab rfl<|Ac (Aj rfl rfl)<|Ac (Aj rfl rfl)<|Af rfl<|Af rfl<|Aa<|Ae<|Ac (AI rfl (p0.memA (.tl .hd)))<|Ab rfl ?_
 obtain ⟨Z3,b02,h⟩:=bi h
 refine RG.cq (.tuple #[.bool Z3.1,vI Z3.2]) body7 rfl (e5 rfl rfl rfl rfl rfl) (fun w9 hw9=>split_Keeps_c n _ w9 (p0.hL0 hL hw9) y3 (p0.kd E2 hw9) ([(0:Int),(1:Int),(1:Int),(1:Int)]:List Int) (p0.kd I3 hw9) (2:Int) (0:Int) (64:Int) b02) rfl<|Ab rfl<|Ac (Aj rfl rfl)<|Ac (Aj rfl rfl)<|Af rfl<|Af rfl<|Aa<|Ae<|Ac (AI rfl (p0.memA (.tl .hd))) ?_
 obtain ⟨j03,c02,h⟩:=bi h
 refine AY (fst:=[]) (cap:=[]) .plain body8 rfl (e3 rfl rfl rfl) (fun w9 hw9=>split_Forced_c n _ w9 (p0.hL hL hw9) y3 (Aw E2 hw9) (-1:Int) (0:Int) c02) rfl (fun x05 P04 I8 ⟨x04,hu_,d04⟩=>?_)
 subst hu_
 obtain ⟨K0,G4⟩:=p0.agr I8
 refine Ab rfl<|Ac (Aj rfl rfl)<|Ac (Aj rfl rfl)<|Af rfl<|Af rfl<|Aa<|Ae<|Ac (AI rfl (K0.memA (.tl .hd))) ?_
 obtain ⟨b4,p02,h⟩:=bi h
 have A5:=Tt M3 (Tt j3 G4)
 have J3:=AE v0 A5
 refine RG.cq (.tuple #[.bool b4.1,vI b4.2]) body9 rfl (e3 rfl rfl rfl) (fun w9 hw9=>split_Nested_c n _ w9 (K0.hL0 hL hw9) y3 (K0.kd J3 hw9) (0:Int) (1:Int) p02) rfl<|Ab rfl<|Ac (Aj rfl rfl)<|Ac (Aj rfl rfl)<|Af rfl<|Af rfl<|Aa<|Ae<|Ac (AI rfl (K0.memA (.tl .hd))) ?_
 obtain ⟨c4,q02,h⟩:=bi h
 refine RG.cq (.tuple #[.bool c4.1,vI c4.2]) body9 rfl (e3 rfl rfl rfl) (fun w9 hw9=>split_Nested_c n _ w9 (K0.hL0 hL hw9) y3 (K0.kd J3 hw9) (1:Int) (0:Int) q02) rfl<|Ab rfl<|Ac (Aj rfl rfl)<|Ac (Aj rfl rfl)<|Af rfl<|Af rfl<|Aa<|Ae<|Ac (AI rfl (K0.memA (.tl .hd))) ?_
 obtain ⟨q03,s02,h⟩:=bi h
 refine AY (fst:=[]) (cap:=[]) .plain body10 rfl (e2 rfl rfl) (fun w9 hw9=>split_People_c n _ w9 (K0.hL hL hw9) y3 (Aw J3 hw9) (1:Int) s02) rfl (fun z05 U04 K8 ⟨z04,hu_,g04⟩=>?_)
 subst hu_
 obtain ⟨p4,I4⟩:=K0.agr K8
 refine Ab rfl<|Ac (Aj rfl rfl)<|Ac (Aj rfl rfl)<|Af rfl<|Af rfl<|Aa<|Ae<|Ac (AI rfl (p4.memA (.tl .hd)))<|Ax .plain rfl (AD (α:=Int) (xs:=([(0:Int)]:List Int)) (vs:=[vI 0]) (ds' :=[vI 0]) rfl p4 el28 rfl (e1 rfl) (by kernel_rfl) rfl) (fun B05 F6 x1 J4=>?_)
 have d9:=Az (cs:=[vI 0]) (xs:=(([(0:Int)]:List Int):List Int)) x1 L (Ai (cs:=[vI 0]) (ds:=[]) rfl (AB _ _))
 obtain ⟨M0,t02,h⟩:=bi h
 have B5:=Tt A5 (Tt I4 J4)
 have U9:=AE v0 B5
 refine RG.cq (.tuple #[.agg #[vI M0.1.fx,vI M0.1.fw],vI M0.2]) body11 rfl (e4 rfl rfl rfl rfl) (fun w9 hw9=>split_Splits_c n _ w9 (x1.hL0 hL hw9) y3 (x1.kd U9 hw9) ([(0:Int)]:List Int) (Aw (St.lend (α:=Int) (L:=L) x1 .hd d9 hL) hw9) (1:Int) (0:Int) t02) rfl<|Ab rfl<|Ac (Aj rfl rfl)<|Ac (Aj rfl rfl)<|Ax .plain rfl (AO [vI 0,vI 0] x1) (fun C05 G6 y7 K4=>?_)
 refine RG.sa [vI M0.1.fx,vI M0.1.fw] y7 .hd (onesB rfl) (fun D05 b2 M4=>?_)
 refine Af rfl<|Aa<|Ae ?_
 obtain ⟨g0,u02,h⟩:=bi h
 refine AY (fst:=[]) (cap:=[]) .plain body5 rfl evs_nil (fun w9 hw9=>own_gives (b0:=w.heap.size) (wardmotelaw23_four_c n _ w9 (b2.hL hL hw9)  u02) hw9 (Nat.le_trans b2.ag.size hw9.size)) rfl (fun E05 V04 I03 ⟨k6,v7,G01,X5,g9⟩=>?_)
 subst G01
 have s4:=own_push b2 X5
 have P4:=own_tr b2 X5
 have k9:=Az (cs:=v7) (xs:=(g0.fo:List TUnit)) s4 L (own_cells g9)
 refine Ax .plain rfl (AO [vI 0,vI 0,vI 0,vN] s4) (fun F05 y0 t4 q3=>?_)
 refine RG.sa [vI g0.fh,vI g0.fc,vI g0.fe,k6] t4 .hd (o4 rfl rfl rfl (St.o1 (α:=TUnit) t4 (.tl .hd))) (fun G05 u4 s3=>?_)
 refine Aa<|Ae<|RG.fa 3 rfl<|Ba rfl ((u4.memA .hd) 3 _ rfl)<|Ax .plain rfl (AD (α:=Int) (xs:=([(0:Int)]:List Int)) (vs:=[vI 0]) (ds' :=[vI 0]) rfl u4 el27 rfl (e1 rfl) (by kernel_rfl) rfl) (fun H05 R0 z1 t3=>?_)
 have q9:=Az (cs:=[vI 0]) (xs:=(([(0:Int)]:List Int):List Int)) z1 L (Ai (cs:=[vI 0]) (ds:=[]) rfl (AB _ _))
 refine Ac (Bc (vs:=[.string ⟨#[115,101,97]⟩,.bool true,(vS R0 1)]) (u:=.agg #[.string ⟨#[115,101,97]⟩,vI 0,vN,vN,(vS R0 1),.bool true]) (e3 rfl rfl rfl) (fun w9=>by kernel_rfl)) ?_
 have j04:=AN (α:=Int) z1 L
 have Y00:=AP (α:=Int) z1 .hd q9 hL
 have V2:=St.delS z1 .hd
 have u3:=St.delT z1 .hd
 have Z00:=Rep.at_ (α:=Int) (v:=(vS R0 1)) (xs:=([(0:Int)]:List Int)) V2 L Y00
 have k04:=AN (α:=Int) V2 L
 refine Ax .plain rfl (AD (α:=TUnit) (xs:=([(⟨⟨#[115,101,97]⟩,(0:Int),([]:List Int),([]:List Int),([(0:Int)]:List Int),true⟩:TUnit)]:List TUnit)) (vs:=[.agg #[.string ⟨#[115,101,97]⟩,vI 0,vN,vN,(vS R0 1),.bool true]]) (ds' :=[.string ⟨#[115,101,97]⟩,vI 0,vN,vN,(vS R0 1),.bool true]) rfl V2 el23 rfl (e1 rfl) (by kernel_rfl) rfl) (fun J05 H6 d2 A2=>?_)
 have P5:=AN (α:=Int) d2 L
 have W9:=AE Z00 A2
 have s9:=Az (cs:=[.string ⟨#[115,101,97]⟩,vI 0,vN,vN,(vS R0 1),.bool true]) (xs:=(([(⟨⟨#[115,101,97]⟩,(0:Int),([]:List Int),([]:List Int),([(0:Int)]:List Int),true⟩:TUnit)]:List TUnit):List TUnit)) d2 L (Ai (cs:=[.string ⟨#[115,101,97]⟩,vI 0,vN,vN,(vS R0 1),.bool true]) (ds:=[]) (mk_TUnit ⟨#[115,101,97]⟩ (0:Int) ([]:List Int) P5 ([]:List Int) P5 ([(0:Int)]:List Int) W9 true) (AB _ _))
 obtain ⟨E0,R01,h⟩:=bi h
 have G00:=Tt q3 (Tt s3 (Tt t3 (Tt u3 A2)))
 have X9:=AJ k9 G00
 refine RG.doesL .plain rfl (DoesL.app (α:=TUnit) (ys:=([(⟨⟨#[115,101,97]⟩,(0:Int),([]:List Int),([]:List Int),([(0:Int)]:List Int),true⟩:TUnit)]:List TUnit)) R01 d2 (fun _ _=>(.tl (.tl .hd))) el23 rfl rfl X9 (Src.row (α:=TUnit) d2 .hd s9)) (fun j0 M05 ⟨Z0,X2,R4,t9⟩=>?_)
 refine RG.fa 3 rfl<|RG.now .plain (Acts.store (j:=3) (old:=[vI g0.fh,vI g0.fc,vI g0.fe,k6]) (news:=[j0]) (new' :=[vI g0.fh,vI g0.fc,vI g0.fe,j0]) X2 (.tl .hd) rfl rfl rfl (St.c1 (α:=TUnit) X2 (.tl (.tl .hd))) rfl rfl (o1 (St.o1 (α:=TUnit) X2 (.tl (.tl .hd)))) rfl) (fun U02 u0 v3=>?_)
 refine Aa<|Am<|MX.join (α:=Bool) (fun I1=>[(1,vP k0),(2,(vS d4 4)),(28,vP y0),(29,.bool I1)]) (fun I1 W3=>St w W3 [.cells y0 [vI g0.fh,vI g0.fc,vI g0.fe,j0] 25,.row w.heap.size 30 (Rep.size TUnit) j0 E0.length Z0,.cells k0 [vI y3.fh,vI y3.fc,vI y3.fe,q0] 25]∧Tr U02 [.row w.heap.size 30 (Rep.size TUnit) (vS H6 1) (([(⟨⟨#[115,101,97]⟩,(0:Int),([]:List Int),([]:List Int),([(0:Int)]:List Int),true⟩:TUnit)]:List TUnit).length) [.string ⟨#[115,101,97]⟩,vI 0,vN,vN,(vS R0 1),.bool true],.cells y0 [vI g0.fh,vI g0.fc,vI g0.fe,j0] 25,.row w.heap.size 30 (Rep.size TUnit) j0 E0.length Z0,.cells G6 [vI M0.1.fx,vI M0.1.fw] 40,.row w.heap.size 3 (Rep.size Int) (vS F6 1) (([(0:Int)]:List Int).length) [vI 0],.cells I6 [vI F0.fh,vI F0.fc,vI F0.fe,R3] 25,.cells k0 [vI y3.fh,vI y3.fc,vI y3.fe,q0] 25] W3 [.cells y0 [vI g0.fh,vI g0.fc,vI g0.fe,j0] 25,.row w.heap.size 30 (Rep.size TUnit) j0 E0.length Z0,.cells k0 [vI y3.fh,vI y3.fc,vI y3.fe,q0] 25]) (fun I1=>I1) h ?_ ?_
 rintro I1 W3 ⟨Y2,x3⟩ h
 try dsimp only at h
 refine Am<|dt 76 tb3_21 (fun c0 d0=>?_)
 refine Ag 0 1 c0 rfl d0 (fun _=>Ah rfl) rfl<|Bb 1 3 c0 rfl d0 (.yes rfl rfl) (fun _=>Ah rfl) rfl<|Ag 2 7 c0 rfl d0 (fun _=>FV.pick_t rfl rfl) rfl<|Ag 3 15 c0 rfl d0 (fun _=>Ah rfl) rfl<|RD.ifb (s:=167) rfl h (fun P6 h=>?_) (fun P6 h=>?_)
 refine RD.val (i:=6) (m' :=79) (W:=75557863725914323418880) (tk c0) rfl d0 (.yes rfl rfl) (AI rfl (Y2.memA (.tl (.tl .hd)))) rfl<|Bb 7 207 c0 rfl d0 (.yes rfl rfl) (fun _=>Ah rfl) rfl<|RD.nu 4 223 c0 rfl (.yes rfl rfl) rfl (AD (α:=Int) (xs:=([(1:Int),(2:Int)]:List Int)) (vs:=[vI 1,vI 2]) (ds' :=[vI 1,vI 2]) rfl Y2 el27 rfl (e2 rfl rfl) (by kernel_rfl) rfl) (fun V02 I2 g2 z3=>?_)
 have u9:=Az (cs:=[vI 1,vI 2]) (xs:=(([(1:Int),(2:Int)]:List Int):List Int)) g2 L (Ai (cs:=[vI 1]) (ds:=[vI 2]) rfl (Ai (cs:=[vI 2]) (ds:=[]) rfl (AB _ _)))
 have b01:=AP (α:=Int) g2 .hd u9 hL
 have j2:=St.delS g2 .hd
 have A3:=St.delT g2 .hd
 have Q5:=Rep.at_ (α:=Int) (v:=(vS I2 2)) (xs:=([(1:Int),(2:Int)]:List Int)) j2 L b01
 refine RD.cl 5 255 c0 rfl (.yes rfl rfl) body12 rfl (e1 rfl) (fun w9 hw9=>AQ (wardmotelaw23_is_c n _ w9 (j2.hL hL hw9) ([(1:Int),(2:Int)]:List Int) (Aw Q5 hw9)) fun (w8:World) (u8:Value) ⟨b0_,hu_,s_⟩=>(⟨b0_,hu_,s_.from hw9⟩:∃ v1:Nat,u8 = Value.func (.func 28) #[] #[vP v1]∧St V02 w8 [.cells v1 [(vS I2 2)] 27])) rfl (fun Q05 X04 K03 ⟨v1,I01,Z5⟩=>?_)
 subst I01
 have x4:=mk_push1 j2 Z5
 have B2:=mk_tr1 j2 Z5
 obtain ⟨y6,v02,h⟩:=bi h
 have C5:=Tt B5 (Tt K4 (Tt M4 (Tt P4 (Tt q3 (Tt s3 (Tt t3 (Tt u3 (Tt A2 (Tt R4 (Tt v3 (Tt x3 (Tt z3 (Tt A3 B2)))))))))))))
 have Y9:=AE v0 C5
 have H00:=Tt y5 (Tt G4 (Tt I4 (Tt J4 (Tt K4 (Tt M4 (Tt P4 (Tt q3 (Tt s3 (Tt t3 (Tt u3 (Tt A2 (Tt R4 (Tt v3 (Tt x3 (Tt z3 (Tt A3 B2))))))))))))))))
 have Z9:=AE F1 H00
 refine RD.cl 8 511 c0 rfl (.yes rfl rfl) body6 rfl (e4 rfl rfl rfl rfl) (fun w9 hw9=>split_Pieces_c n _ w9 (x4.hL hL hw9) y3 (Aw Y9 hw9) ([(0:Int),(1:Int),(1:Int),(1:Int)]:List Int) (Aw Z9 hw9) (2:Int) (0:Int) v02) rfl (fun t6 Y04 P8 ⟨A04,hu_,c01⟩=>?_)
 subst hu_
 obtain ⟨B0,B3⟩:=x4.agr P8
 refine Bb 9 1023 c0 rfl d0 (.yes rfl rfl) (fun _=>Aj rfl rfl) rfl<|Bb 10 2047 c0 rfl d0 (.yes rfl rfl) (fun _=>Aj rfl rfl) rfl ?_
 obtain ⟨s03,x02,h⟩:=bi h
 have b00:=AE Q5 (Tt B2 B3)
 refine RD.callq (i:=11) (m' :=4095) (W:=75557863725914323415040) (tk c0) rfl d0 (v:=.bool s03) (fst:=[]) (cap:=[vP v1]) (.yes rfl rfl) body28 rfl (e2 rfl rfl) (fun w9 hw9=>wardmotelaw23_is_1_c n _ w9 (B0.hL0 hL hw9) y6.1 (B0.kd c01 hw9) y6.2 ([(1:Int),(2:Int)]:List Int) (B0.kd b00 hw9) (fun j9 v9 h9=>hw9.cell0 ((B0.memA .hd) j9 v9 h9)) x02) rfl<|Ag 12 8191 c0 rfl d0 (fun _=>FV.pick_t rfl rfl) rfl<|Ag 13 16383 c0 rfl d0 (fun _=>Ah rfl) rfl<|RD.ifb (s:=177) rfl h (fun Q6 h=>?_) (fun Q6 h=>?_)
 refine RD.val (i:=15) (m' :=49151) (W:=75557863725914323288064) (tk c0) rfl d0 (.yes rfl rfl) (AI rfl (B0.memA (.tl (.tl (.tl .hd))))) rfl<|RD.meet (α:=Value × (List Value) × Nat × Nat) (fun ⟨k1,Y0,P0,Q0⟩=>[(1,vP k0),(28,vP y0),(177,.bool true),(179,.agg #[vI y3.fh,vI y3.fc,vI y3.fe,q0]),(178,.func (.func 30) #[] #[vP P0,vP Q0]),(180,k1)]) (fun ⟨k1,Y0,P0,Q0⟩ F2=>St w F2 [.row w.heap.size 3 (Rep.size Int) k1 (([(0:Int),(1:Int),(0:Int),(1:Int)]:List Int).length) Y0,.cells P0 [vI 2] 3,.cells Q0 [vI 4] 3,.cells y0 [vI g0.fh,vI g0.fc,vI g0.fe,j0] 25,.row w.heap.size 30 (Rep.size TUnit) j0 E0.length Z0,.cells k0 [vI y3.fh,vI y3.fc,vI y3.fe,q0] 25]∧Tr t6 [.cells v1 [(vS I2 2)] 27,.cells y0 [vI g0.fh,vI g0.fc,vI g0.fe,j0] 25,.row w.heap.size 30 (Rep.size TUnit) j0 E0.length Z0,.cells k0 [vI y3.fh,vI y3.fc,vI y3.fe,q0] 25] F2 [.row w.heap.size 3 (Rep.size Int) k1 (([(0:Int),(1:Int),(0:Int),(1:Int)]:List Int).length) Y0,.cells P0 [vI 2] 3,.cells Q0 [vI 4] 3,.cells y0 [vI g0.fh,vI g0.fc,vI g0.fe,j0] 25,.row w.heap.size 30 (Rep.size TUnit) j0 E0.length Z0,.cells k0 [vI y3.fh,vI y3.fc,vI y3.fe,q0] 25]∧Cells F2 (bl [.row w.heap.size 3 (Rep.size Int) k1 (([(0:Int),(1:Int),(0:Int),(1:Int)]:List Int).length) Y0,.cells P0 [vI 2] 3,.cells Q0 [vI 4] 3,.cells y0 [vI g0.fh,vI g0.fc,vI g0.fe,j0] 25,.row w.heap.size 30 (Rep.size TUnit) j0 E0.length Z0,.cells k0 [vI y3.fh,vI y3.fc,vI y3.fe,q0] 25] ++ L) Y0 (([(0:Int),(1:Int),(0:Int),(1:Int)]:List Int):List Int)) 59 131071 ?_ ?_
 rintro ⟨k1,Y0,P0,Q0⟩ F2 ⟨J0,D4,b9⟩
 try dsimp only
 obtain ⟨P1,d02,h⟩:=bi h
 have z5:=Tt C5 (Tt B3 D4)
 have P9:=AE v0 z5
 refine RD.callq (i:=17) (m' :=262143) (W:=75557863725914323156992) (tk c0) rfl d0 (v:=.tuple #[.agg #[vI P1.1.fx,vI P1.1.fw],vI P1.2]) (fst:=[]) (cap:=[]) (.yes rfl rfl) body11 rfl (e4 rfl rfl rfl rfl) (fun w9 hw9=>split_Splits_c n _ w9 (J0.hL0 hL hw9) y3 (J0.kd P9 hw9) ([(0:Int),(1:Int),(0:Int),(1:Int)]:List Int) (Aw (St.lend (α:=Int) (L:=L) J0 .hd b9 hL) hw9) (2:Int) (0:Int) d02) rfl<|Bb 18 524287 c0 rfl d0 (.yes rfl rfl) (fun _=>Aj rfl rfl) rfl<|Bb 19 1048575 c0 rfl d0 (.yes rfl rfl) (fun _=>Aj rfl rfl) rfl ?_
 obtain ⟨k03,g02,h⟩:=bi h
 refine RD.callq (i:=20) (m' :=2097151) (W:=75557863725914321321984) (tk c0) rfl d0 (v:=.bool k03) (fst:=[]) (cap:=[vP P0,vP Q0]) (.yes rfl rfl) body30 rfl (e2 rfl rfl) (fun w9 hw9=>wardmotelaw23_count_1_c n _ w9 (J0.hL0 hL hw9) P1.1 P1.2 (2:Int) (fun j9 v9 h9=>hw9.cell0 ((J0.memA (.tl .hd)) j9 v9 h9)) (4:Int) (fun j9 v9 h9=>hw9.cell0 ((J0.memA (.tl (.tl .hd))) j9 v9 h9)) g02) rfl<|Ag 21 4194303 c0 rfl d0 (fun _=>FV.pick_t rfl rfl) rfl<|Ag 22 8388607 c0 rfl d0 (fun _=>Ah rfl) rfl<|RD.ifb (s:=186) rfl h (fun K6 h=>?_) (fun K6 h=>?_)
 refine RD.val (i:=25) (m' :=41943039) (W:=75557863725914256310272) (tk c0) rfl d0 (.yes rfl rfl) (AI rfl (J0.memA (.tl (.tl (.tl .hd))))) rfl<|RD.nu 23 50331647 c0 rfl (.yes rfl rfl) rfl (AD (α:=Int) (xs:=([(2:Int),(5:Int)]:List Int)) (vs:=[vI 2,vI 5]) (ds' :=[vI 2,vI 5]) rfl J0 el27 rfl (e2 rfl rfl) (by kernel_rfl) rfl) (fun P02 H2 Y1 E4=>?_)
 have c9:=Az (cs:=[vI 2,vI 5]) (xs:=(([(2:Int),(5:Int)]:List Int):List Int)) Y1 L (Ai (cs:=[vI 2]) (ds:=[vI 5]) rfl (Ai (cs:=[vI 5]) (ds:=[]) rfl (AB _ _)))
 have V00:=AP (α:=Int) Y1 .hd c9 hL
 have Z1:=St.delS Y1 .hd
 have F4:=St.delT Y1 .hd
 have J5:=Rep.at_ (α:=Int) (v:=(vS H2 2)) (xs:=([(2:Int),(5:Int)]:List Int)) Z1 L V00
 refine RD.cl 24 67108863 c0 rfl (.yes rfl rfl) body12 rfl (e1 rfl) (fun w9 hw9=>AQ (wardmotelaw23_is_c n _ w9 (Z1.hL hL hw9) ([(2:Int),(5:Int)]:List Int) (Aw J5 hw9)) fun (w8:World) (u8:Value) ⟨b0_,hu_,s_⟩=>(⟨b0_,hu_,s_.from hw9⟩:∃ s1:Nat,u8 = Value.func (.func 28) #[] #[vP s1]∧St P02 w8 [.cells s1 [(vS H2 2)] 27])) rfl (fun y05 Q04 H03 ⟨s1,F01,W5⟩=>?_)
 subst F01
 have R2:=mk_push1 Z1 W5
 have k3:=mk_tr1 Z1 W5
 have E00:=Tt v3 (Tt x3 (Tt z3 (Tt A3 (Tt B2 (Tt B3 (Tt D4 (Tt E4 (Tt F4 k3))))))))
 have Q9:=AJ t9 E00
 have W00:=AP (α:=TUnit) R2 (.tl (.tl (.tl (.tl (.tl .hd))))) Q9 hL
 have U2:=St.delS R2 (.tl (.tl (.tl (.tl (.tl .hd)))))
 have H4:=St.delT R2 (.tl (.tl (.tl (.tl (.tl .hd)))))
 have K5:=Rep.at_ (α:=TUnit) (v:=j0) (xs:=E0) U2 L W00
 obtain ⟨x6,j02,h⟩:=bi h
 refine RD.cl 26 134217727 c0 rfl (.yes rfl rfl) body14 rfl (e2 rfl rfl) (fun w9 hw9=>split_Parents_c n _ w9 (U2.hL hL hw9) (⟨g0.fh,g0.fc,g0.fe,E0⟩:TRoll) (Aw K5 hw9) (0:Int) j02) rfl (fun Q02 R04 J8 ⟨y04,hu_,X00⟩=>?_)
 subst hu_
 obtain ⟨V0,p3⟩:=U2.agr J8
 refine Bb 27 268435455 c0 rfl d0 (.yes rfl rfl) (fun _=>Aj rfl rfl) rfl<|Bb 28 536870911 c0 rfl d0 (.yes rfl rfl) (fun _=>Aj rfl rfl) rfl ?_
 obtain ⟨p03,k02,h⟩:=bi h
 have F00:=Tt k3 (Tt H4 p3)
 have R9:=AE J5 F00
 refine RD.callq (i:=29) (m' :=1073741823) (W:=75557863725913249677312) (tk c0) rfl d0 (v:=.bool p03) (fst:=[]) (cap:=[vP s1]) (.yes rfl rfl) body28 rfl (e2 rfl rfl) (fun w9 hw9=>wardmotelaw23_is_1_c n _ w9 (V0.hL0 hL hw9) x6.1 (V0.kd X00 hw9) x6.2 ([(2:Int),(5:Int)]:List Int) (V0.kd R9 hw9) (fun j9 v9 h9=>hw9.cell0 ((V0.memA .hd) j9 v9 h9)) k02) rfl<|Ag 30 2147483647 c0 rfl d0 (fun _=>FV.pick_t rfl rfl) rfl<|Ag 31 4294967295 c0 rfl d0 (fun _=>Ah rfl) rfl<|RD.ifb (s:=195) rfl h (fun M6 h=>?_) (fun M6 h=>?_)
 refine RD.val (i:=34) (m' :=21474836479) (W:=75557863725845603942400) (tk c0) rfl d0 (.yes rfl rfl) (AI rfl (V0.memA (.tl (.tl (.tl (.tl .hd)))))) rfl<|RD.meet (α:=Value × (List Value) × Value × Nat) (fun ⟨X0,b1,p1,U0⟩=>[(1,vP k0),(195,.bool true),(198,.agg #[vI g0.fh,vI g0.fc,vI g0.fe,j0]),(197,.func (.func 28) #[] #[vP U0]),(199,X0)]) (fun ⟨X0,b1,p1,U0⟩ M1=>St w M1 [.row w.heap.size 3 (Rep.size Int) X0 (([(0:Int),(0:Int),(1:Int),(1:Int)]:List Int).length) b1,.cells U0 [p1] 27,.cells k0 [vI y3.fh,vI y3.fc,vI y3.fe,q0] 25]∧Tr Q02 [.cells s1 [(vS H2 2)] 27,.row w.heap.size 3 (Rep.size Int) k1 (([(0:Int),(1:Int),(0:Int),(1:Int)]:List Int).length) Y0,.cells P0 [vI 2] 3,.cells Q0 [vI 4] 3,.cells y0 [vI g0.fh,vI g0.fc,vI g0.fe,j0] 25,.cells k0 [vI y3.fh,vI y3.fc,vI y3.fe,q0] 25] M1 [.row w.heap.size 3 (Rep.size Int) X0 (([(0:Int),(0:Int),(1:Int),(1:Int)]:List Int).length) b1,.cells U0 [p1] 27,.cells k0 [vI y3.fh,vI y3.fc,vI y3.fe,q0] 25]∧Cells M1 (bl [.row w.heap.size 3 (Rep.size Int) X0 (([(0:Int),(0:Int),(1:Int),(1:Int)]:List Int).length) b1,.cells U0 [p1] 27,.cells k0 [vI y3.fh,vI y3.fc,vI y3.fe,q0] 25] ++ L) b1 (([(0:Int),(0:Int),(1:Int),(1:Int)]:List Int):List Int)∧Rep.R M1 (bl [.row w.heap.size 3 (Rep.size Int) X0 (([(0:Int),(0:Int),(1:Int),(1:Int)]:List Int).length) b1,.cells U0 [p1] 27,.cells k0 [vI y3.fh,vI y3.fc,vI y3.fe,q0] 25] ++ L) [p1] ([(1:Int),(1:Int)]:List Int)) 40 68719476735 ?_ ?_
 rintro ⟨X0,b1,p1,U0⟩ M1 ⟨Z2,W4,x9,d01⟩
 try dsimp only
 have g01:=AP (α:=Int) Z2 .hd x9 hL
 have b3:=St.delS Z2 .hd
 have C3:=St.delT Z2 .hd
 have j01:=Rep.at_ (α:=Int) (v:=X0) (xs:=([(0:Int),(0:Int),(1:Int),(1:Int)]:List Int)) b3 L g01
 obtain ⟨z6,z02,h⟩:=bi h
 have I00:=Tt p3 (Tt W4 C3)
 have c00:=AE K5 I00
 refine RD.cl 36 137438953471 c0 rfl (.yes rfl rfl) body6 rfl (e4 rfl rfl rfl rfl) (fun w9 hw9=>split_Pieces_c n _ w9 (b3.hL hL hw9) (⟨g0.fh,g0.fc,g0.fe,E0⟩:TRoll) (Aw c00 hw9) ([(0:Int),(0:Int),(1:Int),(1:Int)]:List Int) (Aw j01 hw9) (2:Int) (0:Int) z02) rfl (fun U05 Z04 Q8 ⟨B04,hu_,k01⟩=>?_)
 subst hu_
 obtain ⟨d1,X4⟩:=b3.agr Q8
 refine Bb 37 274877906943 c0 rfl d0 (.yes rfl rfl) (fun _=>Aj rfl rfl) rfl<|Bb 38 549755813887 c0 rfl d0 (.yes rfl rfl) (fun _=>Aj rfl rfl) rfl ?_
 obtain ⟨t03,A02,h⟩:=bi h
 have d00:=AE d01 (Tt C3 X4)
 refine RD.callq (i:=39) (m' :=1099511627775) (W:=75557863724814811791360) (tk c0) rfl d0 (v:=.bool t03) (fst:=[]) (cap:=[vP U0]) (.yes rfl rfl) body28 rfl (e2 rfl rfl) (fun w9 hw9=>wardmotelaw23_is_1_c n _ w9 (d1.hL0 hL hw9) z6.1 (d1.kd k01 hw9) z6.2 ([(1:Int),(1:Int)]:List Int) (d1.kd d00 hw9) (fun j9 v9 h9=>hw9.cell0 ((d1.memA .hd) j9 v9 h9)) A02) rfl<|Ag 40 2199023255551 c0 rfl d0 (fun _=>FV.pick_t rfl rfl) rfl<|Ag 41 4398046511103 c0 rfl d0 (fun _=>Ah rfl) rfl<|RD.ifb (s:=205) rfl h (fun R6 h=>?_) (fun R6 h=>?_)
 refine RD.val (i:=44) (m' :=21990232555519) (W:=75557863690729951330304) (tk c0) rfl d0 (.yes rfl rfl) (AI rfl (d1.memA (.tl .hd))) rfl<|RD.nu 42 26388279066623 c0 rfl (.yes rfl rfl) rfl (AD (α:=Int) (xs:=([(2:Int),(5:Int)]:List Int)) (vs:=[vI 2,vI 5]) (ds' :=[vI 2,vI 5]) rfl d1 el27 rfl (e2 rfl rfl) (by kernel_rfl) rfl) (fun W02 g4 p2 Z7=>?_)
 have y9:=Az (cs:=[vI 2,vI 5]) (xs:=(([(2:Int),(5:Int)]:List Int):List Int)) p2 L (Ai (cs:=[vI 2]) (ds:=[vI 5]) rfl (Ai (cs:=[vI 5]) (ds:=[]) rfl (AB _ _)))
 have p01:=AP (α:=Int) p2 .hd y9 hL
 have q2:=St.delS p2 .hd
 have b8:=St.delT p2 .hd
 have R5:=Rep.at_ (α:=Int) (v:=(vS g4 2)) (xs:=([(2:Int),(5:Int)]:List Int)) q2 L p01
 refine RD.cl 43 35184372088831 c0 rfl (.yes rfl rfl) body12 rfl (e1 rfl) (fun w9 hw9=>AQ (wardmotelaw23_is_c n _ w9 (q2.hL hL hw9) ([(2:Int),(5:Int)]:List Int) (Aw R5 hw9)) fun (w8:World) (u8:Value) ⟨b0_,hu_,s_⟩=>(⟨b0_,hu_,s_.from hw9⟩:∃ R1:Nat,u8 = Value.func (.func 28) #[] #[vP R1]∧St W02 w8 [.cells R1 [(vS g4 2)] 27])) rfl (fun V05 b05 M03 ⟨R1,J01,b6⟩=>?_)
 subst J01
 have y4:=mk_push1 q2 b6
 have Y4:=mk_tr1 q2 b6
 obtain ⟨A6,B02,h⟩:=bi h
 have D5:=Tt z5 (Tt E4 (Tt F4 (Tt k3 (Tt H4 (Tt p3 (Tt W4 (Tt C3 (Tt X4 (Tt Z7 (Tt b8 Y4))))))))))
 have g00:=AE v0 D5
 refine RD.cl 45 70368744177663 c0 rfl (.yes rfl rfl) body8 rfl (e3 rfl rfl rfl) (fun w9 hw9=>split_Forced_c n _ w9 (y4.hL hL hw9) y3 (Aw g00 hw9) (0:Int) (29:Int) B02) rfl (fun W05 c05 R8 ⟨C04,hu_,q01⟩=>?_)
 subst hu_
 obtain ⟨g1,Z4⟩:=y4.agr R8
 refine Bb 46 140737488355327 c0 rfl d0 (.yes rfl rfl) (fun _=>Aj rfl rfl) rfl<|Bb 47 281474976710655 c0 rfl d0 (.yes rfl rfl) (fun _=>Aj rfl rfl) rfl ?_
 obtain ⟨u03,C02,h⟩:=bi h
 have j00:=AE R5 (Tt Y4 Z4)
 refine RD.callq (i:=48) (m' :=562949953421311) (W:=75557863162964369997824) (tk c0) rfl d0 (v:=.bool u03) (fst:=[]) (cap:=[vP R1]) (.yes rfl rfl) body28 rfl (e2 rfl rfl) (fun w9 hw9=>wardmotelaw23_is_1_c n _ w9 (g1.hL0 hL hw9) A6.1 (g1.kd q01 hw9) A6.2 ([(2:Int),(5:Int)]:List Int) (g1.kd j00 hw9) (fun j9 v9 h9=>hw9.cell0 ((g1.memA .hd) j9 v9 h9)) C02) rfl<|Ag 49 1125899906842623 c0 rfl d0 (fun _=>FV.pick_t rfl rfl) rfl<|Ag 50 2251799813685247 c0 rfl d0 (fun _=>Ah rfl) rfl<|RD.ifb (s:=214) rfl h (fun U6 h=>?_) (fun U6 h=>?_)
 refine RD.val (i:=53) (m' :=11258999068426239) (W:=75557845711515813937152) (tk c0) rfl d0 (.yes rfl rfl) (AI rfl (g1.memA (.tl (.tl .hd)))) rfl<|RD.nu 51 13510798882111487 c0 rfl (.yes rfl rfl) rfl (AD (α:=Int) (xs:=([(2:Int)]:List Int)) (vs:=[vI 2]) (ds' :=[vI 2]) rfl g1 el27 rfl (e1 rfl) (by kernel_rfl) rfl) (fun X02 j4 s2 c8=>?_)
 have z9:=Az (cs:=[vI 2]) (xs:=(([(2:Int)]:List Int):List Int)) s2 L (Ai (cs:=[vI 2]) (ds:=[]) rfl (AB _ _))
 have s01:=AP (α:=Int) s2 .hd z9 hL
 have t2:=St.delS s2 .hd
 have d8:=St.delT s2 .hd
 have U5:=Rep.at_ (α:=Int) (v:=(vS j4 1)) (xs:=([(2:Int)]:List Int)) t2 L s01
 refine RD.cl 52 18014398509481983 c0 rfl (.yes rfl rfl) body12 rfl (e1 rfl) (fun w9 hw9=>AQ (wardmotelaw23_is_c n _ w9 (t2.hL hL hw9) ([(2:Int)]:List Int) (Aw U5 hw9)) fun (w8:World) (u8:Value) ⟨b0_,hu_,s_⟩=>(⟨b0_,hu_,s_.from hw9⟩:∃ U1:Nat,u8 = Value.func (.func 28) #[] #[vP U1]∧St X02 w8 [.cells U1 [(vS j4 1)] 27])) rfl (fun X05 d05 P03 ⟨U1,K01,c6⟩=>?_)
 subst K01
 have z4:=mk_push1 t2 c6
 have b5:=mk_tr1 t2 c6
 obtain ⟨B6,D02,h⟩:=bi h
 have E5:=Tt D5 (Tt Z4 (Tt c8 (Tt d8 b5)))
 have k00:=AE v0 E5
 refine RD.cl 54 36028797018963967 c0 rfl (.yes rfl rfl) body8 rfl (e3 rfl rfl rfl) (fun w9 hw9=>split_Forced_c n _ w9 (z4.hL hL hw9) y3 (Aw k00 hw9) (0:Int) (30:Int) D02) rfl (fun Y02 g05 U8 ⟨D04,hu_,t01⟩=>?_)
 subst hu_
 obtain ⟨C0,c5⟩:=z4.agr U8
 refine Bb 55 72057594037927935 c0 rfl d0 (.yes rfl rfl) (fun _=>Aj rfl rfl) rfl<|Bb 56 144115188075855871 c0 rfl d0 (.yes rfl rfl) (fun _=>Aj rfl rfl) rfl ?_
 obtain ⟨v03,E02,h⟩:=bi h
 have p00:=AE U5 (Tt b5 c5)
 refine RD.callq (i:=57) (m' :=288230376151711743) (W:=75557575495538171707392) (tk c0) rfl d0 (v:=.bool v03) (fst:=[]) (cap:=[vP U1]) (.yes rfl rfl) body28 rfl (e2 rfl rfl) (fun w9 hw9=>wardmotelaw23_is_1_c n _ w9 (C0.hL0 hL hw9) B6.1 (C0.kd t01 hw9) B6.2 ([(2:Int)]:List Int) (C0.kd p00 hw9) (fun j9 v9 h9=>hw9.cell0 ((C0.memA .hd) j9 v9 h9)) E02) rfl<|Ag 58 576460752303423487 c0 rfl d0 (fun _=>FV.pick_t rfl rfl) rfl<|Ag 59 1152921504606846975 c0 rfl d0 (fun _=>Ah rfl) rfl<|RD.ifb (s:=223) rfl h (fun V6 h=>?_) (fun V6 h=>?_)
 refine RD.val (i:=61) (m' :=3458764513820540927) (W:=75553252039895896031232) (tk c0) rfl d0 (.yes rfl rfl) (AI rfl (C0.memA (.tl (.tl (.tl .hd))))) rfl ?_
 have u01:=AN (α:=Int) C0 L
 refine RD.cl 60 4611686018427387903 c0 rfl (.yes rfl rfl) body12 rfl (e1 rfl) (fun w9 hw9=>AQ (wardmotelaw23_is_c n _ w9 (C0.hL hL hw9) ([]:List Int) (Aw u01 hw9)) fun (w8:World) (u8:Value) ⟨b0_,hu_,s_⟩=>(⟨b0_,hu_,s_.from hw9⟩:∃ V1:Nat,u8 = Value.func (.func 28) #[] #[vP V1]∧St Y02 w8 [.cells V1 [vN] 27])) rfl (fun Y05 j05 Q03 ⟨V1,M01,d6⟩=>?_)
 subst M01
 have A4:=mk_push1 C0 d6
 have g8:=mk_tr1 C0 d6
 obtain ⟨C6,F02,h⟩:=bi h
 have F5:=Tt E5 (Tt c5 g8)
 have q00:=AE v0 F5
 refine RD.cl 62 9223372036854775807 c0 rfl (.yes rfl rfl) body8 rfl (e3 rfl rfl rfl) (fun w9 hw9=>split_Forced_c n _ w9 (A4.hL hL hw9) y3 (Aw q00 hw9) (0:Int) (70:Int) F02) rfl (fun Z02 k05 V8 ⟨E04,hu_,v01⟩=>?_)
 subst hu_
 obtain ⟨W0,j8⟩:=A4.agr V8
 refine Bb 63 18446744073709551615 c0 rfl d0 (.yes rfl rfl) (fun _=>Aj rfl rfl) rfl<|Bb 64 36893488147419103231 c0 rfl d0 (.yes rfl rfl) (fun _=>Aj rfl rfl) rfl ?_
 obtain ⟨x03,G02,h⟩:=bi h
 refine RD.callq (i:=65) (m' :=73786976294838206463) (W:=75484076749619485212672) (tk c0) rfl d0 (v:=.bool x03) (fst:=[]) (cap:=[vP V1]) (.yes rfl rfl) body28 rfl (e2 rfl rfl) (fun w9 hw9=>wardmotelaw23_is_1_c n _ w9 (W0.hL0 hL hw9) C6.1 (W0.kd v01 hw9) C6.2 ([]:List Int) (Aw (Rep.nilSlice _ _) hw9) (fun j9 v9 h9=>hw9.cell0 ((W0.memA .hd) j9 v9 h9)) G02) rfl<|Ag 66 147573952589676412927 c0 rfl d0 (fun _=>FV.pick_t rfl rfl) rfl<|Ag 67 295147905179352825855 c0 rfl d0 (fun _=>Ah rfl) rfl<|RD.ifb (s:=231) rfl h (fun W6 h=>?_) (fun W6 h=>?_)
 refine RD.val (i:=69) (m' :=885443715538058477567) (W:=74377272105196912115712) (tk c0) rfl d0 (.yes rfl rfl) (AI rfl (W0.memA (.tl (.tl (.tl (.tl .hd)))))) rfl<|RD.cl 68 1180591620717411303423 c0 rfl (.yes rfl rfl) body15 rfl (e1 rfl) (fun w9 hw9=>AQ (wardmotelaw23_truth_c n _ w9 (W0.hL hL hw9) true) fun (w8:World) (u8:Value) ⟨b0_,hu_,s_⟩=>(⟨b0_,hu_,s_.from hw9⟩:∃ W1:Nat,u8 = Value.func (.func 31) #[] #[vP W1]∧St Z02 w8 [.cells W1 [.bool true] 4])) rfl (fun Z05 q05 R03 ⟨W1,P01,g6⟩=>?_)
 subst P01
 have A1:=mk_push1 W0 g6
 have k8:=mk_tr1 W0 g6
 obtain ⟨G2,H02,h⟩:=bi h
 have J00:=Tt F5 (Tt j8 k8)
 have s00:=AE v0 J00
 refine RD.callq (i:=70) (m' :=2361183241434822606847) (W:=73196680484479500812288) (tk c0) rfl d0 (v:=.tuple #[.bool G2.1,vI G2.2]) (fst:=[]) (cap:=[]) (.yes rfl rfl) body9 rfl (e3 rfl rfl rfl) (fun w9 hw9=>split_Nested_c n _ w9 (A1.hL0 hL hw9) y3 (A1.kd s00 hw9) (0:Int) (0:Int) H02) rfl<|Bb 71 4722366482869645213695 c0 rfl d0 (.yes rfl rfl) (fun _=>Aj rfl rfl) rfl<|Bb 72 9444732965739290427391 c0 rfl d0 (.yes rfl rfl) (fun _=>Aj rfl rfl) rfl ?_
 obtain ⟨y03,I02,h⟩:=bi h
 refine RD.callq (i:=73) (m' :=18889465931478580854783) (W:=56668397794435742564352) (tk c0) rfl d0 (v:=.bool y03) (fst:=[]) (cap:=[vP W1]) (.yes rfl rfl) body31 rfl (e2 rfl rfl) (fun w9 hw9=>wardmotelaw23_truth_1_c n _ w9 (A1.hL0 hL hw9) G2.1 G2.2 true (fun j9 v9 h9=>hw9.cell0 ((A1.memA .hd) j9 v9 h9)) I02) rfl<|Ag 74 37778931862957161709567 c0 rfl d0 (fun _=>FV.pick_t rfl rfl) rfl<|Ag 75 75557863725914323419135 c0 rfl d0 (fun _=>FV.assign rfl) rfl<|AR (dk c0)<|Ao rfl<|AK hb0 Tryd.func3 rfl rfl ?_
 cases h
 exact A1.gv
 refine Ay 18889465931478580854783 2 [(68,232),(69,233),(70,234),(71,235),(72,236),(73,237)] (F:=[(231,false)]) (U:=[]) c0 d0 (.cons rfl .nil) .nil ?_
 dsimp only [offS,List.map]
 refine Ag 74 37778931862957161709567 c0 rfl d0 (fun _=>Ap rfl rfl) rfl<|Ag 75 75557863725914323419135 c0 rfl d0 (fun _=>FV.assign rfl) rfl<|AR (dk c0)<|Ao rfl<|AK hb0 Tryd.func3 rfl rfl ?_
 cases h
 exact W0.gv
 refine Ay 73786976294838206463 10 [(60,224),(61,225),(62,226),(63,227),(64,228),(65,229)] (F:=[(223,false)]) (U:=[]) c0 d0 (.cons rfl .nil) .nil ?_
 dsimp only [offS,List.map]
 refine Ag 66 147573952589676412927 c0 rfl d0 (fun _=>Ap rfl rfl) rfl<|Ag 67 295147905179352825855 c0 rfl d0 (fun _=>Ah rfl) rfl<|Ay 18889465931478580854783 2 [(68,232),(69,233),(70,234),(71,235),(72,236),(73,237)] (F:=[(231,false)]) (U:=[]) c0 d0 (.cons rfl .nil) .nil ?_
 dsimp only [offS,List.map]
 refine Ag 74 37778931862957161709567 c0 rfl d0 (fun _=>Ap rfl rfl) rfl<|Ag 75 75557863725914323419135 c0 rfl d0 (fun _=>FV.assign rfl) rfl<|AR (dk c0)<|Ao rfl<|AK hb0 Tryd.func3 rfl rfl ?_
 cases h
 exact C0.gv
 refine Ay 288230376151711743 18 [(51,215),(52,216),(53,217),(54,218),(55,219),(56,220),(57,221)] (F:=[(214,false)]) (U:=[]) c0 d0 (.cons rfl .nil) .nil ?_
 dsimp only [offS,List.map]
 refine Ag 58 576460752303423487 c0 rfl d0 (fun _=>Ap rfl rfl) rfl<|Ag 59 1152921504606846975 c0 rfl d0 (fun _=>Ah rfl) rfl<|Ay 73786976294838206463 10 [(60,224),(61,225),(62,226),(63,227),(64,228),(65,229)] (F:=[(223,false)]) (U:=[]) c0 d0 (.cons rfl .nil) .nil ?_
 dsimp only [offS,List.map]
 refine Ag 66 147573952589676412927 c0 rfl d0 (fun _=>Ap rfl rfl) rfl<|Ag 67 295147905179352825855 c0 rfl d0 (fun _=>Ah rfl) rfl<|Ay 18889465931478580854783 2 [(68,232),(69,233),(70,234),(71,235),(72,236),(73,237)] (F:=[(231,false)]) (U:=[]) c0 d0 (.cons rfl .nil) .nil ?_
 dsimp only [offS,List.map]
 refine Ag 74 37778931862957161709567 c0 rfl d0 (fun _=>Ap rfl rfl) rfl<|Ag 75 75557863725914323419135 c0 rfl d0 (fun _=>FV.assign rfl) rfl<|AR (dk c0)<|Ao rfl<|AK hb0 Tryd.func3 rfl rfl ?_
 cases h
 exact g1.gv
 refine Ay 562949953421311 27 [(42,206),(43,207),(44,208),(45,209),(46,210),(47,211),(48,212)] (F:=[(205,false)]) (U:=[]) c0 d0 (.cons rfl .nil) .nil ?_
 dsimp only [offS,List.map]
 refine Ag 49 1125899906842623 c0 rfl d0 (fun _=>Ap rfl rfl) rfl<|Ag 50 2251799813685247 c0 rfl d0 (fun _=>Ah rfl) rfl<|Ay 288230376151711743 18 [(51,215),(52,216),(53,217),(54,218),(55,219),(56,220),(57,221)] (F:=[(214,false)]) (U:=[]) c0 d0 (.cons rfl .nil) .nil ?_
 dsimp only [offS,List.map]
 refine Ag 58 576460752303423487 c0 rfl d0 (fun _=>Ap rfl rfl) rfl<|Ag 59 1152921504606846975 c0 rfl d0 (fun _=>Ah rfl) rfl<|Ay 73786976294838206463 10 [(60,224),(61,225),(62,226),(63,227),(64,228),(65,229)] (F:=[(223,false)]) (U:=[]) c0 d0 (.cons rfl .nil) .nil ?_
 dsimp only [offS,List.map]
 refine Ag 66 147573952589676412927 c0 rfl d0 (fun _=>Ap rfl rfl) rfl<|Ag 67 295147905179352825855 c0 rfl d0 (fun _=>Ah rfl) rfl<|Ay 18889465931478580854783 2 [(68,232),(69,233),(70,234),(71,235),(72,236),(73,237)] (F:=[(231,false)]) (U:=[]) c0 d0 (.cons rfl .nil) .nil ?_
 dsimp only [offS,List.map]
 refine Ag 74 37778931862957161709567 c0 rfl d0 (fun _=>Ap rfl rfl) rfl<|Ag 75 75557863725914323419135 c0 rfl d0 (fun _=>FV.assign rfl) rfl<|AR (dk c0)<|Ao rfl<|AK hb0 Tryd.func3 rfl rfl ?_
 cases h
 exact d1.gv
 intro K2
 refine RD.each [32,35] (rk c0) ⟨?_,?_,trivial⟩
 refine RO.new (m' :=25769803775) (sk c0) rfl (.yes rfl rfl) rfl (AD (α:=Int) (xs:=([(1:Int),(1:Int)]:List Int)) (vs:=[vI 1,vI 1]) (ds' :=[vI 1,vI 1]) rfl V0 el27 rfl (e2 rfl rfl) (by kernel_rfl) rfl) (fun U3 x0 z0 y2=>?_)
 have D2:=Az (cs:=[vI 1,vI 1]) (xs:=(([(1:Int),(1:Int)]:List Int):List Int)) z0 L (Ai (cs:=[vI 1]) (ds:=[vI 1]) rfl (Ai (cs:=[vI 1]) (ds:=[]) rfl (AB _ _)))
 refine RD.each [33,35] (rk c0) ⟨?_,?_,trivial⟩
 have G1:=AP (α:=Int) z0 .hd D2 hL
 have s0:=St.delS z0 .hd
 have D1:=St.delT z0 .hd
 have H1:=Rep.at_ (α:=Int) (v:=(vS x0 2)) (xs:=([(1:Int),(1:Int)]:List Int)) s0 L G1
 refine RO.call (m' :=34359738367) (fst:=[]) (cap:=[]) (sk c0) rfl (.yes rfl rfl) body12 rfl (e1 rfl) (fun w9 hw9=>AQ (wardmotelaw23_is_c n _ w9 (s0.hL hL hw9) ([(1:Int),(1:Int)]:List Int) (Aw H1 hw9)) fun (w8:World) (u8:Value) ⟨b0_,hu_,s_⟩=>(⟨b0_,hu_,s_.from hw9⟩:∃ G0:Nat,u8 = Value.func (.func 28) #[] #[vP G0]∧St U3 w8 [.cells G0 [(vS x0 2)] 27])) rfl (fun R02 K02 M8 ⟨G0,P3,J1⟩=>?_)
 subst P3
 have W2:=mk_push1 s0 J1
 have z2:=mk_tr1 s0 J1
 refine RD.nu 35 68719476735 c0 rfl (.yes rfl rfl) rfl (AD (α:=Int) (xs:=([(0:Int),(0:Int),(1:Int),(1:Int)]:List Int)) (vs:=[vI 0,vI 0,vI 1,vI 1]) (ds' :=[vI 0,vI 0,vI 1,vI 1]) rfl W2 el28 rfl (e4 rfl rfl rfl rfl) (by kernel_rfl) rfl) (fun V3 u1 A0 q1=>?_)
 have E1:=Az (cs:=[vI 0,vI 0,vI 1,vI 1]) (xs:=(([(0:Int),(0:Int),(1:Int),(1:Int)]:List Int):List Int)) A0 L (Ai (cs:=[vI 0]) (ds:=[vI 0,vI 1,vI 1]) rfl (Ai (cs:=[vI 0]) (ds:=[vI 1,vI 1]) rfl (Ai (cs:=[vI 1]) (ds:=[vI 1]) rfl (Ai (cs:=[vI 1]) (ds:=[]) rfl (AB _ _)))))
 obtain ⟨A7,d5⟩:=AA A0 (.one .hd (.one .hd (.one (.tl (.tl (.tl (.tl (.tl .hd))))) .done)))
 have t00:=AJ E1 d5
 have G5:=Tt z2 (Tt q1 d5)
 have u00:=AE H1 G5
 have K00:=Tt y2 (Tt D1 G5)
 exact K2 ((vS u1 4),[vI 0,vI 0,vI 1,vI 1],(vS x0 2),G0) _ _ ⟨rfl,rfl,rfl,rfl,rfl,trivial⟩ ⟨A7,K00,t00,u00⟩
 refine RO.new (m' :=60129542143) (sk c0) rfl (.yes rfl rfl) rfl (AD (α:=Int) (xs:=([(0:Int),(0:Int),(1:Int),(1:Int)]:List Int)) (vs:=[vI 0,vI 0,vI 1,vI 1]) (ds' :=[vI 0,vI 0,vI 1,vI 1]) rfl z0 el28 rfl (e4 rfl rfl rfl rfl) (by kernel_rfl) rfl) (fun V3 u1 A0 q1=>?_)
 have E1:=Az (cs:=[vI 0,vI 0,vI 1,vI 1]) (xs:=(([(0:Int),(0:Int),(1:Int),(1:Int)]:List Int):List Int)) A0 L (Ai (cs:=[vI 0]) (ds:=[vI 0,vI 1,vI 1]) rfl (Ai (cs:=[vI 0]) (ds:=[vI 1,vI 1]) rfl (Ai (cs:=[vI 1]) (ds:=[vI 1]) rfl (Ai (cs:=[vI 1]) (ds:=[]) rfl (AB _ _)))))
 have V9:=AJ D2 q1
 have G1:=AP (α:=Int) A0 (.tl .hd) V9 hL
 have s0:=St.delS A0 (.tl .hd)
 have D1:=St.delT A0 (.tl .hd)
 have M5:=Rep.at_ (α:=Int) (v:=(vS x0 2)) (xs:=([(1:Int),(1:Int)]:List Int)) s0 L G1
 refine RD.cl 33 68719476735 c0 rfl (.yes rfl rfl) body12 rfl (e1 rfl) (fun w9 hw9=>AQ (wardmotelaw23_is_c n _ w9 (s0.hL hL hw9) ([(1:Int),(1:Int)]:List Int) (Aw M5 hw9)) fun (w8:World) (u8:Value) ⟨b0_,hu_,s_⟩=>(⟨b0_,hu_,s_.from hw9⟩:∃ Q1:Nat,u8 = Value.func (.func 28) #[] #[vP Q1]∧St V3 w8 [.cells Q1 [(vS x0 2)] 27])) rfl (fun I05 W04 J03 ⟨Q1,H01,Y5⟩=>?_)
 subst H01
 have z7:=mk_push1 s0 Y5
 have Q4:=mk_tr1 s0 Y5
 obtain ⟨B7,g5⟩:=AA z7 (.one (.tl .hd) (.one .hd (.one (.tl (.tl (.tl (.tl (.tl .hd))))) .done)))
 have H5:=Tt D1 (Tt Q4 g5)
 have v00:=AJ E1 H5
 have x00:=AE M5 (Tt Q4 g5)
 have M00:=Tt y2 (Tt q1 H5)
 exact K2 ((vS u1 4),[vI 0,vI 0,vI 1,vI 1],(vS x0 2),Q1) _ _ ⟨rfl,rfl,rfl,rfl,rfl,trivial⟩ ⟨B7,M00,v00,x00⟩
 refine RO.new (m' :=55834574847) (sk c0) rfl (.yes rfl rfl) rfl (AD (α:=Int) (xs:=([(0:Int),(0:Int),(1:Int),(1:Int)]:List Int)) (vs:=[vI 0,vI 0,vI 1,vI 1]) (ds' :=[vI 0,vI 0,vI 1,vI 1]) rfl V0 el28 rfl (e4 rfl rfl rfl rfl) (by kernel_rfl) rfl) (fun V3 u1 A0 q1=>?_)
 have E1:=Az (cs:=[vI 0,vI 0,vI 1,vI 1]) (xs:=(([(0:Int),(0:Int),(1:Int),(1:Int)]:List Int):List Int)) A0 L (Ai (cs:=[vI 0]) (ds:=[vI 0,vI 1,vI 1]) rfl (Ai (cs:=[vI 0]) (ds:=[vI 1,vI 1]) rfl (Ai (cs:=[vI 1]) (ds:=[vI 1]) rfl (Ai (cs:=[vI 1]) (ds:=[]) rfl (AB _ _)))))
 refine RD.nu 32 60129542143 c0 rfl (.yes rfl rfl) rfl (AD (α:=Int) (xs:=([(1:Int),(1:Int)]:List Int)) (vs:=[vI 1,vI 1]) (ds' :=[vI 1,vI 1]) rfl A0 el27 rfl (e2 rfl rfl) (by kernel_rfl) rfl) (fun U3 x0 z0 y2=>?_)
 have D2:=Az (cs:=[vI 1,vI 1]) (xs:=(([(1:Int),(1:Int)]:List Int):List Int)) z0 L (Ai (cs:=[vI 1]) (ds:=[vI 1]) rfl (Ai (cs:=[vI 1]) (ds:=[]) rfl (AB _ _)))
 have G1:=AP (α:=Int) z0 .hd D2 hL
 have s0:=St.delS z0 .hd
 have D1:=St.delT z0 .hd
 have H1:=Rep.at_ (α:=Int) (v:=(vS x0 2)) (xs:=([(1:Int),(1:Int)]:List Int)) s0 L G1
 refine RD.cl 33 68719476735 c0 rfl (.yes rfl rfl) body12 rfl (e1 rfl) (fun w9 hw9=>AQ (wardmotelaw23_is_c n _ w9 (s0.hL hL hw9) ([(1:Int),(1:Int)]:List Int) (Aw H1 hw9)) fun (w8:World) (u8:Value) ⟨b0_,hu_,s_⟩=>(⟨b0_,hu_,s_.from hw9⟩:∃ G0:Nat,u8 = Value.func (.func 28) #[] #[vP G0]∧St U3 w8 [.cells G0 [(vS x0 2)] 27])) rfl (fun R02 K02 M8 ⟨G0,P3,J1⟩=>?_)
 subst P3
 have W2:=mk_push1 s0 J1
 have z2:=mk_tr1 s0 J1
 obtain ⟨C7,j5⟩:=AA W2 (.one (.tl .hd) (.one .hd (.one (.tl (.tl (.tl (.tl (.tl .hd))))) .done)))
 have I5:=Tt y2 (Tt D1 (Tt z2 j5))
 have y00:=AJ E1 I5
 have z00:=AE H1 (Tt z2 j5)
 exact K2 ((vS u1 4),[vI 0,vI 0,vI 1,vI 1],(vS x0 2),G0) _ _ ⟨rfl,rfl,rfl,rfl,rfl,trivial⟩ ⟨C7,(Tt q1 I5),y00,z00⟩
 refine Ay 1099511627775 36 [(32,196),(33,197),(34,198),(35,199),(36,200),(37,201),(38,202),(39,203)] (F:=[(195,false)]) (U:=[]) c0 d0 (.cons rfl .nil) .nil ?_
 dsimp only [offS,List.map]
 refine Ag 40 2199023255551 c0 rfl d0 (fun _=>Ap rfl rfl) rfl<|Ag 41 4398046511103 c0 rfl d0 (fun _=>Ah rfl) rfl<|Ay 562949953421311 27 [(42,206),(43,207),(44,208),(45,209),(46,210),(47,211),(48,212)] (F:=[(205,false)]) (U:=[]) c0 d0 (.cons rfl .nil) .nil ?_
 dsimp only [offS,List.map]
 refine Ag 49 1125899906842623 c0 rfl d0 (fun _=>Ap rfl rfl) rfl<|Ag 50 2251799813685247 c0 rfl d0 (fun _=>Ah rfl) rfl<|Ay 288230376151711743 18 [(51,215),(52,216),(53,217),(54,218),(55,219),(56,220),(57,221)] (F:=[(214,false)]) (U:=[]) c0 d0 (.cons rfl .nil) .nil ?_
 dsimp only [offS,List.map]
 refine Ag 58 576460752303423487 c0 rfl d0 (fun _=>Ap rfl rfl) rfl<|Ag 59 1152921504606846975 c0 rfl d0 (fun _=>Ah rfl) rfl<|Ay 73786976294838206463 10 [(60,224),(61,225),(62,226),(63,227),(64,228),(65,229)] (F:=[(223,false)]) (U:=[]) c0 d0 (.cons rfl .nil) .nil ?_
 dsimp only [offS,List.map]
 refine Ag 66 147573952589676412927 c0 rfl d0 (fun _=>Ap rfl rfl) rfl<|Ag 67 295147905179352825855 c0 rfl d0 (fun _=>Ah rfl) rfl<|Ay 18889465931478580854783 2 [(68,232),(69,233),(70,234),(71,235),(72,236),(73,237)] (F:=[(231,false)]) (U:=[]) c0 d0 (.cons rfl .nil) .nil ?_
 dsimp only [offS,List.map]
 refine Ag 74 37778931862957161709567 c0 rfl d0 (fun _=>Ap rfl rfl) rfl<|Ag 75 75557863725914323419135 c0 rfl d0 (fun _=>FV.assign rfl) rfl<|AR (dk c0)<|Ao rfl<|AK hb0 Tryd.func3 rfl rfl ?_
 cases h
 exact V0.gv
 refine Ay 1073741823 46 [(23,187),(24,188),(25,189),(26,190),(27,191),(28,192),(29,193)] (F:=[(186,false)]) (U:=[]) c0 d0 (.cons rfl .nil) .nil ?_
 dsimp only [offS,List.map]
 refine Ag 30 2147483647 c0 rfl d0 (fun _=>Ap rfl rfl) rfl<|Ag 31 4294967295 c0 rfl d0 (fun _=>Ah rfl) rfl<|Ay 1099511627775 36 [(32,196),(33,197),(34,198),(35,199),(36,200),(37,201),(38,202),(39,203)] (F:=[(195,false)]) (U:=[]) c0 d0 (.cons rfl .nil) .nil ?_
 dsimp only [offS,List.map]
 refine Ag 40 2199023255551 c0 rfl d0 (fun _=>Ap rfl rfl) rfl<|Ag 41 4398046511103 c0 rfl d0 (fun _=>Ah rfl) rfl<|Ay 562949953421311 27 [(42,206),(43,207),(44,208),(45,209),(46,210),(47,211),(48,212)] (F:=[(205,false)]) (U:=[]) c0 d0 (.cons rfl .nil) .nil ?_
 dsimp only [offS,List.map]
 refine Ag 49 1125899906842623 c0 rfl d0 (fun _=>Ap rfl rfl) rfl<|Ag 50 2251799813685247 c0 rfl d0 (fun _=>Ah rfl) rfl<|Ay 288230376151711743 18 [(51,215),(52,216),(53,217),(54,218),(55,219),(56,220),(57,221)] (F:=[(214,false)]) (U:=[]) c0 d0 (.cons rfl .nil) .nil ?_
 dsimp only [offS,List.map]
 refine Ag 58 576460752303423487 c0 rfl d0 (fun _=>Ap rfl rfl) rfl<|Ag 59 1152921504606846975 c0 rfl d0 (fun _=>Ah rfl) rfl<|Ay 73786976294838206463 10 [(60,224),(61,225),(62,226),(63,227),(64,228),(65,229)] (F:=[(223,false)]) (U:=[]) c0 d0 (.cons rfl .nil) .nil ?_
 dsimp only [offS,List.map]
 refine Ag 66 147573952589676412927 c0 rfl d0 (fun _=>Ap rfl rfl) rfl<|Ag 67 295147905179352825855 c0 rfl d0 (fun _=>Ah rfl) rfl<|Ay 18889465931478580854783 2 [(68,232),(69,233),(70,234),(71,235),(72,236),(73,237)] (F:=[(231,false)]) (U:=[]) c0 d0 (.cons rfl .nil) .nil ?_
 dsimp only [offS,List.map]
 refine Ag 74 37778931862957161709567 c0 rfl d0 (fun _=>Ap rfl rfl) rfl<|Ag 75 75557863725914323419135 c0 rfl d0 (fun _=>FV.assign rfl) rfl<|AR (dk c0)<|Ao rfl<|AK hb0 Tryd.func3 rfl rfl ?_
 cases h
 exact J0.gv
 intro k4
 refine RD.each [14,16] (rk c0) ⟨?_,?_,trivial⟩
 refine RO.call (m' :=65535) (fst:=[]) (cap:=[]) (sk c0) rfl (.yes rfl rfl) body13 rfl (e2 rfl rfl) (fun w9 hw9=>AQ (wardmotelaw23_count_c n _ w9 (B0.hL hL hw9) (2:Int) (4:Int)) fun (w8:World) (u8:Value) ⟨b0_,b1_,hu_,s_⟩=>(⟨b0_,b1_,hu_,s_.from hw9⟩:∃ H0 I0:Nat,u8 = Value.func (.func 30) #[] #[vP H0,vP I0]∧St t6 w8 [.cells H0 [vI 2] 3,.cells I0 [vI 4] 3])) rfl (fun b03 M02 W8 ⟨H0,I0,Q3,K1⟩=>?_)
 subst Q3
 have c3:=mk_push2 B0 K1
 have C2:=mk_tr2 B0 K1
 refine RD.nu 16 131071 c0 rfl (.yes rfl rfl) rfl (AD (α:=Int) (xs:=([(0:Int),(1:Int),(0:Int),(1:Int)]:List Int)) (vs:=[vI 0,vI 1,vI 0,vI 1]) (ds' :=[vI 0,vI 1,vI 0,vI 1]) rfl c3 el28 rfl (e4 rfl rfl rfl rfl) (by kernel_rfl) rfl) (fun u6 J2 j1 F3=>?_)
 have G3:=Az (cs:=[vI 0,vI 1,vI 0,vI 1]) (xs:=(([(0:Int),(1:Int),(0:Int),(1:Int)]:List Int):List Int)) j1 L (Ai (cs:=[vI 0]) (ds:=[vI 1,vI 0,vI 1]) rfl (Ai (cs:=[vI 1]) (ds:=[vI 0,vI 1]) rfl (Ai (cs:=[vI 0]) (ds:=[vI 1]) rfl (Ai (cs:=[vI 1]) (ds:=[]) rfl (AB _ _)))))
 obtain ⟨D7,k5⟩:=AA j1 (.one .hd (.one .hd (.one .hd (.one (.tl .hd) (.one (.tl .hd) (.one (.tl .hd) .done))))))
 have A00:=AJ G3 k5
 have P00:=Tt C2 (Tt F3 k5)
 exact k4 ((vS J2 4),[vI 0,vI 1,vI 0,vI 1],H0,I0) _ _ ⟨rfl,rfl,rfl,rfl,rfl,rfl,trivial⟩ ⟨D7,P00,A00⟩
 refine RO.new (m' :=114687) (sk c0) rfl (.yes rfl rfl) rfl (AD (α:=Int) (xs:=([(0:Int),(1:Int),(0:Int),(1:Int)]:List Int)) (vs:=[vI 0,vI 1,vI 0,vI 1]) (ds' :=[vI 0,vI 1,vI 0,vI 1]) rfl B0 el28 rfl (e4 rfl rfl rfl rfl) (by kernel_rfl) rfl) (fun u6 J2 j1 F3=>?_)
 have G3:=Az (cs:=[vI 0,vI 1,vI 0,vI 1]) (xs:=(([(0:Int),(1:Int),(0:Int),(1:Int)]:List Int):List Int)) j1 L (Ai (cs:=[vI 0]) (ds:=[vI 1,vI 0,vI 1]) rfl (Ai (cs:=[vI 1]) (ds:=[vI 0,vI 1]) rfl (Ai (cs:=[vI 0]) (ds:=[vI 1]) rfl (Ai (cs:=[vI 1]) (ds:=[]) rfl (AB _ _)))))
 refine RD.cl 14 131071 c0 rfl (.yes rfl rfl) body13 rfl (e2 rfl rfl) (fun w9 hw9=>AQ (wardmotelaw23_count_c n _ w9 (j1.hL hL hw9) (2:Int) (4:Int)) fun (w8:World) (u8:Value) ⟨b0_,b1_,hu_,s_⟩=>(⟨b0_,b1_,hu_,s_.from hw9⟩:∃ H0 I0:Nat,u8 = Value.func (.func 30) #[] #[vP H0,vP I0]∧St u6 w8 [.cells H0 [vI 2] 3,.cells I0 [vI 4] 3])) rfl (fun b03 M02 W8 ⟨H0,I0,Q3,K1⟩=>?_)
 subst Q3
 have c3:=mk_push2 j1 K1
 have C2:=mk_tr2 j1 K1
 obtain ⟨E7,p5⟩:=AA c3 (.one (.tl (.tl .hd)) (.one .hd (.one .hd (.one (.tl .hd) (.one (.tl .hd) (.one (.tl .hd) .done))))))
 have B00:=AJ G3 (Tt C2 p5)
 have Q00:=Tt F3 (Tt C2 p5)
 exact k4 ((vS J2 4),[vI 0,vI 1,vI 0,vI 1],H0,I0) _ _ ⟨rfl,rfl,rfl,rfl,rfl,rfl,trivial⟩ ⟨E7,Q00,B00⟩
 refine Ay 2097151 55 [(14,178),(15,179),(16,180),(17,181),(18,182),(19,183),(20,184)] (F:=[(177,false)]) (U:=[]) c0 d0 (.cons rfl .nil) .nil ?_
 dsimp only [offS,List.map]
 refine Ag 21 4194303 c0 rfl d0 (fun _=>Ap rfl rfl) rfl<|Ag 22 8388607 c0 rfl d0 (fun _=>Ah rfl) rfl<|Ay 1073741823 46 [(23,187),(24,188),(25,189),(26,190),(27,191),(28,192),(29,193)] (F:=[(186,false)]) (U:=[]) c0 d0 (.cons rfl .nil) .nil ?_
 dsimp only [offS,List.map]
 refine Ag 30 2147483647 c0 rfl d0 (fun _=>Ap rfl rfl) rfl<|Ag 31 4294967295 c0 rfl d0 (fun _=>Ah rfl) rfl<|Ay 1099511627775 36 [(32,196),(33,197),(34,198),(35,199),(36,200),(37,201),(38,202),(39,203)] (F:=[(195,false)]) (U:=[]) c0 d0 (.cons rfl .nil) .nil ?_
 dsimp only [offS,List.map]
 refine Ag 40 2199023255551 c0 rfl d0 (fun _=>Ap rfl rfl) rfl<|Ag 41 4398046511103 c0 rfl d0 (fun _=>Ah rfl) rfl<|Ay 562949953421311 27 [(42,206),(43,207),(44,208),(45,209),(46,210),(47,211),(48,212)] (F:=[(205,false)]) (U:=[]) c0 d0 (.cons rfl .nil) .nil ?_
 dsimp only [offS,List.map]
 refine Ag 49 1125899906842623 c0 rfl d0 (fun _=>Ap rfl rfl) rfl<|Ag 50 2251799813685247 c0 rfl d0 (fun _=>Ah rfl) rfl<|Ay 288230376151711743 18 [(51,215),(52,216),(53,217),(54,218),(55,219),(56,220),(57,221)] (F:=[(214,false)]) (U:=[]) c0 d0 (.cons rfl .nil) .nil ?_
 dsimp only [offS,List.map]
 refine Ag 58 576460752303423487 c0 rfl d0 (fun _=>Ap rfl rfl) rfl<|Ag 59 1152921504606846975 c0 rfl d0 (fun _=>Ah rfl) rfl<|Ay 73786976294838206463 10 [(60,224),(61,225),(62,226),(63,227),(64,228),(65,229)] (F:=[(223,false)]) (U:=[]) c0 d0 (.cons rfl .nil) .nil ?_
 dsimp only [offS,List.map]
 refine Ag 66 147573952589676412927 c0 rfl d0 (fun _=>Ap rfl rfl) rfl<|Ag 67 295147905179352825855 c0 rfl d0 (fun _=>Ah rfl) rfl<|Ay 18889465931478580854783 2 [(68,232),(69,233),(70,234),(71,235),(72,236),(73,237)] (F:=[(231,false)]) (U:=[]) c0 d0 (.cons rfl .nil) .nil ?_
 dsimp only [offS,List.map]
 refine Ag 74 37778931862957161709567 c0 rfl d0 (fun _=>Ap rfl rfl) rfl<|Ag 75 75557863725914323419135 c0 rfl d0 (fun _=>FV.assign rfl) rfl<|AR (dk c0)<|Ao rfl<|AK hb0 Tryd.func3 rfl rfl ?_
 cases h
 exact B0.gv
 refine Ay 4095 64 [(4,168),(5,169),(6,170),(7,171),(8,172),(9,173),(10,174),(11,175)] (F:=[(167,false)]) (U:=[]) c0 d0 (.cons rfl .nil) .nil ?_
 dsimp only [offS,List.map]
 refine Ag 12 8191 c0 rfl d0 (fun _=>Ap rfl rfl) rfl<|Ag 13 16383 c0 rfl d0 (fun _=>Ah rfl) rfl<|Ay 2097151 55 [(14,178),(15,179),(16,180),(17,181),(18,182),(19,183),(20,184)] (F:=[(177,false)]) (U:=[]) c0 d0 (.cons rfl .nil) .nil ?_
 dsimp only [offS,List.map]
 refine Ag 21 4194303 c0 rfl d0 (fun _=>Ap rfl rfl) rfl<|Ag 22 8388607 c0 rfl d0 (fun _=>Ah rfl) rfl<|Ay 1073741823 46 [(23,187),(24,188),(25,189),(26,190),(27,191),(28,192),(29,193)] (F:=[(186,false)]) (U:=[]) c0 d0 (.cons rfl .nil) .nil ?_
 dsimp only [offS,List.map]
 refine Ag 30 2147483647 c0 rfl d0 (fun _=>Ap rfl rfl) rfl<|Ag 31 4294967295 c0 rfl d0 (fun _=>Ah rfl) rfl<|Ay 1099511627775 36 [(32,196),(33,197),(34,198),(35,199),(36,200),(37,201),(38,202),(39,203)] (F:=[(195,false)]) (U:=[]) c0 d0 (.cons rfl .nil) .nil ?_
 dsimp only [offS,List.map]
 refine Ag 40 2199023255551 c0 rfl d0 (fun _=>Ap rfl rfl) rfl<|Ag 41 4398046511103 c0 rfl d0 (fun _=>Ah rfl) rfl<|Ay 562949953421311 27 [(42,206),(43,207),(44,208),(45,209),(46,210),(47,211),(48,212)] (F:=[(205,false)]) (U:=[]) c0 d0 (.cons rfl .nil) .nil ?_
 dsimp only [offS,List.map]
 refine Ag 49 1125899906842623 c0 rfl d0 (fun _=>Ap rfl rfl) rfl<|Ag 50 2251799813685247 c0 rfl d0 (fun _=>Ah rfl) rfl<|Ay 288230376151711743 18 [(51,215),(52,216),(53,217),(54,218),(55,219),(56,220),(57,221)] (F:=[(214,false)]) (U:=[]) c0 d0 (.cons rfl .nil) .nil ?_
 dsimp only [offS,List.map]
 refine Ag 58 576460752303423487 c0 rfl d0 (fun _=>Ap rfl rfl) rfl<|Ag 59 1152921504606846975 c0 rfl d0 (fun _=>Ah rfl) rfl<|Ay 73786976294838206463 10 [(60,224),(61,225),(62,226),(63,227),(64,228),(65,229)] (F:=[(223,false)]) (U:=[]) c0 d0 (.cons rfl .nil) .nil ?_
 dsimp only [offS,List.map]
 refine Ag 66 147573952589676412927 c0 rfl d0 (fun _=>Ap rfl rfl) rfl<|Ag 67 295147905179352825855 c0 rfl d0 (fun _=>Ah rfl) rfl<|Ay 18889465931478580854783 2 [(68,232),(69,233),(70,234),(71,235),(72,236),(73,237)] (F:=[(231,false)]) (U:=[]) c0 d0 (.cons rfl .nil) .nil ?_
 dsimp only [offS,List.map]
 refine Ag 74 37778931862957161709567 c0 rfl d0 (fun _=>Ap rfl rfl) rfl<|Ag 75 75557863725914323419135 c0 rfl d0 (fun _=>FV.assign rfl) rfl<|AR (dk c0)<|Ao rfl<|AK hb0 Tryd.func3 rfl rfl ?_
 cases h
 exact Y2.gv
 intro z03 t0 h
 try dsimp only at h
 refine Al<|Ab rfl<|Ac (FV.neq (i:=D6.2) (j:=0) rfl rfl)<|Ab rfl<|RG.ifn (s:=116) rfl h (fun X6 h=>?_) (fun X6 h=>?_)
 refine Ak<|Ak<|AG rfl rfl<|Ab rfl<|Ak<|Ak<|AG rfl rfl<|Ab rfl<|Ak<|Ak<|AG rfl rfl<|Ab rfl<|Ak<|Ak<|AG rfl rfl<|Ab rfl<|Ak<|Ak<|AG rfl rfl<|Ab rfl<|Ak<|Ak<|AG rfl rfl<|Ab rfl ?_
 refine Ak<|Ak<|AG rfl rfl<|Ab rfl<|Ak<|Ak<|AG rfl rfl<|Ab rfl<|Ak<|Ak<|AG rfl rfl<|Ab rfl<|Ak<|Ak<|AG rfl rfl<|Ab rfl<|Ak<|Ak<|AG rfl rfl<|Ab rfl<|Ak<|Ak<|AG rfl rfl<|Af rfl ?_
 refine Aa ?_
 obtain ⟨F7,p8⟩:=AA u0 (.one (.tl .hd) (.one (.tl .hd) (.one (.tl (.tl (.tl (.tl .hd)))) .done)))
 exact t0 false _ _ ⟨rfl,rfl,rfl,rfl,trivial⟩ ⟨F7,p8⟩ h
 refine AH (Ah rfl)<|AH (FV.neq (i:=D6.2) (j:=2) rfl rfl)<|RG.pt rfl rfl<|Ab rfl<|RG.ifn (s:=120) rfl h (fun Y6 h=>?_) (fun Y6 h=>?_)
 refine Ak<|Ak<|AG rfl rfl<|Ab rfl<|Ak<|Ak<|AG rfl rfl<|Ab rfl<|Ak<|Ak<|AG rfl rfl<|Ab rfl<|Ak<|Ak<|AG rfl rfl<|Ab rfl<|Ak<|Ak<|AG rfl rfl<|Ab rfl<|Ak<|Ak<|AG rfl rfl<|Ab rfl ?_
 refine Ak<|Ak<|AG rfl rfl<|Ab rfl<|Ak<|Ak<|AG rfl rfl<|Ab rfl<|Ak<|Ak<|AG rfl rfl<|Ab rfl<|Ak<|Ak<|AG rfl rfl<|Ab rfl<|Ak<|Ak<|AG rfl rfl<|Af rfl<|Aa ?_
 obtain ⟨G7,q8⟩:=AA u0 (.one (.tl .hd) (.one (.tl .hd) (.one (.tl (.tl (.tl (.tl .hd)))) .done)))
 exact t0 false _ _ ⟨rfl,rfl,rfl,rfl,trivial⟩ ⟨G7,q8⟩ h
 refine AH (Ah rfl)<|AH (FV.eql (i:=c03.2) (j:=2) rfl rfl)<|RG.pt rfl rfl<|Ab rfl<|RG.ifd (s:=124) rfl h (fun Z6 h=>?_) (fun Z6 h=>?_)
 refine AH (Ah rfl)<|AH (FV.eql (i:=d03.2) (j:=220) rfl rfl)<|RG.pt rfl rfl<|Ab rfl<|RG.ifd (s:=128) rfl h (fun b7 h=>?_) (fun b7 h=>?_)
 refine AH (Ah rfl)<|AH (FV.eql (i:=g03.2) (j:=2) rfl rfl)<|RG.pt rfl rfl<|Ab rfl<|RG.ifd (s:=132) rfl h (fun c7 h=>?_) (fun c7 h=>?_)
 refine AH (Ah rfl)<|AH (FV.eql (i:=X3.2) (j:=2) rfl rfl)<|RG.pt rfl rfl<|Ab rfl<|RG.ifd (s:=136) rfl h (fun d7 h=>?_) (fun d7 h=>?_)
 refine AH (Ah rfl)<|AH (FV.eql (i:=Y3.2) (j:=4) rfl rfl)<|RG.pt rfl rfl<|Ab rfl<|RG.ifd (s:=140) rfl h (fun g7 h=>?_) (fun g7 h=>?_)
 refine AH (Ah rfl)<|AH (FV.eql (i:=Z3.2) (j:=4) rfl rfl)<|RG.pt rfl rfl<|Ab rfl<|RG.ifd (s:=144) rfl h (fun j7 h=>?_) (fun j7 h=>?_)
 refine AH (Ah rfl)<|AH (FV.eql (i:=j03.2) (j:=2) rfl rfl)<|RG.pt rfl rfl<|Ab rfl<|RG.ifd (s:=148) rfl h (fun k7 h=>?_) (fun k7 h=>?_)
 refine AH (Ah rfl)<|AH (FV.eql (i:=b4.2) (j:=2) rfl rfl)<|RG.pt rfl rfl<|Ab rfl<|RG.ifd (s:=152) rfl h (fun p7 h=>?_) (fun p7 h=>?_)
 refine AH (Ah rfl)<|AH (FV.eql (i:=c4.2) (j:=2) rfl rfl)<|RG.pt rfl rfl<|Ab rfl<|RG.ifd (s:=156) rfl h (fun q7 h=>?_) (fun q7 h=>?_)
 refine AH (Ah rfl)<|AH (FV.eql (i:=q03.2) (j:=2) rfl rfl)<|RG.pt rfl rfl<|Ab rfl<|RG.ifd (s:=160) rfl h (fun t7 h=>?_) (fun t7 h=>?_)
 refine AH (Ah rfl)<|AH (FV.eql (i:=M0.2) (j:=220) rfl rfl)<|RG.pt rfl rfl<|Af rfl<|Aa ?_
 obtain ⟨H7,s8⟩:=AA u0 (.one (.tl .hd) (.one (.tl .hd) (.one (.tl (.tl (.tl (.tl .hd)))) .done)))
 exact t0 (decide (M0.2 = 220)) _ _ ⟨rfl,rfl,rfl,rfl,trivial⟩ ⟨H7,s8⟩ h
 refine Ak<|Ak<|AG rfl rfl<|Af rfl<|Aa ?_
 obtain ⟨I7,t8⟩:=AA u0 (.one (.tl .hd) (.one (.tl .hd) (.one (.tl (.tl (.tl (.tl .hd)))) .done)))
 exact t0 false _ _ ⟨rfl,rfl,rfl,rfl,trivial⟩ ⟨I7,t8⟩ h
 refine Ak<|Ak<|AG rfl rfl<|Ab rfl<|Ak<|Ak<|AG rfl rfl<|Af rfl<|Aa ?_
 obtain ⟨J7,v8⟩:=AA u0 (.one (.tl .hd) (.one (.tl .hd) (.one (.tl (.tl (.tl (.tl .hd)))) .done)))
 exact t0 false _ _ ⟨rfl,rfl,rfl,rfl,trivial⟩ ⟨J7,v8⟩ h
 refine Ak<|Ak<|AG rfl rfl<|Ab rfl<|Ak<|Ak<|AG rfl rfl<|Ab rfl<|Ak<|Ak<|AG rfl rfl<|Af rfl<|Aa ?_
 obtain ⟨K7,x8⟩:=AA u0 (.one (.tl .hd) (.one (.tl .hd) (.one (.tl (.tl (.tl (.tl .hd)))) .done)))
 exact t0 false _ _ ⟨rfl,rfl,rfl,rfl,trivial⟩ ⟨K7,x8⟩ h
 refine Ak<|Ak<|AG rfl rfl<|Ab rfl<|Ak<|Ak<|AG rfl rfl<|Ab rfl<|Ak<|Ak<|AG rfl rfl<|Ab rfl<|Ak<|Ak<|AG rfl rfl<|Af rfl<|Aa ?_
 obtain ⟨M7,y8⟩:=AA u0 (.one (.tl .hd) (.one (.tl .hd) (.one (.tl (.tl (.tl (.tl .hd)))) .done)))
 exact t0 false _ _ ⟨rfl,rfl,rfl,rfl,trivial⟩ ⟨M7,y8⟩ h
 refine Ak<|Ak<|AG rfl rfl<|Ab rfl<|Ak<|Ak<|AG rfl rfl<|Ab rfl<|Ak<|Ak<|AG rfl rfl<|Ab rfl<|Ak<|Ak<|AG rfl rfl<|Ab rfl<|Ak<|Ak<|AG rfl rfl<|Af rfl<|Aa ?_
 obtain ⟨P7,z8⟩:=AA u0 (.one (.tl .hd) (.one (.tl .hd) (.one (.tl (.tl (.tl (.tl .hd)))) .done)))
 exact t0 false _ _ ⟨rfl,rfl,rfl,rfl,trivial⟩ ⟨P7,z8⟩ h
 refine Ak<|Ak<|AG rfl rfl<|Ab rfl<|Ak<|Ak<|AG rfl rfl<|Ab rfl<|Ak<|Ak<|AG rfl rfl<|Ab rfl<|Ak<|Ak<|AG rfl rfl<|Ab rfl<|Ak<|Ak<|AG rfl rfl<|Ab rfl<|Ak<|Ak<|AG rfl rfl<|Af rfl ?_
 refine Aa ?_
 obtain ⟨Q7,A8⟩:=AA u0 (.one (.tl .hd) (.one (.tl .hd) (.one (.tl (.tl (.tl (.tl .hd)))) .done)))
 exact t0 false _ _ ⟨rfl,rfl,rfl,rfl,trivial⟩ ⟨Q7,A8⟩ h
 refine Ak<|Ak<|AG rfl rfl<|Ab rfl<|Ak<|Ak<|AG rfl rfl<|Ab rfl<|Ak<|Ak<|AG rfl rfl<|Ab rfl<|Ak<|Ak<|AG rfl rfl<|Ab rfl<|Ak<|Ak<|AG rfl rfl<|Ab rfl<|Ak<|Ak<|AG rfl rfl<|Ab rfl ?_
 refine Ak<|Ak<|AG rfl rfl<|Af rfl<|Aa ?_
 obtain ⟨R7,B8⟩:=AA u0 (.one (.tl .hd) (.one (.tl .hd) (.one (.tl (.tl (.tl (.tl .hd)))) .done)))
 exact t0 false _ _ ⟨rfl,rfl,rfl,rfl,trivial⟩ ⟨R7,B8⟩ h
 refine Ak<|Ak<|AG rfl rfl<|Ab rfl<|Ak<|Ak<|AG rfl rfl<|Ab rfl<|Ak<|Ak<|AG rfl rfl<|Ab rfl<|Ak<|Ak<|AG rfl rfl<|Ab rfl<|Ak<|Ak<|AG rfl rfl<|Ab rfl<|Ak<|Ak<|AG rfl rfl<|Ab rfl ?_
 refine Ak<|Ak<|AG rfl rfl<|Ab rfl<|Ak<|Ak<|AG rfl rfl<|Af rfl<|Aa ?_
 obtain ⟨U7,C8⟩:=AA u0 (.one (.tl .hd) (.one (.tl .hd) (.one (.tl (.tl (.tl (.tl .hd)))) .done)))
 exact t0 false _ _ ⟨rfl,rfl,rfl,rfl,trivial⟩ ⟨U7,C8⟩ h
 refine Ak<|Ak<|AG rfl rfl<|Ab rfl<|Ak<|Ak<|AG rfl rfl<|Ab rfl<|Ak<|Ak<|AG rfl rfl<|Ab rfl<|Ak<|Ak<|AG rfl rfl<|Ab rfl<|Ak<|Ak<|AG rfl rfl<|Ab rfl<|Ak<|Ak<|AG rfl rfl<|Ab rfl ?_
 refine Ak<|Ak<|AG rfl rfl<|Ab rfl<|Ak<|Ak<|AG rfl rfl<|Ab rfl<|Ak<|Ak<|AG rfl rfl<|Af rfl<|Aa ?_
 obtain ⟨V7,D8⟩:=AA u0 (.one (.tl .hd) (.one (.tl .hd) (.one (.tl (.tl (.tl (.tl .hd)))) .done)))
 exact t0 false _ _ ⟨rfl,rfl,rfl,rfl,trivial⟩ ⟨V7,D8⟩ h
 refine Ak<|Ak<|AG rfl rfl<|Ab rfl<|Ak<|Ak<|AG rfl rfl<|Ab rfl<|Ak<|Ak<|AG rfl rfl<|Ab rfl<|Ak<|Ak<|AG rfl rfl<|Ab rfl<|Ak<|Ak<|AG rfl rfl<|Ab rfl<|Ak<|Ak<|AG rfl rfl<|Ab rfl ?_
 refine Ak<|Ak<|AG rfl rfl<|Ab rfl<|Ak<|Ak<|AG rfl rfl<|Ab rfl<|Ak<|Ak<|AG rfl rfl<|Ab rfl<|Ak<|Ak<|AG rfl rfl<|Af rfl<|Aa ?_
 obtain ⟨W7,E8⟩:=AA u0 (.one (.tl .hd) (.one (.tl .hd) (.one (.tl (.tl (.tl (.tl .hd)))) .done)))
 exact t0 false _ _ ⟨rfl,rfl,rfl,rfl,trivial⟩ ⟨W7,E8⟩ h
 refine Ae<|Af rfl<|Aa<|Ao rfl<|AK hb0 Tryd.func3 rfl rfl ?_
 cases h
 exact hS0.gv
end Go.Proofs.YtfncplndfpgngaaDoor
