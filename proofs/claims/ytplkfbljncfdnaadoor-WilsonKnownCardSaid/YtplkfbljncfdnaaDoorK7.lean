/- Functions of the program, and what they give: part 7. -/
import Derived.Test.YtplkfbljncfdnaaDoorK6
namespace Go.Proofs.YtplkfbljncfdnaaDoor
open Go Go.RowKit

def tb5_5 : List (Nat × Nat × Nat) := [(0, 1048576, 0), (0, 2097152, 0), (3, 4194304, 2097152), (4, 8388608, 4194304), (4, 16777216, 4194304), (29, 33554432, 26214400), (32, 67108864, 33554432), (64, 134217728, 67108864), (192, 268435456, 201326592), (64, 536870912, 67108864), (832, 1073741824, 603979776), (1088, 2147483648, 1140850688), (1088, 4294967296, 1140850688), (7488, 8589934592, 6777995264), (8256, 17179869184, 8657043456), (24576, 34359738368, 17179869184), (32768, 68719476736, 34359738368), (98304, 137438953472, 103079215104), (32768, 274877906944, 34359738368), (425984, 549755813888, 309237645312), (557056, 1099511627776, 584115552256), (557056, 2199023255552, 584115552256), (3833856, 4398046511104, 3470333575168), (4227072, 8796093022208, 4432406249472), (12582912, 17592186044416, 8796093022208), (16777216, 35184372088832, 17592186044416), (50331648, 70368744177664, 52776558133248), (16777216, 140737488355328, 17592186044416), (218103808, 281474976710656, 158329674399744), (285212672, 562949953421312, 299067162755072), (285212672, 1125899906842624, 299067162755072), (1962934272, 2251799813685248, 1776810790486016), (2164260864, 4503599627370496, 2269391999729664), (6442450944, 9007199254740992, 4503599627370496), (8589934592, 18014398509481984, 9007199254740992), (25769803776, 36028797018963968, 27021597764222976), (8589934592, 72057594037927936, 9007199254740992), (111669149696, 144115188075855872, 81064793292668928), (146028888064, 288230376151711744, 153122387330596864), (146028888064, 576460752303423488, 153122387330596864), (1005022347264, 1152921504606846976, 909727124728840192), (1108101562368, 2305843009213693952, 1161928703861587968), (4398046511103, 16, 2305843009213693952)]
def tb5_6 : List (Nat × Nat × Nat) := [(0, 4611686018427387904, 16), (1, 9223372036854775808, 4611686018427387904), (2, 18446744073709551616, 9223372036854775808), (2, 36893488147419103232, 9223372036854775816), (2, 73786976294838206464, 9223372036854775812), (30, 147573952589676412928, 119903836479112085504), (34, 295147905179352825856, 156797324626531188736), (34, 590295810358705651712, 156797324626531188736), (34, 1180591620717411303424, 156797324626531188736), (486, 2361183241434822606848, 2093705452366034108416), (514, 4722366482869645213696, 2370406613471677382656), (1536, 9444732965739290427392, 4722366482869645213696), (2048, 18889465931478580854784, 9444732965739290427392), (2048, 37778931862957161709568, 9444732965739290427394), (2048, 75557863725914323419136, 9444732965739290427396), (30720, 151115727451828646838272, 122781528554610775556096), (34816, 302231454903657293676544, 160560460417567937265664), (34816, 604462909807314587353088, 160560460417567937265664), (34816, 1208925819614629174706176, 160560460417567937265664), (497664, 2417851639229258349412352, 2143954383222818927017984), (526336, 4835703278458516698824704, 2427296372194997639839744), (1572864, 9671406556917033397649408, 4835703278458516698824704), (2097152, 19342813113834066795298816, 9671406556917033397649408), (2097152, 38685626227668133590597632, 9671406556917033397649410), (2097152, 77371252455336267181195264, 9671406556917033397649412), (31457280, 154742504910672534362390528, 125728285239921434169442304), (35651584, 309485009821345068724781056, 164413911467589567760039936), (35651584, 618970019642690137449562112, 164413911467589567760039936), (35651584, 1237940039285380274899124224, 164413911467589567760039936), (509607936, 2475880078570760549798248448, 2195409288420166581266415616), (538968064, 4951760157141521099596496896, 2485551485127677583195897856), (1610612736, 9903520314283042199192993792, 4951760157141521099596496896), (2147483648, 19807040628566084398385987584, 9903520314283042199192993792), (2147483648, 39614081257132168796771975168, 9903520314283042199192993794), (2147483648, 79228162514264337593543950336, 9903520314283042199192993796), (32212254720, 158456325028528675187087900672, 128745764085679548589508919296), (36507222016, 316912650057057350374175801344, 168359845342811717386280894464), (36507222016, 633825300114114700748351602688, 168359845342811717386280894464), (36507222016, 1267650600228229401496703205376, 168359845342811717386280894464), (521838526464, 2535301200456458802993406410752, 2248099111342250579216809590784), (551903297536, 5070602400912917605986812821504, 2545204720770741845192599404544), (1649267441664, 10141204801825835211973625643008, 5070602400912917605986812821504), (2199023255552, 20282409603651670423947251286016, 10141204801825835211973625643008), (2199023255552, 40564819207303340847894502572032, 10141204801825835211973625643010), (2199023255552, 81129638414606681695789005144064, 10141204801825835211973625643012), (32985348833280, 162259276829213363391578010288128, 131835662423735857755657133359104), (37383395344384, 324518553658426726783156020576256, 172400481631039198603551635931136), (37383395344384, 649037107316853453566312041152512, 172400481631039198603551635931136), (37383395344384, 1298074214633706907132624082305024, 172400481631039198603551635931136), (534362651099136, 2596148429267413814265248164610048, 2302053490014464593118013020962816), (565148976676864, 5192296858534827628530496329220096, 2606289634069239649477221790253056), (1688849860263936, 10384593717069655257060992658440192, 5192296858534827628530496329220096), (2251799813685248, 20769187434139310514121985316880384, 10384593717069655257060992658440192), (2251799813685248, 41538374868278621028243970633760768, 10384593717069655257060992658440194), (2251799813685248, 83076749736557242056487941267521536, 10384593717069655257060992658440196), (33776997205278720, 166153499473114484112975882535043072, 134999718321905518341792904559722496), (38280596832649216, 332306998946228968225951765070086144, 176538093190184139370036875193483264), (38280596832649216, 664613997892457936451903530140172288, 176538093190184139370036875193483264), (38280596832649216, 1329227995784915872903807060280344576, 176538093190184139370036875193483264), (547187354725515264, 2658455991569831745807614120560689152, 2357302773774811743352845333465923584), (578712552117108736, 5316911983139663491615228241121378304, 2668840585286901401064675113219129344), (1729382256910270464, 10633823966279326983230456482242756608, 5316911983139663491615228241121378304), (2305843009213693952, 21267647932558653966460912964485513216, 10633823966279326983230456482242756608), (2305843009213693952, 42535295865117307932921825928971026432, 10633823966279326983230456482242756610), (2305843009213693952, 85070591730234615865843651857942052864, 10633823966279326983230456482242756612), (34587645138205409280, 170141183460469231731687303715884105728, 138239711561631250781995934269155835904), (39199331156632797184, 340282366920938463463374607431768211456, 180775007426748558714917760198126862336), (39199331156632797184, 680564733841876926926749214863536422912, 180775007426748558714917760198126862336), (39199331156632797184, 1361129467683753853853498429727072845824, 180775007426748558714917760198126862336), (560319851238927630336, 2722258935367507707706996859454145691648, 2413878040345407225193313621469105750016), (592601653367919345664, 5444517870735015415413993718908291383296, 2732892759333787034690227315936388448256), (1770887431076116955136, 10889035741470030830827987437816582766592, 5444517870735015415413993718908291383296), (2361183241434822606848, 21778071482940061661655974875633165533184, 10889035741470030830827987437816582766592), (2361183241434822606848, 43556142965880123323311949751266331066368, 10889035741470030830827987437816582766594), (2361183241434822606848, 87112285931760246646623899502532662132736, 10889035741470030830827987437816582766596), (35417748621522339102720, 174224571863520493293247799005065324265472, 141557464639110400800763836691615575965696), (40140115104391984316416, 348449143727040986586495598010130648530944, 185113607604990524124075786442881907032064), (40140115104391984316416, 696898287454081973172991196020261297061888, 185113607604990524124075786442881907032064), (40140115104391984316416, 1393796574908163946345982392040522594123776, 185113607604990524124075786442881907032064), (573767527668661893464064, 2787593149816327892691964784081045188247552, 2471811113313696998597953148384364288016384), (606824093048749409959936, 5575186299632655785383929568162090376495104, 2798482185557797923522792771518861771014144), (1813388729421943762059264, 11150372599265311570767859136324180752990208, 5575186299632655785383929568162090376495104), (2417851639229258349412352, 22300745198530623141535718272648361505980416, 11150372599265311570767859136324180752990212), (2417851639229258349412352, 44601490397061246283071436545296723011960832, 11150372599265311570767859136324180752990208), (16924961474604808445886464, 89202980794122492566142873090593446023921664, 78052608194857180995375013954269265270931456), (2417851639229258349412352, 178405961588244985132285746181186892047843328, 11150372599265311570767859136324180752990210), (2417851639229258349412352, 356811923176489970264571492362373784095686656, 11150372599265311570767859136324180752990212), (137817543436067725916504064, 713623846352979940529142984724747568191373312, 546368257364000266967625097679884856896520192), (157160356549901792711802880, 1427247692705959881058285969449495136382746624, 724774218952245252099910843861071748944363520), (157160356549901792711802880, 2854495385411919762116571938898990272765493248, 724774218952245252099910843861071748944363520), (157160356549901792711802880, 5708990770823839524233143877797980545530986496, 724774218952245252099910843861071748944363520), (2342898238413151340580569088, 11417981541647679048466287755595961091061972992, 10091087202335106971544912518373383581456138240), (2478297930209989808147660800, 22835963083295358096932575511191922182123945984, 11429131914246944360037055614732285271814963200), (9903520314283042199192993791, 16, 22835963083295358096932575511191922182123945984)]
def tb5_7 : List (Nat × Nat × Nat) := [(0, 45671926166590716193865151022383844364247891968, 16), (1, 91343852333181432387730302044767688728495783936, 45671926166590716193865151022383844364247891968), (2, 182687704666362864775460604089535377456991567872, 91343852333181432387730302044767688728495783936), (2, 365375409332725729550921208179070754913983135744, 91343852333181432387730302044767688728495783944), (2, 730750818665451459101842416358141509827966271488, 91343852333181432387730302044767688728495783940), (30, 1461501637330902918203684832716283019655932542976, 1187470080331358621040493926581979953470445191168), (34, 2923003274661805836407369665432566039311865085952, 1552845489664084350591415134761050708384428326912), (34, 5846006549323611672814739330865132078623730171904, 1552845489664084350591415134761050708384428326912), (34, 11692013098647223345629478661730264157247460343808, 1552845489664084350591415134761050708384428326912), (486, 23384026197294446691258957323460528314494920687616, 20735054479632185152014778564162265341368542953472), (514, 46768052394588893382517914646921056628989841375232, 23475370049627628123646687625505296003223416471552), (1536, 93536104789177786765035829293842113257979682750464, 46768052394588893382517914646921056628989841375232), (2048, 187072209578355573530071658587684226515959365500928, 93536104789177786765035829293842113257979682750464), (2048, 374144419156711147060143317175368453031918731001856, 93536104789177786765035829293842113257979682750466), (2048, 748288838313422294120286634350736906063837462003712, 93536104789177786765035829293842113257979682750468), (30720, 1496577676626844588240573268701473812127674924007424, 1215969362259311227945465780819947472353735875756032), (34816, 2993155353253689176481146537402947624255349848014848, 1590113781416022375005609097995315925385654606757888), (34816, 5986310706507378352962293074805895248510699696029696, 1590113781416022375005609097995315925385654606757888), (34816, 11972621413014756705924586149611790497021399392059392, 1590113781416022375005609097995315925385654606757888), (497664, 23945242826029513411849172299223580994042798784118784, 21232695787143357595663133249702159709561387984355328), (526336, 47890485652059026823698344598447161988085597568237568, 24038778930818691198614208128517423107300778466869248), (1572864, 95780971304118053647396689196894323976171195136475136, 47890485652059026823698344598447161988085597568237568), (2097152, 191561942608236107294793378393788647952342390272950272, 95780971304118053647396689196894323976171195136475136), (2097152, 383123885216472214589586756787577295904684780545900544, 95780971304118053647396689196894323976171195136475136), (2097152, 766247770432944429179173513575154591809369561091801088, 95780971304118053647396689196894323976171195136475140), (31457280, 1532495540865888858358347027150309183618739122183602176, 1245152626953534697416156959559626211690225536774176768), (35651584, 3064991081731777716716694054300618367237478244367204352, 1628276512170006912005743716347203507594910317320077312), (35651584, 6129982163463555433433388108601236734474956488734408704, 1628276512170006912005743716347203507594910317320077312), (35651584, 12259964326927110866866776217202473468949912977468817408, 1628276512170006912005743716347203507594910317320077312), (509607936, 24519928653854221733733552434404946937899825954937634816, 21742280486034798177959048447695011542590861295979855872), (538968064, 49039857307708443467467104868809893875799651909875269632, 24615709625158339787380949123601841261875997150074109952), (1610612736, 98079714615416886934934209737619787751599303819750539264, 49039857307708443467467104868809893875799651909875269632), (2147483648, 196159429230833773869868419475239575503198607639501078528, 98079714615416886934934209737619787751599303819750539268), (6442450944, 392318858461667547739736838950479151006397215279002157056, 294239143846250660804802629212859363254797911459251617792), (2147483648, 784637716923335095479473677900958302012794430558004314112, 98079714615416886934934209737619787751599303819750539264), (2147483648, 1569275433846670190958947355801916604025588861116008628224, 98079714615416886934934209737619787751599303819750539268), (62277025792, 3138550867693340381917894711603833208051177722232017256448, 2451992865385422173373355243440494693789982595493763481600), (70866960384, 6277101735386680763835789423207666416102355444464034512896, 3236630582308757268852828921341452995802777026051767795712), (70866960384, 12554203470773361527671578846415332832204710888928069025792, 3236630582308757268852828921341452995802777026051767795712), (70866960384, 25108406941546723055343157692830665664409421777856138051584, 3236630582308757268852828921341452995802777026051767795712), (1041529569280, 50216813883093446110686315385661331328818843555712276103168, 44430110720783849781525197011141763851474484630346994286592), (1101659111424, 100433627766186892221372630771322662657637687111424552206336, 50314893597708862997621249595398951116570442859532026642432), (4398046511103, 16, 100433627766186892221372630771322662657637687111424552206336)]
theorem body9 : bodyB Tryd.prog 9 = true := by kernel_rfl
def wardmotelaw31_WilsonKnown_l1 (_n : Nat) (J7920 : Nat × (List (Int × Int)) → Option (List (Int × Int))) : Nat × (List (Int × Int)) → Option (List (Int × Int))
  | (i7908, xs7909) => (if i7908 < 63 then (app xs7909 ([(((i7908 : Nat) : Int), ((i7908 + 1 : Nat) : Int))] : List (Int × Int))).bind fun xs7929 => J7920 (i7908 + 1, xs7929) else some xs7909)
def wardmotelaw31_WilsonKnown_p (n : Nat) : Option Bool :=
  (wardmotelaw31_works_p n).bind fun y1 => (if y1 = true then (wardmotelaw31_ring_p n).bind fun y3 => jn (fun q7535 => jn (fun (q7740, xs7741) => jn (fun q7840 => Option.bind (loopF (wardmotelaw31_WilsonKnown_l1 n) n (0, ([] : List (Int × Int)))) (fun xs7909 => (wilson_Draw_p n (⟨64, xs7909⟩ : TGraph) (18446744073709551615 : UInt64) (⟨(1099511627776 : UInt64)⟩ : TChance)).bind fun y7944 => (wilson_Walk_p n (⟨64, xs7909⟩ : TGraph) (18446744073709551615 : UInt64) 63 (1 : UInt64) (⟨(1099511627776 : UInt64)⟩ : TChance)).bind fun y7964 => (wardmotelaw31_works_p n).bind fun y7981 => (if y7981 = true then (if q7840 = true then (if y7944.2.2 = 0 then (if y7944.1.length = 63 then (y7944.1[62]?).bind fun x7988 => (if x7988 = 62 then (if y7964.2.2 = 0 then some true else some (decide (y7964.2.2 = 9))) else (if y7944.2.2 = 9 then (if y7964.2.2 = 0 then some true else some (decide (y7964.2.2 = 9))) else some false)) else (if y7944.2.2 = 9 then (if y7964.2.2 = 0 then some true else some (decide (y7964.2.2 = 9))) else some false)) else (if y7944.2.2 = 9 then (if y7964.2.2 = 0 then some true else some (decide (y7964.2.2 = 9))) else some false)) else some false) else some false))) (fun J7844 => (if q7740 = true then (wilson_Draw_p n (⟨2, xs7741⟩ : TGraph) (0 : UInt64) (⟨(1099511627776 : UInt64)⟩ : TChance)).bind fun y8017 => (wardmotelaw31_stops_1_p n y8017.1 y8017.2.1 y8017.2.2 180).bind fun y8026 => (if y8026 = true then (wilson_Draw_p n y3 (16 : UInt64) (⟨(1099511627776 : UInt64)⟩ : TChance)).bind fun y8037 => (wardmotelaw31_stops_1_p n y8037.1 y8037.2.1 y8037.2.2 2).bind fun y8046 => (if y8046 = true then (wilson_Draw_p n (⟨2, ([] : List (Int × Int))⟩ : TGraph) (3 : UInt64) (⟨(1099511627776 : UInt64)⟩ : TChance)).bind fun y8057 => (wardmotelaw31_stops_1_p n y8057.1 y8057.2.1 y8057.2.2 4).bind fun y8068 => (if y8068 = true then (wilson_Draw_p n (⟨64, ([] : List (Int × Int))⟩ : TGraph) (9223372036854775808 : UInt64) (⟨(1099511627776 : UInt64)⟩ : TChance)).bind fun y8084 => (wardmotelaw31_goes_1_p n y8084.1 y8084.2.1 y8084.2.2 ([] : List Int) (⟨(1099511627776 : UInt64)⟩ : TChance)).bind fun y8095 => J7844 y8095 else J7844 false) else J7844 false) else J7844 false) else J7844 false))) (fun J7747 => (if q7535 = true then (wilson_Walk_p n (⟨2, ([(1, 0)] : List (Int × Int))⟩ : TGraph) (4 : UInt64) 9 (4 : UInt64) (⟨(1099511627776 : UInt64)⟩ : TChance)).bind fun y8118 => (wardmotelaw31_stops_1_p n y8118.1 y8118.2.1 y8118.2.2 180).bind fun y8131 => (if y8131 = true then (wilson_Walk_p n y3 (16 : UInt64) 0 (1 : UInt64) (⟨(1099511627776 : UInt64)⟩ : TChance)).bind fun y8142 => (wardmotelaw31_stops_1_p n y8142.1 y8142.2.1 y8142.2.2 2).bind fun y8151 => (if y8151 = true then (wilson_Walk_p n y3 (15 : UInt64) 0 (16 : UInt64) (⟨(1099511627776 : UInt64)⟩ : TChance)).bind fun y8162 => (wardmotelaw31_stops_1_p n y8162.1 y8162.2.1 y8162.2.2 2).bind fun y8171 => (if y8171 = true then (wilson_Walk_p n y3 (15 : UInt64) (-1) (1 : UInt64) (⟨(1099511627776 : UInt64)⟩ : TChance)).bind fun y8182 => (wardmotelaw31_stops_1_p n y8182.1 y8182.2.1 y8182.2.2 2).bind fun y8191 => (if y8191 = true then (wilson_Walk_p n y3 (15 : UInt64) 4 (1 : UInt64) (⟨(1099511627776 : UInt64)⟩ : TChance)).bind fun y8202 => (wardmotelaw31_stops_1_p n y8202.1 y8202.2.1 y8202.2.2 2).bind fun y8211 => (if y8211 = true then (wilson_Walk_p n y3 (0 : UInt64) 0 (0 : UInt64) (⟨(1099511627776 : UInt64)⟩ : TChance)).bind fun y8222 => (wardmotelaw31_stops_1_p n y8222.1 y8222.2.1 y8222.2.2 2).bind fun y8231 => (if y8231 = true then (wilson_Walk_p n y3 (15 : UInt64) 0 (0 : UInt64) (⟨(1099511627776 : UInt64)⟩ : TChance)).bind fun y8242 => (wardmotelaw31_stops_1_p n y8242.1 y8242.2.1 y8242.2.2 4).bind fun y8251 => (if y8251 = true then (wilson_Walk_p n y3 (3 : UInt64) 0 (4 : UInt64) (⟨(1099511627776 : UInt64)⟩ : TChance)).bind fun y8262 => (wardmotelaw31_stops_1_p n y8262.1 y8262.2.1 y8262.2.2 4).bind fun y8271 => (if y8271 = true then (wilson_Walk_p n y3 (1 : UInt64) 0 (15 : UInt64) (⟨(1099511627776 : UInt64)⟩ : TChance)).bind fun y8294 => (wardmotelaw31_goes_1_p n y8294.1 y8294.2.1 y8294.2.2 ([0] : List Int) (⟨(1099511627776 : UInt64)⟩ : TChance)).bind fun y8303 => J7747 (y8303, ([(1, 0)] : List (Int × Int))) else J7747 (false, ([(1, 0)] : List (Int × Int)))) else J7747 (false, ([(1, 0)] : List (Int × Int)))) else J7747 (false, ([(1, 0)] : List (Int × Int)))) else J7747 (false, ([(1, 0)] : List (Int × Int)))) else J7747 (false, ([(1, 0)] : List (Int × Int)))) else J7747 (false, ([(1, 0)] : List (Int × Int)))) else J7747 (false, ([(1, 0)] : List (Int × Int)))) else J7747 (false, ([(1, 0)] : List (Int × Int)))) else J7747 (false, ([(1, 0)] : List (Int × Int)))))) (fun J7539 => (mk 10002 (0 : Int)).bind fun xs8949 => (wilson_Erase_p n xs8949).bind fun y9563 => (wardmotelaw31_fails_1_p n y9563.1 y9563.2 3).bind fun y9575 => (if y9575 = true then (mk 10001 (0 : Int)).bind fun xs10497 => (wilson_Erase_p n xs10497).bind fun y11113 => (wardmotelaw31_lists_1_p n y11113.1 y11113.2 ([0] : List Int)).bind fun y11125 => (if y11125 = true then (wilson_Erase_p n ([7, 9, 7, 8] : List Int)).bind fun y12662 => (wardmotelaw31_lists_1_p n y12662.1 y12662.2 ([7, 8] : List Int)).bind fun y12674 => (if y12674 = true then (wilson_Erase_p n ([(-1), 1099511627776] : List Int)).bind fun y14211 => (wardmotelaw31_lists_1_p n y14211.1 y14211.2 ([(-1), 1099511627776] : List Int)).bind fun y14223 => (if y14223 = true then (wilson_Erase_p n ([3, 4, 3] : List Int)).bind fun y15760 => (wardmotelaw31_lists_1_p n y15760.1 y15760.2 ([3] : List Int)).bind fun y15772 => J7539 y15772 else J7539 false) else J7539 false) else J7539 false) else J7539 false)) else some false)
set_option maxRecDepth 4000 in
set_option maxHeartbeats 4000000 in
theorem wardmotelaw31_WilsonKnown_c (n : Nat) (L : List Nat) (w : World) (hL : ∀ b ∈ L, b < w.heap.size) (hG0 : Glob 0 tab0 w)  {r : Bool} (h : wardmotelaw31_WilsonKnown_p n = some r) :
    Calls Tryd.prog 5 #[] w (Gives w fun _ u => u = .bool r) := by
  unfold wardmotelaw31_WilsonKnown_p at h
  have hS0 := St.start w
  refine MX.start Tryd.func5 rfl rfl rfl (fun _ cs0 hb0 => ?_)
  refine MX.seq ?_
  refine MX.region ?_
  refine RG.val' .plain (FV.assign rfl) rfl ?_
  refine RG.nil ?_
  refine MX.seq ?_
  refine MX.seq ?_
  refine MX.region ?_
  obtain ⟨y1, hy1, h⟩ := bind_in h
  refine RG.callq' (v := .bool y1) (fst := []) (cap := []) .plain body9 rfl evs_nil (fun w9 hw9 => wardmotelaw31_works_c n _ w9 (hS0.hL0 hL hw9) (hG0.keep (hS0.ag.trans hw9)) hy1) rfl ?_
  refine RG.val' .plain (FV.not rfl) rfl ?_
  refine RG.nil ?_
  refine MX.ifnb rfl h (fun c2 h => ?_) (fun c2 h => ?_)
  ·skip
   refine MX.skip ?_
   refine MX.seq ?_
   refine MX.region ?_
   obtain ⟨y3, hy3, h⟩ := bind_in h
   refine RG.call' (fst := []) (cap := []) .plain body18 rfl evs_nil (fun w9 hw9 => wardmotelaw31_ring_c n _ w9 (hS0.hL hL hw9)  hy3) rfl (fun w4 vu5 hag6 ⟨v9, hu_, hr10⟩ => ?_)
   subst hu_
   have hS7 := hS0.agree hag6
   have hT8 := Tr.agree (O := []) hag6
   refine RG.val' .plain (FV.buildV (vs := [.int .u64 1099511627776]) (u := .agg #[.int .u64 1099511627776]) (evs_cons rfl evs_nil) (fun w9 => by kernel_rfl)) rfl ?_
   refine RG.new .plain rfl (Does.alloc (zs := [.int .i64 0, .slice none 0 0]) hS7 (zB (by kernel_rfl))) (fun w12 b15 hS13 hT14 => ?_)
   refine RG.new .plain rfl (Does.alloc (zs := [.int .u64 0]) hS13 (zB (by kernel_rfl))) (fun w17 b20 hS18 hT19 => ?_)
   have hm21 := Rep.mv hr10 (Tr.trans hT14 hT19)
   refine RG.now .plain (Acts.store (j := 0) (old := [.int .i64 0, .slice none 0 0]) (news := [.int .i64 y3.fN, v9]) (new' := [.int .i64 y3.fN, v9]) hS18 (.tl .hd) rfl rfl rfl rfl rfl rfl (ones_cons rfl (ones_cons (Rep.o1 hm21) ones_nil)) rfl) (fun w22 hS23 hT24 => ?_)
   refine RG.now .plain (Acts.store (j := 0) (old := [.int .u64 0]) (news := [.int .u64 1099511627776]) (new' := [.int .u64 1099511627776]) hS23 .hd rfl rfl rfl rfl rfl rfl (ones_cons rfl ones_nil) rfl) (fun w25 hS26 hT27 => ?_)
   refine RG.nil ?_
   refine MX.seq ?_
   refine MX.region ?_
   refine RG.val' .plain (FV.buildV (vs := [.int .i64 1, .int .i64 0]) (u := .agg #[.int .i64 1, .int .i64 0]) (evs_cons rfl (evs_cons rfl evs_nil)) (fun w9 => by kernel_rfl)) rfl ?_
   refine RG.new .plain rfl (Does.build (α := Int × Int) (xs := ([(1, 0)] : List (Int × Int))) (vs := [.agg #[.int .i64 1, .int .i64 0]]) (ds' := [.int .i64 1, .int .i64 0]) rfl hS26 el38 rfl (evs_cons rfl evs_nil) (by kernel_rfl) rfl) (fun w29 b32 hS30 hT31 => ?_)
   have hc33 : Cells w29 (bl [.row w.heap.size 46 (Rep.size (Int × Int)) (.slice (some ⟨b32, 0, none⟩) 1 1) (([(1, 0)] : List (Int × Int)).length) [.int .i64 1, .int .i64 0], .cells b20 [.int .u64 1099511627776] 37, .cells b15 [.int .i64 y3.fN, v9] 40] ++ L) [.int .i64 1, .int .i64 0] (([(1, 0)] : List (Int × Int)) : List (Int × Int)) := Cells.cons (cs := [.int .i64 1, .int .i64 0]) (ds := []) (mk_A46 1 0) (Cells.nil _ _)
   refine RG.val' .plain (FV.buildV (vs := [.int .i64 2, (.slice (some ⟨b32, 0, none⟩) 1 1)]) (u := .agg #[.int .i64 2, (.slice (some ⟨b32, 0, none⟩) 1 1)]) (evs_cons rfl (evs_cons rfl evs_nil)) (fun w9 => by kernel_rfl)) rfl ?_
   refine RG.new .plain rfl (Does.alloc (zs := [.int .i64 0, .slice none 0 0]) hS30 (zB (by kernel_rfl))) (fun w35 b38 hS36 hT37 => ?_)
   refine RG.now .plain (Acts.store (j := 0) (old := [.int .i64 0, .slice none 0 0]) (news := [.int .i64 2, (.slice (some ⟨b32, 0, none⟩) 1 1)]) (new' := [.int .i64 2, (.slice (some ⟨b32, 0, none⟩) 1 1)]) hS36 .hd rfl rfl rfl rfl rfl rfl (ones_cons rfl (ones_cons (St.o1 (α := Int × Int) hS36 (.tl .hd)) ones_nil)) rfl) (fun w39 hS40 hT41 => ?_)
   refine RG.nil ?_
   refine MX.seq ?_
   refine MX.join (α := Bool) (fun q7535 => [(1, .pointer (some ⟨b15, 0, none⟩)), (2, .pointer (some ⟨b20, 0, none⟩)), (3, .pointer (some ⟨b38, 0, none⟩)), (4, .bool q7535)]) (fun q7535 wx7535 => St w wx7535 [.cells b38 [.int .i64 2, (.slice (some ⟨b32, 0, none⟩) 1 1)] 40, .row w.heap.size 46 (Rep.size (Int × Int)) (.slice (some ⟨b32, 0, none⟩) 1 1) (([(1, 0)] : List (Int × Int)).length) [.int .i64 1, .int .i64 0], .cells b20 [.int .u64 1099511627776] 37, .cells b15 [.int .i64 y3.fN, v9] 40] ∧ Tr w39 [.cells b38 [.int .i64 2, (.slice (some ⟨b32, 0, none⟩) 1 1)] 40, .row w.heap.size 46 (Rep.size (Int × Int)) (.slice (some ⟨b32, 0, none⟩) 1 1) (([(1, 0)] : List (Int × Int)).length) [.int .i64 1, .int .i64 0], .cells b20 [.int .u64 1099511627776] 37, .cells b15 [.int .i64 y3.fN, v9] 40] wx7535 [.cells b38 [.int .i64 2, (.slice (some ⟨b32, 0, none⟩) 1 1)] 40, .row w.heap.size 46 (Rep.size (Int × Int)) (.slice (some ⟨b32, 0, none⟩) 1 1) (([(1, 0)] : List (Int × Int)).length) [.int .i64 1, .int .i64 0], .cells b20 [.int .u64 1099511627776] 37, .cells b15 [.int .i64 y3.fN, v9] 40]) (fun q7535 => q7535) h ?_ ?_
   ·skip
    rintro q7535 wx7535 ⟨hS7536, hT7537⟩ h
    try dsimp only at h
    refine MX.seq ?_
    refine MX.join (α := Bool × (List (Int × Int)) × Value) (fun ⟨q7740, xs7741, v7742⟩ => [(1, .pointer (some ⟨b15, 0, none⟩)), (2, .pointer (some ⟨b20, 0, none⟩)), (3, .pointer (some ⟨b38, 0, none⟩)), (4, .bool q7740)]) (fun ⟨q7740, xs7741, v7742⟩ wx7743 => St w wx7743 [.cells b38 [.int .i64 2, v7742] 40, .cells b20 [.int .u64 1099511627776] 37, .cells b15 [.int .i64 y3.fN, v9] 40] ∧ Tr wx7535 [.cells b38 [.int .i64 2, (.slice (some ⟨b32, 0, none⟩) 1 1)] 40, .row w.heap.size 46 (Rep.size (Int × Int)) (.slice (some ⟨b32, 0, none⟩) 1 1) (([(1, 0)] : List (Int × Int)).length) [.int .i64 1, .int .i64 0], .cells b20 [.int .u64 1099511627776] 37, .cells b15 [.int .i64 y3.fN, v9] 40] wx7743 [.cells b38 [.int .i64 2, v7742] 40, .cells b20 [.int .u64 1099511627776] 37, .cells b15 [.int .i64 y3.fN, v9] 40] ∧ Rep.R wx7743 (bl [.cells b38 [.int .i64 2, v7742] 40, .cells b20 [.int .u64 1099511627776] 37, .cells b15 [.int .i64 y3.fN, v9] 40] ++ L) [v7742] xs7741) (fun ⟨q7740, xs7741, v7742⟩ => (q7740, xs7741)) h ?_ ?_
    ·skip
     rintro ⟨q7740, xs7741, v7742⟩ wx7743 ⟨hS7744, hT7745, hr7743⟩ h
     try dsimp only at h
     refine MX.seq ?_
     refine MX.join (α := Bool) (fun q7840 => [(2, .pointer (some ⟨b20, 0, none⟩)), (4, .bool q7840)]) (fun q7840 wx7840 => St w wx7840 [.cells b20 [.int .u64 1099511627776] 37] ∧ Tr wx7743 [.cells b38 [.int .i64 2, v7742] 40, .cells b20 [.int .u64 1099511627776] 37, .cells b15 [.int .i64 y3.fN, v9] 40] wx7840 [.cells b20 [.int .u64 1099511627776] 37]) (fun q7840 => q7840) h ?_ ?_
     ·skip
      rintro q7840 wx7840 ⟨hS7841, hT7842⟩ h
      try dsimp only at h
      refine MX.seq ?_
      refine MX.region ?_
      refine RG.val' .plain (FV.buildV (vs := [.int .i64 64]) (u := .agg #[.int .i64 64, .slice none 0 0]) (evs_cons rfl evs_nil) (fun w9 => by kernel_rfl)) rfl ?_
      refine RG.new .plain rfl (Does.alloc (zs := [.int .i64 0, .slice none 0 0]) hS7841 (zB (by kernel_rfl))) (fun w7847 b7850 hS7848 hT7849 => ?_)
      refine RG.now .plain (Acts.store (j := 0) (old := [.int .i64 0, .slice none 0 0]) (news := [.int .i64 64, .slice none 0 0]) (new' := [.int .i64 64, .slice none 0 0]) hS7848 .hd rfl rfl rfl rfl rfl rfl (ones_cons rfl (ones_cons rfl ones_nil)) rfl) (fun w7851 hS7852 hT7853 => ?_)
      refine RG.nil ?_
      refine MX.seq ?_
      refine MX.seq ?_
      refine MX.region ?_
      refine RG.val' .plain (FV.move rfl) rfl ?_
      refine RG.nil ?_
      refine MX.block ?_
      have hS7855 := hS7852.nilRow 46 (Rep.size (Int × Int))
      have hT7856 := Tr.nilRow (w := w7851) (O := [.cells b7850 [.int .i64 64, .slice none 0 0] 40, .cells b20 [.int .u64 1099511627776] 37]) w.heap.size 46 (Rep.size (Int × Int))
      have hc7857 : Cells w7851 (bl [.row w.heap.size 46 (Rep.size (Int × Int)) (.slice none 0 0) (([] : List (Int × Int)).length) [], .cells b7850 [.int .i64 64, .slice none 0 0] 40, .cells b20 [.int .u64 1099511627776] 37] ++ L) [] ([] : List (Int × Int)) := Cells.nil _ _
      obtain ⟨o7918, ho7917, hh7919⟩ := bind_in2 h
      refine MX.loop (α := Nat × (List (Int × Int)) × Value × (List Value)) (fun ⟨i7908, xs7909, v7912, cs7910⟩ => [(2, .pointer (some ⟨b20, 0, none⟩)), (4, .bool q7840), (5, .pointer (some ⟨b7850, 0, none⟩)), (198, .int .i64 ((i7908 : Nat) : Int))]) (fun ⟨i7908, xs7909, v7912, cs7910⟩ wx7912 => St w wx7912 [.row w.heap.size 46 (Rep.size (Int × Int)) v7912 xs7909.length cs7910, .cells b7850 [.int .i64 64, v7912] 40, .cells b20 [.int .u64 1099511627776] 37] ∧ Tr w7851 [.row w.heap.size 46 (Rep.size (Int × Int)) (.slice none 0 0) (([] : List (Int × Int)).length) [], .cells b7850 [.int .i64 64, (.slice none 0 0)] 40, .cells b20 [.int .u64 1099511627776] 37] wx7912 [.row w.heap.size 46 (Rep.size (Int × Int)) v7912 xs7909.length cs7910, .cells b7850 [.int .i64 64, v7912] 40, .cells b20 [.int .u64 1099511627776] 37] ∧ Cells wx7912 (bl [.row w.heap.size 46 (Rep.size (Int × Int)) v7912 xs7909.length cs7910, .cells b7850 [.int .i64 64, v7912] 40, .cells b20 [.int .u64 1099511627776] 37] ++ L) cs7910 xs7909) (fun ⟨i7908, xs7909, v7912, cs7910⟩ => (i7908, xs7909)) (0, ([] : List (Int × Int)), (.slice none 0 0), []) ho7917 ⟨rfl, rfl, rfl, rfl, trivial⟩ ⟨hS7855, Tr.refl _ _, hc7857⟩ ?_
      rintro J7920 ⟨i7908, xs7909, v7912, cs7910⟩ wx7912 hJ7921 ⟨hS7913, hT7914, hc7911⟩ h
      unfold wardmotelaw31_WilsonKnown_l1 at h
      try dsimp only at h
      refine MX.seq ?_
      refine MX.region ?_
      refine RG.val' .plain (FV.lssN (i := i7908) (j := 63) rfl rfl) rfl ?_
      refine RG.nil ?_
      refine MX.seq ?_
      refine MX.ifd rfl h (fun c7922 h => ?_) (fun c7922 h => ?_)
      ·skip
       refine MX.skip ?_
       refine MX.seq ?_
       refine MX.block ?_
       refine MX.seq ?_
       refine MX.region ?_
       refine RG.val' .plain (FV.move rfl) rfl ?_
       refine RG.val' .plain (FV.assign rfl) rfl ?_
       refine RG.nil ?_
       refine MX.region ?_
       refine RG.val' .plain (FV.fieldAddr (off := 1) (by kernel_rfl) rfl) rfl ?_
       refine RG.val' .plain (FV.load1 (by kernel_rfl) rfl ((hS7913.memA (.tl .hd)) 1 _ rfl)) rfl ?_
       refine RG.val' .plain (FV.move rfl) rfl ?_
       refine RG.val' .plain (FV.move rfl) rfl ?_
       refine RG.val' .plain (FV.addN (i := i7908) (j := 1) rfl rfl (by omega)) rfl ?_
       refine RG.val' .plain (FV.buildV (vs := [.int .i64 ((i7908 : Nat) : Int), .int .i64 ((i7908 + 1 : Nat) : Int)]) (u := .agg #[.int .i64 ((i7908 : Nat) : Int), .int .i64 ((i7908 + 1 : Nat) : Int)]) (evs_cons rfl (evs_cons rfl evs_nil)) (fun w9 => by kernel_rfl)) rfl ?_
       refine RG.new .plain rfl (Does.build (α := Int × Int) (xs := ([(((i7908 : Nat) : Int), ((i7908 + 1 : Nat) : Int))] : List (Int × Int))) (vs := [.agg #[.int .i64 ((i7908 : Nat) : Int), .int .i64 ((i7908 + 1 : Nat) : Int)]]) (ds' := [.int .i64 ((i7908 : Nat) : Int), .int .i64 ((i7908 + 1 : Nat) : Int)]) rfl hS7913 el38 rfl (evs_cons rfl evs_nil) (by kernel_rfl) rfl) (fun w7924 b7927 hS7925 hT7926 => ?_)
       have hc7928 : Cells w7924 (bl [.row w.heap.size 46 (Rep.size (Int × Int)) (.slice (some ⟨b7927, 0, none⟩) 1 1) (([(((i7908 : Nat) : Int), ((i7908 + 1 : Nat) : Int))] : List (Int × Int)).length) [.int .i64 ((i7908 : Nat) : Int), .int .i64 ((i7908 + 1 : Nat) : Int)], .row w.heap.size 46 (Rep.size (Int × Int)) v7912 xs7909.length cs7910, .cells b7850 [.int .i64 64, v7912] 40, .cells b20 [.int .u64 1099511627776] 37] ++ L) [.int .i64 ((i7908 : Nat) : Int), .int .i64 ((i7908 + 1 : Nat) : Int)] (([(((i7908 : Nat) : Int), ((i7908 + 1 : Nat) : Int))] : List (Int × Int)) : List (Int × Int)) := Cells.cons (cs := [.int .i64 ((i7908 : Nat) : Int), .int .i64 ((i7908 + 1 : Nat) : Int)]) (ds := []) (mk_A46 ((i7908 : Nat) : Int) ((i7908 + 1 : Nat) : Int)) (Cells.nil _ _)
       obtain ⟨xs7929, hxs7929, h⟩ := bind_in h
       have hm7930 := Cells.mv hc7911 hT7926
       refine RG.doesL .plain rfl (DoesL.app (α := Int × Int) (ys := ([(((i7908 : Nat) : Int), ((i7908 + 1 : Nat) : Int))] : List (Int × Int))) (F := fun v' cs' => [.row w.heap.size 46 (Rep.size (Int × Int)) (.slice (some ⟨b7927, 0, none⟩) 1 1) (([(((i7908 : Nat) : Int), ((i7908 + 1 : Nat) : Int))] : List (Int × Int)).length) [.int .i64 ((i7908 : Nat) : Int), .int .i64 ((i7908 + 1 : Nat) : Int)], .row w.heap.size 46 (Rep.size (Int × Int)) v' xs7929.length cs', .cells b7850 [.int .i64 64, v7912] 40, .cells b20 [.int .u64 1099511627776] 37]) hxs7929 hS7925 (fun _ _ => (.tl .hd)) el38 rfl rfl hm7930 (Src.row (α := Int × Int) hS7925 .hd hc7928)) (fun v7936 w7931 ⟨cs7935, hS7932, hT7933, hc7934⟩ => ?_)
       refine RG.val' .plain (FV.fieldAddr (off := 1) (by kernel_rfl) rfl) rfl ?_
       refine RG.now .plain (Acts.store (j := 1) (old := [.int .i64 64, v7912]) (news := [v7936]) (new' := [.int .i64 64, v7936]) hS7932 (.tl (.tl .hd)) rfl rfl rfl (St.c1 (α := Int × Int) hS7932 (.tl .hd)) rfl rfl (ones_cons (St.o1 (α := Int × Int) hS7932 (.tl .hd)) ones_nil) rfl) (fun w7938 hS7939 hT7940 => ?_)
       refine RG.nil ?_
       refine MX.inBlock ?_
       refine MX.region ?_
       refine RG.val' .plain (FV.addN (i := i7908) (j := 1) rfl rfl (by omega)) rfl ?_
       refine RG.val' .plain (FV.move rfl) rfl ?_
       refine RG.nil ?_
       have hS7941 : St _ _ [.row w.heap.size 46 (Rep.size (Int × Int)) v7936 xs7929.length cs7935, .cells b7850 [.int .i64 64, v7936] 40, .cells b20 [.int .u64 1099511627776] 37] := hS7939.arr (.one (.tl .hd) (.one (.tl .hd) (.one (.tl .hd) .done)))
       have hT7942 : Tr w7938 _ w7938 [.row w.heap.size 46 (Rep.size (Int × Int)) v7936 xs7929.length cs7935, .cells b7850 [.int .i64 64, v7936] 40, .cells b20 [.int .u64 1099511627776] 37] := Tr.arr (St.arrOf hS7939 (.one (.tl .hd) (.one (.tl .hd) (.one (.tl .hd) .done))))
       have hm7943 := Cells.mv hc7934 (Tr.trans hT7940 hT7942)
       exact hJ7921 (i7908 + 1, xs7929, v7936, cs7935) _ _ ⟨rfl, rfl, rfl, rfl, trivial⟩ ⟨hS7941, (Tr.trans hT7914 (Tr.trans hT7926 (Tr.trans hT7933 (Tr.trans hT7940 hT7942)))), hm7943⟩ h
      ·skip
       refine MX.exit rfl ?_
       have h := hh7919 _ h
       try dsimp only at h
       refine MX.seq ?_
       refine MX.region ?_
       refine RG.val' .plain (FV.loadN (cs := [.int .i64 64, v7912]) (by kernel_rfl) rfl (hS7913.memA (.tl .hd))) rfl ?_
       refine RG.val' .plain (FV.loadN (cs := [.int .u64 1099511627776]) (by kernel_rfl) rfl (hS7913.memA (.tl (.tl .hd)))) rfl ?_
       have hr7945 := St.freeze (α := Int × Int) hS7913 .hd hc7911 hL
       have hS7946 := hS7913.del (.hd : Out _ _ _).del
       have hT7947 := Tr.del (w := wx7912) (.hd : Out [.row w.heap.size 46 (Rep.size (Int × Int)) v7912 xs7909.length cs7910, .cells b7850 [.int .i64 64, v7912] 40, .cells b20 [.int .u64 1099511627776] 37] _ _).del
       have hr7948 : Rep.R wx7912 (bl [.cells b7850 [.int .i64 64, v7912] 40, .cells b20 [.int .u64 1099511627776] 37] ++ L) [v7912] xs7909 := hr7945
       obtain ⟨y7944, hy7944, h⟩ := bind_in h
       refine RG.call' (fst := []) (cap := []) .plain body14 rfl (evs_cons rfl (evs_cons rfl (evs_cons rfl evs_nil))) (fun w9 hw9 => wilson_Draw_c n _ w9 (hS7946.hL hL hw9) (⟨64, xs7909⟩ : TGraph) (Rep.keep0 hr7948 hw9) (18446744073709551615 : UInt64) (⟨(1099511627776 : UInt64)⟩ : TChance) (hG0.keep (hS7946.ag.trans hw9)) hy7944) rfl (fun w7949 vu7950 hag7951 ⟨v7954, hu_, hr7955⟩ => ?_)
       subst hu_
       have hS7952 := hS7946.agree hag7951
       have hT7953 := Tr.agree (O := [.cells b7850 [.int .i64 64, v7912] 40, .cells b20 [.int .u64 1099511627776] 37]) hag7951
       refine RG.val' .plain (FV.move rfl) rfl ?_
       refine RG.val' .plain (FV.extract rfl rfl) rfl ?_
       refine RG.val' .plain (FV.extract rfl rfl) rfl ?_
       refine RG.val' .plain (FV.extract rfl rfl) rfl ?_
       refine RG.new .plain rfl (Does.alloc (zs := [.int .u64 0]) hS7952 (zB (by kernel_rfl))) (fun w7957 b7960 hS7958 hT7959 => ?_)
       refine RG.val' .plain (FV.assign rfl) rfl ?_
       refine RG.now .plain (Acts.store (j := 0) (old := [.int .u64 0]) (news := [.int .u64 (y7944.2.1.fState.toNat : Int)]) (new' := [.int .u64 (y7944.2.1.fState.toNat : Int)]) hS7958 .hd rfl rfl rfl rfl rfl rfl (ones_cons rfl ones_nil) rfl) (fun w7961 hS7962 hT7963 => ?_)
       refine RG.val' .plain (FV.assign rfl) rfl ?_
       refine RG.nil ?_
       refine MX.seq ?_
       refine MX.region ?_
       refine RG.val' .plain (FV.loadN (cs := [.int .i64 64, v7912]) (by kernel_rfl) rfl (hS7962.memA (.tl .hd))) rfl ?_
       refine RG.val' .plain (FV.loadN (cs := [.int .u64 1099511627776]) (by kernel_rfl) rfl (hS7962.memA (.tl (.tl .hd)))) rfl ?_
       obtain ⟨y7964, hy7964, h⟩ := bind_in h
       have hm7965 := Rep.mv hr7948 (Tr.trans hT7953 (Tr.trans hT7959 hT7963))
       refine RG.call' (fst := []) (cap := []) .plain body15 rfl (evs_cons rfl (evs_cons rfl (evs_cons rfl (evs_cons rfl (evs_cons rfl evs_nil))))) (fun w9 hw9 => wilson_Walk_c n _ w9 (hS7962.hL hL hw9) (⟨64, xs7909⟩ : TGraph) (Rep.keep0 hm7965 hw9) (18446744073709551615 : UInt64) 63 (1 : UInt64) (⟨(1099511627776 : UInt64)⟩ : TChance) (hG0.keep (hS7962.ag.trans hw9)) hy7964) rfl (fun w7966 vu7967 hag7968 ⟨v7971, hu_, hr7972⟩ => ?_)
       subst hu_
       have hS7969 := hS7962.agree hag7968
       have hT7970 := Tr.agree (O := [.cells b7960 [.int .u64 (y7944.2.1.fState.toNat : Int)] 37, .cells b7850 [.int .i64 64, v7912] 40, .cells b20 [.int .u64 1099511627776] 37]) hag7968
       refine RG.val' .plain (FV.move rfl) rfl ?_
       refine RG.val' .plain (FV.extract rfl rfl) rfl ?_
       refine RG.val' .plain (FV.extract rfl rfl) rfl ?_
       refine RG.val' .plain (FV.extract rfl rfl) rfl ?_
       refine RG.new .plain rfl (Does.alloc (zs := [.int .u64 0]) hS7969 (zB (by kernel_rfl))) (fun w7974 b7977 hS7975 hT7976 => ?_)
       refine RG.val' .plain (FV.assign rfl) rfl ?_
       refine RG.now .plain (Acts.store (j := 0) (old := [.int .u64 0]) (news := [.int .u64 (y7964.2.1.fState.toNat : Int)]) (new' := [.int .u64 (y7964.2.1.fState.toNat : Int)]) hS7975 .hd rfl rfl rfl rfl rfl rfl (ones_cons rfl ones_nil) rfl) (fun w7978 hS7979 hT7980 => ?_)
       refine RG.val' .plain (FV.assign rfl) rfl ?_
       refine RG.nil ?_
       refine MX.seq ?_
       refine MX.region ?_
       refine RG.val' .plain (FV.move rfl) rfl ?_
       obtain ⟨y7981, hy7981, h⟩ := bind_in h
       refine RG.callq' (v := .bool y7981) (fst := []) (cap := []) (.yes rfl rfl) body9 rfl evs_nil (fun w9 hw9 => wardmotelaw31_works_c n _ w9 (hS7979.hL0 hL hw9) (hG0.keep (hS7979.ag.trans hw9)) hy7981) rfl ?_
       refine RG.val' .plain (FV.pick_t rfl rfl) rfl ?_
       refine RG.val' .plain (FV.move rfl) rfl ?_
       refine RG.ifb (s := 228) rfl h (fun c7982 h => ?_) (fun c7982 h => ?_)
       ·skip
        refine RG.val' (.yes rfl rfl) (FV.move rfl) rfl ?_
        refine RG.val' .plain (FV.pick_t rfl rfl) rfl ?_
        refine RG.val' .plain (FV.move rfl) rfl ?_
        refine RG.ifb (s := 231) rfl h (fun c7983 h => ?_) (fun c7983 h => ?_)
        ·skip
         refine RG.val' (.yes rfl rfl) (FV.move rfl) rfl ?_
         refine RG.val' (.yes rfl rfl) (FV.eql (i := y7944.2.2) (j := 0) rfl rfl) rfl ?_
         refine RG.val' (.yes rfl rfl) (FV.move rfl) rfl ?_
         refine RG.ifd (s := 234) rfl h (fun c7984 h => ?_) (fun c7984 h => ?_)
         ·skip
          refine RG.val' (.yes rfl rfl) (FV.move rfl) rfl ?_
          have hm7986 := Rep.mv hr7955 (Tr.trans hT7959 (Tr.trans hT7963 (Tr.trans hT7970 (Tr.trans hT7976 hT7980))))
          have hl7985 : y7944.1.length ≤ 281474976710656 := Rep.lenle hm7986
          refine RG.val' (.yes rfl rfl) (FV.len (xs := y7944.1) Tryd.underlying22 rfl hm7986) rfl ?_
          refine RG.val' (.yes rfl rfl) (FV.eqlN (i := y7944.1.length) (j := 63) rfl rfl) rfl ?_
          refine RG.val' (.yes rfl rfl) (FV.pick_t rfl rfl) rfl ?_
          refine RG.val' (.yes rfl rfl) (FV.move rfl) rfl ?_
          refine RG.ifd (s := 239) rfl h (fun c7987 h => ?_) (fun c7987 h => ?_)
          ·skip
           refine RG.val' (.yes rfl rfl) (FV.move rfl) rfl ?_
           obtain ⟨x7988, hx7988, h⟩ := bind_in h
           obtain ⟨A7989, c7990, he7991, hk7992, cs7993, hr7994, hm7995⟩ := Rep.nth hm7986 hx7988
           have he7996 : cs7993 = [.int .i64 x7988] := hr7994; subst he7996
           refine RG.val' (.yes rfl rfl) (FV.idxAddr (m := 1) (i := 62) (by kernel_rfl) rfl he7991 rfl rfl hk7992) rfl ?_
           refine RG.val' (.yes rfl rfl) (FV.load1 (by kernel_rfl) rfl (hm7995 0 _ rfl)) rfl ?_
           refine RG.val' (.yes rfl rfl) (FV.eql (i := x7988) (j := 62) rfl rfl) rfl ?_
           refine RG.val' (.yes rfl rfl) (FV.pick_t rfl rfl) rfl ?_
           refine RG.val' (.yes rfl rfl) (FV.move rfl) rfl ?_
           refine RG.ifd (s := 245) rfl h (fun c7997 h => ?_) (fun c7997 h => ?_)
           ·skip
            refine RG.off (.no rfl rfl) rfl ?_
            refine RG.off (.no rfl rfl) rfl ?_
            refine RG.val' (.yes rfl rfl) (FV.pick_t rfl rfl) rfl ?_
            refine RG.val' .plain (FV.pick_t rfl rfl) rfl ?_
            refine RG.val' .plain (FV.move rfl) rfl ?_
            refine RG.val' (.yes rfl rfl) (FV.move rfl) rfl ?_
            refine RG.val' (.yes rfl rfl) (FV.eql (i := y7964.2.2) (j := 0) rfl rfl) rfl ?_
            refine RG.val' (.yes rfl rfl) (FV.move rfl) rfl ?_
            refine RG.ifd (s := 253) rfl h (fun c7998 h => ?_) (fun c7998 h => ?_)
            ·skip
             refine RG.off (.no rfl rfl) rfl ?_
             refine RG.off (.no rfl rfl) rfl ?_
             refine RG.val' (.yes rfl rfl) (FV.pick_t rfl rfl) rfl ?_
             refine RG.val' .plain (FV.pick_t rfl rfl) rfl ?_
             refine RG.val' .plain (FV.assign rfl) rfl ?_
             refine RG.nil ?_
             refine MX.ret rfl ?_
             refine RT.leave (u := .bool true) hb0 Tryd.func5 rfl (.cons (.tmp rfl) .nil) rfl ?_
             obtain rfl := Option.some.inj h
             exact ⟨hS7979.ag, fun w9 hw9 => rfl⟩
            ·skip
             refine RG.val' (.yes rfl rfl) (FV.move rfl) rfl ?_
             refine RG.val' (.yes rfl rfl) (FV.eql (i := y7964.2.2) (j := 9) rfl rfl) rfl ?_
             refine RG.val' (.yes rfl rfl) (FV.pick_f rfl rfl) rfl ?_
             refine RG.val' .plain (FV.pick_t rfl rfl) rfl ?_
             refine RG.val' .plain (FV.assign rfl) rfl ?_
             refine RG.nil ?_
             refine MX.ret rfl ?_
             refine RT.leave (u := .bool (decide (y7964.2.2 = 9))) hb0 Tryd.func5 rfl (.cons (.tmp rfl) .nil) rfl ?_
             obtain rfl := Option.some.inj h
             exact ⟨hS7979.ag, fun w9 hw9 => rfl⟩
           ·skip
            refine RG.val' (.yes rfl rfl) (FV.move rfl) rfl ?_
            refine RG.val' (.yes rfl rfl) (FV.eql (i := y7944.2.2) (j := 9) rfl rfl) rfl ?_
            refine RG.val' (.yes rfl rfl) (FV.pick_f rfl rfl) rfl ?_
            refine RG.val' .plain (FV.pick_t rfl rfl) rfl ?_
            refine RG.val' .plain (FV.move rfl) rfl ?_
            refine RG.ifd (s := 250) rfl h (fun c7999 h => ?_) (fun c7999 h => ?_)
            ·skip
             refine RG.val' (.yes rfl rfl) (FV.move rfl) rfl ?_
             refine RG.val' (.yes rfl rfl) (FV.eql (i := y7964.2.2) (j := 0) rfl rfl) rfl ?_
             refine RG.val' (.yes rfl rfl) (FV.move rfl) rfl ?_
             refine RG.ifd (s := 253) rfl h (fun c8000 h => ?_) (fun c8000 h => ?_)
             ·skip
              refine RG.off (.no rfl rfl) rfl ?_
              refine RG.off (.no rfl rfl) rfl ?_
              refine RG.val' (.yes rfl rfl) (FV.pick_t rfl rfl) rfl ?_
              refine RG.val' .plain (FV.pick_t rfl rfl) rfl ?_
              refine RG.val' .plain (FV.assign rfl) rfl ?_
              refine RG.nil ?_
              refine MX.ret rfl ?_
              refine RT.leave (u := .bool true) hb0 Tryd.func5 rfl (.cons (.tmp rfl) .nil) rfl ?_
              obtain rfl := Option.some.inj h
              exact ⟨hS7979.ag, fun w9 hw9 => rfl⟩
             ·skip
              refine RG.val' (.yes rfl rfl) (FV.move rfl) rfl ?_
              refine RG.val' (.yes rfl rfl) (FV.eql (i := y7964.2.2) (j := 9) rfl rfl) rfl ?_
              refine RG.val' (.yes rfl rfl) (FV.pick_f rfl rfl) rfl ?_
              refine RG.val' .plain (FV.pick_t rfl rfl) rfl ?_
              refine RG.val' .plain (FV.assign rfl) rfl ?_
              refine RG.nil ?_
              refine MX.ret rfl ?_
              refine RT.leave (u := .bool (decide (y7964.2.2 = 9))) hb0 Tryd.func5 rfl (.cons (.tmp rfl) .nil) rfl ?_
              obtain rfl := Option.some.inj h
              exact ⟨hS7979.ag, fun w9 hw9 => rfl⟩
            ·skip
             refine RG.off (.no rfl rfl) rfl ?_
             refine RG.off (.no rfl rfl) rfl ?_
             refine RG.off (.no rfl rfl) rfl ?_
             refine RG.off (.undef rfl rfl) rfl ?_
             refine RG.off (.undef rfl rfl) rfl ?_
             refine RG.off (.no rfl rfl) rfl ?_
             refine RG.val' .plain (FV.pick_f rfl rfl) rfl ?_
             refine RG.val' .plain (FV.assign rfl) rfl ?_
             refine RG.nil ?_
             refine MX.ret rfl ?_
             refine RT.leave (u := .bool false) hb0 Tryd.func5 rfl (.cons (.tmp rfl) .nil) rfl ?_
             obtain rfl := Option.some.inj h
             exact ⟨hS7979.ag, fun w9 hw9 => rfl⟩
          ·skip
           refine RG.off (.no rfl rfl) rfl ?_
           refine RG.off (.no rfl rfl) rfl ?_
           refine RG.off (.no rfl rfl) rfl ?_
           refine RG.off (.no rfl rfl) rfl ?_
           refine RG.val' (.yes rfl rfl) (FV.pick_f rfl rfl) rfl ?_
           refine RG.val' (.yes rfl rfl) (FV.move rfl) rfl ?_
           refine RG.val' (.yes rfl rfl) (FV.move rfl) rfl ?_
           refine RG.val' (.yes rfl rfl) (FV.eql (i := y7944.2.2) (j := 9) rfl rfl) rfl ?_
           refine RG.val' (.yes rfl rfl) (FV.pick_f rfl rfl) rfl ?_
           refine RG.val' .plain (FV.pick_t rfl rfl) rfl ?_
           refine RG.val' .plain (FV.move rfl) rfl ?_
           refine RG.ifd (s := 250) rfl h (fun c8001 h => ?_) (fun c8001 h => ?_)
           ·skip
            refine RG.val' (.yes rfl rfl) (FV.move rfl) rfl ?_
            refine RG.val' (.yes rfl rfl) (FV.eql (i := y7964.2.2) (j := 0) rfl rfl) rfl ?_
            refine RG.val' (.yes rfl rfl) (FV.move rfl) rfl ?_
            refine RG.ifd (s := 253) rfl h (fun c8002 h => ?_) (fun c8002 h => ?_)
            ·skip
             refine RG.off (.no rfl rfl) rfl ?_
             refine RG.off (.no rfl rfl) rfl ?_
             refine RG.val' (.yes rfl rfl) (FV.pick_t rfl rfl) rfl ?_
             refine RG.val' .plain (FV.pick_t rfl rfl) rfl ?_
             refine RG.val' .plain (FV.assign rfl) rfl ?_
             refine RG.nil ?_
             refine MX.ret rfl ?_
             refine RT.leave (u := .bool true) hb0 Tryd.func5 rfl (.cons (.tmp rfl) .nil) rfl ?_
             obtain rfl := Option.some.inj h
             exact ⟨hS7979.ag, fun w9 hw9 => rfl⟩
            ·skip
             refine RG.val' (.yes rfl rfl) (FV.move rfl) rfl ?_
             refine RG.val' (.yes rfl rfl) (FV.eql (i := y7964.2.2) (j := 9) rfl rfl) rfl ?_
             refine RG.val' (.yes rfl rfl) (FV.pick_f rfl rfl) rfl ?_
             refine RG.val' .plain (FV.pick_t rfl rfl) rfl ?_
             refine RG.val' .plain (FV.assign rfl) rfl ?_
             refine RG.nil ?_
             refine MX.ret rfl ?_
             refine RT.leave (u := .bool (decide (y7964.2.2 = 9))) hb0 Tryd.func5 rfl (.cons (.tmp rfl) .nil) rfl ?_
             obtain rfl := Option.some.inj h
             exact ⟨hS7979.ag, fun w9 hw9 => rfl⟩
           ·skip
            refine RG.off (.no rfl rfl) rfl ?_
            refine RG.off (.no rfl rfl) rfl ?_
            refine RG.off (.no rfl rfl) rfl ?_
            refine RG.off (.undef rfl rfl) rfl ?_
            refine RG.off (.undef rfl rfl) rfl ?_
            refine RG.off (.no rfl rfl) rfl ?_
            refine RG.val' .plain (FV.pick_f rfl rfl) rfl ?_
            refine RG.val' .plain (FV.assign rfl) rfl ?_
            refine RG.nil ?_
            refine MX.ret rfl ?_
            refine RT.leave (u := .bool false) hb0 Tryd.func5 rfl (.cons (.tmp rfl) .nil) rfl ?_
            obtain rfl := Option.some.inj h
            exact ⟨hS7979.ag, fun w9 hw9 => rfl⟩
         ·skip
          refine RG.off (.no rfl rfl) rfl ?_
          refine RG.off (.no rfl rfl) rfl ?_
          refine RG.off (.no rfl rfl) rfl ?_
          refine RG.val' (.yes rfl rfl) (FV.pick_f rfl rfl) rfl ?_
          refine RG.val' (.yes rfl rfl) (FV.move rfl) rfl ?_
          refine RG.off (.no rfl rfl) rfl ?_
          refine RG.off (.no rfl rfl) rfl ?_
          refine RG.off (.no rfl rfl) rfl ?_
          refine RG.off (.no rfl rfl) rfl ?_
          refine RG.val' (.yes rfl rfl) (FV.pick_f rfl rfl) rfl ?_
          refine RG.val' (.yes rfl rfl) (FV.move rfl) rfl ?_
          refine RG.val' (.yes rfl rfl) (FV.move rfl) rfl ?_
          refine RG.val' (.yes rfl rfl) (FV.eql (i := y7944.2.2) (j := 9) rfl rfl) rfl ?_
          refine RG.val' (.yes rfl rfl) (FV.pick_f rfl rfl) rfl ?_
          refine RG.val' .plain (FV.pick_t rfl rfl) rfl ?_
          refine RG.val' .plain (FV.move rfl) rfl ?_
          refine RG.ifd (s := 250) rfl h (fun c8003 h => ?_) (fun c8003 h => ?_)
          ·skip
           refine RG.val' (.yes rfl rfl) (FV.move rfl) rfl ?_
           refine RG.val' (.yes rfl rfl) (FV.eql (i := y7964.2.2) (j := 0) rfl rfl) rfl ?_
           refine RG.val' (.yes rfl rfl) (FV.move rfl) rfl ?_
           refine RG.ifd (s := 253) rfl h (fun c8004 h => ?_) (fun c8004 h => ?_)
           ·skip
            refine RG.off (.no rfl rfl) rfl ?_
            refine RG.off (.no rfl rfl) rfl ?_
            refine RG.val' (.yes rfl rfl) (FV.pick_t rfl rfl) rfl ?_
            refine RG.val' .plain (FV.pick_t rfl rfl) rfl ?_
            refine RG.val' .plain (FV.assign rfl) rfl ?_
            refine RG.nil ?_
            refine MX.ret rfl ?_
            refine RT.leave (u := .bool true) hb0 Tryd.func5 rfl (.cons (.tmp rfl) .nil) rfl ?_
            obtain rfl := Option.some.inj h
            exact ⟨hS7979.ag, fun w9 hw9 => rfl⟩
           ·skip
            refine RG.val' (.yes rfl rfl) (FV.move rfl) rfl ?_
            refine RG.val' (.yes rfl rfl) (FV.eql (i := y7964.2.2) (j := 9) rfl rfl) rfl ?_
            refine RG.val' (.yes rfl rfl) (FV.pick_f rfl rfl) rfl ?_
            refine RG.val' .plain (FV.pick_t rfl rfl) rfl ?_
            refine RG.val' .plain (FV.assign rfl) rfl ?_
            refine RG.nil ?_
            refine MX.ret rfl ?_
            refine RT.leave (u := .bool (decide (y7964.2.2 = 9))) hb0 Tryd.func5 rfl (.cons (.tmp rfl) .nil) rfl ?_
            obtain rfl := Option.some.inj h
            exact ⟨hS7979.ag, fun w9 hw9 => rfl⟩
          ·skip
           refine RG.off (.no rfl rfl) rfl ?_
           refine RG.off (.no rfl rfl) rfl ?_
           refine RG.off (.no rfl rfl) rfl ?_
           refine RG.off (.undef rfl rfl) rfl ?_
           refine RG.off (.undef rfl rfl) rfl ?_
           refine RG.off (.no rfl rfl) rfl ?_
           refine RG.val' .plain (FV.pick_f rfl rfl) rfl ?_
           refine RG.val' .plain (FV.assign rfl) rfl ?_
           refine RG.nil ?_
           refine MX.ret rfl ?_
           refine RT.leave (u := .bool false) hb0 Tryd.func5 rfl (.cons (.tmp rfl) .nil) rfl ?_
           obtain rfl := Option.some.inj h
           exact ⟨hS7979.ag, fun w9 hw9 => rfl⟩
        ·skip
         refine RG.off (.no rfl rfl) rfl ?_
         refine RG.off (.no rfl rfl) rfl ?_
         refine RG.off (.no rfl rfl) rfl ?_
         refine RG.off (.undef rfl rfl) rfl ?_
         refine RG.off (.undef rfl rfl) rfl ?_
         refine RG.off (.undef rfl rfl) rfl ?_
         refine RG.off (.no rfl rfl) rfl ?_
         refine RG.off (.no rfl rfl) rfl ?_
         refine RG.off (.undef rfl rfl) rfl ?_
         refine RG.off (.undef rfl rfl) rfl ?_
         refine RG.off (.undef rfl rfl) rfl ?_
         refine RG.off (.undef rfl rfl) rfl ?_
         refine RG.off (.no rfl rfl) rfl ?_
         refine RG.off (.no rfl rfl) rfl ?_
         refine RG.off (.undef rfl rfl) rfl ?_
         refine RG.off (.undef rfl rfl) rfl ?_
         refine RG.off (.no rfl rfl) rfl ?_
         refine RG.val' .plain (FV.pick_f rfl rfl) rfl ?_
         refine RG.val' .plain (FV.move rfl) rfl ?_
         refine RG.off (.no rfl rfl) rfl ?_
         refine RG.off (.no rfl rfl) rfl ?_
         refine RG.off (.no rfl rfl) rfl ?_
         refine RG.off (.undef rfl rfl) rfl ?_
         refine RG.off (.undef rfl rfl) rfl ?_
         refine RG.off (.no rfl rfl) rfl ?_
         refine RG.val' .plain (FV.pick_f rfl rfl) rfl ?_
         refine RG.val' .plain (FV.assign rfl) rfl ?_
         refine RG.nil ?_
         refine MX.ret rfl ?_
         refine RT.leave (u := .bool false) hb0 Tryd.func5 rfl (.cons (.tmp rfl) .nil) rfl ?_
         obtain rfl := Option.some.inj h
         exact ⟨hS7979.ag, fun w9 hw9 => rfl⟩
       ·skip
        refine RG.off (.no rfl rfl) rfl ?_
        refine RG.val' .plain (FV.pick_f rfl rfl) rfl ?_
        refine RG.val' .plain (FV.move rfl) rfl ?_
        refine RG.off (.no rfl rfl) rfl ?_
        refine RG.off (.no rfl rfl) rfl ?_
        refine RG.off (.no rfl rfl) rfl ?_
        refine RG.off (.undef rfl rfl) rfl ?_
        refine RG.off (.undef rfl rfl) rfl ?_
        refine RG.off (.undef rfl rfl) rfl ?_
        refine RG.off (.no rfl rfl) rfl ?_
        refine RG.off (.no rfl rfl) rfl ?_
        refine RG.off (.undef rfl rfl) rfl ?_
        refine RG.off (.undef rfl rfl) rfl ?_
        refine RG.off (.undef rfl rfl) rfl ?_
        refine RG.off (.undef rfl rfl) rfl ?_
        refine RG.off (.no rfl rfl) rfl ?_
        refine RG.off (.no rfl rfl) rfl ?_
        refine RG.off (.undef rfl rfl) rfl ?_
        refine RG.off (.undef rfl rfl) rfl ?_
        refine RG.off (.no rfl rfl) rfl ?_
        refine RG.val' .plain (FV.pick_f rfl rfl) rfl ?_
        refine RG.val' .plain (FV.move rfl) rfl ?_
        refine RG.off (.no rfl rfl) rfl ?_
        refine RG.off (.no rfl rfl) rfl ?_
        refine RG.off (.no rfl rfl) rfl ?_
        refine RG.off (.undef rfl rfl) rfl ?_
        refine RG.off (.undef rfl rfl) rfl ?_
        refine RG.off (.no rfl rfl) rfl ?_
        refine RG.val' .plain (FV.pick_f rfl rfl) rfl ?_
        refine RG.val' .plain (FV.assign rfl) rfl ?_
        refine RG.nil ?_
        refine MX.ret rfl ?_
        refine RT.leave (u := .bool false) hb0 Tryd.func5 rfl (.cons (.tmp rfl) .nil) rfl ?_
        obtain rfl := Option.some.inj h
        exact ⟨hS7979.ag, fun w9 hw9 => rfl⟩
     ·skip
      intro J7844 hJ7845 h
      try dsimp only at h
      refine MX.drawT 43 tb5_7 (by kernel_rfl) (by kernel_rfl) (by kernel_rfl) (fun kt8005 kp8006 => ?_)
      refine RD.vP 0 1 kt8005 rfl kp8006 .plain (fun _ => FV.move rfl) rfl ?_
      refine RD.vP 1 3 kt8005 rfl kp8006 .plain (fun _ => FV.move rfl) rfl ?_
      refine RD.ifb (s := 156) rfl h (fun c8007 h => ?_) (fun c8007 h => ?_)
      ·skip
       refine RD.val (i := 3) (m' := 11) (W := 8796093022176) (takeC_ok kt8005 (by kernel_rfl)) rfl kp8006 (.yes rfl rfl) (FV.loadN (cs := [.int .i64 2, v7742]) (by kernel_rfl) rfl (hS7744.memA .hd)) rfl ?_
       refine RD.val (i := 4) (m' := 27) (W := 8796093022176) (takeC_ok kt8005 (by kernel_rfl)) rfl kp8006 (.yes rfl rfl) (FV.loadN (cs := [.int .u64 1099511627776]) (by kernel_rfl) rfl (hS7744.memA (.tl .hd))) rfl ?_
       refine RD.one (i := 2) (readyD_ok kt8005 (by kernel_rfl)) (RO.call (m' := 31) (fst := []) (cap := []) (stepC_ok kt8005 (by kernel_rfl)) rfl (.yes rfl rfl) body21 rfl (evs_cons rfl evs_nil) (fun w9 hw9 => Calls.gives (wardmotelaw31_stops_c n _ w9 (hS7744.hL hL hw9) 180) fun (w8 : World) (u8 : Value) ⟨b0_, hu_, s_⟩ => (⟨b0_, hu_, s_.from hw9⟩ : ∃ b8009 : Nat, u8 = Value.func (.func 39) #[] #[.pointer (some ⟨b8009, 0, none⟩)] ∧ St wx7743 w8 [.cells b8009 [.int .i64 180] 27])) rfl (fun w8010 vu8011 hag8012 ⟨b8009, hu8014, s8013⟩ => ?_))
       subst hu8014
       have hS8015 : St w w8010 [.cells b8009 [.int .i64 180] 27, .cells b38 [.int .i64 2, v7742] 40, .cells b20 [.int .u64 1099511627776] 37, .cells b15 [.int .i64 y3.fN, v9] 40] := St.merge hS7744 s8013
       have hT8016 : Tr wx7743 [.cells b38 [.int .i64 2, v7742] 40, .cells b20 [.int .u64 1099511627776] 37, .cells b15 [.int .i64 y3.fN, v9] 40] w8010 [.cells b8009 [.int .i64 180] 27, .cells b38 [.int .i64 2, v7742] 40, .cells b20 [.int .u64 1099511627776] 37, .cells b15 [.int .i64 y3.fN, v9] 40] := Tr.merge hS7744 s8013
       obtain ⟨y8017, hy8017, h⟩ := bind_in h
       have hm8018 := Rep.mv hr7743 hT8016
       refine RD.one (i := 5) (readyD_ok kt8005 (by kernel_rfl)) (RO.call (m' := 63) (fst := []) (cap := []) (stepC_ok kt8005 (by kernel_rfl)) rfl (.yes rfl rfl) body14 rfl (evs_cons rfl (evs_cons rfl (evs_cons rfl evs_nil))) (fun w9 hw9 => wilson_Draw_c n _ w9 (hS8015.hL hL hw9) (⟨2, xs7741⟩ : TGraph) (Rep.keep0 hm8018 hw9) (0 : UInt64) (⟨(1099511627776 : UInt64)⟩ : TChance) (hG0.keep (hS8015.ag.trans hw9)) hy8017) rfl (fun w8019 vu8020 hag8021 ⟨v8024, hu_, hr8025⟩ => ?_))
       subst hu_
       have hS8022 := hS8015.agree hag8021
       have hT8023 := Tr.agree (O := [.cells b8009 [.int .i64 180] 27, .cells b38 [.int .i64 2, v7742] 40, .cells b20 [.int .u64 1099511627776] 37, .cells b15 [.int .i64 y3.fN, v9] 40]) hag8021
       refine RD.vP 6 127 kt8005 rfl kp8006 (.yes rfl rfl) (fun _ => FV.extract rfl rfl) rfl ?_
       refine RD.vP 7 255 kt8005 rfl kp8006 (.yes rfl rfl) (fun _ => FV.extract rfl rfl) rfl ?_
       refine RD.vP 8 511 kt8005 rfl kp8006 (.yes rfl rfl) (fun _ => FV.extract rfl rfl) rfl ?_
       obtain ⟨y8026, hy8026, h⟩ := bind_in h
       refine RD.callq (i := 9) (m' := 1023) (W := 8796093021184) (takeC_ok kt8005 (by kernel_rfl)) rfl kp8006 (v := .bool y8026) (fst := []) (cap := [.pointer (some ⟨b8009, 0, none⟩)]) (.yes rfl rfl) body39 rfl (evs_cons rfl (evs_cons rfl (evs_cons rfl evs_nil))) (fun w9 hw9 => wardmotelaw31_stops_1_c n _ w9 (hS8022.hL0 hL hw9) y8017.1 (Rep.keep0 (Rep.dropO (O := [.cells b8009 [.int .i64 180] 27, .cells b38 [.int .i64 2, v7742] 40, .cells b20 [.int .u64 1099511627776] 37, .cells b15 [.int .i64 y3.fN, v9] 40]) hr8025) hw9) y8017.2.1 y8017.2.2 180 (fun j9 v9 h9 => hw9.cell0 ((hS8022.memA .hd) j9 v9 h9)) hy8026) rfl ?_
       refine RD.vP 10 2047 kt8005 rfl kp8006 .plain (fun _ => FV.pick_t rfl rfl) rfl ?_
       refine RD.vP 11 4095 kt8005 rfl kp8006 .plain (fun _ => FV.move rfl) rfl ?_
       refine RD.ifb (s := 166) rfl h (fun c8027 h => ?_) (fun c8027 h => ?_)
       ·skip
        refine RD.val (i := 13) (m' := 12287) (W := 8796092989440) (takeC_ok kt8005 (by kernel_rfl)) rfl kp8006 (.yes rfl rfl) (FV.loadN (cs := [.int .i64 y3.fN, v9]) (by kernel_rfl) rfl (hS8022.memA (.tl (.tl (.tl .hd))))) rfl ?_
        refine RD.val (i := 14) (m' := 28671) (W := 8796092989440) (takeC_ok kt8005 (by kernel_rfl)) rfl kp8006 (.yes rfl rfl) (FV.loadN (cs := [.int .u64 1099511627776]) (by kernel_rfl) rfl (hS8022.memA (.tl (.tl .hd)))) rfl ?_
        refine RD.one (i := 12) (readyD_ok kt8005 (by kernel_rfl)) (RO.call (m' := 32767) (fst := []) (cap := []) (stepC_ok kt8005 (by kernel_rfl)) rfl (.yes rfl rfl) body21 rfl (evs_cons rfl evs_nil) (fun w9 hw9 => Calls.gives (wardmotelaw31_stops_c n _ w9 (hS8022.hL hL hw9) 2) fun (w8 : World) (u8 : Value) ⟨b0_, hu_, s_⟩ => (⟨b0_, hu_, s_.from hw9⟩ : ∃ b8029 : Nat, u8 = Value.func (.func 39) #[] #[.pointer (some ⟨b8029, 0, none⟩)] ∧ St w8019 w8 [.cells b8029 [.int .i64 2] 27])) rfl (fun w8030 vu8031 hag8032 ⟨b8029, hu8034, s8033⟩ => ?_))
        subst hu8034
        have hS8035 : St w w8030 [.cells b8029 [.int .i64 2] 27, .cells b8009 [.int .i64 180] 27, .cells b38 [.int .i64 2, v7742] 40, .cells b20 [.int .u64 1099511627776] 37, .cells b15 [.int .i64 y3.fN, v9] 40] := St.merge hS8022 s8033
        have hT8036 : Tr w8019 [.cells b8009 [.int .i64 180] 27, .cells b38 [.int .i64 2, v7742] 40, .cells b20 [.int .u64 1099511627776] 37, .cells b15 [.int .i64 y3.fN, v9] 40] w8030 [.cells b8029 [.int .i64 2] 27, .cells b8009 [.int .i64 180] 27, .cells b38 [.int .i64 2, v7742] 40, .cells b20 [.int .u64 1099511627776] 37, .cells b15 [.int .i64 y3.fN, v9] 40] := Tr.merge hS8022 s8033
        obtain ⟨y8037, hy8037, h⟩ := bind_in h
        have hm8038 := Rep.mv hr10 (Tr.trans hT14 (Tr.trans hT19 (Tr.trans hT24 (Tr.trans hT27 (Tr.trans hT31 (Tr.trans hT37 (Tr.trans hT41 (Tr.trans hT7537 (Tr.trans hT7745 (Tr.trans hT8016 (Tr.trans hT8023 hT8036)))))))))))
        refine RD.one (i := 15) (readyD_ok kt8005 (by kernel_rfl)) (RO.call (m' := 65535) (fst := []) (cap := []) (stepC_ok kt8005 (by kernel_rfl)) rfl (.yes rfl rfl) body14 rfl (evs_cons rfl (evs_cons rfl (evs_cons rfl evs_nil))) (fun w9 hw9 => wilson_Draw_c n _ w9 (hS8035.hL hL hw9) y3 (Rep.keep0 hm8038 hw9) (16 : UInt64) (⟨(1099511627776 : UInt64)⟩ : TChance) (hG0.keep (hS8035.ag.trans hw9)) hy8037) rfl (fun w8039 vu8040 hag8041 ⟨v8044, hu_, hr8045⟩ => ?_))
        subst hu_
        have hS8042 := hS8035.agree hag8041
        have hT8043 := Tr.agree (O := [.cells b8029 [.int .i64 2] 27, .cells b8009 [.int .i64 180] 27, .cells b38 [.int .i64 2, v7742] 40, .cells b20 [.int .u64 1099511627776] 37, .cells b15 [.int .i64 y3.fN, v9] 40]) hag8041
        refine RD.vP 16 131071 kt8005 rfl kp8006 (.yes rfl rfl) (fun _ => FV.extract rfl rfl) rfl ?_
        refine RD.vP 17 262143 kt8005 rfl kp8006 (.yes rfl rfl) (fun _ => FV.extract rfl rfl) rfl ?_
        refine RD.vP 18 524287 kt8005 rfl kp8006 (.yes rfl rfl) (fun _ => FV.extract rfl rfl) rfl ?_
        obtain ⟨y8046, hy8046, h⟩ := bind_in h
        refine RD.callq (i := 19) (m' := 1048575) (W := 8796091973632) (takeC_ok kt8005 (by kernel_rfl)) rfl kp8006 (v := .bool y8046) (fst := []) (cap := [.pointer (some ⟨b8029, 0, none⟩)]) (.yes rfl rfl) body39 rfl (evs_cons rfl (evs_cons rfl (evs_cons rfl evs_nil))) (fun w9 hw9 => wardmotelaw31_stops_1_c n _ w9 (hS8042.hL0 hL hw9) y8037.1 (Rep.keep0 (Rep.dropO (O := [.cells b8029 [.int .i64 2] 27, .cells b8009 [.int .i64 180] 27, .cells b38 [.int .i64 2, v7742] 40, .cells b20 [.int .u64 1099511627776] 37, .cells b15 [.int .i64 y3.fN, v9] 40]) hr8045) hw9) y8037.2.1 y8037.2.2 2 (fun j9 v9 h9 => hw9.cell0 ((hS8042.memA .hd) j9 v9 h9)) hy8046) rfl ?_
        refine RD.vP 20 2097151 kt8005 rfl kp8006 .plain (fun _ => FV.pick_t rfl rfl) rfl ?_
        refine RD.vP 21 4194303 kt8005 rfl kp8006 .plain (fun _ => FV.move rfl) rfl ?_
        refine RD.ifb (s := 176) rfl h (fun c8047 h => ?_) (fun c8047 h => ?_)
        ·skip
         refine RD.vP 23 12582911 kt8005 rfl kp8006 (.yes rfl rfl) (fun _ => FV.buildV (vs := [.int .i64 2]) (u := .agg #[.int .i64 2, .slice none 0 0]) (evs_cons rfl evs_nil) (fun w9 => by kernel_rfl)) rfl ?_
         refine RD.val (i := 24) (m' := 29360127) (W := 8796059467776) (takeC_ok kt8005 (by kernel_rfl)) rfl kp8006 (.yes rfl rfl) (FV.loadN (cs := [.int .u64 1099511627776]) (by kernel_rfl) rfl (hS8042.memA (.tl (.tl (.tl .hd))))) rfl ?_
         refine RD.one (i := 22) (readyD_ok kt8005 (by kernel_rfl)) (RO.call (m' := 33554431) (fst := []) (cap := []) (stepC_ok kt8005 (by kernel_rfl)) rfl (.yes rfl rfl) body21 rfl (evs_cons rfl evs_nil) (fun w9 hw9 => Calls.gives (wardmotelaw31_stops_c n _ w9 (hS8042.hL hL hw9) 4) fun (w8 : World) (u8 : Value) ⟨b0_, hu_, s_⟩ => (⟨b0_, hu_, s_.from hw9⟩ : ∃ b8049 : Nat, u8 = Value.func (.func 39) #[] #[.pointer (some ⟨b8049, 0, none⟩)] ∧ St w8039 w8 [.cells b8049 [.int .i64 4] 27])) rfl (fun w8050 vu8051 hag8052 ⟨b8049, hu8054, s8053⟩ => ?_))
         subst hu8054
         have hS8055 : St w w8050 [.cells b8049 [.int .i64 4] 27, .cells b8029 [.int .i64 2] 27, .cells b8009 [.int .i64 180] 27, .cells b38 [.int .i64 2, v7742] 40, .cells b20 [.int .u64 1099511627776] 37, .cells b15 [.int .i64 y3.fN, v9] 40] := St.merge hS8042 s8053
         have hT8056 : Tr w8039 [.cells b8029 [.int .i64 2] 27, .cells b8009 [.int .i64 180] 27, .cells b38 [.int .i64 2, v7742] 40, .cells b20 [.int .u64 1099511627776] 37, .cells b15 [.int .i64 y3.fN, v9] 40] w8050 [.cells b8049 [.int .i64 4] 27, .cells b8029 [.int .i64 2] 27, .cells b8009 [.int .i64 180] 27, .cells b38 [.int .i64 2, v7742] 40, .cells b20 [.int .u64 1099511627776] 37, .cells b15 [.int .i64 y3.fN, v9] 40] := Tr.merge hS8042 s8053
         have hr8058 : Rep.R w8050 (bl [.cells b8049 [.int .i64 4] 27, .cells b8029 [.int .i64 2] 27, .cells b8009 [.int .i64 180] 27, .cells b38 [.int .i64 2, v7742] 40, .cells b20 [.int .u64 1099511627776] 37, .cells b15 [.int .i64 y3.fN, v9] 40] ++ L) [.slice none 0 0] ([] : List (Int × Int)) := Rep.nilSlice _ _
         obtain ⟨y8057, hy8057, h⟩ := bind_in h
         have hr8059 : Rep.R w8050 (bl [.cells b8049 [.int .i64 4] 27, .cells b8029 [.int .i64 2] 27, .cells b8009 [.int .i64 180] 27, .cells b38 [.int .i64 2, v7742] 40, .cells b20 [.int .u64 1099511627776] 37, .cells b15 [.int .i64 y3.fN, v9] 40] ++ L) [.slice none 0 0] ([] : List (Int × Int)) := Rep.nilSlice _ _
         have hr8060 : Rep.R w8050 (bl [.cells b8049 [.int .i64 4] 27, .cells b8029 [.int .i64 2] 27, .cells b8009 [.int .i64 180] 27, .cells b38 [.int .i64 2, v7742] 40, .cells b20 [.int .u64 1099511627776] 37, .cells b15 [.int .i64 y3.fN, v9] 40] ++ L) [.slice none 0 0] ([] : List (Int × Int)) := Rep.nilSlice _ _
         refine RD.one (i := 25) (readyD_ok kt8005 (by kernel_rfl)) (RO.call (m' := 67108863) (fst := []) (cap := []) (stepC_ok kt8005 (by kernel_rfl)) rfl (.yes rfl rfl) body14 rfl (evs_cons rfl (evs_cons rfl (evs_cons rfl evs_nil))) (fun w9 hw9 => wilson_Draw_c n _ w9 (hS8055.hL hL hw9) (⟨2, ([] : List (Int × Int))⟩ : TGraph) (Rep.keep0 hr8060 hw9) (3 : UInt64) (⟨(1099511627776 : UInt64)⟩ : TChance) (hG0.keep (hS8055.ag.trans hw9)) hy8057) rfl (fun w8061 vu8062 hag8063 ⟨v8066, hu_, hr8067⟩ => ?_))
         subst hu_
         have hS8064 := hS8055.agree hag8063
         have hT8065 := Tr.agree (O := [.cells b8049 [.int .i64 4] 27, .cells b8029 [.int .i64 2] 27, .cells b8009 [.int .i64 180] 27, .cells b38 [.int .i64 2, v7742] 40, .cells b20 [.int .u64 1099511627776] 37, .cells b15 [.int .i64 y3.fN, v9] 40]) hag8063
         refine RD.vP 26 134217727 kt8005 rfl kp8006 (.yes rfl rfl) (fun _ => FV.extract rfl rfl) rfl ?_
         refine RD.vP 27 268435455 kt8005 rfl kp8006 (.yes rfl rfl) (fun _ => FV.extract rfl rfl) rfl ?_
         refine RD.vP 28 536870911 kt8005 rfl kp8006 (.yes rfl rfl) (fun _ => FV.extract rfl rfl) rfl ?_
         obtain ⟨y8068, hy8068, h⟩ := bind_in h
         refine RD.callq (i := 29) (m' := 1073741823) (W := 8795019280384) (takeC_ok kt8005 (by kernel_rfl)) rfl kp8006 (v := .bool y8068) (fst := []) (cap := [.pointer (some ⟨b8049, 0, none⟩)]) (.yes rfl rfl) body39 rfl (evs_cons rfl (evs_cons rfl (evs_cons rfl evs_nil))) (fun w9 hw9 => wardmotelaw31_stops_1_c n _ w9 (hS8064.hL0 hL hw9) y8057.1 (Rep.keep0 (Rep.dropO (O := [.cells b8049 [.int .i64 4] 27, .cells b8029 [.int .i64 2] 27, .cells b8009 [.int .i64 180] 27, .cells b38 [.int .i64 2, v7742] 40, .cells b20 [.int .u64 1099511627776] 37, .cells b15 [.int .i64 y3.fN, v9] 40]) hr8067) hw9) y8057.2.1 y8057.2.2 4 (fun j9 v9 h9 => hw9.cell0 ((hS8064.memA .hd) j9 v9 h9)) hy8068) rfl ?_
         refine RD.vP 30 2147483647 kt8005 rfl kp8006 .plain (fun _ => FV.pick_t rfl rfl) rfl ?_
         refine RD.vP 31 4294967295 kt8005 rfl kp8006 .plain (fun _ => FV.move rfl) rfl ?_
         refine RD.ifb (s := 186) rfl h (fun c8069 h => ?_) (fun c8069 h => ?_)
         ·skip
          refine RD.val (i := 32) (m' := 8589934591) (W := 8735963480064) (takeC_ok kt8005 (by kernel_rfl)) rfl kp8006 (.yes rfl rfl) (FV.loadN (cs := [.int .u64 1099511627776]) (by kernel_rfl) rfl (hS8064.memA (.tl (.tl (.tl (.tl .hd)))))) rfl ?_
          refine RD.vP 34 25769803775 kt8005 rfl kp8006 (.yes rfl rfl) (fun _ => FV.buildV (vs := [.int .i64 64]) (u := .agg #[.int .i64 64, .slice none 0 0]) (evs_cons rfl evs_nil) (fun w9 => by kernel_rfl)) rfl ?_
          refine RD.val (i := 35) (m' := 60129542143) (W := 8727373545472) (takeC_ok kt8005 (by kernel_rfl)) rfl kp8006 (.yes rfl rfl) (FV.loadN (cs := [.int .u64 1099511627776]) (by kernel_rfl) rfl (hS8064.memA (.tl (.tl (.tl (.tl .hd)))))) rfl ?_
          have hr8070 : Rep.R w8061 (bl [.cells b8049 [.int .i64 4] 27, .cells b8029 [.int .i64 2] 27, .cells b8009 [.int .i64 180] 27, .cells b38 [.int .i64 2, v7742] 40, .cells b20 [.int .u64 1099511627776] 37, .cells b15 [.int .i64 y3.fN, v9] 40] ++ L) [.slice none 0 0] ([] : List Int) := Rep.nilSlice _ _
          have hr8071 : Rep.R w8061 (bl [.cells b8049 [.int .i64 4] 27, .cells b8029 [.int .i64 2] 27, .cells b8009 [.int .i64 180] 27, .cells b38 [.int .i64 2, v7742] 40, .cells b20 [.int .u64 1099511627776] 37, .cells b15 [.int .i64 y3.fN, v9] 40] ++ L) [.slice none 0 0] ([] : List Int) := Rep.nilSlice _ _
          have hr8072 : Rep.R w8061 (bl [.cells b8049 [.int .i64 4] 27, .cells b8029 [.int .i64 2] 27, .cells b8009 [.int .i64 180] 27, .cells b38 [.int .i64 2, v7742] 40, .cells b20 [.int .u64 1099511627776] 37, .cells b15 [.int .i64 y3.fN, v9] 40] ++ L) [.slice none 0 0] ([] : List Int) := Rep.nilSlice _ _
          refine RD.one (i := 33) (readyD_ok kt8005 (by kernel_rfl)) (RO.call (m' := 68719476735) (fst := []) (cap := []) (stepC_ok kt8005 (by kernel_rfl)) rfl (.yes rfl rfl) body22 rfl (evs_cons rfl (evs_cons rfl evs_nil)) (fun w9 hw9 => Calls.gives (wardmotelaw31_goes_c n _ w9 (hS8064.hL hL hw9) (⟨(1099511627776 : UInt64)⟩ : TChance) ([] : List Int) (Rep.keep0 hr8072 hw9)) fun (w8 : World) (u8 : Value) ⟨b0_, b1_, hu_, s_⟩ => (⟨b0_, b1_, hu_, s_.from hw9⟩ : ∃ b8075 b8076 : Nat, u8 = Value.func (.func 40) #[] #[.pointer (some ⟨b8075, 0, none⟩), .pointer (some ⟨b8076, 0, none⟩)] ∧ St w8061 w8 [.cells b8075 [.slice none 0 0] 22, .cells b8076 [.int .u64 1099511627776] 37])) rfl (fun w8077 vu8078 hag8079 ⟨b8075, b8076, hu8081, s8080⟩ => ?_))
          subst hu8081
          have hS8082 : St w w8077 [.cells b8075 [.slice none 0 0] 22, .cells b8076 [.int .u64 1099511627776] 37, .cells b8049 [.int .i64 4] 27, .cells b8029 [.int .i64 2] 27, .cells b8009 [.int .i64 180] 27, .cells b38 [.int .i64 2, v7742] 40, .cells b20 [.int .u64 1099511627776] 37, .cells b15 [.int .i64 y3.fN, v9] 40] := St.merge hS8064 s8080
          have hT8083 : Tr w8061 [.cells b8049 [.int .i64 4] 27, .cells b8029 [.int .i64 2] 27, .cells b8009 [.int .i64 180] 27, .cells b38 [.int .i64 2, v7742] 40, .cells b20 [.int .u64 1099511627776] 37, .cells b15 [.int .i64 y3.fN, v9] 40] w8077 [.cells b8075 [.slice none 0 0] 22, .cells b8076 [.int .u64 1099511627776] 37, .cells b8049 [.int .i64 4] 27, .cells b8029 [.int .i64 2] 27, .cells b8009 [.int .i64 180] 27, .cells b38 [.int .i64 2, v7742] 40, .cells b20 [.int .u64 1099511627776] 37, .cells b15 [.int .i64 y3.fN, v9] 40] := Tr.merge hS8064 s8080
          have hr8085 : Rep.R w8077 (bl [.cells b8075 [.slice none 0 0] 22, .cells b8076 [.int .u64 1099511627776] 37, .cells b8049 [.int .i64 4] 27, .cells b8029 [.int .i64 2] 27, .cells b8009 [.int .i64 180] 27, .cells b38 [.int .i64 2, v7742] 40, .cells b20 [.int .u64 1099511627776] 37, .cells b15 [.int .i64 y3.fN, v9] 40] ++ L) [.slice none 0 0] ([] : List (Int × Int)) := Rep.nilSlice _ _
          obtain ⟨y8084, hy8084, h⟩ := bind_in h
          have hr8086 : Rep.R w8077 (bl [.cells b8075 [.slice none 0 0] 22, .cells b8076 [.int .u64 1099511627776] 37, .cells b8049 [.int .i64 4] 27, .cells b8029 [.int .i64 2] 27, .cells b8009 [.int .i64 180] 27, .cells b38 [.int .i64 2, v7742] 40, .cells b20 [.int .u64 1099511627776] 37, .cells b15 [.int .i64 y3.fN, v9] 40] ++ L) [.slice none 0 0] ([] : List (Int × Int)) := Rep.nilSlice _ _
          have hr8087 : Rep.R w8077 (bl [.cells b8075 [.slice none 0 0] 22, .cells b8076 [.int .u64 1099511627776] 37, .cells b8049 [.int .i64 4] 27, .cells b8029 [.int .i64 2] 27, .cells b8009 [.int .i64 180] 27, .cells b38 [.int .i64 2, v7742] 40, .cells b20 [.int .u64 1099511627776] 37, .cells b15 [.int .i64 y3.fN, v9] 40] ++ L) [.slice none 0 0] ([] : List (Int × Int)) := Rep.nilSlice _ _
          refine RD.one (i := 36) (readyD_ok kt8005 (by kernel_rfl)) (RO.call (m' := 137438953471) (fst := []) (cap := []) (stepC_ok kt8005 (by kernel_rfl)) rfl (.yes rfl rfl) body14 rfl (evs_cons rfl (evs_cons rfl (evs_cons rfl evs_nil))) (fun w9 hw9 => wilson_Draw_c n _ w9 (hS8082.hL hL hw9) (⟨64, ([] : List (Int × Int))⟩ : TGraph) (Rep.keep0 hr8087 hw9) (9223372036854775808 : UInt64) (⟨(1099511627776 : UInt64)⟩ : TChance) (hG0.keep (hS8082.ag.trans hw9)) hy8084) rfl (fun w8088 vu8089 hag8090 ⟨v8093, hu_, hr8094⟩ => ?_))
          subst hu_
          have hS8091 := hS8082.agree hag8090
          have hT8092 := Tr.agree (O := [.cells b8075 [.slice none 0 0] 22, .cells b8076 [.int .u64 1099511627776] 37, .cells b8049 [.int .i64 4] 27, .cells b8029 [.int .i64 2] 27, .cells b8009 [.int .i64 180] 27, .cells b38 [.int .i64 2, v7742] 40, .cells b20 [.int .u64 1099511627776] 37, .cells b15 [.int .i64 y3.fN, v9] 40]) hag8090
          refine RD.vP 37 274877906943 kt8005 rfl kp8006 (.yes rfl rfl) (fun _ => FV.extract rfl rfl) rfl ?_
          refine RD.vP 38 549755813887 kt8005 rfl kp8006 (.yes rfl rfl) (fun _ => FV.extract rfl rfl) rfl ?_
          refine RD.vP 39 1099511627775 kt8005 rfl kp8006 (.yes rfl rfl) (fun _ => FV.extract rfl rfl) rfl ?_
          obtain ⟨y8095, hy8095, h⟩ := bind_in h
          refine RD.callq (i := 40) (m' := 2199023255551) (W := 6597069766656) (takeC_ok kt8005 (by kernel_rfl)) rfl kp8006 (v := .bool y8095) (fst := []) (cap := [.pointer (some ⟨b8075, 0, none⟩), .pointer (some ⟨b8076, 0, none⟩)]) (.yes rfl rfl) body40 rfl (evs_cons rfl (evs_cons rfl (evs_cons rfl evs_nil))) (fun w9 hw9 => wardmotelaw31_goes_1_c n _ w9 (hS8091.hL0 hL hw9) y8084.1 (Rep.keep0 (Rep.dropO (O := [.cells b8075 [.slice none 0 0] 22, .cells b8076 [.int .u64 1099511627776] 37, .cells b8049 [.int .i64 4] 27, .cells b8029 [.int .i64 2] 27, .cells b8009 [.int .i64 180] 27, .cells b38 [.int .i64 2, v7742] 40, .cells b20 [.int .u64 1099511627776] 37, .cells b15 [.int .i64 y3.fN, v9] 40]) hr8094) hw9) y8084.2.1 y8084.2.2 ([] : List Int) (Rep.keep0 (Rep.nilSlice _ _) hw9) (fun j9 v9 h9 => hw9.cell0 ((hS8091.memA .hd) j9 v9 h9)) (⟨(1099511627776 : UInt64)⟩ : TChance) (fun j9 v9 h9 => hw9.cell0 ((hS8091.memA (.tl .hd)) j9 v9 h9)) hy8095) rfl ?_
          refine RD.vP 41 4398046511103 kt8005 rfl kp8006 .plain (fun _ => FV.pick_t rfl rfl) rfl ?_
          refine RD.vP 42 8796093022207 kt8005 rfl kp8006 .plain (fun _ => FV.assign rfl) rfl ?_
          refine RD.done (doneD_ok kt8005 (by kernel_rfl)) ?_
          have hS8096 : St _ _ [.cells b20 [.int .u64 1099511627776] 37] := hS8091.arr (.one (.tl (.tl (.tl (.tl (.tl (.tl .hd)))))) .done)
          have hT8097 : Tr w8088 _ w8088 [.cells b20 [.int .u64 1099511627776] 37] := Tr.arr (St.arrOf hS8091 (.one (.tl (.tl (.tl (.tl (.tl (.tl .hd)))))) .done))
          exact hJ7845 y8095 _ _ ⟨rfl, rfl, trivial⟩ ⟨hS8096, (Tr.trans hT8016 (Tr.trans hT8023 (Tr.trans hT8036 (Tr.trans hT8043 (Tr.trans hT8056 (Tr.trans hT8065 (Tr.trans hT8083 (Tr.trans hT8092 hT8097))))))))⟩ h
         ·skip
          refine RD.offs 2199023255551 2 [(32, 187), (33, 188), (34, 189), (35, 190), (36, 191), (37, 192), (38, 193), (39, 194), (40, 195)] (F := [(186, false)]) (U := []) kt8005 kp8006 (.cons rfl .nil) .nil ?_
          dsimp only [offS, List.map]
          refine RD.vP 41 4398046511103 kt8005 rfl kp8006 .plain (fun _ => FV.pick_f rfl rfl) rfl ?_
          refine RD.vP 42 8796093022207 kt8005 rfl kp8006 .plain (fun _ => FV.assign rfl) rfl ?_
          refine RD.done (doneD_ok kt8005 (by kernel_rfl)) ?_
          have hS8098 : St _ _ [.cells b20 [.int .u64 1099511627776] 37] := hS8064.arr (.one (.tl (.tl (.tl (.tl .hd)))) .done)
          have hT8099 : Tr w8061 _ w8061 [.cells b20 [.int .u64 1099511627776] 37] := Tr.arr (St.arrOf hS8064 (.one (.tl (.tl (.tl (.tl .hd)))) .done))
          exact hJ7845 false _ _ ⟨rfl, rfl, trivial⟩ ⟨hS8098, (Tr.trans hT8016 (Tr.trans hT8023 (Tr.trans hT8036 (Tr.trans hT8043 (Tr.trans hT8056 (Tr.trans hT8065 hT8099))))))⟩ h
        ·skip
         refine RD.offs 1073741823 13 [(22, 177), (23, 178), (24, 179), (25, 180), (26, 181), (27, 182), (28, 183), (29, 184)] (F := [(176, false)]) (U := []) kt8005 kp8006 (.cons rfl .nil) .nil ?_
         dsimp only [offS, List.map]
         refine RD.vP 30 2147483647 kt8005 rfl kp8006 .plain (fun _ => FV.pick_f rfl rfl) rfl ?_
         refine RD.vP 31 4294967295 kt8005 rfl kp8006 .plain (fun _ => FV.move rfl) rfl ?_
         refine RD.offs 2199023255551 2 [(32, 187), (33, 188), (34, 189), (35, 190), (36, 191), (37, 192), (38, 193), (39, 194), (40, 195)] (F := [(186, false)]) (U := []) kt8005 kp8006 (.cons rfl .nil) .nil ?_
         dsimp only [offS, List.map]
         refine RD.vP 41 4398046511103 kt8005 rfl kp8006 .plain (fun _ => FV.pick_f rfl rfl) rfl ?_
         refine RD.vP 42 8796093022207 kt8005 rfl kp8006 .plain (fun _ => FV.assign rfl) rfl ?_
         refine RD.done (doneD_ok kt8005 (by kernel_rfl)) ?_
         have hS8100 : St _ _ [.cells b20 [.int .u64 1099511627776] 37] := hS8042.arr (.one (.tl (.tl (.tl .hd))) .done)
         have hT8101 : Tr w8039 _ w8039 [.cells b20 [.int .u64 1099511627776] 37] := Tr.arr (St.arrOf hS8042 (.one (.tl (.tl (.tl .hd))) .done))
         exact hJ7845 false _ _ ⟨rfl, rfl, trivial⟩ ⟨hS8100, (Tr.trans hT8016 (Tr.trans hT8023 (Tr.trans hT8036 (Tr.trans hT8043 hT8101))))⟩ h
       ·skip
        refine RD.offs 1048575 23 [(12, 167), (13, 168), (14, 169), (15, 170), (16, 171), (17, 172), (18, 173), (19, 174)] (F := [(166, false)]) (U := []) kt8005 kp8006 (.cons rfl .nil) .nil ?_
        dsimp only [offS, List.map]
        refine RD.vP 20 2097151 kt8005 rfl kp8006 .plain (fun _ => FV.pick_f rfl rfl) rfl ?_
        refine RD.vP 21 4194303 kt8005 rfl kp8006 .plain (fun _ => FV.move rfl) rfl ?_
        refine RD.offs 1073741823 13 [(22, 177), (23, 178), (24, 179), (25, 180), (26, 181), (27, 182), (28, 183), (29, 184)] (F := [(176, false)]) (U := []) kt8005 kp8006 (.cons rfl .nil) .nil ?_
        dsimp only [offS, List.map]
        refine RD.vP 30 2147483647 kt8005 rfl kp8006 .plain (fun _ => FV.pick_f rfl rfl) rfl ?_
        refine RD.vP 31 4294967295 kt8005 rfl kp8006 .plain (fun _ => FV.move rfl) rfl ?_
        refine RD.offs 2199023255551 2 [(32, 187), (33, 188), (34, 189), (35, 190), (36, 191), (37, 192), (38, 193), (39, 194), (40, 195)] (F := [(186, false)]) (U := []) kt8005 kp8006 (.cons rfl .nil) .nil ?_
        dsimp only [offS, List.map]
        refine RD.vP 41 4398046511103 kt8005 rfl kp8006 .plain (fun _ => FV.pick_f rfl rfl) rfl ?_
        refine RD.vP 42 8796093022207 kt8005 rfl kp8006 .plain (fun _ => FV.assign rfl) rfl ?_
        refine RD.done (doneD_ok kt8005 (by kernel_rfl)) ?_
        have hS8102 : St _ _ [.cells b20 [.int .u64 1099511627776] 37] := hS8022.arr (.one (.tl (.tl .hd)) .done)
        have hT8103 : Tr w8019 _ w8019 [.cells b20 [.int .u64 1099511627776] 37] := Tr.arr (St.arrOf hS8022 (.one (.tl (.tl .hd)) .done))
        exact hJ7845 false _ _ ⟨rfl, rfl, trivial⟩ ⟨hS8102, (Tr.trans hT8016 (Tr.trans hT8023 hT8103))⟩ h
      ·skip
       refine RD.offs 1023 33 [(2, 157), (3, 158), (4, 159), (5, 160), (6, 161), (7, 162), (8, 163), (9, 164)] (F := [(156, false)]) (U := []) kt8005 kp8006 (.cons rfl .nil) .nil ?_
       dsimp only [offS, List.map]
       refine RD.vP 10 2047 kt8005 rfl kp8006 .plain (fun _ => FV.pick_f rfl rfl) rfl ?_
       refine RD.vP 11 4095 kt8005 rfl kp8006 .plain (fun _ => FV.move rfl) rfl ?_
       refine RD.offs 1048575 23 [(12, 167), (13, 168), (14, 169), (15, 170), (16, 171), (17, 172), (18, 173), (19, 174)] (F := [(166, false)]) (U := []) kt8005 kp8006 (.cons rfl .nil) .nil ?_
       dsimp only [offS, List.map]
       refine RD.vP 20 2097151 kt8005 rfl kp8006 .plain (fun _ => FV.pick_f rfl rfl) rfl ?_
       refine RD.vP 21 4194303 kt8005 rfl kp8006 .plain (fun _ => FV.move rfl) rfl ?_
       refine RD.offs 1073741823 13 [(22, 177), (23, 178), (24, 179), (25, 180), (26, 181), (27, 182), (28, 183), (29, 184)] (F := [(176, false)]) (U := []) kt8005 kp8006 (.cons rfl .nil) .nil ?_
       dsimp only [offS, List.map]
       refine RD.vP 30 2147483647 kt8005 rfl kp8006 .plain (fun _ => FV.pick_f rfl rfl) rfl ?_
       refine RD.vP 31 4294967295 kt8005 rfl kp8006 .plain (fun _ => FV.move rfl) rfl ?_
       refine RD.offs 2199023255551 2 [(32, 187), (33, 188), (34, 189), (35, 190), (36, 191), (37, 192), (38, 193), (39, 194), (40, 195)] (F := [(186, false)]) (U := []) kt8005 kp8006 (.cons rfl .nil) .nil ?_
       dsimp only [offS, List.map]
       refine RD.vP 41 4398046511103 kt8005 rfl kp8006 .plain (fun _ => FV.pick_f rfl rfl) rfl ?_
       refine RD.vP 42 8796093022207 kt8005 rfl kp8006 .plain (fun _ => FV.assign rfl) rfl ?_
       refine RD.done (doneD_ok kt8005 (by kernel_rfl)) ?_
       have hS8104 : St _ _ [.cells b20 [.int .u64 1099511627776] 37] := hS7744.arr (.one (.tl .hd) .done)
       have hT8105 : Tr wx7743 _ wx7743 [.cells b20 [.int .u64 1099511627776] 37] := Tr.arr (St.arrOf hS7744 (.one (.tl .hd) .done))
       exact hJ7845 false _ _ ⟨rfl, rfl, trivial⟩ ⟨hS8104, hT8105⟩ h
    ·skip
     intro J7747 hJ7748 h
     try dsimp only at h
     refine MX.drawT 94 tb5_6 (by kernel_rfl) (by kernel_rfl) (by kernel_rfl) (fun kt8106 kp8107 => ?_)
     refine RD.vP 0 1 kt8106 rfl kp8107 .plain (fun _ => FV.move rfl) rfl ?_
     refine RD.vP 1 3 kt8106 rfl kp8107 .plain (fun _ => FV.move rfl) rfl ?_
     refine RD.ifb (s := 63) rfl h (fun c8108 h => ?_) (fun c8108 h => ?_)
     ·skip
      refine RD.val (i := 3) (m' := 11) (W := 19807040628566084398385987552) (takeC_ok kt8106 (by kernel_rfl)) rfl kp8107 (.yes rfl rfl) (FV.loadN (cs := [.int .i64 2, (.slice (some ⟨b32, 0, none⟩) 1 1)]) (by kernel_rfl) rfl (hS7536.memA .hd)) rfl ?_
      refine RD.val (i := 4) (m' := 27) (W := 19807040628566084398385987552) (takeC_ok kt8106 (by kernel_rfl)) rfl kp8107 (.yes rfl rfl) (FV.loadN (cs := [.int .u64 1099511627776]) (by kernel_rfl) rfl (hS7536.memA (.tl (.tl .hd)))) rfl ?_
      refine RD.one (i := 2) (readyD_ok kt8106 (by kernel_rfl)) (RO.call (m' := 31) (fst := []) (cap := []) (stepC_ok kt8106 (by kernel_rfl)) rfl (.yes rfl rfl) body21 rfl (evs_cons rfl evs_nil) (fun w9 hw9 => Calls.gives (wardmotelaw31_stops_c n _ w9 (hS7536.hL hL hw9) 180) fun (w8 : World) (u8 : Value) ⟨b0_, hu_, s_⟩ => (⟨b0_, hu_, s_.from hw9⟩ : ∃ b8110 : Nat, u8 = Value.func (.func 39) #[] #[.pointer (some ⟨b8110, 0, none⟩)] ∧ St wx7535 w8 [.cells b8110 [.int .i64 180] 27])) rfl (fun w8111 vu8112 hag8113 ⟨b8110, hu8115, s8114⟩ => ?_))
      subst hu8115
      have hS8116 : St w w8111 [.cells b8110 [.int .i64 180] 27, .cells b38 [.int .i64 2, (.slice (some ⟨b32, 0, none⟩) 1 1)] 40, .row w.heap.size 46 (Rep.size (Int × Int)) (.slice (some ⟨b32, 0, none⟩) 1 1) (([(1, 0)] : List (Int × Int)).length) [.int .i64 1, .int .i64 0], .cells b20 [.int .u64 1099511627776] 37, .cells b15 [.int .i64 y3.fN, v9] 40] := St.merge hS7536 s8114
      have hT8117 : Tr wx7535 [.cells b38 [.int .i64 2, (.slice (some ⟨b32, 0, none⟩) 1 1)] 40, .row w.heap.size 46 (Rep.size (Int × Int)) (.slice (some ⟨b32, 0, none⟩) 1 1) (([(1, 0)] : List (Int × Int)).length) [.int .i64 1, .int .i64 0], .cells b20 [.int .u64 1099511627776] 37, .cells b15 [.int .i64 y3.fN, v9] 40] w8111 [.cells b8110 [.int .i64 180] 27, .cells b38 [.int .i64 2, (.slice (some ⟨b32, 0, none⟩) 1 1)] 40, .row w.heap.size 46 (Rep.size (Int × Int)) (.slice (some ⟨b32, 0, none⟩) 1 1) (([(1, 0)] : List (Int × Int)).length) [.int .i64 1, .int .i64 0], .cells b20 [.int .u64 1099511627776] 37, .cells b15 [.int .i64 y3.fN, v9] 40] := Tr.merge hS7536 s8114
      have hm8122 := Cells.mv hc33 (Tr.trans hT37 (Tr.trans hT41 (Tr.trans hT7537 hT8117)))
      have hr8119 := St.freeze (α := Int × Int) hS8116 (.tl (.tl .hd)) hm8122 hL
      have hS8120 := hS8116.del ((.tl (.tl .hd)) : Out _ _ _).del
      have hT8121 := Tr.del (w := w8111) ((.tl (.tl .hd)) : Out [.cells b8110 [.int .i64 180] 27, .cells b38 [.int .i64 2, (.slice (some ⟨b32, 0, none⟩) 1 1)] 40, .row w.heap.size 46 (Rep.size (Int × Int)) (.slice (some ⟨b32, 0, none⟩) 1 1) (([(1, 0)] : List (Int × Int)).length) [.int .i64 1, .int .i64 0], .cells b20 [.int .u64 1099511627776] 37, .cells b15 [.int .i64 y3.fN, v9] 40] _ _).del
      have hr8123 : Rep.R w8111 (bl [.cells b8110 [.int .i64 180] 27, .cells b38 [.int .i64 2, (.slice (some ⟨b32, 0, none⟩) 1 1)] 40, .cells b20 [.int .u64 1099511627776] 37, .cells b15 [.int .i64 y3.fN, v9] 40] ++ L) [(.slice (some ⟨b32, 0, none⟩) 1 1)] ([(1, 0)] : List (Int × Int)) := hr8119
      obtain ⟨y8118, hy8118, h⟩ := bind_in h
      refine RD.one (i := 5) (readyD_ok kt8106 (by kernel_rfl)) (RO.call (m' := 63) (fst := []) (cap := []) (stepC_ok kt8106 (by kernel_rfl)) rfl (.yes rfl rfl) body15 rfl (evs_cons rfl (evs_cons rfl (evs_cons rfl (evs_cons rfl (evs_cons rfl evs_nil))))) (fun w9 hw9 => wilson_Walk_c n _ w9 (hS8120.hL hL hw9) (⟨2, ([(1, 0)] : List (Int × Int))⟩ : TGraph) (Rep.keep0 hr8123 hw9) (4 : UInt64) 9 (4 : UInt64) (⟨(1099511627776 : UInt64)⟩ : TChance) (hG0.keep (hS8120.ag.trans hw9)) hy8118) rfl (fun w8124 vu8125 hag8126 ⟨v8129, hu_, hr8130⟩ => ?_))
      subst hu_
      have hS8127 := hS8120.agree hag8126
      have hT8128 := Tr.agree (O := [.cells b8110 [.int .i64 180] 27, .cells b38 [.int .i64 2, (.slice (some ⟨b32, 0, none⟩) 1 1)] 40, .cells b20 [.int .u64 1099511627776] 37, .cells b15 [.int .i64 y3.fN, v9] 40]) hag8126
      refine RD.vP 6 127 kt8106 rfl kp8107 (.yes rfl rfl) (fun _ => FV.extract rfl rfl) rfl ?_
      refine RD.vP 7 255 kt8106 rfl kp8107 (.yes rfl rfl) (fun _ => FV.extract rfl rfl) rfl ?_
      refine RD.vP 8 511 kt8106 rfl kp8107 (.yes rfl rfl) (fun _ => FV.extract rfl rfl) rfl ?_
      obtain ⟨y8131, hy8131, h⟩ := bind_in h
      refine RD.callq (i := 9) (m' := 1023) (W := 19807040628566084398385986560) (takeC_ok kt8106 (by kernel_rfl)) rfl kp8107 (v := .bool y8131) (fst := []) (cap := [.pointer (some ⟨b8110, 0, none⟩)]) (.yes rfl rfl) body39 rfl (evs_cons rfl (evs_cons rfl (evs_cons rfl evs_nil))) (fun w9 hw9 => wardmotelaw31_stops_1_c n _ w9 (hS8127.hL0 hL hw9) y8118.1 (Rep.keep0 (Rep.dropO (O := [.cells b8110 [.int .i64 180] 27, .cells b38 [.int .i64 2, (.slice (some ⟨b32, 0, none⟩) 1 1)] 40, .cells b20 [.int .u64 1099511627776] 37, .cells b15 [.int .i64 y3.fN, v9] 40]) hr8130) hw9) y8118.2.1 y8118.2.2 180 (fun j9 v9 h9 => hw9.cell0 ((hS8127.memA .hd) j9 v9 h9)) hy8131) rfl ?_
      refine RD.vP 10 2047 kt8106 rfl kp8107 .plain (fun _ => FV.pick_t rfl rfl) rfl ?_
      refine RD.vP 11 4095 kt8106 rfl kp8107 .plain (fun _ => FV.move rfl) rfl ?_
      refine RD.ifb (s := 73) rfl h (fun c8132 h => ?_) (fun c8132 h => ?_)
      ·skip
       refine RD.val (i := 13) (m' := 12287) (W := 19807040628566084398385954816) (takeC_ok kt8106 (by kernel_rfl)) rfl kp8107 (.yes rfl rfl) (FV.loadN (cs := [.int .i64 y3.fN, v9]) (by kernel_rfl) rfl (hS8127.memA (.tl (.tl (.tl .hd))))) rfl ?_
       refine RD.val (i := 14) (m' := 28671) (W := 19807040628566084398385954816) (takeC_ok kt8106 (by kernel_rfl)) rfl kp8107 (.yes rfl rfl) (FV.loadN (cs := [.int .u64 1099511627776]) (by kernel_rfl) rfl (hS8127.memA (.tl (.tl .hd)))) rfl ?_
       refine RD.one (i := 12) (readyD_ok kt8106 (by kernel_rfl)) (RO.call (m' := 32767) (fst := []) (cap := []) (stepC_ok kt8106 (by kernel_rfl)) rfl (.yes rfl rfl) body21 rfl (evs_cons rfl evs_nil) (fun w9 hw9 => Calls.gives (wardmotelaw31_stops_c n _ w9 (hS8127.hL hL hw9) 2) fun (w8 : World) (u8 : Value) ⟨b0_, hu_, s_⟩ => (⟨b0_, hu_, s_.from hw9⟩ : ∃ b8134 : Nat, u8 = Value.func (.func 39) #[] #[.pointer (some ⟨b8134, 0, none⟩)] ∧ St w8124 w8 [.cells b8134 [.int .i64 2] 27])) rfl (fun w8135 vu8136 hag8137 ⟨b8134, hu8139, s8138⟩ => ?_))
       subst hu8139
       have hS8140 : St w w8135 [.cells b8134 [.int .i64 2] 27, .cells b8110 [.int .i64 180] 27, .cells b38 [.int .i64 2, (.slice (some ⟨b32, 0, none⟩) 1 1)] 40, .cells b20 [.int .u64 1099511627776] 37, .cells b15 [.int .i64 y3.fN, v9] 40] := St.merge hS8127 s8138
       have hT8141 : Tr w8124 [.cells b8110 [.int .i64 180] 27, .cells b38 [.int .i64 2, (.slice (some ⟨b32, 0, none⟩) 1 1)] 40, .cells b20 [.int .u64 1099511627776] 37, .cells b15 [.int .i64 y3.fN, v9] 40] w8135 [.cells b8134 [.int .i64 2] 27, .cells b8110 [.int .i64 180] 27, .cells b38 [.int .i64 2, (.slice (some ⟨b32, 0, none⟩) 1 1)] 40, .cells b20 [.int .u64 1099511627776] 37, .cells b15 [.int .i64 y3.fN, v9] 40] := Tr.merge hS8127 s8138
       obtain ⟨y8142, hy8142, h⟩ := bind_in h
       have hm8143 := Rep.mv hr10 (Tr.trans hT14 (Tr.trans hT19 (Tr.trans hT24 (Tr.trans hT27 (Tr.trans hT31 (Tr.trans hT37 (Tr.trans hT41 (Tr.trans hT7537 (Tr.trans hT8117 (Tr.trans hT8121 (Tr.trans hT8128 hT8141)))))))))))
       refine RD.one (i := 15) (readyD_ok kt8106 (by kernel_rfl)) (RO.call (m' := 65535) (fst := []) (cap := []) (stepC_ok kt8106 (by kernel_rfl)) rfl (.yes rfl rfl) body15 rfl (evs_cons rfl (evs_cons rfl (evs_cons rfl (evs_cons rfl (evs_cons rfl evs_nil))))) (fun w9 hw9 => wilson_Walk_c n _ w9 (hS8140.hL hL hw9) y3 (Rep.keep0 hm8143 hw9) (16 : UInt64) 0 (1 : UInt64) (⟨(1099511627776 : UInt64)⟩ : TChance) (hG0.keep (hS8140.ag.trans hw9)) hy8142) rfl (fun w8144 vu8145 hag8146 ⟨v8149, hu_, hr8150⟩ => ?_))
       subst hu_
       have hS8147 := hS8140.agree hag8146
       have hT8148 := Tr.agree (O := [.cells b8134 [.int .i64 2] 27, .cells b8110 [.int .i64 180] 27, .cells b38 [.int .i64 2, (.slice (some ⟨b32, 0, none⟩) 1 1)] 40, .cells b20 [.int .u64 1099511627776] 37, .cells b15 [.int .i64 y3.fN, v9] 40]) hag8146
       refine RD.vP 16 131071 kt8106 rfl kp8107 (.yes rfl rfl) (fun _ => FV.extract rfl rfl) rfl ?_
       refine RD.vP 17 262143 kt8106 rfl kp8107 (.yes rfl rfl) (fun _ => FV.extract rfl rfl) rfl ?_
       refine RD.vP 18 524287 kt8106 rfl kp8107 (.yes rfl rfl) (fun _ => FV.extract rfl rfl) rfl ?_
       obtain ⟨y8151, hy8151, h⟩ := bind_in h
       refine RD.callq (i := 19) (m' := 1048575) (W := 19807040628566084398384939008) (takeC_ok kt8106 (by kernel_rfl)) rfl kp8107 (v := .bool y8151) (fst := []) (cap := [.pointer (some ⟨b8134, 0, none⟩)]) (.yes rfl rfl) body39 rfl (evs_cons rfl (evs_cons rfl (evs_cons rfl evs_nil))) (fun w9 hw9 => wardmotelaw31_stops_1_c n _ w9 (hS8147.hL0 hL hw9) y8142.1 (Rep.keep0 (Rep.dropO (O := [.cells b8134 [.int .i64 2] 27, .cells b8110 [.int .i64 180] 27, .cells b38 [.int .i64 2, (.slice (some ⟨b32, 0, none⟩) 1 1)] 40, .cells b20 [.int .u64 1099511627776] 37, .cells b15 [.int .i64 y3.fN, v9] 40]) hr8150) hw9) y8142.2.1 y8142.2.2 2 (fun j9 v9 h9 => hw9.cell0 ((hS8147.memA .hd) j9 v9 h9)) hy8151) rfl ?_
       refine RD.vP 20 2097151 kt8106 rfl kp8107 .plain (fun _ => FV.pick_t rfl rfl) rfl ?_
       refine RD.vP 21 4194303 kt8106 rfl kp8107 .plain (fun _ => FV.move rfl) rfl ?_
       refine RD.ifb (s := 83) rfl h (fun c8152 h => ?_) (fun c8152 h => ?_)
       ·skip
        refine RD.val (i := 23) (m' := 12582911) (W := 19807040628566084398352433152) (takeC_ok kt8106 (by kernel_rfl)) rfl kp8107 (.yes rfl rfl) (FV.loadN (cs := [.int .i64 y3.fN, v9]) (by kernel_rfl) rfl (hS8147.memA (.tl (.tl (.tl (.tl .hd)))))) rfl ?_
        refine RD.val (i := 24) (m' := 29360127) (W := 19807040628566084398352433152) (takeC_ok kt8106 (by kernel_rfl)) rfl kp8107 (.yes rfl rfl) (FV.loadN (cs := [.int .u64 1099511627776]) (by kernel_rfl) rfl (hS8147.memA (.tl (.tl (.tl .hd))))) rfl ?_
        refine RD.one (i := 22) (readyD_ok kt8106 (by kernel_rfl)) (RO.call (m' := 33554431) (fst := []) (cap := []) (stepC_ok kt8106 (by kernel_rfl)) rfl (.yes rfl rfl) body21 rfl (evs_cons rfl evs_nil) (fun w9 hw9 => Calls.gives (wardmotelaw31_stops_c n _ w9 (hS8147.hL hL hw9) 2) fun (w8 : World) (u8 : Value) ⟨b0_, hu_, s_⟩ => (⟨b0_, hu_, s_.from hw9⟩ : ∃ b8154 : Nat, u8 = Value.func (.func 39) #[] #[.pointer (some ⟨b8154, 0, none⟩)] ∧ St w8144 w8 [.cells b8154 [.int .i64 2] 27])) rfl (fun w8155 vu8156 hag8157 ⟨b8154, hu8159, s8158⟩ => ?_))
        subst hu8159
        have hS8160 : St w w8155 [.cells b8154 [.int .i64 2] 27, .cells b8134 [.int .i64 2] 27, .cells b8110 [.int .i64 180] 27, .cells b38 [.int .i64 2, (.slice (some ⟨b32, 0, none⟩) 1 1)] 40, .cells b20 [.int .u64 1099511627776] 37, .cells b15 [.int .i64 y3.fN, v9] 40] := St.merge hS8147 s8158
        have hT8161 : Tr w8144 [.cells b8134 [.int .i64 2] 27, .cells b8110 [.int .i64 180] 27, .cells b38 [.int .i64 2, (.slice (some ⟨b32, 0, none⟩) 1 1)] 40, .cells b20 [.int .u64 1099511627776] 37, .cells b15 [.int .i64 y3.fN, v9] 40] w8155 [.cells b8154 [.int .i64 2] 27, .cells b8134 [.int .i64 2] 27, .cells b8110 [.int .i64 180] 27, .cells b38 [.int .i64 2, (.slice (some ⟨b32, 0, none⟩) 1 1)] 40, .cells b20 [.int .u64 1099511627776] 37, .cells b15 [.int .i64 y3.fN, v9] 40] := Tr.merge hS8147 s8158
        obtain ⟨y8162, hy8162, h⟩ := bind_in h
        have hm8163 := Rep.mv hr10 (Tr.trans hT14 (Tr.trans hT19 (Tr.trans hT24 (Tr.trans hT27 (Tr.trans hT31 (Tr.trans hT37 (Tr.trans hT41 (Tr.trans hT7537 (Tr.trans hT8117 (Tr.trans hT8121 (Tr.trans hT8128 (Tr.trans hT8141 (Tr.trans hT8148 hT8161)))))))))))))
        refine RD.one (i := 25) (readyD_ok kt8106 (by kernel_rfl)) (RO.call (m' := 67108863) (fst := []) (cap := []) (stepC_ok kt8106 (by kernel_rfl)) rfl (.yes rfl rfl) body15 rfl (evs_cons rfl (evs_cons rfl (evs_cons rfl (evs_cons rfl (evs_cons rfl evs_nil))))) (fun w9 hw9 => wilson_Walk_c n _ w9 (hS8160.hL hL hw9) y3 (Rep.keep0 hm8163 hw9) (15 : UInt64) 0 (16 : UInt64) (⟨(1099511627776 : UInt64)⟩ : TChance) (hG0.keep (hS8160.ag.trans hw9)) hy8162) rfl (fun w8164 vu8165 hag8166 ⟨v8169, hu_, hr8170⟩ => ?_))
        subst hu_
        have hS8167 := hS8160.agree hag8166
        have hT8168 := Tr.agree (O := [.cells b8154 [.int .i64 2] 27, .cells b8134 [.int .i64 2] 27, .cells b8110 [.int .i64 180] 27, .cells b38 [.int .i64 2, (.slice (some ⟨b32, 0, none⟩) 1 1)] 40, .cells b20 [.int .u64 1099511627776] 37, .cells b15 [.int .i64 y3.fN, v9] 40]) hag8166
        refine RD.vP 26 134217727 kt8106 rfl kp8107 (.yes rfl rfl) (fun _ => FV.extract rfl rfl) rfl ?_
        refine RD.vP 27 268435455 kt8106 rfl kp8107 (.yes rfl rfl) (fun _ => FV.extract rfl rfl) rfl ?_
        refine RD.vP 28 536870911 kt8106 rfl kp8107 (.yes rfl rfl) (fun _ => FV.extract rfl rfl) rfl ?_
        obtain ⟨y8171, hy8171, h⟩ := bind_in h
        refine RD.callq (i := 29) (m' := 1073741823) (W := 19807040628566084397312245760) (takeC_ok kt8106 (by kernel_rfl)) rfl kp8107 (v := .bool y8171) (fst := []) (cap := [.pointer (some ⟨b8154, 0, none⟩)]) (.yes rfl rfl) body39 rfl (evs_cons rfl (evs_cons rfl (evs_cons rfl evs_nil))) (fun w9 hw9 => wardmotelaw31_stops_1_c n _ w9 (hS8167.hL0 hL hw9) y8162.1 (Rep.keep0 (Rep.dropO (O := [.cells b8154 [.int .i64 2] 27, .cells b8134 [.int .i64 2] 27, .cells b8110 [.int .i64 180] 27, .cells b38 [.int .i64 2, (.slice (some ⟨b32, 0, none⟩) 1 1)] 40, .cells b20 [.int .u64 1099511627776] 37, .cells b15 [.int .i64 y3.fN, v9] 40]) hr8170) hw9) y8162.2.1 y8162.2.2 2 (fun j9 v9 h9 => hw9.cell0 ((hS8167.memA .hd) j9 v9 h9)) hy8171) rfl ?_
        refine RD.vP 30 2147483647 kt8106 rfl kp8107 .plain (fun _ => FV.pick_t rfl rfl) rfl ?_
        refine RD.vP 31 4294967295 kt8106 rfl kp8107 .plain (fun _ => FV.move rfl) rfl ?_
        refine RD.ifb (s := 93) rfl h (fun c8172 h => ?_) (fun c8172 h => ?_)
        ·skip
         refine RD.val (i := 33) (m' := 12884901887) (W := 19807040628566084364026249216) (takeC_ok kt8106 (by kernel_rfl)) rfl kp8107 (.yes rfl rfl) (FV.loadN (cs := [.int .i64 y3.fN, v9]) (by kernel_rfl) rfl (hS8167.memA (.tl (.tl (.tl (.tl (.tl .hd))))))) rfl ?_
         refine RD.val (i := 34) (m' := 30064771071) (W := 19807040628566084364026249216) (takeC_ok kt8106 (by kernel_rfl)) rfl kp8107 (.yes rfl rfl) (FV.loadN (cs := [.int .u64 1099511627776]) (by kernel_rfl) rfl (hS8167.memA (.tl (.tl (.tl (.tl .hd)))))) rfl ?_
         refine RD.one (i := 32) (readyD_ok kt8106 (by kernel_rfl)) (RO.call (m' := 34359738367) (fst := []) (cap := []) (stepC_ok kt8106 (by kernel_rfl)) rfl (.yes rfl rfl) body21 rfl (evs_cons rfl evs_nil) (fun w9 hw9 => Calls.gives (wardmotelaw31_stops_c n _ w9 (hS8167.hL hL hw9) 2) fun (w8 : World) (u8 : Value) ⟨b0_, hu_, s_⟩ => (⟨b0_, hu_, s_.from hw9⟩ : ∃ b8174 : Nat, u8 = Value.func (.func 39) #[] #[.pointer (some ⟨b8174, 0, none⟩)] ∧ St w8164 w8 [.cells b8174 [.int .i64 2] 27])) rfl (fun w8175 vu8176 hag8177 ⟨b8174, hu8179, s8178⟩ => ?_))
         subst hu8179
         have hS8180 : St w w8175 [.cells b8174 [.int .i64 2] 27, .cells b8154 [.int .i64 2] 27, .cells b8134 [.int .i64 2] 27, .cells b8110 [.int .i64 180] 27, .cells b38 [.int .i64 2, (.slice (some ⟨b32, 0, none⟩) 1 1)] 40, .cells b20 [.int .u64 1099511627776] 37, .cells b15 [.int .i64 y3.fN, v9] 40] := St.merge hS8167 s8178
         have hT8181 : Tr w8164 [.cells b8154 [.int .i64 2] 27, .cells b8134 [.int .i64 2] 27, .cells b8110 [.int .i64 180] 27, .cells b38 [.int .i64 2, (.slice (some ⟨b32, 0, none⟩) 1 1)] 40, .cells b20 [.int .u64 1099511627776] 37, .cells b15 [.int .i64 y3.fN, v9] 40] w8175 [.cells b8174 [.int .i64 2] 27, .cells b8154 [.int .i64 2] 27, .cells b8134 [.int .i64 2] 27, .cells b8110 [.int .i64 180] 27, .cells b38 [.int .i64 2, (.slice (some ⟨b32, 0, none⟩) 1 1)] 40, .cells b20 [.int .u64 1099511627776] 37, .cells b15 [.int .i64 y3.fN, v9] 40] := Tr.merge hS8167 s8178
         obtain ⟨y8182, hy8182, h⟩ := bind_in h
         have hm8183 := Rep.mv hr10 (Tr.trans hT14 (Tr.trans hT19 (Tr.trans hT24 (Tr.trans hT27 (Tr.trans hT31 (Tr.trans hT37 (Tr.trans hT41 (Tr.trans hT7537 (Tr.trans hT8117 (Tr.trans hT8121 (Tr.trans hT8128 (Tr.trans hT8141 (Tr.trans hT8148 (Tr.trans hT8161 (Tr.trans hT8168 hT8181)))))))))))))))
         refine RD.one (i := 35) (readyD_ok kt8106 (by kernel_rfl)) (RO.call (m' := 68719476735) (fst := []) (cap := []) (stepC_ok kt8106 (by kernel_rfl)) rfl (.yes rfl rfl) body15 rfl (evs_cons rfl (evs_cons rfl (evs_cons rfl (evs_cons rfl (evs_cons rfl evs_nil))))) (fun w9 hw9 => wilson_Walk_c n _ w9 (hS8180.hL hL hw9) y3 (Rep.keep0 hm8183 hw9) (15 : UInt64) (-1) (1 : UInt64) (⟨(1099511627776 : UInt64)⟩ : TChance) (hG0.keep (hS8180.ag.trans hw9)) hy8182) rfl (fun w8184 vu8185 hag8186 ⟨v8189, hu_, hr8190⟩ => ?_))
         subst hu_
         have hS8187 := hS8180.agree hag8186
         have hT8188 := Tr.agree (O := [.cells b8174 [.int .i64 2] 27, .cells b8154 [.int .i64 2] 27, .cells b8134 [.int .i64 2] 27, .cells b8110 [.int .i64 180] 27, .cells b38 [.int .i64 2, (.slice (some ⟨b32, 0, none⟩) 1 1)] 40, .cells b20 [.int .u64 1099511627776] 37, .cells b15 [.int .i64 y3.fN, v9] 40]) hag8186
         refine RD.vP 36 137438953471 kt8106 rfl kp8107 (.yes rfl rfl) (fun _ => FV.extract rfl rfl) rfl ?_
         refine RD.vP 37 274877906943 kt8106 rfl kp8107 (.yes rfl rfl) (fun _ => FV.extract rfl rfl) rfl ?_
         refine RD.vP 38 549755813887 kt8106 rfl kp8107 (.yes rfl rfl) (fun _ => FV.extract rfl rfl) rfl ?_
         obtain ⟨y8191, hy8191, h⟩ := bind_in h
         refine RD.callq (i := 39) (m' := 1099511627775) (W := 19807040628566083298874359808) (takeC_ok kt8106 (by kernel_rfl)) rfl kp8107 (v := .bool y8191) (fst := []) (cap := [.pointer (some ⟨b8174, 0, none⟩)]) (.yes rfl rfl) body39 rfl (evs_cons rfl (evs_cons rfl (evs_cons rfl evs_nil))) (fun w9 hw9 => wardmotelaw31_stops_1_c n _ w9 (hS8187.hL0 hL hw9) y8182.1 (Rep.keep0 (Rep.dropO (O := [.cells b8174 [.int .i64 2] 27, .cells b8154 [.int .i64 2] 27, .cells b8134 [.int .i64 2] 27, .cells b8110 [.int .i64 180] 27, .cells b38 [.int .i64 2, (.slice (some ⟨b32, 0, none⟩) 1 1)] 40, .cells b20 [.int .u64 1099511627776] 37, .cells b15 [.int .i64 y3.fN, v9] 40]) hr8190) hw9) y8182.2.1 y8182.2.2 2 (fun j9 v9 h9 => hw9.cell0 ((hS8187.memA .hd) j9 v9 h9)) hy8191) rfl ?_
         refine RD.vP 40 2199023255551 kt8106 rfl kp8107 .plain (fun _ => FV.pick_t rfl rfl) rfl ?_
         refine RD.vP 41 4398046511103 kt8106 rfl kp8107 .plain (fun _ => FV.move rfl) rfl ?_
         refine RD.ifb (s := 103) rfl h (fun c8192 h => ?_) (fun c8192 h => ?_)
         ·skip
          refine RD.val (i := 43) (m' := 13194139533311) (W := 19807040628566049214013898752) (takeC_ok kt8106 (by kernel_rfl)) rfl kp8107 (.yes rfl rfl) (FV.loadN (cs := [.int .i64 y3.fN, v9]) (by kernel_rfl) rfl (hS8187.memA (.tl (.tl (.tl (.tl (.tl (.tl .hd)))))))) rfl ?_
          refine RD.val (i := 44) (m' := 30786325577727) (W := 19807040628566049214013898752) (takeC_ok kt8106 (by kernel_rfl)) rfl kp8107 (.yes rfl rfl) (FV.loadN (cs := [.int .u64 1099511627776]) (by kernel_rfl) rfl (hS8187.memA (.tl (.tl (.tl (.tl (.tl .hd))))))) rfl ?_
          refine RD.one (i := 42) (readyD_ok kt8106 (by kernel_rfl)) (RO.call (m' := 35184372088831) (fst := []) (cap := []) (stepC_ok kt8106 (by kernel_rfl)) rfl (.yes rfl rfl) body21 rfl (evs_cons rfl evs_nil) (fun w9 hw9 => Calls.gives (wardmotelaw31_stops_c n _ w9 (hS8187.hL hL hw9) 2) fun (w8 : World) (u8 : Value) ⟨b0_, hu_, s_⟩ => (⟨b0_, hu_, s_.from hw9⟩ : ∃ b8194 : Nat, u8 = Value.func (.func 39) #[] #[.pointer (some ⟨b8194, 0, none⟩)] ∧ St w8184 w8 [.cells b8194 [.int .i64 2] 27])) rfl (fun w8195 vu8196 hag8197 ⟨b8194, hu8199, s8198⟩ => ?_))
          subst hu8199
          have hS8200 : St w w8195 [.cells b8194 [.int .i64 2] 27, .cells b8174 [.int .i64 2] 27, .cells b8154 [.int .i64 2] 27, .cells b8134 [.int .i64 2] 27, .cells b8110 [.int .i64 180] 27, .cells b38 [.int .i64 2, (.slice (some ⟨b32, 0, none⟩) 1 1)] 40, .cells b20 [.int .u64 1099511627776] 37, .cells b15 [.int .i64 y3.fN, v9] 40] := St.merge hS8187 s8198
          have hT8201 : Tr w8184 [.cells b8174 [.int .i64 2] 27, .cells b8154 [.int .i64 2] 27, .cells b8134 [.int .i64 2] 27, .cells b8110 [.int .i64 180] 27, .cells b38 [.int .i64 2, (.slice (some ⟨b32, 0, none⟩) 1 1)] 40, .cells b20 [.int .u64 1099511627776] 37, .cells b15 [.int .i64 y3.fN, v9] 40] w8195 [.cells b8194 [.int .i64 2] 27, .cells b8174 [.int .i64 2] 27, .cells b8154 [.int .i64 2] 27, .cells b8134 [.int .i64 2] 27, .cells b8110 [.int .i64 180] 27, .cells b38 [.int .i64 2, (.slice (some ⟨b32, 0, none⟩) 1 1)] 40, .cells b20 [.int .u64 1099511627776] 37, .cells b15 [.int .i64 y3.fN, v9] 40] := Tr.merge hS8187 s8198
          obtain ⟨y8202, hy8202, h⟩ := bind_in h
          have hm8203 := Rep.mv hr10 (Tr.trans hT14 (Tr.trans hT19 (Tr.trans hT24 (Tr.trans hT27 (Tr.trans hT31 (Tr.trans hT37 (Tr.trans hT41 (Tr.trans hT7537 (Tr.trans hT8117 (Tr.trans hT8121 (Tr.trans hT8128 (Tr.trans hT8141 (Tr.trans hT8148 (Tr.trans hT8161 (Tr.trans hT8168 (Tr.trans hT8181 (Tr.trans hT8188 hT8201)))))))))))))))))
          refine RD.one (i := 45) (readyD_ok kt8106 (by kernel_rfl)) (RO.call (m' := 70368744177663) (fst := []) (cap := []) (stepC_ok kt8106 (by kernel_rfl)) rfl (.yes rfl rfl) body15 rfl (evs_cons rfl (evs_cons rfl (evs_cons rfl (evs_cons rfl (evs_cons rfl evs_nil))))) (fun w9 hw9 => wilson_Walk_c n _ w9 (hS8200.hL hL hw9) y3 (Rep.keep0 hm8203 hw9) (15 : UInt64) 4 (1 : UInt64) (⟨(1099511627776 : UInt64)⟩ : TChance) (hG0.keep (hS8200.ag.trans hw9)) hy8202) rfl (fun w8204 vu8205 hag8206 ⟨v8209, hu_, hr8210⟩ => ?_))
          subst hu_
          have hS8207 := hS8200.agree hag8206
          have hT8208 := Tr.agree (O := [.cells b8194 [.int .i64 2] 27, .cells b8174 [.int .i64 2] 27, .cells b8154 [.int .i64 2] 27, .cells b8134 [.int .i64 2] 27, .cells b8110 [.int .i64 180] 27, .cells b38 [.int .i64 2, (.slice (some ⟨b32, 0, none⟩) 1 1)] 40, .cells b20 [.int .u64 1099511627776] 37, .cells b15 [.int .i64 y3.fN, v9] 40]) hag8206
          refine RD.vP 46 140737488355327 kt8106 rfl kp8107 (.yes rfl rfl) (fun _ => FV.extract rfl rfl) rfl ?_
          refine RD.vP 47 281474976710655 kt8106 rfl kp8107 (.yes rfl rfl) (fun _ => FV.extract rfl rfl) rfl ?_
          refine RD.vP 48 562949953421311 kt8106 rfl kp8107 (.yes rfl rfl) (fun _ => FV.extract rfl rfl) rfl ?_
          obtain ⟨y8211, hy8211, h⟩ := bind_in h
          refine RD.callq (i := 49) (m' := 1125899906842623) (W := 19807040628564958498479144960) (takeC_ok kt8106 (by kernel_rfl)) rfl kp8107 (v := .bool y8211) (fst := []) (cap := [.pointer (some ⟨b8194, 0, none⟩)]) (.yes rfl rfl) body39 rfl (evs_cons rfl (evs_cons rfl (evs_cons rfl evs_nil))) (fun w9 hw9 => wardmotelaw31_stops_1_c n _ w9 (hS8207.hL0 hL hw9) y8202.1 (Rep.keep0 (Rep.dropO (O := [.cells b8194 [.int .i64 2] 27, .cells b8174 [.int .i64 2] 27, .cells b8154 [.int .i64 2] 27, .cells b8134 [.int .i64 2] 27, .cells b8110 [.int .i64 180] 27, .cells b38 [.int .i64 2, (.slice (some ⟨b32, 0, none⟩) 1 1)] 40, .cells b20 [.int .u64 1099511627776] 37, .cells b15 [.int .i64 y3.fN, v9] 40]) hr8210) hw9) y8202.2.1 y8202.2.2 2 (fun j9 v9 h9 => hw9.cell0 ((hS8207.memA .hd) j9 v9 h9)) hy8211) rfl ?_
          refine RD.vP 50 2251799813685247 kt8106 rfl kp8107 .plain (fun _ => FV.pick_t rfl rfl) rfl ?_
          refine RD.vP 51 4503599627370495 kt8106 rfl kp8107 .plain (fun _ => FV.move rfl) rfl ?_
          refine RD.ifb (s := 113) rfl h (fun c8212 h => ?_) (fun c8212 h => ?_)
          ·skip
           refine RD.val (i := 53) (m' := 13510798882111487) (W := 19807040628530055601367023616) (takeC_ok kt8106 (by kernel_rfl)) rfl kp8107 (.yes rfl rfl) (FV.loadN (cs := [.int .i64 y3.fN, v9]) (by kernel_rfl) rfl (hS8207.memA (.tl (.tl (.tl (.tl (.tl (.tl (.tl .hd))))))))) rfl ?_
           refine RD.val (i := 54) (m' := 31525197391593471) (W := 19807040628530055601367023616) (takeC_ok kt8106 (by kernel_rfl)) rfl kp8107 (.yes rfl rfl) (FV.loadN (cs := [.int .u64 1099511627776]) (by kernel_rfl) rfl (hS8207.memA (.tl (.tl (.tl (.tl (.tl (.tl .hd)))))))) rfl ?_
           refine RD.one (i := 52) (readyD_ok kt8106 (by kernel_rfl)) (RO.call (m' := 36028797018963967) (fst := []) (cap := []) (stepC_ok kt8106 (by kernel_rfl)) rfl (.yes rfl rfl) body21 rfl (evs_cons rfl evs_nil) (fun w9 hw9 => Calls.gives (wardmotelaw31_stops_c n _ w9 (hS8207.hL hL hw9) 2) fun (w8 : World) (u8 : Value) ⟨b0_, hu_, s_⟩ => (⟨b0_, hu_, s_.from hw9⟩ : ∃ b8214 : Nat, u8 = Value.func (.func 39) #[] #[.pointer (some ⟨b8214, 0, none⟩)] ∧ St w8204 w8 [.cells b8214 [.int .i64 2] 27])) rfl (fun w8215 vu8216 hag8217 ⟨b8214, hu8219, s8218⟩ => ?_))
           subst hu8219
           have hS8220 : St w w8215 [.cells b8214 [.int .i64 2] 27, .cells b8194 [.int .i64 2] 27, .cells b8174 [.int .i64 2] 27, .cells b8154 [.int .i64 2] 27, .cells b8134 [.int .i64 2] 27, .cells b8110 [.int .i64 180] 27, .cells b38 [.int .i64 2, (.slice (some ⟨b32, 0, none⟩) 1 1)] 40, .cells b20 [.int .u64 1099511627776] 37, .cells b15 [.int .i64 y3.fN, v9] 40] := St.merge hS8207 s8218
           have hT8221 : Tr w8204 [.cells b8194 [.int .i64 2] 27, .cells b8174 [.int .i64 2] 27, .cells b8154 [.int .i64 2] 27, .cells b8134 [.int .i64 2] 27, .cells b8110 [.int .i64 180] 27, .cells b38 [.int .i64 2, (.slice (some ⟨b32, 0, none⟩) 1 1)] 40, .cells b20 [.int .u64 1099511627776] 37, .cells b15 [.int .i64 y3.fN, v9] 40] w8215 [.cells b8214 [.int .i64 2] 27, .cells b8194 [.int .i64 2] 27, .cells b8174 [.int .i64 2] 27, .cells b8154 [.int .i64 2] 27, .cells b8134 [.int .i64 2] 27, .cells b8110 [.int .i64 180] 27, .cells b38 [.int .i64 2, (.slice (some ⟨b32, 0, none⟩) 1 1)] 40, .cells b20 [.int .u64 1099511627776] 37, .cells b15 [.int .i64 y3.fN, v9] 40] := Tr.merge hS8207 s8218
           obtain ⟨y8222, hy8222, h⟩ := bind_in h
           have hm8223 := Rep.mv hr10 (Tr.trans hT14 (Tr.trans hT19 (Tr.trans hT24 (Tr.trans hT27 (Tr.trans hT31 (Tr.trans hT37 (Tr.trans hT41 (Tr.trans hT7537 (Tr.trans hT8117 (Tr.trans hT8121 (Tr.trans hT8128 (Tr.trans hT8141 (Tr.trans hT8148 (Tr.trans hT8161 (Tr.trans hT8168 (Tr.trans hT8181 (Tr.trans hT8188 (Tr.trans hT8201 (Tr.trans hT8208 hT8221)))))))))))))))))))
           refine RD.one (i := 55) (readyD_ok kt8106 (by kernel_rfl)) (RO.call (m' := 72057594037927935) (fst := []) (cap := []) (stepC_ok kt8106 (by kernel_rfl)) rfl (.yes rfl rfl) body15 rfl (evs_cons rfl (evs_cons rfl (evs_cons rfl (evs_cons rfl (evs_cons rfl evs_nil))))) (fun w9 hw9 => wilson_Walk_c n _ w9 (hS8220.hL hL hw9) y3 (Rep.keep0 hm8223 hw9) (0 : UInt64) 0 (0 : UInt64) (⟨(1099511627776 : UInt64)⟩ : TChance) (hG0.keep (hS8220.ag.trans hw9)) hy8222) rfl (fun w8224 vu8225 hag8226 ⟨v8229, hu_, hr8230⟩ => ?_))
           subst hu_
           have hS8227 := hS8220.agree hag8226
           have hT8228 := Tr.agree (O := [.cells b8214 [.int .i64 2] 27, .cells b8194 [.int .i64 2] 27, .cells b8174 [.int .i64 2] 27, .cells b8154 [.int .i64 2] 27, .cells b8134 [.int .i64 2] 27, .cells b8110 [.int .i64 180] 27, .cells b38 [.int .i64 2, (.slice (some ⟨b32, 0, none⟩) 1 1)] 40, .cells b20 [.int .u64 1099511627776] 37, .cells b15 [.int .i64 y3.fN, v9] 40]) hag8226
           refine RD.vP 56 144115188075855871 kt8106 rfl kp8107 (.yes rfl rfl) (fun _ => FV.extract rfl rfl) rfl ?_
           refine RD.vP 57 288230376151711743 kt8106 rfl kp8107 (.yes rfl rfl) (fun _ => FV.extract rfl rfl) rfl ?_
           refine RD.vP 58 576460752303423487 kt8106 rfl kp8107 (.yes rfl rfl) (fun _ => FV.extract rfl rfl) rfl ?_
           obtain ⟨y8231, hy8231, h⟩ := bind_in h
           refine RD.callq (i := 59) (m' := 1152921504606846975) (W := 19807040627413162893779140608) (takeC_ok kt8106 (by kernel_rfl)) rfl kp8107 (v := .bool y8231) (fst := []) (cap := [.pointer (some ⟨b8214, 0, none⟩)]) (.yes rfl rfl) body39 rfl (evs_cons rfl (evs_cons rfl (evs_cons rfl evs_nil))) (fun w9 hw9 => wardmotelaw31_stops_1_c n _ w9 (hS8227.hL0 hL hw9) y8222.1 (Rep.keep0 (Rep.dropO (O := [.cells b8214 [.int .i64 2] 27, .cells b8194 [.int .i64 2] 27, .cells b8174 [.int .i64 2] 27, .cells b8154 [.int .i64 2] 27, .cells b8134 [.int .i64 2] 27, .cells b8110 [.int .i64 180] 27, .cells b38 [.int .i64 2, (.slice (some ⟨b32, 0, none⟩) 1 1)] 40, .cells b20 [.int .u64 1099511627776] 37, .cells b15 [.int .i64 y3.fN, v9] 40]) hr8230) hw9) y8222.2.1 y8222.2.2 2 (fun j9 v9 h9 => hw9.cell0 ((hS8227.memA .hd) j9 v9 h9)) hy8231) rfl ?_
           refine RD.vP 60 2305843009213693951 kt8106 rfl kp8107 .plain (fun _ => FV.pick_t rfl rfl) rfl ?_
           refine RD.vP 61 4611686018427387903 kt8106 rfl kp8107 .plain (fun _ => FV.move rfl) rfl ?_
           refine RD.ifb (s := 123) rfl h (fun c8232 h => ?_) (fun c8232 h => ?_)
           ·skip
            refine RD.val (i := 63) (m' := 13835058055282163711) (W := 19807040591672596250966884352) (takeC_ok kt8106 (by kernel_rfl)) rfl kp8107 (.yes rfl rfl) (FV.loadN (cs := [.int .i64 y3.fN, v9]) (by kernel_rfl) rfl (hS8227.memA (.tl (.tl (.tl (.tl (.tl (.tl (.tl (.tl .hd)))))))))) rfl ?_
            refine RD.val (i := 64) (m' := 32281802128991715327) (W := 19807040591672596250966884352) (takeC_ok kt8106 (by kernel_rfl)) rfl kp8107 (.yes rfl rfl) (FV.loadN (cs := [.int .u64 1099511627776]) (by kernel_rfl) rfl (hS8227.memA (.tl (.tl (.tl (.tl (.tl (.tl (.tl .hd))))))))) rfl ?_
            refine RD.one (i := 62) (readyD_ok kt8106 (by kernel_rfl)) (RO.call (m' := 36893488147419103231) (fst := []) (cap := []) (stepC_ok kt8106 (by kernel_rfl)) rfl (.yes rfl rfl) body21 rfl (evs_cons rfl evs_nil) (fun w9 hw9 => Calls.gives (wardmotelaw31_stops_c n _ w9 (hS8227.hL hL hw9) 4) fun (w8 : World) (u8 : Value) ⟨b0_, hu_, s_⟩ => (⟨b0_, hu_, s_.from hw9⟩ : ∃ b8234 : Nat, u8 = Value.func (.func 39) #[] #[.pointer (some ⟨b8234, 0, none⟩)] ∧ St w8224 w8 [.cells b8234 [.int .i64 4] 27])) rfl (fun w8235 vu8236 hag8237 ⟨b8234, hu8239, s8238⟩ => ?_))
            subst hu8239
            have hS8240 : St w w8235 [.cells b8234 [.int .i64 4] 27, .cells b8214 [.int .i64 2] 27, .cells b8194 [.int .i64 2] 27, .cells b8174 [.int .i64 2] 27, .cells b8154 [.int .i64 2] 27, .cells b8134 [.int .i64 2] 27, .cells b8110 [.int .i64 180] 27, .cells b38 [.int .i64 2, (.slice (some ⟨b32, 0, none⟩) 1 1)] 40, .cells b20 [.int .u64 1099511627776] 37, .cells b15 [.int .i64 y3.fN, v9] 40] := St.merge hS8227 s8238
            have hT8241 : Tr w8224 [.cells b8214 [.int .i64 2] 27, .cells b8194 [.int .i64 2] 27, .cells b8174 [.int .i64 2] 27, .cells b8154 [.int .i64 2] 27, .cells b8134 [.int .i64 2] 27, .cells b8110 [.int .i64 180] 27, .cells b38 [.int .i64 2, (.slice (some ⟨b32, 0, none⟩) 1 1)] 40, .cells b20 [.int .u64 1099511627776] 37, .cells b15 [.int .i64 y3.fN, v9] 40] w8235 [.cells b8234 [.int .i64 4] 27, .cells b8214 [.int .i64 2] 27, .cells b8194 [.int .i64 2] 27, .cells b8174 [.int .i64 2] 27, .cells b8154 [.int .i64 2] 27, .cells b8134 [.int .i64 2] 27, .cells b8110 [.int .i64 180] 27, .cells b38 [.int .i64 2, (.slice (some ⟨b32, 0, none⟩) 1 1)] 40, .cells b20 [.int .u64 1099511627776] 37, .cells b15 [.int .i64 y3.fN, v9] 40] := Tr.merge hS8227 s8238
            obtain ⟨y8242, hy8242, h⟩ := bind_in h
            have hm8243 := Rep.mv hr10 (Tr.trans hT14 (Tr.trans hT19 (Tr.trans hT24 (Tr.trans hT27 (Tr.trans hT31 (Tr.trans hT37 (Tr.trans hT41 (Tr.trans hT7537 (Tr.trans hT8117 (Tr.trans hT8121 (Tr.trans hT8128 (Tr.trans hT8141 (Tr.trans hT8148 (Tr.trans hT8161 (Tr.trans hT8168 (Tr.trans hT8181 (Tr.trans hT8188 (Tr.trans hT8201 (Tr.trans hT8208 (Tr.trans hT8221 (Tr.trans hT8228 hT8241)))))))))))))))))))))
            refine RD.one (i := 65) (readyD_ok kt8106 (by kernel_rfl)) (RO.call (m' := 73786976294838206463) (fst := []) (cap := []) (stepC_ok kt8106 (by kernel_rfl)) rfl (.yes rfl rfl) body15 rfl (evs_cons rfl (evs_cons rfl (evs_cons rfl (evs_cons rfl (evs_cons rfl evs_nil))))) (fun w9 hw9 => wilson_Walk_c n _ w9 (hS8240.hL hL hw9) y3 (Rep.keep0 hm8243 hw9) (15 : UInt64) 0 (0 : UInt64) (⟨(1099511627776 : UInt64)⟩ : TChance) (hG0.keep (hS8240.ag.trans hw9)) hy8242) rfl (fun w8244 vu8245 hag8246 ⟨v8249, hu_, hr8250⟩ => ?_))
            subst hu_
            have hS8247 := hS8240.agree hag8246
            have hT8248 := Tr.agree (O := [.cells b8234 [.int .i64 4] 27, .cells b8214 [.int .i64 2] 27, .cells b8194 [.int .i64 2] 27, .cells b8174 [.int .i64 2] 27, .cells b8154 [.int .i64 2] 27, .cells b8134 [.int .i64 2] 27, .cells b8110 [.int .i64 180] 27, .cells b38 [.int .i64 2, (.slice (some ⟨b32, 0, none⟩) 1 1)] 40, .cells b20 [.int .u64 1099511627776] 37, .cells b15 [.int .i64 y3.fN, v9] 40]) hag8246
            refine RD.vP 66 147573952589676412927 kt8106 rfl kp8107 (.yes rfl rfl) (fun _ => FV.extract rfl rfl) rfl ?_
            refine RD.vP 67 295147905179352825855 kt8106 rfl kp8107 (.yes rfl rfl) (fun _ => FV.extract rfl rfl) rfl ?_
            refine RD.vP 68 590295810358705651711 kt8106 rfl kp8107 (.yes rfl rfl) (fun _ => FV.extract rfl rfl) rfl ?_
            obtain ⟨y8251, hy8251, h⟩ := bind_in h
            refine RD.callq (i := 69) (m' := 1180591620717411303423) (W := 19807039447974463680974684160) (takeC_ok kt8106 (by kernel_rfl)) rfl kp8107 (v := .bool y8251) (fst := []) (cap := [.pointer (some ⟨b8234, 0, none⟩)]) (.yes rfl rfl) body39 rfl (evs_cons rfl (evs_cons rfl (evs_cons rfl evs_nil))) (fun w9 hw9 => wardmotelaw31_stops_1_c n _ w9 (hS8247.hL0 hL hw9) y8242.1 (Rep.keep0 (Rep.dropO (O := [.cells b8234 [.int .i64 4] 27, .cells b8214 [.int .i64 2] 27, .cells b8194 [.int .i64 2] 27, .cells b8174 [.int .i64 2] 27, .cells b8154 [.int .i64 2] 27, .cells b8134 [.int .i64 2] 27, .cells b8110 [.int .i64 180] 27, .cells b38 [.int .i64 2, (.slice (some ⟨b32, 0, none⟩) 1 1)] 40, .cells b20 [.int .u64 1099511627776] 37, .cells b15 [.int .i64 y3.fN, v9] 40]) hr8250) hw9) y8242.2.1 y8242.2.2 4 (fun j9 v9 h9 => hw9.cell0 ((hS8247.memA .hd) j9 v9 h9)) hy8251) rfl ?_
            refine RD.vP 70 2361183241434822606847 kt8106 rfl kp8107 .plain (fun _ => FV.pick_t rfl rfl) rfl ?_
            refine RD.vP 71 4722366482869645213695 kt8106 rfl kp8107 .plain (fun _ => FV.move rfl) rfl ?_
            refine RD.ifb (s := 133) rfl h (fun c8252 h => ?_) (fun c8252 h => ?_)
            ·skip
             refine RD.val (i := 73) (m' := 14167099448608935641087) (W := 19807002849634221441224278016) (takeC_ok kt8106 (by kernel_rfl)) rfl kp8107 (.yes rfl rfl) (FV.loadN (cs := [.int .i64 y3.fN, v9]) (by kernel_rfl) rfl (hS8247.memA (.tl (.tl (.tl (.tl (.tl (.tl (.tl (.tl (.tl .hd))))))))))) rfl ?_
             refine RD.val (i := 74) (m' := 33056565380087516495871) (W := 19807002849634221441224278016) (takeC_ok kt8106 (by kernel_rfl)) rfl kp8107 (.yes rfl rfl) (FV.loadN (cs := [.int .u64 1099511627776]) (by kernel_rfl) rfl (hS8247.memA (.tl (.tl (.tl (.tl (.tl (.tl (.tl (.tl .hd)))))))))) rfl ?_
             refine RD.one (i := 72) (readyD_ok kt8106 (by kernel_rfl)) (RO.call (m' := 37778931862957161709567) (fst := []) (cap := []) (stepC_ok kt8106 (by kernel_rfl)) rfl (.yes rfl rfl) body21 rfl (evs_cons rfl evs_nil) (fun w9 hw9 => Calls.gives (wardmotelaw31_stops_c n _ w9 (hS8247.hL hL hw9) 4) fun (w8 : World) (u8 : Value) ⟨b0_, hu_, s_⟩ => (⟨b0_, hu_, s_.from hw9⟩ : ∃ b8254 : Nat, u8 = Value.func (.func 39) #[] #[.pointer (some ⟨b8254, 0, none⟩)] ∧ St w8244 w8 [.cells b8254 [.int .i64 4] 27])) rfl (fun w8255 vu8256 hag8257 ⟨b8254, hu8259, s8258⟩ => ?_))
             subst hu8259
             have hS8260 : St w w8255 [.cells b8254 [.int .i64 4] 27, .cells b8234 [.int .i64 4] 27, .cells b8214 [.int .i64 2] 27, .cells b8194 [.int .i64 2] 27, .cells b8174 [.int .i64 2] 27, .cells b8154 [.int .i64 2] 27, .cells b8134 [.int .i64 2] 27, .cells b8110 [.int .i64 180] 27, .cells b38 [.int .i64 2, (.slice (some ⟨b32, 0, none⟩) 1 1)] 40, .cells b20 [.int .u64 1099511627776] 37, .cells b15 [.int .i64 y3.fN, v9] 40] := St.merge hS8247 s8258
             have hT8261 : Tr w8244 [.cells b8234 [.int .i64 4] 27, .cells b8214 [.int .i64 2] 27, .cells b8194 [.int .i64 2] 27, .cells b8174 [.int .i64 2] 27, .cells b8154 [.int .i64 2] 27, .cells b8134 [.int .i64 2] 27, .cells b8110 [.int .i64 180] 27, .cells b38 [.int .i64 2, (.slice (some ⟨b32, 0, none⟩) 1 1)] 40, .cells b20 [.int .u64 1099511627776] 37, .cells b15 [.int .i64 y3.fN, v9] 40] w8255 [.cells b8254 [.int .i64 4] 27, .cells b8234 [.int .i64 4] 27, .cells b8214 [.int .i64 2] 27, .cells b8194 [.int .i64 2] 27, .cells b8174 [.int .i64 2] 27, .cells b8154 [.int .i64 2] 27, .cells b8134 [.int .i64 2] 27, .cells b8110 [.int .i64 180] 27, .cells b38 [.int .i64 2, (.slice (some ⟨b32, 0, none⟩) 1 1)] 40, .cells b20 [.int .u64 1099511627776] 37, .cells b15 [.int .i64 y3.fN, v9] 40] := Tr.merge hS8247 s8258
             obtain ⟨y8262, hy8262, h⟩ := bind_in h
             have hm8263 := Rep.mv hr10 (Tr.trans hT14 (Tr.trans hT19 (Tr.trans hT24 (Tr.trans hT27 (Tr.trans hT31 (Tr.trans hT37 (Tr.trans hT41 (Tr.trans hT7537 (Tr.trans hT8117 (Tr.trans hT8121 (Tr.trans hT8128 (Tr.trans hT8141 (Tr.trans hT8148 (Tr.trans hT8161 (Tr.trans hT8168 (Tr.trans hT8181 (Tr.trans hT8188 (Tr.trans hT8201 (Tr.trans hT8208 (Tr.trans hT8221 (Tr.trans hT8228 (Tr.trans hT8241 (Tr.trans hT8248 hT8261)))))))))))))))))))))))
             refine RD.one (i := 75) (readyD_ok kt8106 (by kernel_rfl)) (RO.call (m' := 75557863725914323419135) (fst := []) (cap := []) (stepC_ok kt8106 (by kernel_rfl)) rfl (.yes rfl rfl) body15 rfl (evs_cons rfl (evs_cons rfl (evs_cons rfl (evs_cons rfl (evs_cons rfl evs_nil))))) (fun w9 hw9 => wilson_Walk_c n _ w9 (hS8260.hL hL hw9) y3 (Rep.keep0 hm8263 hw9) (3 : UInt64) 0 (4 : UInt64) (⟨(1099511627776 : UInt64)⟩ : TChance) (hG0.keep (hS8260.ag.trans hw9)) hy8262) rfl (fun w8264 vu8265 hag8266 ⟨v8269, hu_, hr8270⟩ => ?_))
             subst hu_
             have hS8267 := hS8260.agree hag8266
             have hT8268 := Tr.agree (O := [.cells b8254 [.int .i64 4] 27, .cells b8234 [.int .i64 4] 27, .cells b8214 [.int .i64 2] 27, .cells b8194 [.int .i64 2] 27, .cells b8174 [.int .i64 2] 27, .cells b8154 [.int .i64 2] 27, .cells b8134 [.int .i64 2] 27, .cells b8110 [.int .i64 180] 27, .cells b38 [.int .i64 2, (.slice (some ⟨b32, 0, none⟩) 1 1)] 40, .cells b20 [.int .u64 1099511627776] 37, .cells b15 [.int .i64 y3.fN, v9] 40]) hag8266
             refine RD.vP 76 151115727451828646838271 kt8106 rfl kp8107 (.yes rfl rfl) (fun _ => FV.extract rfl rfl) rfl ?_
             refine RD.vP 77 302231454903657293676543 kt8106 rfl kp8107 (.yes rfl rfl) (fun _ => FV.extract rfl rfl) rfl ?_
             refine RD.vP 78 604462909807314587353087 kt8106 rfl kp8107 (.yes rfl rfl) (fun _ => FV.extract rfl rfl) rfl ?_
             obtain ⟨y8271, hy8271, h⟩ := bind_in h
             refine RD.callq (i := 79) (m' := 1208925819614629174706175) (W := 19805831702746469769211281408) (takeC_ok kt8106 (by kernel_rfl)) rfl kp8107 (v := .bool y8271) (fst := []) (cap := [.pointer (some ⟨b8254, 0, none⟩)]) (.yes rfl rfl) body39 rfl (evs_cons rfl (evs_cons rfl (evs_cons rfl evs_nil))) (fun w9 hw9 => wardmotelaw31_stops_1_c n _ w9 (hS8267.hL0 hL hw9) y8262.1 (Rep.keep0 (Rep.dropO (O := [.cells b8254 [.int .i64 4] 27, .cells b8234 [.int .i64 4] 27, .cells b8214 [.int .i64 2] 27, .cells b8194 [.int .i64 2] 27, .cells b8174 [.int .i64 2] 27, .cells b8154 [.int .i64 2] 27, .cells b8134 [.int .i64 2] 27, .cells b8110 [.int .i64 180] 27, .cells b38 [.int .i64 2, (.slice (some ⟨b32, 0, none⟩) 1 1)] 40, .cells b20 [.int .u64 1099511627776] 37, .cells b15 [.int .i64 y3.fN, v9] 40]) hr8270) hw9) y8262.2.1 y8262.2.2 4 (fun j9 v9 h9 => hw9.cell0 ((hS8267.memA .hd) j9 v9 h9)) hy8271) rfl ?_
             refine RD.vP 80 2417851639229258349412351 kt8106 rfl kp8107 .plain (fun _ => FV.pick_t rfl rfl) rfl ?_
             refine RD.vP 81 4835703278458516698824703 kt8106 rfl kp8107 .plain (fun _ => FV.move rfl) rfl ?_
             refine RD.ifb (s := 143) rfl h (fun c8272 h => ?_) (fun c8272 h => ?_)
             ·skip
              refine RD.val (i := 82) (m' := 9671406556917033397649407) (W := 19671640936769245930818895872) (takeC_ok kt8106 (by kernel_rfl)) rfl kp8107 (.yes rfl rfl) (FV.loadN (cs := [.int .u64 1099511627776]) (by kernel_rfl) rfl (hS8267.memA (.tl (.tl (.tl (.tl (.tl (.tl (.tl (.tl (.tl .hd))))))))))) rfl ?_
              refine RD.val (i := 85) (m' := 48357032784585166988247039) (W := 19652298123655411864023597056) (takeC_ok kt8106 (by kernel_rfl)) rfl kp8107 (.yes rfl rfl) (FV.loadN (cs := [.int .i64 y3.fN, v9]) (by kernel_rfl) rfl (hS8267.memA (.tl (.tl (.tl (.tl (.tl (.tl (.tl (.tl (.tl (.tl .hd)))))))))))) rfl ?_
              refine RD.val (i := 86) (m' := 125728285239921434169442303) (W := 19652298123655411864023597056) (takeC_ok kt8106 (by kernel_rfl)) rfl kp8107 (.yes rfl rfl) (FV.loadN (cs := [.int .u64 1099511627776]) (by kernel_rfl) rfl (hS8267.memA (.tl (.tl (.tl (.tl (.tl (.tl (.tl (.tl (.tl .hd))))))))))) rfl ?_
              refine RD.one (i := 83) (readyD_ok kt8106 (by kernel_rfl)) (RO.new (m' := 135399691796838467567091711) (stepC_ok kt8106 (by kernel_rfl)) rfl (.yes rfl rfl) rfl (Does.build (α := Int) (xs := ([0] : List Int)) (vs := [.int .i64 0]) (ds' := [.int .i64 0]) rfl hS8267 el22 rfl (evs_cons rfl evs_nil) (by kernel_rfl) rfl) (fun w8274 b8277 hS8275 hT8276 => ?_))
              have hc8278 : Cells w8274 (bl [.row w.heap.size 3 (Rep.size Int) (.slice (some ⟨b8277, 0, none⟩) 1 1) (([0] : List Int).length) [.int .i64 0], .cells b8254 [.int .i64 4] 27, .cells b8234 [.int .i64 4] 27, .cells b8214 [.int .i64 2] 27, .cells b8194 [.int .i64 2] 27, .cells b8174 [.int .i64 2] 27, .cells b8154 [.int .i64 2] 27, .cells b8134 [.int .i64 2] 27, .cells b8110 [.int .i64 180] 27, .cells b38 [.int .i64 2, (.slice (some ⟨b32, 0, none⟩) 1 1)] 40, .cells b20 [.int .u64 1099511627776] 37, .cells b15 [.int .i64 y3.fN, v9] 40] ++ L) [.int .i64 0] (([0] : List Int) : List Int) := Cells.cons (cs := [.int .i64 0]) (ds := []) rfl (Cells.nil _ _)
              have hr8279 := St.freeze (α := Int) hS8275 .hd hc8278 hL
              have hS8280 := hS8275.del (.hd : Out _ _ _).del
              have hT8281 := Tr.del (w := w8274) (.hd : Out [.row w.heap.size 3 (Rep.size Int) (.slice (some ⟨b8277, 0, none⟩) 1 1) (([0] : List Int).length) [.int .i64 0], .cells b8254 [.int .i64 4] 27, .cells b8234 [.int .i64 4] 27, .cells b8214 [.int .i64 2] 27, .cells b8194 [.int .i64 2] 27, .cells b8174 [.int .i64 2] 27, .cells b8154 [.int .i64 2] 27, .cells b8134 [.int .i64 2] 27, .cells b8110 [.int .i64 180] 27, .cells b38 [.int .i64 2, (.slice (some ⟨b32, 0, none⟩) 1 1)] 40, .cells b20 [.int .u64 1099511627776] 37, .cells b15 [.int .i64 y3.fN, v9] 40] _ _).del
              have hr8282 : Rep.R w8274 (bl [.cells b8254 [.int .i64 4] 27, .cells b8234 [.int .i64 4] 27, .cells b8214 [.int .i64 2] 27, .cells b8194 [.int .i64 2] 27, .cells b8174 [.int .i64 2] 27, .cells b8154 [.int .i64 2] 27, .cells b8134 [.int .i64 2] 27, .cells b8110 [.int .i64 180] 27, .cells b38 [.int .i64 2, (.slice (some ⟨b32, 0, none⟩) 1 1)] 40, .cells b20 [.int .u64 1099511627776] 37, .cells b15 [.int .i64 y3.fN, v9] 40] ++ L) [(.slice (some ⟨b8277, 0, none⟩) 1 1)] ([0] : List Int) := hr8279
              refine RD.one (i := 84) (readyD_ok kt8106 (by kernel_rfl)) (RO.call (m' := 154742504910672534362390527) (fst := []) (cap := []) (stepC_ok kt8106 (by kernel_rfl)) rfl (.yes rfl rfl) body22 rfl (evs_cons rfl (evs_cons rfl evs_nil)) (fun w9 hw9 => Calls.gives (wardmotelaw31_goes_c n _ w9 (hS8280.hL hL hw9) (⟨(1099511627776 : UInt64)⟩ : TChance) ([0] : List Int) (Rep.keep0 hr8282 hw9)) fun (w8 : World) (u8 : Value) ⟨b0_, b1_, hu_, s_⟩ => (⟨b0_, b1_, hu_, s_.from hw9⟩ : ∃ b8285 b8286 : Nat, u8 = Value.func (.func 40) #[] #[.pointer (some ⟨b8285, 0, none⟩), .pointer (some ⟨b8286, 0, none⟩)] ∧ St w8274 w8 [.cells b8285 [(.slice (some ⟨b8277, 0, none⟩) 1 1)] 22, .cells b8286 [.int .u64 1099511627776] 37])) rfl (fun w8287 vu8288 hag8289 ⟨b8285, b8286, hu8291, s8290⟩ => ?_))
              subst hu8291
              have hS8292 : St w w8287 [.cells b8285 [(.slice (some ⟨b8277, 0, none⟩) 1 1)] 22, .cells b8286 [.int .u64 1099511627776] 37, .cells b8254 [.int .i64 4] 27, .cells b8234 [.int .i64 4] 27, .cells b8214 [.int .i64 2] 27, .cells b8194 [.int .i64 2] 27, .cells b8174 [.int .i64 2] 27, .cells b8154 [.int .i64 2] 27, .cells b8134 [.int .i64 2] 27, .cells b8110 [.int .i64 180] 27, .cells b38 [.int .i64 2, (.slice (some ⟨b32, 0, none⟩) 1 1)] 40, .cells b20 [.int .u64 1099511627776] 37, .cells b15 [.int .i64 y3.fN, v9] 40] := St.merge hS8280 s8290
              have hT8293 : Tr w8274 [.cells b8254 [.int .i64 4] 27, .cells b8234 [.int .i64 4] 27, .cells b8214 [.int .i64 2] 27, .cells b8194 [.int .i64 2] 27, .cells b8174 [.int .i64 2] 27, .cells b8154 [.int .i64 2] 27, .cells b8134 [.int .i64 2] 27, .cells b8110 [.int .i64 180] 27, .cells b38 [.int .i64 2, (.slice (some ⟨b32, 0, none⟩) 1 1)] 40, .cells b20 [.int .u64 1099511627776] 37, .cells b15 [.int .i64 y3.fN, v9] 40] w8287 [.cells b8285 [(.slice (some ⟨b8277, 0, none⟩) 1 1)] 22, .cells b8286 [.int .u64 1099511627776] 37, .cells b8254 [.int .i64 4] 27, .cells b8234 [.int .i64 4] 27, .cells b8214 [.int .i64 2] 27, .cells b8194 [.int .i64 2] 27, .cells b8174 [.int .i64 2] 27, .cells b8154 [.int .i64 2] 27, .cells b8134 [.int .i64 2] 27, .cells b8110 [.int .i64 180] 27, .cells b38 [.int .i64 2, (.slice (some ⟨b32, 0, none⟩) 1 1)] 40, .cells b20 [.int .u64 1099511627776] 37, .cells b15 [.int .i64 y3.fN, v9] 40] := Tr.merge hS8280 s8290
              obtain ⟨y8294, hy8294, h⟩ := bind_in h
              have hm8295 := Rep.mv hr10 (Tr.trans hT14 (Tr.trans hT19 (Tr.trans hT24 (Tr.trans hT27 (Tr.trans hT31 (Tr.trans hT37 (Tr.trans hT41 (Tr.trans hT7537 (Tr.trans hT8117 (Tr.trans hT8121 (Tr.trans hT8128 (Tr.trans hT8141 (Tr.trans hT8148 (Tr.trans hT8161 (Tr.trans hT8168 (Tr.trans hT8181 (Tr.trans hT8188 (Tr.trans hT8201 (Tr.trans hT8208 (Tr.trans hT8221 (Tr.trans hT8228 (Tr.trans hT8241 (Tr.trans hT8248 (Tr.trans hT8261 (Tr.trans hT8268 (Tr.trans hT8276 (Tr.trans hT8281 hT8293)))))))))))))))))))))))))))
              refine RD.one (i := 87) (readyD_ok kt8106 (by kernel_rfl)) (RO.call (m' := 309485009821345068724781055) (fst := []) (cap := []) (stepC_ok kt8106 (by kernel_rfl)) rfl (.yes rfl rfl) body15 rfl (evs_cons rfl (evs_cons rfl (evs_cons rfl (evs_cons rfl (evs_cons rfl evs_nil))))) (fun w9 hw9 => wilson_Walk_c n _ w9 (hS8292.hL hL hw9) y3 (Rep.keep0 hm8295 hw9) (1 : UInt64) 0 (15 : UInt64) (⟨(1099511627776 : UInt64)⟩ : TChance) (hG0.keep (hS8292.ag.trans hw9)) hy8294) rfl (fun w8296 vu8297 hag8298 ⟨v8301, hu_, hr8302⟩ => ?_))
              subst hu_
              have hS8299 := hS8292.agree hag8298
              have hT8300 := Tr.agree (O := [.cells b8285 [(.slice (some ⟨b8277, 0, none⟩) 1 1)] 22, .cells b8286 [.int .u64 1099511627776] 37, .cells b8254 [.int .i64 4] 27, .cells b8234 [.int .i64 4] 27, .cells b8214 [.int .i64 2] 27, .cells b8194 [.int .i64 2] 27, .cells b8174 [.int .i64 2] 27, .cells b8154 [.int .i64 2] 27, .cells b8134 [.int .i64 2] 27, .cells b8110 [.int .i64 180] 27, .cells b38 [.int .i64 2, (.slice (some ⟨b32, 0, none⟩) 1 1)] 40, .cells b20 [.int .u64 1099511627776] 37, .cells b15 [.int .i64 y3.fN, v9] 40]) hag8298
              refine RD.vP 88 618970019642690137449562111 kt8106 rfl kp8107 (.yes rfl rfl) (fun _ => FV.extract rfl rfl) rfl ?_
              refine RD.vP 89 1237940039285380274899124223 kt8106 rfl kp8107 (.yes rfl rfl) (fun _ => FV.extract rfl rfl) rfl ?_
              refine RD.vP 90 2475880078570760549798248447 kt8106 rfl kp8107 (.yes rfl rfl) (fun _ => FV.extract rfl rfl) rfl ?_
              obtain ⟨y8303, hy8303, h⟩ := bind_in h
              have hm8304 := Rep.mv hr8282 (Tr.trans hT8293 hT8300)
              refine RD.callq (i := 91) (m' := 4951760157141521099596496895) (W := 14855280471424563298789490688) (takeC_ok kt8106 (by kernel_rfl)) rfl kp8107 (v := .bool y8303) (fst := []) (cap := [.pointer (some ⟨b8285, 0, none⟩), .pointer (some ⟨b8286, 0, none⟩)]) (.yes rfl rfl) body40 rfl (evs_cons rfl (evs_cons rfl (evs_cons rfl evs_nil))) (fun w9 hw9 => wardmotelaw31_goes_1_c n _ w9 (hS8299.hL0 hL hw9) y8294.1 (Rep.keep0 (Rep.dropO (O := [.cells b8285 [(.slice (some ⟨b8277, 0, none⟩) 1 1)] 22, .cells b8286 [.int .u64 1099511627776] 37, .cells b8254 [.int .i64 4] 27, .cells b8234 [.int .i64 4] 27, .cells b8214 [.int .i64 2] 27, .cells b8194 [.int .i64 2] 27, .cells b8174 [.int .i64 2] 27, .cells b8154 [.int .i64 2] 27, .cells b8134 [.int .i64 2] 27, .cells b8110 [.int .i64 180] 27, .cells b38 [.int .i64 2, (.slice (some ⟨b32, 0, none⟩) 1 1)] 40, .cells b20 [.int .u64 1099511627776] 37, .cells b15 [.int .i64 y3.fN, v9] 40]) hr8302) hw9) y8294.2.1 y8294.2.2 ([0] : List Int) (Rep.keep0 (Rep.dropO (O := [.cells b8285 [(.slice (some ⟨b8277, 0, none⟩) 1 1)] 22, .cells b8286 [.int .u64 1099511627776] 37, .cells b8254 [.int .i64 4] 27, .cells b8234 [.int .i64 4] 27, .cells b8214 [.int .i64 2] 27, .cells b8194 [.int .i64 2] 27, .cells b8174 [.int .i64 2] 27, .cells b8154 [.int .i64 2] 27, .cells b8134 [.int .i64 2] 27, .cells b8110 [.int .i64 180] 27, .cells b38 [.int .i64 2, (.slice (some ⟨b32, 0, none⟩) 1 1)] 40, .cells b20 [.int .u64 1099511627776] 37, .cells b15 [.int .i64 y3.fN, v9] 40]) hm8304) hw9) (fun j9 v9 h9 => hw9.cell0 ((hS8299.memA .hd) j9 v9 h9)) (⟨(1099511627776 : UInt64)⟩ : TChance) (fun j9 v9 h9 => hw9.cell0 ((hS8299.memA (.tl .hd)) j9 v9 h9)) hy8303) rfl ?_
              refine RD.vP 92 9903520314283042199192993791 kt8106 rfl kp8107 .plain (fun _ => FV.pick_t rfl rfl) rfl ?_
              refine RD.vP 93 19807040628566084398385987583 kt8106 rfl kp8107 .plain (fun _ => FV.assign rfl) rfl ?_
              refine RD.done (doneD_ok kt8106 (by kernel_rfl)) ?_
              have hS8305 : St _ _ [.cells b38 [.int .i64 2, (.slice (some ⟨b32, 0, none⟩) 1 1)] 40, .cells b20 [.int .u64 1099511627776] 37, .cells b15 [.int .i64 y3.fN, v9] 40] := hS8299.arr (.one (.tl (.tl (.tl (.tl (.tl (.tl (.tl (.tl (.tl (.tl .hd)))))))))) (.one (.tl (.tl (.tl (.tl (.tl (.tl (.tl (.tl (.tl (.tl .hd)))))))))) (.one (.tl (.tl (.tl (.tl (.tl (.tl (.tl (.tl (.tl (.tl .hd)))))))))) .done)))
              have hT8306 : Tr w8296 _ w8296 [.cells b38 [.int .i64 2, (.slice (some ⟨b32, 0, none⟩) 1 1)] 40, .cells b20 [.int .u64 1099511627776] 37, .cells b15 [.int .i64 y3.fN, v9] 40] := Tr.arr (St.arrOf hS8299 (.one (.tl (.tl (.tl (.tl (.tl (.tl (.tl (.tl (.tl (.tl .hd)))))))))) (.one (.tl (.tl (.tl (.tl (.tl (.tl (.tl (.tl (.tl (.tl .hd)))))))))) (.one (.tl (.tl (.tl (.tl (.tl (.tl (.tl (.tl (.tl (.tl .hd)))))))))) .done))))
              have hm8307 := Rep.mv hr8123 (Tr.trans hT8128 (Tr.trans hT8141 (Tr.trans hT8148 (Tr.trans hT8161 (Tr.trans hT8168 (Tr.trans hT8181 (Tr.trans hT8188 (Tr.trans hT8201 (Tr.trans hT8208 (Tr.trans hT8221 (Tr.trans hT8228 (Tr.trans hT8241 (Tr.trans hT8248 (Tr.trans hT8261 (Tr.trans hT8268 (Tr.trans hT8276 (Tr.trans hT8281 (Tr.trans hT8293 (Tr.trans hT8300 hT8306)))))))))))))))))))
              exact hJ7748 (y8303, ([(1, 0)] : List (Int × Int)), (.slice (some ⟨b32, 0, none⟩) 1 1)) _ _ ⟨rfl, rfl, rfl, rfl, trivial⟩ ⟨hS8305, (Tr.trans hT8117 (Tr.trans hT8121 (Tr.trans hT8128 (Tr.trans hT8141 (Tr.trans hT8148 (Tr.trans hT8161 (Tr.trans hT8168 (Tr.trans hT8181 (Tr.trans hT8188 (Tr.trans hT8201 (Tr.trans hT8208 (Tr.trans hT8221 (Tr.trans hT8228 (Tr.trans hT8241 (Tr.trans hT8248 (Tr.trans hT8261 (Tr.trans hT8268 (Tr.trans hT8276 (Tr.trans hT8281 (Tr.trans hT8293 (Tr.trans hT8300 hT8306))))))))))))))))))))), hm8307⟩ h
             ·skip
              refine RD.offs 4951760157141521099596496895 2 [(82, 144), (83, 145), (84, 146), (85, 147), (86, 148), (87, 149), (88, 150), (89, 151), (90, 152), (91, 153)] (F := [(143, false)]) (U := []) kt8106 kp8107 (.cons rfl .nil) .nil ?_
              dsimp only [offS, List.map]
              refine RD.vP 92 9903520314283042199192993791 kt8106 rfl kp8107 .plain (fun _ => FV.pick_f rfl rfl) rfl ?_
              refine RD.vP 93 19807040628566084398385987583 kt8106 rfl kp8107 .plain (fun _ => FV.assign rfl) rfl ?_
              refine RD.done (doneD_ok kt8106 (by kernel_rfl)) ?_
              have hS8308 : St _ _ [.cells b38 [.int .i64 2, (.slice (some ⟨b32, 0, none⟩) 1 1)] 40, .cells b20 [.int .u64 1099511627776] 37, .cells b15 [.int .i64 y3.fN, v9] 40] := hS8267.arr (.one (.tl (.tl (.tl (.tl (.tl (.tl (.tl (.tl .hd)))))))) (.one (.tl (.tl (.tl (.tl (.tl (.tl (.tl (.tl .hd)))))))) (.one (.tl (.tl (.tl (.tl (.tl (.tl (.tl (.tl .hd)))))))) .done)))
              have hT8309 : Tr w8264 _ w8264 [.cells b38 [.int .i64 2, (.slice (some ⟨b32, 0, none⟩) 1 1)] 40, .cells b20 [.int .u64 1099511627776] 37, .cells b15 [.int .i64 y3.fN, v9] 40] := Tr.arr (St.arrOf hS8267 (.one (.tl (.tl (.tl (.tl (.tl (.tl (.tl (.tl .hd)))))))) (.one (.tl (.tl (.tl (.tl (.tl (.tl (.tl (.tl .hd)))))))) (.one (.tl (.tl (.tl (.tl (.tl (.tl (.tl (.tl .hd)))))))) .done))))
              have hm8310 := Rep.mv hr8123 (Tr.trans hT8128 (Tr.trans hT8141 (Tr.trans hT8148 (Tr.trans hT8161 (Tr.trans hT8168 (Tr.trans hT8181 (Tr.trans hT8188 (Tr.trans hT8201 (Tr.trans hT8208 (Tr.trans hT8221 (Tr.trans hT8228 (Tr.trans hT8241 (Tr.trans hT8248 (Tr.trans hT8261 (Tr.trans hT8268 hT8309)))))))))))))))
              exact hJ7748 (false, ([(1, 0)] : List (Int × Int)), (.slice (some ⟨b32, 0, none⟩) 1 1)) _ _ ⟨rfl, rfl, rfl, rfl, trivial⟩ ⟨hS8308, (Tr.trans hT8117 (Tr.trans hT8121 (Tr.trans hT8128 (Tr.trans hT8141 (Tr.trans hT8148 (Tr.trans hT8161 (Tr.trans hT8168 (Tr.trans hT8181 (Tr.trans hT8188 (Tr.trans hT8201 (Tr.trans hT8208 (Tr.trans hT8221 (Tr.trans hT8228 (Tr.trans hT8241 (Tr.trans hT8248 (Tr.trans hT8261 (Tr.trans hT8268 hT8309))))))))))))))))), hm8310⟩ h
            ·skip
             refine RD.offs 1208925819614629174706175 14 [(72, 134), (73, 135), (74, 136), (75, 137), (76, 138), (77, 139), (78, 140), (79, 141)] (F := [(133, false)]) (U := []) kt8106 kp8107 (.cons rfl .nil) .nil ?_
             dsimp only [offS, List.map]
             refine RD.vP 80 2417851639229258349412351 kt8106 rfl kp8107 .plain (fun _ => FV.pick_f rfl rfl) rfl ?_
             refine RD.vP 81 4835703278458516698824703 kt8106 rfl kp8107 .plain (fun _ => FV.move rfl) rfl ?_
             refine RD.offs 4951760157141521099596496895 2 [(82, 144), (83, 145), (84, 146), (85, 147), (86, 148), (87, 149), (88, 150), (89, 151), (90, 152), (91, 153)] (F := [(143, false)]) (U := []) kt8106 kp8107 (.cons rfl .nil) .nil ?_
             dsimp only [offS, List.map]
             refine RD.vP 92 9903520314283042199192993791 kt8106 rfl kp8107 .plain (fun _ => FV.pick_f rfl rfl) rfl ?_
             refine RD.vP 93 19807040628566084398385987583 kt8106 rfl kp8107 .plain (fun _ => FV.assign rfl) rfl ?_
             refine RD.done (doneD_ok kt8106 (by kernel_rfl)) ?_
             have hS8311 : St _ _ [.cells b38 [.int .i64 2, (.slice (some ⟨b32, 0, none⟩) 1 1)] 40, .cells b20 [.int .u64 1099511627776] 37, .cells b15 [.int .i64 y3.fN, v9] 40] := hS8247.arr (.one (.tl (.tl (.tl (.tl (.tl (.tl (.tl .hd))))))) (.one (.tl (.tl (.tl (.tl (.tl (.tl (.tl .hd))))))) (.one (.tl (.tl (.tl (.tl (.tl (.tl (.tl .hd))))))) .done)))
             have hT8312 : Tr w8244 _ w8244 [.cells b38 [.int .i64 2, (.slice (some ⟨b32, 0, none⟩) 1 1)] 40, .cells b20 [.int .u64 1099511627776] 37, .cells b15 [.int .i64 y3.fN, v9] 40] := Tr.arr (St.arrOf hS8247 (.one (.tl (.tl (.tl (.tl (.tl (.tl (.tl .hd))))))) (.one (.tl (.tl (.tl (.tl (.tl (.tl (.tl .hd))))))) (.one (.tl (.tl (.tl (.tl (.tl (.tl (.tl .hd))))))) .done))))
             have hm8313 := Rep.mv hr8123 (Tr.trans hT8128 (Tr.trans hT8141 (Tr.trans hT8148 (Tr.trans hT8161 (Tr.trans hT8168 (Tr.trans hT8181 (Tr.trans hT8188 (Tr.trans hT8201 (Tr.trans hT8208 (Tr.trans hT8221 (Tr.trans hT8228 (Tr.trans hT8241 (Tr.trans hT8248 hT8312)))))))))))))
             exact hJ7748 (false, ([(1, 0)] : List (Int × Int)), (.slice (some ⟨b32, 0, none⟩) 1 1)) _ _ ⟨rfl, rfl, rfl, rfl, trivial⟩ ⟨hS8311, (Tr.trans hT8117 (Tr.trans hT8121 (Tr.trans hT8128 (Tr.trans hT8141 (Tr.trans hT8148 (Tr.trans hT8161 (Tr.trans hT8168 (Tr.trans hT8181 (Tr.trans hT8188 (Tr.trans hT8201 (Tr.trans hT8208 (Tr.trans hT8221 (Tr.trans hT8228 (Tr.trans hT8241 (Tr.trans hT8248 hT8312))))))))))))))), hm8313⟩ h
           ·skip
            refine RD.offs 1180591620717411303423 24 [(62, 124), (63, 125), (64, 126), (65, 127), (66, 128), (67, 129), (68, 130), (69, 131)] (F := [(123, false)]) (U := []) kt8106 kp8107 (.cons rfl .nil) .nil ?_
            dsimp only [offS, List.map]
            refine RD.vP 70 2361183241434822606847 kt8106 rfl kp8107 .plain (fun _ => FV.pick_f rfl rfl) rfl ?_
            refine RD.vP 71 4722366482869645213695 kt8106 rfl kp8107 .plain (fun _ => FV.move rfl) rfl ?_
            refine RD.offs 1208925819614629174706175 14 [(72, 134), (73, 135), (74, 136), (75, 137), (76, 138), (77, 139), (78, 140), (79, 141)] (F := [(133, false)]) (U := []) kt8106 kp8107 (.cons rfl .nil) .nil ?_
            dsimp only [offS, List.map]
            refine RD.vP 80 2417851639229258349412351 kt8106 rfl kp8107 .plain (fun _ => FV.pick_f rfl rfl) rfl ?_
            refine RD.vP 81 4835703278458516698824703 kt8106 rfl kp8107 .plain (fun _ => FV.move rfl) rfl ?_
            refine RD.offs 4951760157141521099596496895 2 [(82, 144), (83, 145), (84, 146), (85, 147), (86, 148), (87, 149), (88, 150), (89, 151), (90, 152), (91, 153)] (F := [(143, false)]) (U := []) kt8106 kp8107 (.cons rfl .nil) .nil ?_
            dsimp only [offS, List.map]
            refine RD.vP 92 9903520314283042199192993791 kt8106 rfl kp8107 .plain (fun _ => FV.pick_f rfl rfl) rfl ?_
            refine RD.vP 93 19807040628566084398385987583 kt8106 rfl kp8107 .plain (fun _ => FV.assign rfl) rfl ?_
            refine RD.done (doneD_ok kt8106 (by kernel_rfl)) ?_
            have hS8314 : St _ _ [.cells b38 [.int .i64 2, (.slice (some ⟨b32, 0, none⟩) 1 1)] 40, .cells b20 [.int .u64 1099511627776] 37, .cells b15 [.int .i64 y3.fN, v9] 40] := hS8227.arr (.one (.tl (.tl (.tl (.tl (.tl (.tl .hd)))))) (.one (.tl (.tl (.tl (.tl (.tl (.tl .hd)))))) (.one (.tl (.tl (.tl (.tl (.tl (.tl .hd)))))) .done)))
            have hT8315 : Tr w8224 _ w8224 [.cells b38 [.int .i64 2, (.slice (some ⟨b32, 0, none⟩) 1 1)] 40, .cells b20 [.int .u64 1099511627776] 37, .cells b15 [.int .i64 y3.fN, v9] 40] := Tr.arr (St.arrOf hS8227 (.one (.tl (.tl (.tl (.tl (.tl (.tl .hd)))))) (.one (.tl (.tl (.tl (.tl (.tl (.tl .hd)))))) (.one (.tl (.tl (.tl (.tl (.tl (.tl .hd)))))) .done))))
            have hm8316 := Rep.mv hr8123 (Tr.trans hT8128 (Tr.trans hT8141 (Tr.trans hT8148 (Tr.trans hT8161 (Tr.trans hT8168 (Tr.trans hT8181 (Tr.trans hT8188 (Tr.trans hT8201 (Tr.trans hT8208 (Tr.trans hT8221 (Tr.trans hT8228 hT8315)))))))))))
            exact hJ7748 (false, ([(1, 0)] : List (Int × Int)), (.slice (some ⟨b32, 0, none⟩) 1 1)) _ _ ⟨rfl, rfl, rfl, rfl, trivial⟩ ⟨hS8314, (Tr.trans hT8117 (Tr.trans hT8121 (Tr.trans hT8128 (Tr.trans hT8141 (Tr.trans hT8148 (Tr.trans hT8161 (Tr.trans hT8168 (Tr.trans hT8181 (Tr.trans hT8188 (Tr.trans hT8201 (Tr.trans hT8208 (Tr.trans hT8221 (Tr.trans hT8228 hT8315))))))))))))), hm8316⟩ h
          ·skip
           refine RD.offs 1152921504606846975 34 [(52, 114), (53, 115), (54, 116), (55, 117), (56, 118), (57, 119), (58, 120), (59, 121)] (F := [(113, false)]) (U := []) kt8106 kp8107 (.cons rfl .nil) .nil ?_
           dsimp only [offS, List.map]
           refine RD.vP 60 2305843009213693951 kt8106 rfl kp8107 .plain (fun _ => FV.pick_f rfl rfl) rfl ?_
           refine RD.vP 61 4611686018427387903 kt8106 rfl kp8107 .plain (fun _ => FV.move rfl) rfl ?_
           refine RD.offs 1180591620717411303423 24 [(62, 124), (63, 125), (64, 126), (65, 127), (66, 128), (67, 129), (68, 130), (69, 131)] (F := [(123, false)]) (U := []) kt8106 kp8107 (.cons rfl .nil) .nil ?_
           dsimp only [offS, List.map]
           refine RD.vP 70 2361183241434822606847 kt8106 rfl kp8107 .plain (fun _ => FV.pick_f rfl rfl) rfl ?_
           refine RD.vP 71 4722366482869645213695 kt8106 rfl kp8107 .plain (fun _ => FV.move rfl) rfl ?_
           refine RD.offs 1208925819614629174706175 14 [(72, 134), (73, 135), (74, 136), (75, 137), (76, 138), (77, 139), (78, 140), (79, 141)] (F := [(133, false)]) (U := []) kt8106 kp8107 (.cons rfl .nil) .nil ?_
           dsimp only [offS, List.map]
           refine RD.vP 80 2417851639229258349412351 kt8106 rfl kp8107 .plain (fun _ => FV.pick_f rfl rfl) rfl ?_
           refine RD.vP 81 4835703278458516698824703 kt8106 rfl kp8107 .plain (fun _ => FV.move rfl) rfl ?_
           refine RD.offs 4951760157141521099596496895 2 [(82, 144), (83, 145), (84, 146), (85, 147), (86, 148), (87, 149), (88, 150), (89, 151), (90, 152), (91, 153)] (F := [(143, false)]) (U := []) kt8106 kp8107 (.cons rfl .nil) .nil ?_
           dsimp only [offS, List.map]
           refine RD.vP 92 9903520314283042199192993791 kt8106 rfl kp8107 .plain (fun _ => FV.pick_f rfl rfl) rfl ?_
           refine RD.vP 93 19807040628566084398385987583 kt8106 rfl kp8107 .plain (fun _ => FV.assign rfl) rfl ?_
           refine RD.done (doneD_ok kt8106 (by kernel_rfl)) ?_
           have hS8317 : St _ _ [.cells b38 [.int .i64 2, (.slice (some ⟨b32, 0, none⟩) 1 1)] 40, .cells b20 [.int .u64 1099511627776] 37, .cells b15 [.int .i64 y3.fN, v9] 40] := hS8207.arr (.one (.tl (.tl (.tl (.tl (.tl .hd))))) (.one (.tl (.tl (.tl (.tl (.tl .hd))))) (.one (.tl (.tl (.tl (.tl (.tl .hd))))) .done)))
           have hT8318 : Tr w8204 _ w8204 [.cells b38 [.int .i64 2, (.slice (some ⟨b32, 0, none⟩) 1 1)] 40, .cells b20 [.int .u64 1099511627776] 37, .cells b15 [.int .i64 y3.fN, v9] 40] := Tr.arr (St.arrOf hS8207 (.one (.tl (.tl (.tl (.tl (.tl .hd))))) (.one (.tl (.tl (.tl (.tl (.tl .hd))))) (.one (.tl (.tl (.tl (.tl (.tl .hd))))) .done))))
           have hm8319 := Rep.mv hr8123 (Tr.trans hT8128 (Tr.trans hT8141 (Tr.trans hT8148 (Tr.trans hT8161 (Tr.trans hT8168 (Tr.trans hT8181 (Tr.trans hT8188 (Tr.trans hT8201 (Tr.trans hT8208 hT8318)))))))))
           exact hJ7748 (false, ([(1, 0)] : List (Int × Int)), (.slice (some ⟨b32, 0, none⟩) 1 1)) _ _ ⟨rfl, rfl, rfl, rfl, trivial⟩ ⟨hS8317, (Tr.trans hT8117 (Tr.trans hT8121 (Tr.trans hT8128 (Tr.trans hT8141 (Tr.trans hT8148 (Tr.trans hT8161 (Tr.trans hT8168 (Tr.trans hT8181 (Tr.trans hT8188 (Tr.trans hT8201 (Tr.trans hT8208 hT8318))))))))))), hm8319⟩ h
         ·skip
          refine RD.offs 1125899906842623 44 [(42, 104), (43, 105), (44, 106), (45, 107), (46, 108), (47, 109), (48, 110), (49, 111)] (F := [(103, false)]) (U := []) kt8106 kp8107 (.cons rfl .nil) .nil ?_
          dsimp only [offS, List.map]
          refine RD.vP 50 2251799813685247 kt8106 rfl kp8107 .plain (fun _ => FV.pick_f rfl rfl) rfl ?_
          refine RD.vP 51 4503599627370495 kt8106 rfl kp8107 .plain (fun _ => FV.move rfl) rfl ?_
          refine RD.offs 1152921504606846975 34 [(52, 114), (53, 115), (54, 116), (55, 117), (56, 118), (57, 119), (58, 120), (59, 121)] (F := [(113, false)]) (U := []) kt8106 kp8107 (.cons rfl .nil) .nil ?_
          dsimp only [offS, List.map]
          refine RD.vP 60 2305843009213693951 kt8106 rfl kp8107 .plain (fun _ => FV.pick_f rfl rfl) rfl ?_
          refine RD.vP 61 4611686018427387903 kt8106 rfl kp8107 .plain (fun _ => FV.move rfl) rfl ?_
          refine RD.offs 1180591620717411303423 24 [(62, 124), (63, 125), (64, 126), (65, 127), (66, 128), (67, 129), (68, 130), (69, 131)] (F := [(123, false)]) (U := []) kt8106 kp8107 (.cons rfl .nil) .nil ?_
          dsimp only [offS, List.map]
          refine RD.vP 70 2361183241434822606847 kt8106 rfl kp8107 .plain (fun _ => FV.pick_f rfl rfl) rfl ?_
          refine RD.vP 71 4722366482869645213695 kt8106 rfl kp8107 .plain (fun _ => FV.move rfl) rfl ?_
          refine RD.offs 1208925819614629174706175 14 [(72, 134), (73, 135), (74, 136), (75, 137), (76, 138), (77, 139), (78, 140), (79, 141)] (F := [(133, false)]) (U := []) kt8106 kp8107 (.cons rfl .nil) .nil ?_
          dsimp only [offS, List.map]
          refine RD.vP 80 2417851639229258349412351 kt8106 rfl kp8107 .plain (fun _ => FV.pick_f rfl rfl) rfl ?_
          refine RD.vP 81 4835703278458516698824703 kt8106 rfl kp8107 .plain (fun _ => FV.move rfl) rfl ?_
          refine RD.offs 4951760157141521099596496895 2 [(82, 144), (83, 145), (84, 146), (85, 147), (86, 148), (87, 149), (88, 150), (89, 151), (90, 152), (91, 153)] (F := [(143, false)]) (U := []) kt8106 kp8107 (.cons rfl .nil) .nil ?_
          dsimp only [offS, List.map]
          refine RD.vP 92 9903520314283042199192993791 kt8106 rfl kp8107 .plain (fun _ => FV.pick_f rfl rfl) rfl ?_
          refine RD.vP 93 19807040628566084398385987583 kt8106 rfl kp8107 .plain (fun _ => FV.assign rfl) rfl ?_
          refine RD.done (doneD_ok kt8106 (by kernel_rfl)) ?_
          have hS8320 : St _ _ [.cells b38 [.int .i64 2, (.slice (some ⟨b32, 0, none⟩) 1 1)] 40, .cells b20 [.int .u64 1099511627776] 37, .cells b15 [.int .i64 y3.fN, v9] 40] := hS8187.arr (.one (.tl (.tl (.tl (.tl .hd)))) (.one (.tl (.tl (.tl (.tl .hd)))) (.one (.tl (.tl (.tl (.tl .hd)))) .done)))
          have hT8321 : Tr w8184 _ w8184 [.cells b38 [.int .i64 2, (.slice (some ⟨b32, 0, none⟩) 1 1)] 40, .cells b20 [.int .u64 1099511627776] 37, .cells b15 [.int .i64 y3.fN, v9] 40] := Tr.arr (St.arrOf hS8187 (.one (.tl (.tl (.tl (.tl .hd)))) (.one (.tl (.tl (.tl (.tl .hd)))) (.one (.tl (.tl (.tl (.tl .hd)))) .done))))
          have hm8322 := Rep.mv hr8123 (Tr.trans hT8128 (Tr.trans hT8141 (Tr.trans hT8148 (Tr.trans hT8161 (Tr.trans hT8168 (Tr.trans hT8181 (Tr.trans hT8188 hT8321)))))))
          exact hJ7748 (false, ([(1, 0)] : List (Int × Int)), (.slice (some ⟨b32, 0, none⟩) 1 1)) _ _ ⟨rfl, rfl, rfl, rfl, trivial⟩ ⟨hS8320, (Tr.trans hT8117 (Tr.trans hT8121 (Tr.trans hT8128 (Tr.trans hT8141 (Tr.trans hT8148 (Tr.trans hT8161 (Tr.trans hT8168 (Tr.trans hT8181 (Tr.trans hT8188 hT8321))))))))), hm8322⟩ h
        ·skip
         refine RD.offs 1099511627775 54 [(32, 94), (33, 95), (34, 96), (35, 97), (36, 98), (37, 99), (38, 100), (39, 101)] (F := [(93, false)]) (U := []) kt8106 kp8107 (.cons rfl .nil) .nil ?_
         dsimp only [offS, List.map]
         refine RD.vP 40 2199023255551 kt8106 rfl kp8107 .plain (fun _ => FV.pick_f rfl rfl) rfl ?_
         refine RD.vP 41 4398046511103 kt8106 rfl kp8107 .plain (fun _ => FV.move rfl) rfl ?_
         refine RD.offs 1125899906842623 44 [(42, 104), (43, 105), (44, 106), (45, 107), (46, 108), (47, 109), (48, 110), (49, 111)] (F := [(103, false)]) (U := []) kt8106 kp8107 (.cons rfl .nil) .nil ?_
         dsimp only [offS, List.map]
         refine RD.vP 50 2251799813685247 kt8106 rfl kp8107 .plain (fun _ => FV.pick_f rfl rfl) rfl ?_
         refine RD.vP 51 4503599627370495 kt8106 rfl kp8107 .plain (fun _ => FV.move rfl) rfl ?_
         refine RD.offs 1152921504606846975 34 [(52, 114), (53, 115), (54, 116), (55, 117), (56, 118), (57, 119), (58, 120), (59, 121)] (F := [(113, false)]) (U := []) kt8106 kp8107 (.cons rfl .nil) .nil ?_
         dsimp only [offS, List.map]
         refine RD.vP 60 2305843009213693951 kt8106 rfl kp8107 .plain (fun _ => FV.pick_f rfl rfl) rfl ?_
         refine RD.vP 61 4611686018427387903 kt8106 rfl kp8107 .plain (fun _ => FV.move rfl) rfl ?_
         refine RD.offs 1180591620717411303423 24 [(62, 124), (63, 125), (64, 126), (65, 127), (66, 128), (67, 129), (68, 130), (69, 131)] (F := [(123, false)]) (U := []) kt8106 kp8107 (.cons rfl .nil) .nil ?_
         dsimp only [offS, List.map]
         refine RD.vP 70 2361183241434822606847 kt8106 rfl kp8107 .plain (fun _ => FV.pick_f rfl rfl) rfl ?_
         refine RD.vP 71 4722366482869645213695 kt8106 rfl kp8107 .plain (fun _ => FV.move rfl) rfl ?_
         refine RD.offs 1208925819614629174706175 14 [(72, 134), (73, 135), (74, 136), (75, 137), (76, 138), (77, 139), (78, 140), (79, 141)] (F := [(133, false)]) (U := []) kt8106 kp8107 (.cons rfl .nil) .nil ?_
         dsimp only [offS, List.map]
         refine RD.vP 80 2417851639229258349412351 kt8106 rfl kp8107 .plain (fun _ => FV.pick_f rfl rfl) rfl ?_
         refine RD.vP 81 4835703278458516698824703 kt8106 rfl kp8107 .plain (fun _ => FV.move rfl) rfl ?_
         refine RD.offs 4951760157141521099596496895 2 [(82, 144), (83, 145), (84, 146), (85, 147), (86, 148), (87, 149), (88, 150), (89, 151), (90, 152), (91, 153)] (F := [(143, false)]) (U := []) kt8106 kp8107 (.cons rfl .nil) .nil ?_
         dsimp only [offS, List.map]
         refine RD.vP 92 9903520314283042199192993791 kt8106 rfl kp8107 .plain (fun _ => FV.pick_f rfl rfl) rfl ?_
         refine RD.vP 93 19807040628566084398385987583 kt8106 rfl kp8107 .plain (fun _ => FV.assign rfl) rfl ?_
         refine RD.done (doneD_ok kt8106 (by kernel_rfl)) ?_
         have hS8323 : St _ _ [.cells b38 [.int .i64 2, (.slice (some ⟨b32, 0, none⟩) 1 1)] 40, .cells b20 [.int .u64 1099511627776] 37, .cells b15 [.int .i64 y3.fN, v9] 40] := hS8167.arr (.one (.tl (.tl (.tl .hd))) (.one (.tl (.tl (.tl .hd))) (.one (.tl (.tl (.tl .hd))) .done)))
         have hT8324 : Tr w8164 _ w8164 [.cells b38 [.int .i64 2, (.slice (some ⟨b32, 0, none⟩) 1 1)] 40, .cells b20 [.int .u64 1099511627776] 37, .cells b15 [.int .i64 y3.fN, v9] 40] := Tr.arr (St.arrOf hS8167 (.one (.tl (.tl (.tl .hd))) (.one (.tl (.tl (.tl .hd))) (.one (.tl (.tl (.tl .hd))) .done))))
         have hm8325 := Rep.mv hr8123 (Tr.trans hT8128 (Tr.trans hT8141 (Tr.trans hT8148 (Tr.trans hT8161 (Tr.trans hT8168 hT8324)))))
         exact hJ7748 (false, ([(1, 0)] : List (Int × Int)), (.slice (some ⟨b32, 0, none⟩) 1 1)) _ _ ⟨rfl, rfl, rfl, rfl, trivial⟩ ⟨hS8323, (Tr.trans hT8117 (Tr.trans hT8121 (Tr.trans hT8128 (Tr.trans hT8141 (Tr.trans hT8148 (Tr.trans hT8161 (Tr.trans hT8168 hT8324))))))), hm8325⟩ h
       ·skip
        refine RD.offs 1073741823 64 [(22, 84), (23, 85), (24, 86), (25, 87), (26, 88), (27, 89), (28, 90), (29, 91)] (F := [(83, false)]) (U := []) kt8106 kp8107 (.cons rfl .nil) .nil ?_
        dsimp only [offS, List.map]
        refine RD.vP 30 2147483647 kt8106 rfl kp8107 .plain (fun _ => FV.pick_f rfl rfl) rfl ?_
        refine RD.vP 31 4294967295 kt8106 rfl kp8107 .plain (fun _ => FV.move rfl) rfl ?_
        refine RD.offs 1099511627775 54 [(32, 94), (33, 95), (34, 96), (35, 97), (36, 98), (37, 99), (38, 100), (39, 101)] (F := [(93, false)]) (U := []) kt8106 kp8107 (.cons rfl .nil) .nil ?_
        dsimp only [offS, List.map]
        refine RD.vP 40 2199023255551 kt8106 rfl kp8107 .plain (fun _ => FV.pick_f rfl rfl) rfl ?_
        refine RD.vP 41 4398046511103 kt8106 rfl kp8107 .plain (fun _ => FV.move rfl) rfl ?_
        refine RD.offs 1125899906842623 44 [(42, 104), (43, 105), (44, 106), (45, 107), (46, 108), (47, 109), (48, 110), (49, 111)] (F := [(103, false)]) (U := []) kt8106 kp8107 (.cons rfl .nil) .nil ?_
        dsimp only [offS, List.map]
        refine RD.vP 50 2251799813685247 kt8106 rfl kp8107 .plain (fun _ => FV.pick_f rfl rfl) rfl ?_
        refine RD.vP 51 4503599627370495 kt8106 rfl kp8107 .plain (fun _ => FV.move rfl) rfl ?_
        refine RD.offs 1152921504606846975 34 [(52, 114), (53, 115), (54, 116), (55, 117), (56, 118), (57, 119), (58, 120), (59, 121)] (F := [(113, false)]) (U := []) kt8106 kp8107 (.cons rfl .nil) .nil ?_
        dsimp only [offS, List.map]
        refine RD.vP 60 2305843009213693951 kt8106 rfl kp8107 .plain (fun _ => FV.pick_f rfl rfl) rfl ?_
        refine RD.vP 61 4611686018427387903 kt8106 rfl kp8107 .plain (fun _ => FV.move rfl) rfl ?_
        refine RD.offs 1180591620717411303423 24 [(62, 124), (63, 125), (64, 126), (65, 127), (66, 128), (67, 129), (68, 130), (69, 131)] (F := [(123, false)]) (U := []) kt8106 kp8107 (.cons rfl .nil) .nil ?_
        dsimp only [offS, List.map]
        refine RD.vP 70 2361183241434822606847 kt8106 rfl kp8107 .plain (fun _ => FV.pick_f rfl rfl) rfl ?_
        refine RD.vP 71 4722366482869645213695 kt8106 rfl kp8107 .plain (fun _ => FV.move rfl) rfl ?_
        refine RD.offs 1208925819614629174706175 14 [(72, 134), (73, 135), (74, 136), (75, 137), (76, 138), (77, 139), (78, 140), (79, 141)] (F := [(133, false)]) (U := []) kt8106 kp8107 (.cons rfl .nil) .nil ?_
        dsimp only [offS, List.map]
        refine RD.vP 80 2417851639229258349412351 kt8106 rfl kp8107 .plain (fun _ => FV.pick_f rfl rfl) rfl ?_
        refine RD.vP 81 4835703278458516698824703 kt8106 rfl kp8107 .plain (fun _ => FV.move rfl) rfl ?_
        refine RD.offs 4951760157141521099596496895 2 [(82, 144), (83, 145), (84, 146), (85, 147), (86, 148), (87, 149), (88, 150), (89, 151), (90, 152), (91, 153)] (F := [(143, false)]) (U := []) kt8106 kp8107 (.cons rfl .nil) .nil ?_
        dsimp only [offS, List.map]
        refine RD.vP 92 9903520314283042199192993791 kt8106 rfl kp8107 .plain (fun _ => FV.pick_f rfl rfl) rfl ?_
        refine RD.vP 93 19807040628566084398385987583 kt8106 rfl kp8107 .plain (fun _ => FV.assign rfl) rfl ?_
        refine RD.done (doneD_ok kt8106 (by kernel_rfl)) ?_
        have hS8326 : St _ _ [.cells b38 [.int .i64 2, (.slice (some ⟨b32, 0, none⟩) 1 1)] 40, .cells b20 [.int .u64 1099511627776] 37, .cells b15 [.int .i64 y3.fN, v9] 40] := hS8147.arr (.one (.tl (.tl .hd)) (.one (.tl (.tl .hd)) (.one (.tl (.tl .hd)) .done)))
        have hT8327 : Tr w8144 _ w8144 [.cells b38 [.int .i64 2, (.slice (some ⟨b32, 0, none⟩) 1 1)] 40, .cells b20 [.int .u64 1099511627776] 37, .cells b15 [.int .i64 y3.fN, v9] 40] := Tr.arr (St.arrOf hS8147 (.one (.tl (.tl .hd)) (.one (.tl (.tl .hd)) (.one (.tl (.tl .hd)) .done))))
        have hm8328 := Rep.mv hr8123 (Tr.trans hT8128 (Tr.trans hT8141 (Tr.trans hT8148 hT8327)))
        exact hJ7748 (false, ([(1, 0)] : List (Int × Int)), (.slice (some ⟨b32, 0, none⟩) 1 1)) _ _ ⟨rfl, rfl, rfl, rfl, trivial⟩ ⟨hS8326, (Tr.trans hT8117 (Tr.trans hT8121 (Tr.trans hT8128 (Tr.trans hT8141 (Tr.trans hT8148 hT8327))))), hm8328⟩ h
      ·skip
       refine RD.offs 1048575 74 [(12, 74), (13, 75), (14, 76), (15, 77), (16, 78), (17, 79), (18, 80), (19, 81)] (F := [(73, false)]) (U := []) kt8106 kp8107 (.cons rfl .nil) .nil ?_
       dsimp only [offS, List.map]
       refine RD.vP 20 2097151 kt8106 rfl kp8107 .plain (fun _ => FV.pick_f rfl rfl) rfl ?_
       refine RD.vP 21 4194303 kt8106 rfl kp8107 .plain (fun _ => FV.move rfl) rfl ?_
       refine RD.offs 1073741823 64 [(22, 84), (23, 85), (24, 86), (25, 87), (26, 88), (27, 89), (28, 90), (29, 91)] (F := [(83, false)]) (U := []) kt8106 kp8107 (.cons rfl .nil) .nil ?_
       dsimp only [offS, List.map]
       refine RD.vP 30 2147483647 kt8106 rfl kp8107 .plain (fun _ => FV.pick_f rfl rfl) rfl ?_
       refine RD.vP 31 4294967295 kt8106 rfl kp8107 .plain (fun _ => FV.move rfl) rfl ?_
       refine RD.offs 1099511627775 54 [(32, 94), (33, 95), (34, 96), (35, 97), (36, 98), (37, 99), (38, 100), (39, 101)] (F := [(93, false)]) (U := []) kt8106 kp8107 (.cons rfl .nil) .nil ?_
       dsimp only [offS, List.map]
       refine RD.vP 40 2199023255551 kt8106 rfl kp8107 .plain (fun _ => FV.pick_f rfl rfl) rfl ?_
       refine RD.vP 41 4398046511103 kt8106 rfl kp8107 .plain (fun _ => FV.move rfl) rfl ?_
       refine RD.offs 1125899906842623 44 [(42, 104), (43, 105), (44, 106), (45, 107), (46, 108), (47, 109), (48, 110), (49, 111)] (F := [(103, false)]) (U := []) kt8106 kp8107 (.cons rfl .nil) .nil ?_
       dsimp only [offS, List.map]
       refine RD.vP 50 2251799813685247 kt8106 rfl kp8107 .plain (fun _ => FV.pick_f rfl rfl) rfl ?_
       refine RD.vP 51 4503599627370495 kt8106 rfl kp8107 .plain (fun _ => FV.move rfl) rfl ?_
       refine RD.offs 1152921504606846975 34 [(52, 114), (53, 115), (54, 116), (55, 117), (56, 118), (57, 119), (58, 120), (59, 121)] (F := [(113, false)]) (U := []) kt8106 kp8107 (.cons rfl .nil) .nil ?_
       dsimp only [offS, List.map]
       refine RD.vP 60 2305843009213693951 kt8106 rfl kp8107 .plain (fun _ => FV.pick_f rfl rfl) rfl ?_
       refine RD.vP 61 4611686018427387903 kt8106 rfl kp8107 .plain (fun _ => FV.move rfl) rfl ?_
       refine RD.offs 1180591620717411303423 24 [(62, 124), (63, 125), (64, 126), (65, 127), (66, 128), (67, 129), (68, 130), (69, 131)] (F := [(123, false)]) (U := []) kt8106 kp8107 (.cons rfl .nil) .nil ?_
       dsimp only [offS, List.map]
       refine RD.vP 70 2361183241434822606847 kt8106 rfl kp8107 .plain (fun _ => FV.pick_f rfl rfl) rfl ?_
       refine RD.vP 71 4722366482869645213695 kt8106 rfl kp8107 .plain (fun _ => FV.move rfl) rfl ?_
       refine RD.offs 1208925819614629174706175 14 [(72, 134), (73, 135), (74, 136), (75, 137), (76, 138), (77, 139), (78, 140), (79, 141)] (F := [(133, false)]) (U := []) kt8106 kp8107 (.cons rfl .nil) .nil ?_
       dsimp only [offS, List.map]
       refine RD.vP 80 2417851639229258349412351 kt8106 rfl kp8107 .plain (fun _ => FV.pick_f rfl rfl) rfl ?_
       refine RD.vP 81 4835703278458516698824703 kt8106 rfl kp8107 .plain (fun _ => FV.move rfl) rfl ?_
       refine RD.offs 4951760157141521099596496895 2 [(82, 144), (83, 145), (84, 146), (85, 147), (86, 148), (87, 149), (88, 150), (89, 151), (90, 152), (91, 153)] (F := [(143, false)]) (U := []) kt8106 kp8107 (.cons rfl .nil) .nil ?_
       dsimp only [offS, List.map]
       refine RD.vP 92 9903520314283042199192993791 kt8106 rfl kp8107 .plain (fun _ => FV.pick_f rfl rfl) rfl ?_
       refine RD.vP 93 19807040628566084398385987583 kt8106 rfl kp8107 .plain (fun _ => FV.assign rfl) rfl ?_
       refine RD.done (doneD_ok kt8106 (by kernel_rfl)) ?_
       have hS8329 : St _ _ [.cells b38 [.int .i64 2, (.slice (some ⟨b32, 0, none⟩) 1 1)] 40, .cells b20 [.int .u64 1099511627776] 37, .cells b15 [.int .i64 y3.fN, v9] 40] := hS8127.arr (.one (.tl .hd) (.one (.tl .hd) (.one (.tl .hd) .done)))
       have hT8330 : Tr w8124 _ w8124 [.cells b38 [.int .i64 2, (.slice (some ⟨b32, 0, none⟩) 1 1)] 40, .cells b20 [.int .u64 1099511627776] 37, .cells b15 [.int .i64 y3.fN, v9] 40] := Tr.arr (St.arrOf hS8127 (.one (.tl .hd) (.one (.tl .hd) (.one (.tl .hd) .done))))
       have hm8331 := Rep.mv hr8123 (Tr.trans hT8128 hT8330)
       exact hJ7748 (false, ([(1, 0)] : List (Int × Int)), (.slice (some ⟨b32, 0, none⟩) 1 1)) _ _ ⟨rfl, rfl, rfl, rfl, trivial⟩ ⟨hS8329, (Tr.trans hT8117 (Tr.trans hT8121 (Tr.trans hT8128 hT8330))), hm8331⟩ h
     ·skip
      refine RD.offs 1023 84 [(2, 64), (3, 65), (4, 66), (5, 67), (6, 68), (7, 69), (8, 70), (9, 71)] (F := [(63, false)]) (U := []) kt8106 kp8107 (.cons rfl .nil) .nil ?_
      dsimp only [offS, List.map]
      refine RD.vP 10 2047 kt8106 rfl kp8107 .plain (fun _ => FV.pick_f rfl rfl) rfl ?_
      refine RD.vP 11 4095 kt8106 rfl kp8107 .plain (fun _ => FV.move rfl) rfl ?_
      refine RD.offs 1048575 74 [(12, 74), (13, 75), (14, 76), (15, 77), (16, 78), (17, 79), (18, 80), (19, 81)] (F := [(73, false)]) (U := []) kt8106 kp8107 (.cons rfl .nil) .nil ?_
      dsimp only [offS, List.map]
      refine RD.vP 20 2097151 kt8106 rfl kp8107 .plain (fun _ => FV.pick_f rfl rfl) rfl ?_
      refine RD.vP 21 4194303 kt8106 rfl kp8107 .plain (fun _ => FV.move rfl) rfl ?_
      refine RD.offs 1073741823 64 [(22, 84), (23, 85), (24, 86), (25, 87), (26, 88), (27, 89), (28, 90), (29, 91)] (F := [(83, false)]) (U := []) kt8106 kp8107 (.cons rfl .nil) .nil ?_
      dsimp only [offS, List.map]
      refine RD.vP 30 2147483647 kt8106 rfl kp8107 .plain (fun _ => FV.pick_f rfl rfl) rfl ?_
      refine RD.vP 31 4294967295 kt8106 rfl kp8107 .plain (fun _ => FV.move rfl) rfl ?_
      refine RD.offs 1099511627775 54 [(32, 94), (33, 95), (34, 96), (35, 97), (36, 98), (37, 99), (38, 100), (39, 101)] (F := [(93, false)]) (U := []) kt8106 kp8107 (.cons rfl .nil) .nil ?_
      dsimp only [offS, List.map]
      refine RD.vP 40 2199023255551 kt8106 rfl kp8107 .plain (fun _ => FV.pick_f rfl rfl) rfl ?_
      refine RD.vP 41 4398046511103 kt8106 rfl kp8107 .plain (fun _ => FV.move rfl) rfl ?_
      refine RD.offs 1125899906842623 44 [(42, 104), (43, 105), (44, 106), (45, 107), (46, 108), (47, 109), (48, 110), (49, 111)] (F := [(103, false)]) (U := []) kt8106 kp8107 (.cons rfl .nil) .nil ?_
      dsimp only [offS, List.map]
      refine RD.vP 50 2251799813685247 kt8106 rfl kp8107 .plain (fun _ => FV.pick_f rfl rfl) rfl ?_
      refine RD.vP 51 4503599627370495 kt8106 rfl kp8107 .plain (fun _ => FV.move rfl) rfl ?_
      refine RD.offs 1152921504606846975 34 [(52, 114), (53, 115), (54, 116), (55, 117), (56, 118), (57, 119), (58, 120), (59, 121)] (F := [(113, false)]) (U := []) kt8106 kp8107 (.cons rfl .nil) .nil ?_
      dsimp only [offS, List.map]
      refine RD.vP 60 2305843009213693951 kt8106 rfl kp8107 .plain (fun _ => FV.pick_f rfl rfl) rfl ?_
      refine RD.vP 61 4611686018427387903 kt8106 rfl kp8107 .plain (fun _ => FV.move rfl) rfl ?_
      refine RD.offs 1180591620717411303423 24 [(62, 124), (63, 125), (64, 126), (65, 127), (66, 128), (67, 129), (68, 130), (69, 131)] (F := [(123, false)]) (U := []) kt8106 kp8107 (.cons rfl .nil) .nil ?_
      dsimp only [offS, List.map]
      refine RD.vP 70 2361183241434822606847 kt8106 rfl kp8107 .plain (fun _ => FV.pick_f rfl rfl) rfl ?_
      refine RD.vP 71 4722366482869645213695 kt8106 rfl kp8107 .plain (fun _ => FV.move rfl) rfl ?_
      refine RD.offs 1208925819614629174706175 14 [(72, 134), (73, 135), (74, 136), (75, 137), (76, 138), (77, 139), (78, 140), (79, 141)] (F := [(133, false)]) (U := []) kt8106 kp8107 (.cons rfl .nil) .nil ?_
      dsimp only [offS, List.map]
      refine RD.vP 80 2417851639229258349412351 kt8106 rfl kp8107 .plain (fun _ => FV.pick_f rfl rfl) rfl ?_
      refine RD.vP 81 4835703278458516698824703 kt8106 rfl kp8107 .plain (fun _ => FV.move rfl) rfl ?_
      refine RD.offs 4951760157141521099596496895 2 [(82, 144), (83, 145), (84, 146), (85, 147), (86, 148), (87, 149), (88, 150), (89, 151), (90, 152), (91, 153)] (F := [(143, false)]) (U := []) kt8106 kp8107 (.cons rfl .nil) .nil ?_
      dsimp only [offS, List.map]
      refine RD.vP 92 9903520314283042199192993791 kt8106 rfl kp8107 .plain (fun _ => FV.pick_f rfl rfl) rfl ?_
      refine RD.vP 93 19807040628566084398385987583 kt8106 rfl kp8107 .plain (fun _ => FV.assign rfl) rfl ?_
      refine RD.done (doneD_ok kt8106 (by kernel_rfl)) ?_
      have hm8335 := Cells.mv hc33 (Tr.trans hT37 (Tr.trans hT41 hT7537))
      have hr8332 := St.freeze (α := Int × Int) hS7536 (.tl .hd) hm8335 hL
      have hS8333 := hS7536.del ((.tl .hd) : Out _ _ _).del
      have hT8334 := Tr.del (w := wx7535) ((.tl .hd) : Out [.cells b38 [.int .i64 2, (.slice (some ⟨b32, 0, none⟩) 1 1)] 40, .row w.heap.size 46 (Rep.size (Int × Int)) (.slice (some ⟨b32, 0, none⟩) 1 1) (([(1, 0)] : List (Int × Int)).length) [.int .i64 1, .int .i64 0], .cells b20 [.int .u64 1099511627776] 37, .cells b15 [.int .i64 y3.fN, v9] 40] _ _).del
      have hr8336 : Rep.R wx7535 (bl [.cells b38 [.int .i64 2, (.slice (some ⟨b32, 0, none⟩) 1 1)] 40, .cells b20 [.int .u64 1099511627776] 37, .cells b15 [.int .i64 y3.fN, v9] 40] ++ L) [(.slice (some ⟨b32, 0, none⟩) 1 1)] ([(1, 0)] : List (Int × Int)) := hr8332
      exact hJ7748 (false, ([(1, 0)] : List (Int × Int)), (.slice (some ⟨b32, 0, none⟩) 1 1)) _ _ ⟨rfl, rfl, rfl, rfl, trivial⟩ ⟨hS8333, hT8334, hr8336⟩ h
   ·skip
    intro J7539 hJ7540 h
    try dsimp only at h
    refine MX.drawT 43 tb5_5 (by kernel_rfl) (by kernel_rfl) (by kernel_rfl) (fun kt8337 kp8338 => ?_)
    obtain ⟨xs8949, hxs8949, h⟩ := bind_in h
    refine RD.meet (α := Value × (List Value) × Nat) (fun ⟨v9556, cs9557, b9559⟩ => [(1, .pointer (some ⟨b15, 0, none⟩)), (2, .pointer (some ⟨b20, 0, none⟩)), (3, .pointer (some ⟨b38, 0, none⟩)), (20, .func (.func 37) #[] #[.pointer (some ⟨b9559, 0, none⟩)]), (21, v9556)]) (fun ⟨v9556, cs9557, b9559⟩ wx9559 => St w wx9559 [.row w.heap.size 3 (Rep.size Int) v9556 xs8949.length cs9557, .cells b9559 [.int .i64 3] 27, .cells b38 [.int .i64 2, (.slice (some ⟨b32, 0, none⟩) 1 1)] 40, .row w.heap.size 46 (Rep.size (Int × Int)) (.slice (some ⟨b32, 0, none⟩) 1 1) (([(1, 0)] : List (Int × Int)).length) [.int .i64 1, .int .i64 0], .cells b20 [.int .u64 1099511627776] 37, .cells b15 [.int .i64 y3.fN, v9] 40] ∧ Tr w39 [.cells b38 [.int .i64 2, (.slice (some ⟨b32, 0, none⟩) 1 1)] 40, .row w.heap.size 46 (Rep.size (Int × Int)) (.slice (some ⟨b32, 0, none⟩) 1 1) (([(1, 0)] : List (Int × Int)).length) [.int .i64 1, .int .i64 0], .cells b20 [.int .u64 1099511627776] 37, .cells b15 [.int .i64 y3.fN, v9] 40] wx9559 [.row w.heap.size 3 (Rep.size Int) v9556 xs8949.length cs9557, .cells b9559 [.int .i64 3] 27, .cells b38 [.int .i64 2, (.slice (some ⟨b32, 0, none⟩) 1 1)] 40, .row w.heap.size 46 (Rep.size (Int × Int)) (.slice (some ⟨b32, 0, none⟩) 1 1) (([(1, 0)] : List (Int × Int)).length) [.int .i64 1, .int .i64 0], .cells b20 [.int .u64 1099511627776] 37, .cells b15 [.int .i64 y3.fN, v9] 40] ∧ Cells wx9559 (bl [.row w.heap.size 3 (Rep.size Int) v9556 xs8949.length cs9557, .cells b9559 [.int .i64 3] 27, .cells b38 [.int .i64 2, (.slice (some ⟨b32, 0, none⟩) 1 1)] 40, .row w.heap.size 46 (Rep.size (Int × Int)) (.slice (some ⟨b32, 0, none⟩) 1 1) (([(1, 0)] : List (Int × Int)).length) [.int .i64 1, .int .i64 0], .cells b20 [.int .u64 1099511627776] 37, .cells b15 [.int .i64 y3.fN, v9] 40] ++ L) cs9557 (xs8949 : List Int)) 41 3 ?_ ?_
    ·skip
     rintro ⟨v9556, cs9557, b9559⟩ wx9559 ⟨hS9560, hT9561, hc9558⟩
     try dsimp only
     have hr9564 := St.freeze (α := Int) hS9560 .hd hc9558 hL
     have hS9565 := hS9560.del (.hd : Out _ _ _).del
     have hT9566 := Tr.del (w := wx9559) (.hd : Out [.row w.heap.size 3 (Rep.size Int) v9556 xs8949.length cs9557, .cells b9559 [.int .i64 3] 27, .cells b38 [.int .i64 2, (.slice (some ⟨b32, 0, none⟩) 1 1)] 40, .row w.heap.size 46 (Rep.size (Int × Int)) (.slice (some ⟨b32, 0, none⟩) 1 1) (([(1, 0)] : List (Int × Int)).length) [.int .i64 1, .int .i64 0], .cells b20 [.int .u64 1099511627776] 37, .cells b15 [.int .i64 y3.fN, v9] 40] _ _).del
     have hr9567 : Rep.R wx9559 (bl [.cells b9559 [.int .i64 3] 27, .cells b38 [.int .i64 2, (.slice (some ⟨b32, 0, none⟩) 1 1)] 40, .row w.heap.size 46 (Rep.size (Int × Int)) (.slice (some ⟨b32, 0, none⟩) 1 1) (([(1, 0)] : List (Int × Int)).length) [.int .i64 1, .int .i64 0], .cells b20 [.int .u64 1099511627776] 37, .cells b15 [.int .i64 y3.fN, v9] 40] ++ L) [v9556] xs8949 := hr9564
     obtain ⟨y9563, hy9563, h⟩ := bind_in h
     refine RD.one (i := 2) (readyD_ok kt8337 (by kernel_rfl)) (RO.call (m' := 7) (fst := []) (cap := []) (stepC_ok kt8337 (by kernel_rfl)) rfl .plain body10 rfl (evs_cons rfl evs_nil) (fun w9 hw9 => wilson_Erase_c n _ w9 (hS9565.hL hL hw9) xs8949 (Rep.keep0 hr9567 hw9) hy9563) rfl (fun w9568 vu9569 hag9570 ⟨v9573, hu_, hr9574⟩ => ?_))
     subst hu_
     have hS9571 := hS9565.agree hag9570
     have hT9572 := Tr.agree (O := [.cells b9559 [.int .i64 3] 27, .cells b38 [.int .i64 2, (.slice (some ⟨b32, 0, none⟩) 1 1)] 40, .row w.heap.size 46 (Rep.size (Int × Int)) (.slice (some ⟨b32, 0, none⟩) 1 1) (([(1, 0)] : List (Int × Int)).length) [.int .i64 1, .int .i64 0], .cells b20 [.int .u64 1099511627776] 37, .cells b15 [.int .i64 y3.fN, v9] 40]) hag9570
     refine RD.vP 3 15 kt8337 rfl kp8338 .plain (fun _ => FV.extract rfl rfl) rfl ?_
     refine RD.vP 4 31 kt8337 rfl kp8338 .plain (fun _ => FV.extract rfl rfl) rfl ?_
     obtain ⟨y9575, hy9575, h⟩ := bind_in h
     refine RD.callq (i := 5) (m' := 63) (W := 8796093022144) (takeC_ok kt8337 (by kernel_rfl)) rfl kp8338 (v := .bool y9575) (fst := []) (cap := [.pointer (some ⟨b9559, 0, none⟩)]) .plain body37 rfl (evs_cons rfl (evs_cons rfl evs_nil)) (fun w9 hw9 => wardmotelaw31_fails_1_c n _ w9 (hS9571.hL0 hL hw9) y9563.1 (Rep.keep0 (Rep.dropO (O := [.cells b9559 [.int .i64 3] 27, .cells b38 [.int .i64 2, (.slice (some ⟨b32, 0, none⟩) 1 1)] 40, .row w.heap.size 46 (Rep.size (Int × Int)) (.slice (some ⟨b32, 0, none⟩) 1 1) (([(1, 0)] : List (Int × Int)).length) [.int .i64 1, .int .i64 0], .cells b20 [.int .u64 1099511627776] 37, .cells b15 [.int .i64 y3.fN, v9] 40]) hr9574) hw9) y9563.2 3 (fun j9 v9 h9 => hw9.cell0 ((hS9571.memA .hd) j9 v9 h9)) hy9575) rfl ?_
     refine RD.vP 6 127 kt8337 rfl kp8338 .plain (fun _ => FV.move rfl) rfl ?_
     refine RD.ifb (s := 26) rfl h (fun c9576 h => ?_) (fun c9576 h => ?_)
     ·skip
      obtain ⟨xs10497, hxs10497, h⟩ := bind_in h
      refine RD.meet (α := Value × (List Value) × Value × Nat) (fun ⟨v11104, cs11105, v11107, b11109⟩ => [(1, .pointer (some ⟨b15, 0, none⟩)), (2, .pointer (some ⟨b20, 0, none⟩)), (3, .pointer (some ⟨b38, 0, none⟩)), (26, .bool true), (28, .func (.func 38) #[] #[.pointer (some ⟨b11109, 0, none⟩)]), (29, v11104)]) (fun ⟨v11104, cs11105, v11107, b11109⟩ wx11109 => St w wx11109 [.row w.heap.size 3 (Rep.size Int) v11104 xs10497.length cs11105, .cells b11109 [v11107] 22, .cells b38 [.int .i64 2, (.slice (some ⟨b32, 0, none⟩) 1 1)] 40, .row w.heap.size 46 (Rep.size (Int × Int)) (.slice (some ⟨b32, 0, none⟩) 1 1) (([(1, 0)] : List (Int × Int)).length) [.int .i64 1, .int .i64 0], .cells b20 [.int .u64 1099511627776] 37, .cells b15 [.int .i64 y3.fN, v9] 40] ∧ Tr w9568 [.cells b9559 [.int .i64 3] 27, .cells b38 [.int .i64 2, (.slice (some ⟨b32, 0, none⟩) 1 1)] 40, .row w.heap.size 46 (Rep.size (Int × Int)) (.slice (some ⟨b32, 0, none⟩) 1 1) (([(1, 0)] : List (Int × Int)).length) [.int .i64 1, .int .i64 0], .cells b20 [.int .u64 1099511627776] 37, .cells b15 [.int .i64 y3.fN, v9] 40] wx11109 [.row w.heap.size 3 (Rep.size Int) v11104 xs10497.length cs11105, .cells b11109 [v11107] 22, .cells b38 [.int .i64 2, (.slice (some ⟨b32, 0, none⟩) 1 1)] 40, .row w.heap.size 46 (Rep.size (Int × Int)) (.slice (some ⟨b32, 0, none⟩) 1 1) (([(1, 0)] : List (Int × Int)).length) [.int .i64 1, .int .i64 0], .cells b20 [.int .u64 1099511627776] 37, .cells b15 [.int .i64 y3.fN, v9] 40] ∧ Cells wx11109 (bl [.row w.heap.size 3 (Rep.size Int) v11104 xs10497.length cs11105, .cells b11109 [v11107] 22, .cells b38 [.int .i64 2, (.slice (some ⟨b32, 0, none⟩) 1 1)] 40, .row w.heap.size 46 (Rep.size (Int × Int)) (.slice (some ⟨b32, 0, none⟩) 1 1) (([(1, 0)] : List (Int × Int)).length) [.int .i64 1, .int .i64 0], .cells b20 [.int .u64 1099511627776] 37, .cells b15 [.int .i64 y3.fN, v9] 40] ++ L) cs11105 (xs10497 : List Int) ∧ Rep.R wx11109 (bl [.row w.heap.size 3 (Rep.size Int) v11104 xs10497.length cs11105, .cells b11109 [v11107] 22, .cells b38 [.int .i64 2, (.slice (some ⟨b32, 0, none⟩) 1 1)] 40, .row w.heap.size 46 (Rep.size (Int × Int)) (.slice (some ⟨b32, 0, none⟩) 1 1) (([(1, 0)] : List (Int × Int)).length) [.int .i64 1, .int .i64 0], .cells b20 [.int .u64 1099511627776] 37, .cells b15 [.int .i64 y3.fN, v9] 40] ++ L) [v11107] ([0] : List Int)) 33 1023 ?_ ?_
      ·skip
       rintro ⟨v11104, cs11105, v11107, b11109⟩ wx11109 ⟨hS11110, hT11111, hc11106, hr11108⟩
       try dsimp only
       have hr11114 := St.freeze (α := Int) hS11110 .hd hc11106 hL
       have hS11115 := hS11110.del (.hd : Out _ _ _).del
       have hT11116 := Tr.del (w := wx11109) (.hd : Out [.row w.heap.size 3 (Rep.size Int) v11104 xs10497.length cs11105, .cells b11109 [v11107] 22, .cells b38 [.int .i64 2, (.slice (some ⟨b32, 0, none⟩) 1 1)] 40, .row w.heap.size 46 (Rep.size (Int × Int)) (.slice (some ⟨b32, 0, none⟩) 1 1) (([(1, 0)] : List (Int × Int)).length) [.int .i64 1, .int .i64 0], .cells b20 [.int .u64 1099511627776] 37, .cells b15 [.int .i64 y3.fN, v9] 40] _ _).del
       have hr11117 : Rep.R wx11109 (bl [.cells b11109 [v11107] 22, .cells b38 [.int .i64 2, (.slice (some ⟨b32, 0, none⟩) 1 1)] 40, .row w.heap.size 46 (Rep.size (Int × Int)) (.slice (some ⟨b32, 0, none⟩) 1 1) (([(1, 0)] : List (Int × Int)).length) [.int .i64 1, .int .i64 0], .cells b20 [.int .u64 1099511627776] 37, .cells b15 [.int .i64 y3.fN, v9] 40] ++ L) [v11104] xs10497 := hr11114
       obtain ⟨y11113, hy11113, h⟩ := bind_in h
       refine RD.one (i := 10) (readyD_ok kt8337 (by kernel_rfl)) (RO.call (m' := 2047) (fst := []) (cap := []) (stepC_ok kt8337 (by kernel_rfl)) rfl (.yes rfl rfl) body10 rfl (evs_cons rfl evs_nil) (fun w9 hw9 => wilson_Erase_c n _ w9 (hS11115.hL hL hw9) xs10497 (Rep.keep0 hr11117 hw9) hy11113) rfl (fun w11118 vu11119 hag11120 ⟨v11123, hu_, hr11124⟩ => ?_))
       subst hu_
       have hS11121 := hS11115.agree hag11120
       have hT11122 := Tr.agree (O := [.cells b11109 [v11107] 22, .cells b38 [.int .i64 2, (.slice (some ⟨b32, 0, none⟩) 1 1)] 40, .row w.heap.size 46 (Rep.size (Int × Int)) (.slice (some ⟨b32, 0, none⟩) 1 1) (([(1, 0)] : List (Int × Int)).length) [.int .i64 1, .int .i64 0], .cells b20 [.int .u64 1099511627776] 37, .cells b15 [.int .i64 y3.fN, v9] 40]) hag11120
       refine RD.vP 11 4095 kt8337 rfl kp8338 (.yes rfl rfl) (fun _ => FV.extract rfl rfl) rfl ?_
       refine RD.vP 12 8191 kt8337 rfl kp8338 (.yes rfl rfl) (fun _ => FV.extract rfl rfl) rfl ?_
       obtain ⟨y11125, hy11125, h⟩ := bind_in h
       have hm11126 := Rep.mv hr11108 (Tr.trans hT11116 hT11122)
       refine RD.callq (i := 13) (m' := 16383) (W := 8796093005824) (takeC_ok kt8337 (by kernel_rfl)) rfl kp8338 (v := .bool y11125) (fst := []) (cap := [.pointer (some ⟨b11109, 0, none⟩)]) (.yes rfl rfl) body38 rfl (evs_cons rfl (evs_cons rfl evs_nil)) (fun w9 hw9 => wardmotelaw31_lists_1_c n _ w9 (hS11121.hL0 hL hw9) y11113.1 (Rep.keep0 (Rep.dropO (O := [.cells b11109 [v11107] 22, .cells b38 [.int .i64 2, (.slice (some ⟨b32, 0, none⟩) 1 1)] 40, .row w.heap.size 46 (Rep.size (Int × Int)) (.slice (some ⟨b32, 0, none⟩) 1 1) (([(1, 0)] : List (Int × Int)).length) [.int .i64 1, .int .i64 0], .cells b20 [.int .u64 1099511627776] 37, .cells b15 [.int .i64 y3.fN, v9] 40]) hr11124) hw9) y11113.2 ([0] : List Int) (Rep.keep0 (Rep.dropO (O := [.cells b11109 [v11107] 22, .cells b38 [.int .i64 2, (.slice (some ⟨b32, 0, none⟩) 1 1)] 40, .row w.heap.size 46 (Rep.size (Int × Int)) (.slice (some ⟨b32, 0, none⟩) 1 1) (([(1, 0)] : List (Int × Int)).length) [.int .i64 1, .int .i64 0], .cells b20 [.int .u64 1099511627776] 37, .cells b15 [.int .i64 y3.fN, v9] 40]) hm11126) hw9) (fun j9 v9 h9 => hw9.cell0 ((hS11121.memA .hd) j9 v9 h9)) hy11125) rfl ?_
       refine RD.vP 14 32767 kt8337 rfl kp8338 .plain (fun _ => FV.pick_t rfl rfl) rfl ?_
       refine RD.vP 15 65535 kt8337 rfl kp8338 .plain (fun _ => FV.move rfl) rfl ?_
       refine RD.ifb (s := 35) rfl h (fun c11127 h => ?_) (fun c11127 h => ?_)
       ·skip
        refine RD.meet (α := Value × (List Value) × Value × Nat) (fun ⟨v12653, cs12654, v12656, b12658⟩ => [(1, .pointer (some ⟨b15, 0, none⟩)), (2, .pointer (some ⟨b20, 0, none⟩)), (3, .pointer (some ⟨b38, 0, none⟩)), (35, .bool true), (37, .func (.func 38) #[] #[.pointer (some ⟨b12658, 0, none⟩)]), (38, v12653)]) (fun ⟨v12653, cs12654, v12656, b12658⟩ wx12658 => St w wx12658 [.row w.heap.size 3 (Rep.size Int) v12653 (([7, 9, 7, 8] : List Int).length) cs12654, .cells b12658 [v12656] 22, .cells b38 [.int .i64 2, (.slice (some ⟨b32, 0, none⟩) 1 1)] 40, .row w.heap.size 46 (Rep.size (Int × Int)) (.slice (some ⟨b32, 0, none⟩) 1 1) (([(1, 0)] : List (Int × Int)).length) [.int .i64 1, .int .i64 0], .cells b20 [.int .u64 1099511627776] 37, .cells b15 [.int .i64 y3.fN, v9] 40] ∧ Tr w11118 [.cells b11109 [v11107] 22, .cells b38 [.int .i64 2, (.slice (some ⟨b32, 0, none⟩) 1 1)] 40, .row w.heap.size 46 (Rep.size (Int × Int)) (.slice (some ⟨b32, 0, none⟩) 1 1) (([(1, 0)] : List (Int × Int)).length) [.int .i64 1, .int .i64 0], .cells b20 [.int .u64 1099511627776] 37, .cells b15 [.int .i64 y3.fN, v9] 40] wx12658 [.row w.heap.size 3 (Rep.size Int) v12653 (([7, 9, 7, 8] : List Int).length) cs12654, .cells b12658 [v12656] 22, .cells b38 [.int .i64 2, (.slice (some ⟨b32, 0, none⟩) 1 1)] 40, .row w.heap.size 46 (Rep.size (Int × Int)) (.slice (some ⟨b32, 0, none⟩) 1 1) (([(1, 0)] : List (Int × Int)).length) [.int .i64 1, .int .i64 0], .cells b20 [.int .u64 1099511627776] 37, .cells b15 [.int .i64 y3.fN, v9] 40] ∧ Cells wx12658 (bl [.row w.heap.size 3 (Rep.size Int) v12653 (([7, 9, 7, 8] : List Int).length) cs12654, .cells b12658 [v12656] 22, .cells b38 [.int .i64 2, (.slice (some ⟨b32, 0, none⟩) 1 1)] 40, .row w.heap.size 46 (Rep.size (Int × Int)) (.slice (some ⟨b32, 0, none⟩) 1 1) (([(1, 0)] : List (Int × Int)).length) [.int .i64 1, .int .i64 0], .cells b20 [.int .u64 1099511627776] 37, .cells b15 [.int .i64 y3.fN, v9] 40] ++ L) cs12654 (([7, 9, 7, 8] : List Int) : List Int) ∧ Rep.R wx12658 (bl [.row w.heap.size 3 (Rep.size Int) v12653 (([7, 9, 7, 8] : List Int).length) cs12654, .cells b12658 [v12656] 22, .cells b38 [.int .i64 2, (.slice (some ⟨b32, 0, none⟩) 1 1)] 40, .row w.heap.size 46 (Rep.size (Int × Int)) (.slice (some ⟨b32, 0, none⟩) 1 1) (([(1, 0)] : List (Int × Int)).length) [.int .i64 1, .int .i64 0], .cells b20 [.int .u64 1099511627776] 37, .cells b15 [.int .i64 y3.fN, v9] 40] ++ L) [v12656] ([7, 8] : List Int)) 24 524287 ?_ ?_
        ·skip
         rintro ⟨v12653, cs12654, v12656, b12658⟩ wx12658 ⟨hS12659, hT12660, hc12655, hr12657⟩
         try dsimp only
         have hr12663 := St.freeze (α := Int) hS12659 .hd hc12655 hL
         have hS12664 := hS12659.del (.hd : Out _ _ _).del
         have hT12665 := Tr.del (w := wx12658) (.hd : Out [.row w.heap.size 3 (Rep.size Int) v12653 (([7, 9, 7, 8] : List Int).length) cs12654, .cells b12658 [v12656] 22, .cells b38 [.int .i64 2, (.slice (some ⟨b32, 0, none⟩) 1 1)] 40, .row w.heap.size 46 (Rep.size (Int × Int)) (.slice (some ⟨b32, 0, none⟩) 1 1) (([(1, 0)] : List (Int × Int)).length) [.int .i64 1, .int .i64 0], .cells b20 [.int .u64 1099511627776] 37, .cells b15 [.int .i64 y3.fN, v9] 40] _ _).del
         have hr12666 : Rep.R wx12658 (bl [.cells b12658 [v12656] 22, .cells b38 [.int .i64 2, (.slice (some ⟨b32, 0, none⟩) 1 1)] 40, .row w.heap.size 46 (Rep.size (Int × Int)) (.slice (some ⟨b32, 0, none⟩) 1 1) (([(1, 0)] : List (Int × Int)).length) [.int .i64 1, .int .i64 0], .cells b20 [.int .u64 1099511627776] 37, .cells b15 [.int .i64 y3.fN, v9] 40] ++ L) [v12653] ([7, 9, 7, 8] : List Int) := hr12663
         obtain ⟨y12662, hy12662, h⟩ := bind_in h
         refine RD.one (i := 19) (readyD_ok kt8337 (by kernel_rfl)) (RO.call (m' := 1048575) (fst := []) (cap := []) (stepC_ok kt8337 (by kernel_rfl)) rfl (.yes rfl rfl) body10 rfl (evs_cons rfl evs_nil) (fun w9 hw9 => wilson_Erase_c n _ w9 (hS12664.hL hL hw9) ([7, 9, 7, 8] : List Int) (Rep.keep0 hr12666 hw9) hy12662) rfl (fun w12667 vu12668 hag12669 ⟨v12672, hu_, hr12673⟩ => ?_))
         subst hu_
         have hS12670 := hS12664.agree hag12669
         have hT12671 := Tr.agree (O := [.cells b12658 [v12656] 22, .cells b38 [.int .i64 2, (.slice (some ⟨b32, 0, none⟩) 1 1)] 40, .row w.heap.size 46 (Rep.size (Int × Int)) (.slice (some ⟨b32, 0, none⟩) 1 1) (([(1, 0)] : List (Int × Int)).length) [.int .i64 1, .int .i64 0], .cells b20 [.int .u64 1099511627776] 37, .cells b15 [.int .i64 y3.fN, v9] 40]) hag12669
         refine RD.vP 20 2097151 kt8337 rfl kp8338 (.yes rfl rfl) (fun _ => FV.extract rfl rfl) rfl ?_
         refine RD.vP 21 4194303 kt8337 rfl kp8338 (.yes rfl rfl) (fun _ => FV.extract rfl rfl) rfl ?_
         obtain ⟨y12674, hy12674, h⟩ := bind_in h
         have hm12675 := Rep.mv hr12657 (Tr.trans hT12665 hT12671)
         refine RD.callq (i := 22) (m' := 8388607) (W := 8796084633600) (takeC_ok kt8337 (by kernel_rfl)) rfl kp8338 (v := .bool y12674) (fst := []) (cap := [.pointer (some ⟨b12658, 0, none⟩)]) (.yes rfl rfl) body38 rfl (evs_cons rfl (evs_cons rfl evs_nil)) (fun w9 hw9 => wardmotelaw31_lists_1_c n _ w9 (hS12670.hL0 hL hw9) y12662.1 (Rep.keep0 (Rep.dropO (O := [.cells b12658 [v12656] 22, .cells b38 [.int .i64 2, (.slice (some ⟨b32, 0, none⟩) 1 1)] 40, .row w.heap.size 46 (Rep.size (Int × Int)) (.slice (some ⟨b32, 0, none⟩) 1 1) (([(1, 0)] : List (Int × Int)).length) [.int .i64 1, .int .i64 0], .cells b20 [.int .u64 1099511627776] 37, .cells b15 [.int .i64 y3.fN, v9] 40]) hr12673) hw9) y12662.2 ([7, 8] : List Int) (Rep.keep0 (Rep.dropO (O := [.cells b12658 [v12656] 22, .cells b38 [.int .i64 2, (.slice (some ⟨b32, 0, none⟩) 1 1)] 40, .row w.heap.size 46 (Rep.size (Int × Int)) (.slice (some ⟨b32, 0, none⟩) 1 1) (([(1, 0)] : List (Int × Int)).length) [.int .i64 1, .int .i64 0], .cells b20 [.int .u64 1099511627776] 37, .cells b15 [.int .i64 y3.fN, v9] 40]) hm12675) hw9) (fun j9 v9 h9 => hw9.cell0 ((hS12670.memA .hd) j9 v9 h9)) hy12674) rfl ?_
         refine RD.vP 23 16777215 kt8337 rfl kp8338 .plain (fun _ => FV.pick_t rfl rfl) rfl ?_
         refine RD.vP 24 33554431 kt8337 rfl kp8338 .plain (fun _ => FV.move rfl) rfl ?_
         refine RD.ifb (s := 44) rfl h (fun c12676 h => ?_) (fun c12676 h => ?_)
         ·skip
          refine RD.meet (α := Value × (List Value) × Value × Nat) (fun ⟨v14202, cs14203, v14205, b14207⟩ => [(1, .pointer (some ⟨b15, 0, none⟩)), (2, .pointer (some ⟨b20, 0, none⟩)), (3, .pointer (some ⟨b38, 0, none⟩)), (44, .bool true), (46, .func (.func 38) #[] #[.pointer (some ⟨b14207, 0, none⟩)]), (47, v14202)]) (fun ⟨v14202, cs14203, v14205, b14207⟩ wx14207 => St w wx14207 [.row w.heap.size 3 (Rep.size Int) v14202 (([(-1), 1099511627776] : List Int).length) cs14203, .cells b14207 [v14205] 22, .cells b38 [.int .i64 2, (.slice (some ⟨b32, 0, none⟩) 1 1)] 40, .row w.heap.size 46 (Rep.size (Int × Int)) (.slice (some ⟨b32, 0, none⟩) 1 1) (([(1, 0)] : List (Int × Int)).length) [.int .i64 1, .int .i64 0], .cells b20 [.int .u64 1099511627776] 37, .cells b15 [.int .i64 y3.fN, v9] 40] ∧ Tr w12667 [.cells b12658 [v12656] 22, .cells b38 [.int .i64 2, (.slice (some ⟨b32, 0, none⟩) 1 1)] 40, .row w.heap.size 46 (Rep.size (Int × Int)) (.slice (some ⟨b32, 0, none⟩) 1 1) (([(1, 0)] : List (Int × Int)).length) [.int .i64 1, .int .i64 0], .cells b20 [.int .u64 1099511627776] 37, .cells b15 [.int .i64 y3.fN, v9] 40] wx14207 [.row w.heap.size 3 (Rep.size Int) v14202 (([(-1), 1099511627776] : List Int).length) cs14203, .cells b14207 [v14205] 22, .cells b38 [.int .i64 2, (.slice (some ⟨b32, 0, none⟩) 1 1)] 40, .row w.heap.size 46 (Rep.size (Int × Int)) (.slice (some ⟨b32, 0, none⟩) 1 1) (([(1, 0)] : List (Int × Int)).length) [.int .i64 1, .int .i64 0], .cells b20 [.int .u64 1099511627776] 37, .cells b15 [.int .i64 y3.fN, v9] 40] ∧ Cells wx14207 (bl [.row w.heap.size 3 (Rep.size Int) v14202 (([(-1), 1099511627776] : List Int).length) cs14203, .cells b14207 [v14205] 22, .cells b38 [.int .i64 2, (.slice (some ⟨b32, 0, none⟩) 1 1)] 40, .row w.heap.size 46 (Rep.size (Int × Int)) (.slice (some ⟨b32, 0, none⟩) 1 1) (([(1, 0)] : List (Int × Int)).length) [.int .i64 1, .int .i64 0], .cells b20 [.int .u64 1099511627776] 37, .cells b15 [.int .i64 y3.fN, v9] 40] ++ L) cs14203 (([(-1), 1099511627776] : List Int) : List Int) ∧ Rep.R wx14207 (bl [.row w.heap.size 3 (Rep.size Int) v14202 (([(-1), 1099511627776] : List Int).length) cs14203, .cells b14207 [v14205] 22, .cells b38 [.int .i64 2, (.slice (some ⟨b32, 0, none⟩) 1 1)] 40, .row w.heap.size 46 (Rep.size (Int × Int)) (.slice (some ⟨b32, 0, none⟩) 1 1) (([(1, 0)] : List (Int × Int)).length) [.int .i64 1, .int .i64 0], .cells b20 [.int .u64 1099511627776] 37, .cells b15 [.int .i64 y3.fN, v9] 40] ++ L) [v14205] ([(-1), 1099511627776] : List Int)) 15 268435455 ?_ ?_
          ·skip
           rintro ⟨v14202, cs14203, v14205, b14207⟩ wx14207 ⟨hS14208, hT14209, hc14204, hr14206⟩
           try dsimp only
           have hr14212 := St.freeze (α := Int) hS14208 .hd hc14204 hL
           have hS14213 := hS14208.del (.hd : Out _ _ _).del
           have hT14214 := Tr.del (w := wx14207) (.hd : Out [.row w.heap.size 3 (Rep.size Int) v14202 (([(-1), 1099511627776] : List Int).length) cs14203, .cells b14207 [v14205] 22, .cells b38 [.int .i64 2, (.slice (some ⟨b32, 0, none⟩) 1 1)] 40, .row w.heap.size 46 (Rep.size (Int × Int)) (.slice (some ⟨b32, 0, none⟩) 1 1) (([(1, 0)] : List (Int × Int)).length) [.int .i64 1, .int .i64 0], .cells b20 [.int .u64 1099511627776] 37, .cells b15 [.int .i64 y3.fN, v9] 40] _ _).del
           have hr14215 : Rep.R wx14207 (bl [.cells b14207 [v14205] 22, .cells b38 [.int .i64 2, (.slice (some ⟨b32, 0, none⟩) 1 1)] 40, .row w.heap.size 46 (Rep.size (Int × Int)) (.slice (some ⟨b32, 0, none⟩) 1 1) (([(1, 0)] : List (Int × Int)).length) [.int .i64 1, .int .i64 0], .cells b20 [.int .u64 1099511627776] 37, .cells b15 [.int .i64 y3.fN, v9] 40] ++ L) [v14202] ([(-1), 1099511627776] : List Int) := hr14212
           obtain ⟨y14211, hy14211, h⟩ := bind_in h
           refine RD.one (i := 28) (readyD_ok kt8337 (by kernel_rfl)) (RO.call (m' := 536870911) (fst := []) (cap := []) (stepC_ok kt8337 (by kernel_rfl)) rfl (.yes rfl rfl) body10 rfl (evs_cons rfl evs_nil) (fun w9 hw9 => wilson_Erase_c n _ w9 (hS14213.hL hL hw9) ([(-1), 1099511627776] : List Int) (Rep.keep0 hr14215 hw9) hy14211) rfl (fun w14216 vu14217 hag14218 ⟨v14221, hu_, hr14222⟩ => ?_))
           subst hu_
           have hS14219 := hS14213.agree hag14218
           have hT14220 := Tr.agree (O := [.cells b14207 [v14205] 22, .cells b38 [.int .i64 2, (.slice (some ⟨b32, 0, none⟩) 1 1)] 40, .row w.heap.size 46 (Rep.size (Int × Int)) (.slice (some ⟨b32, 0, none⟩) 1 1) (([(1, 0)] : List (Int × Int)).length) [.int .i64 1, .int .i64 0], .cells b20 [.int .u64 1099511627776] 37, .cells b15 [.int .i64 y3.fN, v9] 40]) hag14218
           refine RD.vP 29 1073741823 kt8337 rfl kp8338 (.yes rfl rfl) (fun _ => FV.extract rfl rfl) rfl ?_
           refine RD.vP 30 2147483647 kt8337 rfl kp8338 (.yes rfl rfl) (fun _ => FV.extract rfl rfl) rfl ?_
           obtain ⟨y14223, hy14223, h⟩ := bind_in h
           have hm14224 := Rep.mv hr14206 (Tr.trans hT14214 hT14220)
           refine RD.callq (i := 31) (m' := 4294967295) (W := 8791798054912) (takeC_ok kt8337 (by kernel_rfl)) rfl kp8338 (v := .bool y14223) (fst := []) (cap := [.pointer (some ⟨b14207, 0, none⟩)]) (.yes rfl rfl) body38 rfl (evs_cons rfl (evs_cons rfl evs_nil)) (fun w9 hw9 => wardmotelaw31_lists_1_c n _ w9 (hS14219.hL0 hL hw9) y14211.1 (Rep.keep0 (Rep.dropO (O := [.cells b14207 [v14205] 22, .cells b38 [.int .i64 2, (.slice (some ⟨b32, 0, none⟩) 1 1)] 40, .row w.heap.size 46 (Rep.size (Int × Int)) (.slice (some ⟨b32, 0, none⟩) 1 1) (([(1, 0)] : List (Int × Int)).length) [.int .i64 1, .int .i64 0], .cells b20 [.int .u64 1099511627776] 37, .cells b15 [.int .i64 y3.fN, v9] 40]) hr14222) hw9) y14211.2 ([(-1), 1099511627776] : List Int) (Rep.keep0 (Rep.dropO (O := [.cells b14207 [v14205] 22, .cells b38 [.int .i64 2, (.slice (some ⟨b32, 0, none⟩) 1 1)] 40, .row w.heap.size 46 (Rep.size (Int × Int)) (.slice (some ⟨b32, 0, none⟩) 1 1) (([(1, 0)] : List (Int × Int)).length) [.int .i64 1, .int .i64 0], .cells b20 [.int .u64 1099511627776] 37, .cells b15 [.int .i64 y3.fN, v9] 40]) hm14224) hw9) (fun j9 v9 h9 => hw9.cell0 ((hS14219.memA .hd) j9 v9 h9)) hy14223) rfl ?_
           refine RD.vP 32 8589934591 kt8337 rfl kp8338 .plain (fun _ => FV.pick_t rfl rfl) rfl ?_
           refine RD.vP 33 17179869183 kt8337 rfl kp8338 .plain (fun _ => FV.move rfl) rfl ?_
           refine RD.ifb (s := 53) rfl h (fun c14225 h => ?_) (fun c14225 h => ?_)
           ·skip
            refine RD.meet (α := Value × (List Value) × Value × Nat) (fun ⟨v15751, cs15752, v15754, b15756⟩ => [(1, .pointer (some ⟨b15, 0, none⟩)), (2, .pointer (some ⟨b20, 0, none⟩)), (3, .pointer (some ⟨b38, 0, none⟩)), (53, .bool true), (55, .func (.func 38) #[] #[.pointer (some ⟨b15756, 0, none⟩)]), (56, v15751)]) (fun ⟨v15751, cs15752, v15754, b15756⟩ wx15756 => St w wx15756 [.row w.heap.size 3 (Rep.size Int) v15751 (([3, 4, 3] : List Int).length) cs15752, .cells b15756 [v15754] 22, .cells b38 [.int .i64 2, (.slice (some ⟨b32, 0, none⟩) 1 1)] 40, .row w.heap.size 46 (Rep.size (Int × Int)) (.slice (some ⟨b32, 0, none⟩) 1 1) (([(1, 0)] : List (Int × Int)).length) [.int .i64 1, .int .i64 0], .cells b20 [.int .u64 1099511627776] 37, .cells b15 [.int .i64 y3.fN, v9] 40] ∧ Tr w14216 [.cells b14207 [v14205] 22, .cells b38 [.int .i64 2, (.slice (some ⟨b32, 0, none⟩) 1 1)] 40, .row w.heap.size 46 (Rep.size (Int × Int)) (.slice (some ⟨b32, 0, none⟩) 1 1) (([(1, 0)] : List (Int × Int)).length) [.int .i64 1, .int .i64 0], .cells b20 [.int .u64 1099511627776] 37, .cells b15 [.int .i64 y3.fN, v9] 40] wx15756 [.row w.heap.size 3 (Rep.size Int) v15751 (([3, 4, 3] : List Int).length) cs15752, .cells b15756 [v15754] 22, .cells b38 [.int .i64 2, (.slice (some ⟨b32, 0, none⟩) 1 1)] 40, .row w.heap.size 46 (Rep.size (Int × Int)) (.slice (some ⟨b32, 0, none⟩) 1 1) (([(1, 0)] : List (Int × Int)).length) [.int .i64 1, .int .i64 0], .cells b20 [.int .u64 1099511627776] 37, .cells b15 [.int .i64 y3.fN, v9] 40] ∧ Cells wx15756 (bl [.row w.heap.size 3 (Rep.size Int) v15751 (([3, 4, 3] : List Int).length) cs15752, .cells b15756 [v15754] 22, .cells b38 [.int .i64 2, (.slice (some ⟨b32, 0, none⟩) 1 1)] 40, .row w.heap.size 46 (Rep.size (Int × Int)) (.slice (some ⟨b32, 0, none⟩) 1 1) (([(1, 0)] : List (Int × Int)).length) [.int .i64 1, .int .i64 0], .cells b20 [.int .u64 1099511627776] 37, .cells b15 [.int .i64 y3.fN, v9] 40] ++ L) cs15752 (([3, 4, 3] : List Int) : List Int) ∧ Rep.R wx15756 (bl [.row w.heap.size 3 (Rep.size Int) v15751 (([3, 4, 3] : List Int).length) cs15752, .cells b15756 [v15754] 22, .cells b38 [.int .i64 2, (.slice (some ⟨b32, 0, none⟩) 1 1)] 40, .row w.heap.size 46 (Rep.size (Int × Int)) (.slice (some ⟨b32, 0, none⟩) 1 1) (([(1, 0)] : List (Int × Int)).length) [.int .i64 1, .int .i64 0], .cells b20 [.int .u64 1099511627776] 37, .cells b15 [.int .i64 y3.fN, v9] 40] ++ L) [v15754] ([3] : List Int)) 6 137438953471 ?_ ?_
            ·skip
             rintro ⟨v15751, cs15752, v15754, b15756⟩ wx15756 ⟨hS15757, hT15758, hc15753, hr15755⟩
             try dsimp only
             have hr15761 := St.freeze (α := Int) hS15757 .hd hc15753 hL
             have hS15762 := hS15757.del (.hd : Out _ _ _).del
             have hT15763 := Tr.del (w := wx15756) (.hd : Out [.row w.heap.size 3 (Rep.size Int) v15751 (([3, 4, 3] : List Int).length) cs15752, .cells b15756 [v15754] 22, .cells b38 [.int .i64 2, (.slice (some ⟨b32, 0, none⟩) 1 1)] 40, .row w.heap.size 46 (Rep.size (Int × Int)) (.slice (some ⟨b32, 0, none⟩) 1 1) (([(1, 0)] : List (Int × Int)).length) [.int .i64 1, .int .i64 0], .cells b20 [.int .u64 1099511627776] 37, .cells b15 [.int .i64 y3.fN, v9] 40] _ _).del
             have hr15764 : Rep.R wx15756 (bl [.cells b15756 [v15754] 22, .cells b38 [.int .i64 2, (.slice (some ⟨b32, 0, none⟩) 1 1)] 40, .row w.heap.size 46 (Rep.size (Int × Int)) (.slice (some ⟨b32, 0, none⟩) 1 1) (([(1, 0)] : List (Int × Int)).length) [.int .i64 1, .int .i64 0], .cells b20 [.int .u64 1099511627776] 37, .cells b15 [.int .i64 y3.fN, v9] 40] ++ L) [v15751] ([3, 4, 3] : List Int) := hr15761
             obtain ⟨y15760, hy15760, h⟩ := bind_in h
             refine RD.one (i := 37) (readyD_ok kt8337 (by kernel_rfl)) (RO.call (m' := 274877906943) (fst := []) (cap := []) (stepC_ok kt8337 (by kernel_rfl)) rfl (.yes rfl rfl) body10 rfl (evs_cons rfl evs_nil) (fun w9 hw9 => wilson_Erase_c n _ w9 (hS15762.hL hL hw9) ([3, 4, 3] : List Int) (Rep.keep0 hr15764 hw9) hy15760) rfl (fun w15765 vu15766 hag15767 ⟨v15770, hu_, hr15771⟩ => ?_))
             subst hu_
             have hS15768 := hS15762.agree hag15767
             have hT15769 := Tr.agree (O := [.cells b15756 [v15754] 22, .cells b38 [.int .i64 2, (.slice (some ⟨b32, 0, none⟩) 1 1)] 40, .row w.heap.size 46 (Rep.size (Int × Int)) (.slice (some ⟨b32, 0, none⟩) 1 1) (([(1, 0)] : List (Int × Int)).length) [.int .i64 1, .int .i64 0], .cells b20 [.int .u64 1099511627776] 37, .cells b15 [.int .i64 y3.fN, v9] 40]) hag15767
             refine RD.vP 38 549755813887 kt8337 rfl kp8338 (.yes rfl rfl) (fun _ => FV.extract rfl rfl) rfl ?_
             refine RD.vP 39 1099511627775 kt8337 rfl kp8338 (.yes rfl rfl) (fun _ => FV.extract rfl rfl) rfl ?_
             obtain ⟨y15772, hy15772, h⟩ := bind_in h
             have hm15773 := Rep.mv hr15755 (Tr.trans hT15763 hT15769)
             refine RD.callq (i := 40) (m' := 2199023255551) (W := 6597069766656) (takeC_ok kt8337 (by kernel_rfl)) rfl kp8338 (v := .bool y15772) (fst := []) (cap := [.pointer (some ⟨b15756, 0, none⟩)]) (.yes rfl rfl) body38 rfl (evs_cons rfl (evs_cons rfl evs_nil)) (fun w9 hw9 => wardmotelaw31_lists_1_c n _ w9 (hS15768.hL0 hL hw9) y15760.1 (Rep.keep0 (Rep.dropO (O := [.cells b15756 [v15754] 22, .cells b38 [.int .i64 2, (.slice (some ⟨b32, 0, none⟩) 1 1)] 40, .row w.heap.size 46 (Rep.size (Int × Int)) (.slice (some ⟨b32, 0, none⟩) 1 1) (([(1, 0)] : List (Int × Int)).length) [.int .i64 1, .int .i64 0], .cells b20 [.int .u64 1099511627776] 37, .cells b15 [.int .i64 y3.fN, v9] 40]) hr15771) hw9) y15760.2 ([3] : List Int) (Rep.keep0 (Rep.dropO (O := [.cells b15756 [v15754] 22, .cells b38 [.int .i64 2, (.slice (some ⟨b32, 0, none⟩) 1 1)] 40, .row w.heap.size 46 (Rep.size (Int × Int)) (.slice (some ⟨b32, 0, none⟩) 1 1) (([(1, 0)] : List (Int × Int)).length) [.int .i64 1, .int .i64 0], .cells b20 [.int .u64 1099511627776] 37, .cells b15 [.int .i64 y3.fN, v9] 40]) hm15773) hw9) (fun j9 v9 h9 => hw9.cell0 ((hS15768.memA .hd) j9 v9 h9)) hy15772) rfl ?_
             refine RD.vP 41 4398046511103 kt8337 rfl kp8338 .plain (fun _ => FV.pick_t rfl rfl) rfl ?_
             refine RD.vP 42 8796093022207 kt8337 rfl kp8338 .plain (fun _ => FV.assign rfl) rfl ?_
             refine RD.done (doneD_ok kt8337 (by kernel_rfl)) ?_
             have hS15774 : St _ _ [.cells b38 [.int .i64 2, (.slice (some ⟨b32, 0, none⟩) 1 1)] 40, .row w.heap.size 46 (Rep.size (Int × Int)) (.slice (some ⟨b32, 0, none⟩) 1 1) (([(1, 0)] : List (Int × Int)).length) [.int .i64 1, .int .i64 0], .cells b20 [.int .u64 1099511627776] 37, .cells b15 [.int .i64 y3.fN, v9] 40] := hS15768.arr (.one (.tl .hd) (.one (.tl .hd) (.one (.tl .hd) (.one (.tl .hd) .done))))
             have hT15775 : Tr w15765 _ w15765 [.cells b38 [.int .i64 2, (.slice (some ⟨b32, 0, none⟩) 1 1)] 40, .row w.heap.size 46 (Rep.size (Int × Int)) (.slice (some ⟨b32, 0, none⟩) 1 1) (([(1, 0)] : List (Int × Int)).length) [.int .i64 1, .int .i64 0], .cells b20 [.int .u64 1099511627776] 37, .cells b15 [.int .i64 y3.fN, v9] 40] := Tr.arr (St.arrOf hS15768 (.one (.tl .hd) (.one (.tl .hd) (.one (.tl .hd) (.one (.tl .hd) .done)))))
             exact hJ7540 y15772 _ _ ⟨rfl, rfl, rfl, rfl, trivial⟩ ⟨hS15774, (Tr.trans hT9561 (Tr.trans hT9566 (Tr.trans hT9572 (Tr.trans hT11111 (Tr.trans hT11116 (Tr.trans hT11122 (Tr.trans hT12660 (Tr.trans hT12665 (Tr.trans hT12671 (Tr.trans hT14209 (Tr.trans hT14214 (Tr.trans hT14220 (Tr.trans hT15758 (Tr.trans hT15763 (Tr.trans hT15769 hT15775)))))))))))))))⟩ h
            ·skip
             intro hJ15776
             refine RD.each [34, 36] (readyD_ok kt8337 (by kernel_rfl)) ⟨?_, ?_, trivial⟩
             ·skip
              refine RO.new (m' := 34359738367) (stepC_ok kt8337 (by kernel_rfl)) rfl (.yes rfl rfl) rfl (Does.build (α := Int) (xs := ([3] : List Int)) (vs := [.int .i64 3]) (ds' := [.int .i64 3]) rfl hS14219 el22 rfl (evs_cons rfl evs_nil) (by kernel_rfl) rfl) (fun w14527 b14530 hS14528 hT14529 => ?_)
              have hc14531 : Cells w14527 (bl [.row w.heap.size 3 (Rep.size Int) (.slice (some ⟨b14530, 0, none⟩) 1 1) (([3] : List Int).length) [.int .i64 3], .cells b14207 [v14205] 22, .cells b38 [.int .i64 2, (.slice (some ⟨b32, 0, none⟩) 1 1)] 40, .row w.heap.size 46 (Rep.size (Int × Int)) (.slice (some ⟨b32, 0, none⟩) 1 1) (([(1, 0)] : List (Int × Int)).length) [.int .i64 1, .int .i64 0], .cells b20 [.int .u64 1099511627776] 37, .cells b15 [.int .i64 y3.fN, v9] 40] ++ L) [.int .i64 3] (([3] : List Int) : List Int) := Cells.cons (cs := [.int .i64 3]) (ds := []) rfl (Cells.nil _ _)
              refine RD.each [35, 36] (readyD_ok kt8337 (by kernel_rfl)) ⟨?_, ?_, trivial⟩
              ·skip
               have hr14832 := St.freeze (α := Int) hS14528 .hd hc14531 hL
               have hS14833 := hS14528.del (.hd : Out _ _ _).del
               have hT14834 := Tr.del (w := w14527) (.hd : Out [.row w.heap.size 3 (Rep.size Int) (.slice (some ⟨b14530, 0, none⟩) 1 1) (([3] : List Int).length) [.int .i64 3], .cells b14207 [v14205] 22, .cells b38 [.int .i64 2, (.slice (some ⟨b32, 0, none⟩) 1 1)] 40, .row w.heap.size 46 (Rep.size (Int × Int)) (.slice (some ⟨b32, 0, none⟩) 1 1) (([(1, 0)] : List (Int × Int)).length) [.int .i64 1, .int .i64 0], .cells b20 [.int .u64 1099511627776] 37, .cells b15 [.int .i64 y3.fN, v9] 40] _ _).del
               have hr14835 : Rep.R w14527 (bl [.cells b14207 [v14205] 22, .cells b38 [.int .i64 2, (.slice (some ⟨b32, 0, none⟩) 1 1)] 40, .row w.heap.size 46 (Rep.size (Int × Int)) (.slice (some ⟨b32, 0, none⟩) 1 1) (([(1, 0)] : List (Int × Int)).length) [.int .i64 1, .int .i64 0], .cells b20 [.int .u64 1099511627776] 37, .cells b15 [.int .i64 y3.fN, v9] 40] ++ L) [(.slice (some ⟨b14530, 0, none⟩) 1 1)] ([3] : List Int) := hr14832
               refine RO.call (m' := 68719476735) (fst := []) (cap := []) (stepC_ok kt8337 (by kernel_rfl)) rfl (.yes rfl rfl) body20 rfl (evs_cons rfl evs_nil) (fun w9 hw9 => Calls.gives (wardmotelaw31_lists_c n _ w9 (hS14833.hL hL hw9) ([3] : List Int) (Rep.keep0 hr14835 hw9)) fun (w8 : World) (u8 : Value) ⟨b0_, hu_, s_⟩ => (⟨b0_, hu_, s_.from hw9⟩ : ∃ b14837 : Nat, u8 = Value.func (.func 38) #[] #[.pointer (some ⟨b14837, 0, none⟩)] ∧ St w14527 w8 [.cells b14837 [(.slice (some ⟨b14530, 0, none⟩) 1 1)] 22])) rfl (fun w14838 vu14839 hag14840 ⟨b14837, hu14842, s14841⟩ => ?_)
               subst hu14842
               have hS14843 : St w w14838 [.cells b14837 [(.slice (some ⟨b14530, 0, none⟩) 1 1)] 22, .cells b14207 [v14205] 22, .cells b38 [.int .i64 2, (.slice (some ⟨b32, 0, none⟩) 1 1)] 40, .row w.heap.size 46 (Rep.size (Int × Int)) (.slice (some ⟨b32, 0, none⟩) 1 1) (([(1, 0)] : List (Int × Int)).length) [.int .i64 1, .int .i64 0], .cells b20 [.int .u64 1099511627776] 37, .cells b15 [.int .i64 y3.fN, v9] 40] := St.merge hS14833 s14841
               have hT14844 : Tr w14527 [.cells b14207 [v14205] 22, .cells b38 [.int .i64 2, (.slice (some ⟨b32, 0, none⟩) 1 1)] 40, .row w.heap.size 46 (Rep.size (Int × Int)) (.slice (some ⟨b32, 0, none⟩) 1 1) (([(1, 0)] : List (Int × Int)).length) [.int .i64 1, .int .i64 0], .cells b20 [.int .u64 1099511627776] 37, .cells b15 [.int .i64 y3.fN, v9] 40] w14838 [.cells b14837 [(.slice (some ⟨b14530, 0, none⟩) 1 1)] 22, .cells b14207 [v14205] 22, .cells b38 [.int .i64 2, (.slice (some ⟨b32, 0, none⟩) 1 1)] 40, .row w.heap.size 46 (Rep.size (Int × Int)) (.slice (some ⟨b32, 0, none⟩) 1 1) (([(1, 0)] : List (Int × Int)).length) [.int .i64 1, .int .i64 0], .cells b20 [.int .u64 1099511627776] 37, .cells b15 [.int .i64 y3.fN, v9] 40] := Tr.merge hS14833 s14841
               refine RD.one (i := 36) (readyD_ok kt8337 (by kernel_rfl)) (RO.new (m' := 137438953471) (stepC_ok kt8337 (by kernel_rfl)) rfl (.yes rfl rfl) rfl (Does.build (α := Int) (xs := ([3, 4, 3] : List Int)) (vs := [.int .i64 3, .int .i64 4, .int .i64 3]) (ds' := [.int .i64 3, .int .i64 4, .int .i64 3]) rfl hS14843 el22 rfl (evs_cons rfl (evs_cons rfl (evs_cons rfl evs_nil))) (by kernel_rfl) rfl) (fun w15146 b15149 hS15147 hT15148 => ?_))
               have hc15150 : Cells w15146 (bl [.row w.heap.size 3 (Rep.size Int) (.slice (some ⟨b15149, 0, none⟩) 3 3) (([3, 4, 3] : List Int).length) [.int .i64 3, .int .i64 4, .int .i64 3], .cells b14837 [(.slice (some ⟨b14530, 0, none⟩) 1 1)] 22, .cells b14207 [v14205] 22, .cells b38 [.int .i64 2, (.slice (some ⟨b32, 0, none⟩) 1 1)] 40, .row w.heap.size 46 (Rep.size (Int × Int)) (.slice (some ⟨b32, 0, none⟩) 1 1) (([(1, 0)] : List (Int × Int)).length) [.int .i64 1, .int .i64 0], .cells b20 [.int .u64 1099511627776] 37, .cells b15 [.int .i64 y3.fN, v9] 40] ++ L) [.int .i64 3, .int .i64 4, .int .i64 3] (([3, 4, 3] : List Int) : List Int) := Cells.cons (cs := [.int .i64 3]) (ds := [.int .i64 4, .int .i64 3]) rfl (Cells.cons (cs := [.int .i64 4]) (ds := [.int .i64 3]) rfl (Cells.cons (cs := [.int .i64 3]) (ds := []) rfl (Cells.nil _ _)))
               have hS15777 : St _ _ [.row w.heap.size 3 (Rep.size Int) (.slice (some ⟨b15149, 0, none⟩) 3 3) (([3, 4, 3] : List Int).length) [.int .i64 3, .int .i64 4, .int .i64 3], .cells b14837 [(.slice (some ⟨b14530, 0, none⟩) 1 1)] 22, .cells b38 [.int .i64 2, (.slice (some ⟨b32, 0, none⟩) 1 1)] 40, .row w.heap.size 46 (Rep.size (Int × Int)) (.slice (some ⟨b32, 0, none⟩) 1 1) (([(1, 0)] : List (Int × Int)).length) [.int .i64 1, .int .i64 0], .cells b20 [.int .u64 1099511627776] 37, .cells b15 [.int .i64 y3.fN, v9] 40] := hS15147.arr (.one .hd (.one .hd (.one (.tl .hd) (.one (.tl .hd) (.one (.tl .hd) (.one (.tl .hd) .done))))))
               have hT15778 : Tr w15146 _ w15146 [.row w.heap.size 3 (Rep.size Int) (.slice (some ⟨b15149, 0, none⟩) 3 3) (([3, 4, 3] : List Int).length) [.int .i64 3, .int .i64 4, .int .i64 3], .cells b14837 [(.slice (some ⟨b14530, 0, none⟩) 1 1)] 22, .cells b38 [.int .i64 2, (.slice (some ⟨b32, 0, none⟩) 1 1)] 40, .row w.heap.size 46 (Rep.size (Int × Int)) (.slice (some ⟨b32, 0, none⟩) 1 1) (([(1, 0)] : List (Int × Int)).length) [.int .i64 1, .int .i64 0], .cells b20 [.int .u64 1099511627776] 37, .cells b15 [.int .i64 y3.fN, v9] 40] := Tr.arr (St.arrOf hS15147 (.one .hd (.one .hd (.one (.tl .hd) (.one (.tl .hd) (.one (.tl .hd) (.one (.tl .hd) .done)))))))
               have hm15779 := Cells.mv hc15150 hT15778
               have hm15780 := Rep.mv hr14835 (Tr.trans hT14844 (Tr.trans hT15148 hT15778))
               exact hJ15776 ((.slice (some ⟨b15149, 0, none⟩) 3 3), [.int .i64 3, .int .i64 4, .int .i64 3], (.slice (some ⟨b14530, 0, none⟩) 1 1), b14837) _ _ ⟨rfl, rfl, rfl, rfl, rfl, rfl, trivial⟩ ⟨hS15777, (Tr.trans hT14529 (Tr.trans hT14834 (Tr.trans hT14844 (Tr.trans hT15148 hT15778)))), hm15779, hm15780⟩
              ·skip
               refine RO.new (m' := 103079215103) (stepC_ok kt8337 (by kernel_rfl)) rfl (.yes rfl rfl) rfl (Does.build (α := Int) (xs := ([3, 4, 3] : List Int)) (vs := [.int .i64 3, .int .i64 4, .int .i64 3]) (ds' := [.int .i64 3, .int .i64 4, .int .i64 3]) rfl hS14528 el22 rfl (evs_cons rfl (evs_cons rfl (evs_cons rfl evs_nil))) (by kernel_rfl) rfl) (fun w15146 b15149 hS15147 hT15148 => ?_)
               have hc15150 : Cells w15146 (bl [.row w.heap.size 3 (Rep.size Int) (.slice (some ⟨b15149, 0, none⟩) 3 3) (([3, 4, 3] : List Int).length) [.int .i64 3, .int .i64 4, .int .i64 3], .row w.heap.size 3 (Rep.size Int) (.slice (some ⟨b14530, 0, none⟩) 1 1) (([3] : List Int).length) [.int .i64 3], .cells b14207 [v14205] 22, .cells b38 [.int .i64 2, (.slice (some ⟨b32, 0, none⟩) 1 1)] 40, .row w.heap.size 46 (Rep.size (Int × Int)) (.slice (some ⟨b32, 0, none⟩) 1 1) (([(1, 0)] : List (Int × Int)).length) [.int .i64 1, .int .i64 0], .cells b20 [.int .u64 1099511627776] 37, .cells b15 [.int .i64 y3.fN, v9] 40] ++ L) [.int .i64 3, .int .i64 4, .int .i64 3] (([3, 4, 3] : List Int) : List Int) := Cells.cons (cs := [.int .i64 3]) (ds := [.int .i64 4, .int .i64 3]) rfl (Cells.cons (cs := [.int .i64 4]) (ds := [.int .i64 3]) rfl (Cells.cons (cs := [.int .i64 3]) (ds := []) rfl (Cells.nil _ _)))
               have hm14835 := Cells.mv hc14531 hT15148
               have hr14832 := St.freeze (α := Int) hS15147 (.tl .hd) hm14835 hL
               have hS14833 := hS15147.del ((.tl .hd) : Out _ _ _).del
               have hT14834 := Tr.del (w := w15146) ((.tl .hd) : Out [.row w.heap.size 3 (Rep.size Int) (.slice (some ⟨b15149, 0, none⟩) 3 3) (([3, 4, 3] : List Int).length) [.int .i64 3, .int .i64 4, .int .i64 3], .row w.heap.size 3 (Rep.size Int) (.slice (some ⟨b14530, 0, none⟩) 1 1) (([3] : List Int).length) [.int .i64 3], .cells b14207 [v14205] 22, .cells b38 [.int .i64 2, (.slice (some ⟨b32, 0, none⟩) 1 1)] 40, .row w.heap.size 46 (Rep.size (Int × Int)) (.slice (some ⟨b32, 0, none⟩) 1 1) (([(1, 0)] : List (Int × Int)).length) [.int .i64 1, .int .i64 0], .cells b20 [.int .u64 1099511627776] 37, .cells b15 [.int .i64 y3.fN, v9] 40] _ _).del
               have hr14836 : Rep.R w15146 (bl [.row w.heap.size 3 (Rep.size Int) (.slice (some ⟨b15149, 0, none⟩) 3 3) (([3, 4, 3] : List Int).length) [.int .i64 3, .int .i64 4, .int .i64 3], .cells b14207 [v14205] 22, .cells b38 [.int .i64 2, (.slice (some ⟨b32, 0, none⟩) 1 1)] 40, .row w.heap.size 46 (Rep.size (Int × Int)) (.slice (some ⟨b32, 0, none⟩) 1 1) (([(1, 0)] : List (Int × Int)).length) [.int .i64 1, .int .i64 0], .cells b20 [.int .u64 1099511627776] 37, .cells b15 [.int .i64 y3.fN, v9] 40] ++ L) [(.slice (some ⟨b14530, 0, none⟩) 1 1)] ([3] : List Int) := hr14832
               refine RD.one (i := 35) (readyD_ok kt8337 (by kernel_rfl)) (RO.call (m' := 137438953471) (fst := []) (cap := []) (stepC_ok kt8337 (by kernel_rfl)) rfl (.yes rfl rfl) body20 rfl (evs_cons rfl evs_nil) (fun w9 hw9 => Calls.gives (wardmotelaw31_lists_c n _ w9 (hS14833.hL hL hw9) ([3] : List Int) (Rep.keep0 hr14836 hw9)) fun (w8 : World) (u8 : Value) ⟨b0_, hu_, s_⟩ => (⟨b0_, hu_, s_.from hw9⟩ : ∃ b14838 : Nat, u8 = Value.func (.func 38) #[] #[.pointer (some ⟨b14838, 0, none⟩)] ∧ St w15146 w8 [.cells b14838 [(.slice (some ⟨b14530, 0, none⟩) 1 1)] 22])) rfl (fun w14839 vu14840 hag14841 ⟨b14838, hu14843, s14842⟩ => ?_))
               subst hu14843
               have hS14844 : St w w14839 [.cells b14838 [(.slice (some ⟨b14530, 0, none⟩) 1 1)] 22, .row w.heap.size 3 (Rep.size Int) (.slice (some ⟨b15149, 0, none⟩) 3 3) (([3, 4, 3] : List Int).length) [.int .i64 3, .int .i64 4, .int .i64 3], .cells b14207 [v14205] 22, .cells b38 [.int .i64 2, (.slice (some ⟨b32, 0, none⟩) 1 1)] 40, .row w.heap.size 46 (Rep.size (Int × Int)) (.slice (some ⟨b32, 0, none⟩) 1 1) (([(1, 0)] : List (Int × Int)).length) [.int .i64 1, .int .i64 0], .cells b20 [.int .u64 1099511627776] 37, .cells b15 [.int .i64 y3.fN, v9] 40] := St.merge hS14833 s14842
               have hT14845 : Tr w15146 [.row w.heap.size 3 (Rep.size Int) (.slice (some ⟨b15149, 0, none⟩) 3 3) (([3, 4, 3] : List Int).length) [.int .i64 3, .int .i64 4, .int .i64 3], .cells b14207 [v14205] 22, .cells b38 [.int .i64 2, (.slice (some ⟨b32, 0, none⟩) 1 1)] 40, .row w.heap.size 46 (Rep.size (Int × Int)) (.slice (some ⟨b32, 0, none⟩) 1 1) (([(1, 0)] : List (Int × Int)).length) [.int .i64 1, .int .i64 0], .cells b20 [.int .u64 1099511627776] 37, .cells b15 [.int .i64 y3.fN, v9] 40] w14839 [.cells b14838 [(.slice (some ⟨b14530, 0, none⟩) 1 1)] 22, .row w.heap.size 3 (Rep.size Int) (.slice (some ⟨b15149, 0, none⟩) 3 3) (([3, 4, 3] : List Int).length) [.int .i64 3, .int .i64 4, .int .i64 3], .cells b14207 [v14205] 22, .cells b38 [.int .i64 2, (.slice (some ⟨b32, 0, none⟩) 1 1)] 40, .row w.heap.size 46 (Rep.size (Int × Int)) (.slice (some ⟨b32, 0, none⟩) 1 1) (([(1, 0)] : List (Int × Int)).length) [.int .i64 1, .int .i64 0], .cells b20 [.int .u64 1099511627776] 37, .cells b15 [.int .i64 y3.fN, v9] 40] := Tr.merge hS14833 s14842
               have hS15781 : St _ _ [.row w.heap.size 3 (Rep.size Int) (.slice (some ⟨b15149, 0, none⟩) 3 3) (([3, 4, 3] : List Int).length) [.int .i64 3, .int .i64 4, .int .i64 3], .cells b14838 [(.slice (some ⟨b14530, 0, none⟩) 1 1)] 22, .cells b38 [.int .i64 2, (.slice (some ⟨b32, 0, none⟩) 1 1)] 40, .row w.heap.size 46 (Rep.size (Int × Int)) (.slice (some ⟨b32, 0, none⟩) 1 1) (([(1, 0)] : List (Int × Int)).length) [.int .i64 1, .int .i64 0], .cells b20 [.int .u64 1099511627776] 37, .cells b15 [.int .i64 y3.fN, v9] 40] := hS14844.arr (.one (.tl .hd) (.one .hd (.one (.tl .hd) (.one (.tl .hd) (.one (.tl .hd) (.one (.tl .hd) .done))))))
               have hT15782 : Tr w14839 _ w14839 [.row w.heap.size 3 (Rep.size Int) (.slice (some ⟨b15149, 0, none⟩) 3 3) (([3, 4, 3] : List Int).length) [.int .i64 3, .int .i64 4, .int .i64 3], .cells b14838 [(.slice (some ⟨b14530, 0, none⟩) 1 1)] 22, .cells b38 [.int .i64 2, (.slice (some ⟨b32, 0, none⟩) 1 1)] 40, .row w.heap.size 46 (Rep.size (Int × Int)) (.slice (some ⟨b32, 0, none⟩) 1 1) (([(1, 0)] : List (Int × Int)).length) [.int .i64 1, .int .i64 0], .cells b20 [.int .u64 1099511627776] 37, .cells b15 [.int .i64 y3.fN, v9] 40] := Tr.arr (St.arrOf hS14844 (.one (.tl .hd) (.one .hd (.one (.tl .hd) (.one (.tl .hd) (.one (.tl .hd) (.one (.tl .hd) .done)))))))
               have hm15783 := Cells.mv hc15150 (Tr.trans hT14834 (Tr.trans hT14845 hT15782))
               have hm15784 := Rep.mv hr14836 (Tr.trans hT14845 hT15782)
               exact hJ15776 ((.slice (some ⟨b15149, 0, none⟩) 3 3), [.int .i64 3, .int .i64 4, .int .i64 3], (.slice (some ⟨b14530, 0, none⟩) 1 1), b14838) _ _ ⟨rfl, rfl, rfl, rfl, rfl, rfl, trivial⟩ ⟨hS15781, (Tr.trans hT14529 (Tr.trans hT15148 (Tr.trans hT14834 (Tr.trans hT14845 hT15782)))), hm15783, hm15784⟩
             ·skip
              refine RO.new (m' := 85899345919) (stepC_ok kt8337 (by kernel_rfl)) rfl (.yes rfl rfl) rfl (Does.build (α := Int) (xs := ([3, 4, 3] : List Int)) (vs := [.int .i64 3, .int .i64 4, .int .i64 3]) (ds' := [.int .i64 3, .int .i64 4, .int .i64 3]) rfl hS14219 el22 rfl (evs_cons rfl (evs_cons rfl (evs_cons rfl evs_nil))) (by kernel_rfl) rfl) (fun w15146 b15149 hS15147 hT15148 => ?_)
              have hc15150 : Cells w15146 (bl [.row w.heap.size 3 (Rep.size Int) (.slice (some ⟨b15149, 0, none⟩) 3 3) (([3, 4, 3] : List Int).length) [.int .i64 3, .int .i64 4, .int .i64 3], .cells b14207 [v14205] 22, .cells b38 [.int .i64 2, (.slice (some ⟨b32, 0, none⟩) 1 1)] 40, .row w.heap.size 46 (Rep.size (Int × Int)) (.slice (some ⟨b32, 0, none⟩) 1 1) (([(1, 0)] : List (Int × Int)).length) [.int .i64 1, .int .i64 0], .cells b20 [.int .u64 1099511627776] 37, .cells b15 [.int .i64 y3.fN, v9] 40] ++ L) [.int .i64 3, .int .i64 4, .int .i64 3] (([3, 4, 3] : List Int) : List Int) := Cells.cons (cs := [.int .i64 3]) (ds := [.int .i64 4, .int .i64 3]) rfl (Cells.cons (cs := [.int .i64 4]) (ds := [.int .i64 3]) rfl (Cells.cons (cs := [.int .i64 3]) (ds := []) rfl (Cells.nil _ _)))
              refine RD.one (i := 34) (readyD_ok kt8337 (by kernel_rfl)) (RO.new (m' := 103079215103) (stepC_ok kt8337 (by kernel_rfl)) rfl (.yes rfl rfl) rfl (Does.build (α := Int) (xs := ([3] : List Int)) (vs := [.int .i64 3]) (ds' := [.int .i64 3]) rfl hS15147 el22 rfl (evs_cons rfl evs_nil) (by kernel_rfl) rfl) (fun w14527 b14530 hS14528 hT14529 => ?_))
              have hc14531 : Cells w14527 (bl [.row w.heap.size 3 (Rep.size Int) (.slice (some ⟨b14530, 0, none⟩) 1 1) (([3] : List Int).length) [.int .i64 3], .row w.heap.size 3 (Rep.size Int) (.slice (some ⟨b15149, 0, none⟩) 3 3) (([3, 4, 3] : List Int).length) [.int .i64 3, .int .i64 4, .int .i64 3], .cells b14207 [v14205] 22, .cells b38 [.int .i64 2, (.slice (some ⟨b32, 0, none⟩) 1 1)] 40, .row w.heap.size 46 (Rep.size (Int × Int)) (.slice (some ⟨b32, 0, none⟩) 1 1) (([(1, 0)] : List (Int × Int)).length) [.int .i64 1, .int .i64 0], .cells b20 [.int .u64 1099511627776] 37, .cells b15 [.int .i64 y3.fN, v9] 40] ++ L) [.int .i64 3] (([3] : List Int) : List Int) := Cells.cons (cs := [.int .i64 3]) (ds := []) rfl (Cells.nil _ _)
              have hr14832 := St.freeze (α := Int) hS14528 .hd hc14531 hL
              have hS14833 := hS14528.del (.hd : Out _ _ _).del
              have hT14834 := Tr.del (w := w14527) (.hd : Out [.row w.heap.size 3 (Rep.size Int) (.slice (some ⟨b14530, 0, none⟩) 1 1) (([3] : List Int).length) [.int .i64 3], .row w.heap.size 3 (Rep.size Int) (.slice (some ⟨b15149, 0, none⟩) 3 3) (([3, 4, 3] : List Int).length) [.int .i64 3, .int .i64 4, .int .i64 3], .cells b14207 [v14205] 22, .cells b38 [.int .i64 2, (.slice (some ⟨b32, 0, none⟩) 1 1)] 40, .row w.heap.size 46 (Rep.size (Int × Int)) (.slice (some ⟨b32, 0, none⟩) 1 1) (([(1, 0)] : List (Int × Int)).length) [.int .i64 1, .int .i64 0], .cells b20 [.int .u64 1099511627776] 37, .cells b15 [.int .i64 y3.fN, v9] 40] _ _).del
              have hr14835 : Rep.R w14527 (bl [.row w.heap.size 3 (Rep.size Int) (.slice (some ⟨b15149, 0, none⟩) 3 3) (([3, 4, 3] : List Int).length) [.int .i64 3, .int .i64 4, .int .i64 3], .cells b14207 [v14205] 22, .cells b38 [.int .i64 2, (.slice (some ⟨b32, 0, none⟩) 1 1)] 40, .row w.heap.size 46 (Rep.size (Int × Int)) (.slice (some ⟨b32, 0, none⟩) 1 1) (([(1, 0)] : List (Int × Int)).length) [.int .i64 1, .int .i64 0], .cells b20 [.int .u64 1099511627776] 37, .cells b15 [.int .i64 y3.fN, v9] 40] ++ L) [(.slice (some ⟨b14530, 0, none⟩) 1 1)] ([3] : List Int) := hr14832
              refine RD.one (i := 35) (readyD_ok kt8337 (by kernel_rfl)) (RO.call (m' := 137438953471) (fst := []) (cap := []) (stepC_ok kt8337 (by kernel_rfl)) rfl (.yes rfl rfl) body20 rfl (evs_cons rfl evs_nil) (fun w9 hw9 => Calls.gives (wardmotelaw31_lists_c n _ w9 (hS14833.hL hL hw9) ([3] : List Int) (Rep.keep0 hr14835 hw9)) fun (w8 : World) (u8 : Value) ⟨b0_, hu_, s_⟩ => (⟨b0_, hu_, s_.from hw9⟩ : ∃ b14837 : Nat, u8 = Value.func (.func 38) #[] #[.pointer (some ⟨b14837, 0, none⟩)] ∧ St w14527 w8 [.cells b14837 [(.slice (some ⟨b14530, 0, none⟩) 1 1)] 22])) rfl (fun w14838 vu14839 hag14840 ⟨b14837, hu14842, s14841⟩ => ?_))
              subst hu14842
              have hS14843 : St w w14838 [.cells b14837 [(.slice (some ⟨b14530, 0, none⟩) 1 1)] 22, .row w.heap.size 3 (Rep.size Int) (.slice (some ⟨b15149, 0, none⟩) 3 3) (([3, 4, 3] : List Int).length) [.int .i64 3, .int .i64 4, .int .i64 3], .cells b14207 [v14205] 22, .cells b38 [.int .i64 2, (.slice (some ⟨b32, 0, none⟩) 1 1)] 40, .row w.heap.size 46 (Rep.size (Int × Int)) (.slice (some ⟨b32, 0, none⟩) 1 1) (([(1, 0)] : List (Int × Int)).length) [.int .i64 1, .int .i64 0], .cells b20 [.int .u64 1099511627776] 37, .cells b15 [.int .i64 y3.fN, v9] 40] := St.merge hS14833 s14841
              have hT14844 : Tr w14527 [.row w.heap.size 3 (Rep.size Int) (.slice (some ⟨b15149, 0, none⟩) 3 3) (([3, 4, 3] : List Int).length) [.int .i64 3, .int .i64 4, .int .i64 3], .cells b14207 [v14205] 22, .cells b38 [.int .i64 2, (.slice (some ⟨b32, 0, none⟩) 1 1)] 40, .row w.heap.size 46 (Rep.size (Int × Int)) (.slice (some ⟨b32, 0, none⟩) 1 1) (([(1, 0)] : List (Int × Int)).length) [.int .i64 1, .int .i64 0], .cells b20 [.int .u64 1099511627776] 37, .cells b15 [.int .i64 y3.fN, v9] 40] w14838 [.cells b14837 [(.slice (some ⟨b14530, 0, none⟩) 1 1)] 22, .row w.heap.size 3 (Rep.size Int) (.slice (some ⟨b15149, 0, none⟩) 3 3) (([3, 4, 3] : List Int).length) [.int .i64 3, .int .i64 4, .int .i64 3], .cells b14207 [v14205] 22, .cells b38 [.int .i64 2, (.slice (some ⟨b32, 0, none⟩) 1 1)] 40, .row w.heap.size 46 (Rep.size (Int × Int)) (.slice (some ⟨b32, 0, none⟩) 1 1) (([(1, 0)] : List (Int × Int)).length) [.int .i64 1, .int .i64 0], .cells b20 [.int .u64 1099511627776] 37, .cells b15 [.int .i64 y3.fN, v9] 40] := Tr.merge hS14833 s14841
              have hS15785 : St _ _ [.row w.heap.size 3 (Rep.size Int) (.slice (some ⟨b15149, 0, none⟩) 3 3) (([3, 4, 3] : List Int).length) [.int .i64 3, .int .i64 4, .int .i64 3], .cells b14837 [(.slice (some ⟨b14530, 0, none⟩) 1 1)] 22, .cells b38 [.int .i64 2, (.slice (some ⟨b32, 0, none⟩) 1 1)] 40, .row w.heap.size 46 (Rep.size (Int × Int)) (.slice (some ⟨b32, 0, none⟩) 1 1) (([(1, 0)] : List (Int × Int)).length) [.int .i64 1, .int .i64 0], .cells b20 [.int .u64 1099511627776] 37, .cells b15 [.int .i64 y3.fN, v9] 40] := hS14843.arr (.one (.tl .hd) (.one .hd (.one (.tl .hd) (.one (.tl .hd) (.one (.tl .hd) (.one (.tl .hd) .done))))))
              have hT15786 : Tr w14838 _ w14838 [.row w.heap.size 3 (Rep.size Int) (.slice (some ⟨b15149, 0, none⟩) 3 3) (([3, 4, 3] : List Int).length) [.int .i64 3, .int .i64 4, .int .i64 3], .cells b14837 [(.slice (some ⟨b14530, 0, none⟩) 1 1)] 22, .cells b38 [.int .i64 2, (.slice (some ⟨b32, 0, none⟩) 1 1)] 40, .row w.heap.size 46 (Rep.size (Int × Int)) (.slice (some ⟨b32, 0, none⟩) 1 1) (([(1, 0)] : List (Int × Int)).length) [.int .i64 1, .int .i64 0], .cells b20 [.int .u64 1099511627776] 37, .cells b15 [.int .i64 y3.fN, v9] 40] := Tr.arr (St.arrOf hS14843 (.one (.tl .hd) (.one .hd (.one (.tl .hd) (.one (.tl .hd) (.one (.tl .hd) (.one (.tl .hd) .done)))))))
              have hm15787 := Cells.mv hc15150 (Tr.trans hT14529 (Tr.trans hT14834 (Tr.trans hT14844 hT15786)))
              have hm15788 := Rep.mv hr14835 (Tr.trans hT14844 hT15786)
              exact hJ15776 ((.slice (some ⟨b15149, 0, none⟩) 3 3), [.int .i64 3, .int .i64 4, .int .i64 3], (.slice (some ⟨b14530, 0, none⟩) 1 1), b14837) _ _ ⟨rfl, rfl, rfl, rfl, rfl, rfl, trivial⟩ ⟨hS15785, (Tr.trans hT15148 (Tr.trans hT14529 (Tr.trans hT14834 (Tr.trans hT14844 hT15786)))), hm15787, hm15788⟩
           ·skip
            refine RD.offs 2199023255551 2 [(34, 54), (35, 55), (36, 56), (37, 57), (38, 58), (39, 59), (40, 60)] (F := [(53, false)]) (U := []) kt8337 kp8338 (.cons rfl .nil) .nil ?_
            dsimp only [offS, List.map]
            refine RD.vP 41 4398046511103 kt8337 rfl kp8338 .plain (fun _ => FV.pick_f rfl rfl) rfl ?_
            refine RD.vP 42 8796093022207 kt8337 rfl kp8338 .plain (fun _ => FV.assign rfl) rfl ?_
            refine RD.done (doneD_ok kt8337 (by kernel_rfl)) ?_
            have hS15789 : St _ _ [.cells b38 [.int .i64 2, (.slice (some ⟨b32, 0, none⟩) 1 1)] 40, .row w.heap.size 46 (Rep.size (Int × Int)) (.slice (some ⟨b32, 0, none⟩) 1 1) (([(1, 0)] : List (Int × Int)).length) [.int .i64 1, .int .i64 0], .cells b20 [.int .u64 1099511627776] 37, .cells b15 [.int .i64 y3.fN, v9] 40] := hS14219.arr (.one (.tl .hd) (.one (.tl .hd) (.one (.tl .hd) (.one (.tl .hd) .done))))
            have hT15790 : Tr w14216 _ w14216 [.cells b38 [.int .i64 2, (.slice (some ⟨b32, 0, none⟩) 1 1)] 40, .row w.heap.size 46 (Rep.size (Int × Int)) (.slice (some ⟨b32, 0, none⟩) 1 1) (([(1, 0)] : List (Int × Int)).length) [.int .i64 1, .int .i64 0], .cells b20 [.int .u64 1099511627776] 37, .cells b15 [.int .i64 y3.fN, v9] 40] := Tr.arr (St.arrOf hS14219 (.one (.tl .hd) (.one (.tl .hd) (.one (.tl .hd) (.one (.tl .hd) .done)))))
            exact hJ7540 false _ _ ⟨rfl, rfl, rfl, rfl, trivial⟩ ⟨hS15789, (Tr.trans hT9561 (Tr.trans hT9566 (Tr.trans hT9572 (Tr.trans hT11111 (Tr.trans hT11116 (Tr.trans hT11122 (Tr.trans hT12660 (Tr.trans hT12665 (Tr.trans hT12671 (Tr.trans hT14209 (Tr.trans hT14214 (Tr.trans hT14220 hT15790))))))))))))⟩ h
          ·skip
           intro hJ15791
           refine RD.each [25, 27] (readyD_ok kt8337 (by kernel_rfl)) ⟨?_, ?_, trivial⟩
           ·skip
            refine RO.new (m' := 67108863) (stepC_ok kt8337 (by kernel_rfl)) rfl (.yes rfl rfl) rfl (Does.build (α := Int) (xs := ([(-1), 1099511627776] : List Int)) (vs := [.int .i64 (-1), .int .i64 1099511627776]) (ds' := [.int .i64 (-1), .int .i64 1099511627776]) rfl hS12670 el22 rfl (evs_cons rfl (evs_cons rfl evs_nil)) (by kernel_rfl) rfl) (fun w12978 b12981 hS12979 hT12980 => ?_)
            have hc12982 : Cells w12978 (bl [.row w.heap.size 3 (Rep.size Int) (.slice (some ⟨b12981, 0, none⟩) 2 2) (([(-1), 1099511627776] : List Int).length) [.int .i64 (-1), .int .i64 1099511627776], .cells b12658 [v12656] 22, .cells b38 [.int .i64 2, (.slice (some ⟨b32, 0, none⟩) 1 1)] 40, .row w.heap.size 46 (Rep.size (Int × Int)) (.slice (some ⟨b32, 0, none⟩) 1 1) (([(1, 0)] : List (Int × Int)).length) [.int .i64 1, .int .i64 0], .cells b20 [.int .u64 1099511627776] 37, .cells b15 [.int .i64 y3.fN, v9] 40] ++ L) [.int .i64 (-1), .int .i64 1099511627776] (([(-1), 1099511627776] : List Int) : List Int) := Cells.cons (cs := [.int .i64 (-1)]) (ds := [.int .i64 1099511627776]) rfl (Cells.cons (cs := [.int .i64 1099511627776]) (ds := []) rfl (Cells.nil _ _))
            refine RD.each [26, 27] (readyD_ok kt8337 (by kernel_rfl)) ⟨?_, ?_, trivial⟩
            ·skip
             have hr13283 := St.freeze (α := Int) hS12979 .hd hc12982 hL
             have hS13284 := hS12979.del (.hd : Out _ _ _).del
             have hT13285 := Tr.del (w := w12978) (.hd : Out [.row w.heap.size 3 (Rep.size Int) (.slice (some ⟨b12981, 0, none⟩) 2 2) (([(-1), 1099511627776] : List Int).length) [.int .i64 (-1), .int .i64 1099511627776], .cells b12658 [v12656] 22, .cells b38 [.int .i64 2, (.slice (some ⟨b32, 0, none⟩) 1 1)] 40, .row w.heap.size 46 (Rep.size (Int × Int)) (.slice (some ⟨b32, 0, none⟩) 1 1) (([(1, 0)] : List (Int × Int)).length) [.int .i64 1, .int .i64 0], .cells b20 [.int .u64 1099511627776] 37, .cells b15 [.int .i64 y3.fN, v9] 40] _ _).del
             have hr13286 : Rep.R w12978 (bl [.cells b12658 [v12656] 22, .cells b38 [.int .i64 2, (.slice (some ⟨b32, 0, none⟩) 1 1)] 40, .row w.heap.size 46 (Rep.size (Int × Int)) (.slice (some ⟨b32, 0, none⟩) 1 1) (([(1, 0)] : List (Int × Int)).length) [.int .i64 1, .int .i64 0], .cells b20 [.int .u64 1099511627776] 37, .cells b15 [.int .i64 y3.fN, v9] 40] ++ L) [(.slice (some ⟨b12981, 0, none⟩) 2 2)] ([(-1), 1099511627776] : List Int) := hr13283
             refine RO.call (m' := 134217727) (fst := []) (cap := []) (stepC_ok kt8337 (by kernel_rfl)) rfl (.yes rfl rfl) body20 rfl (evs_cons rfl evs_nil) (fun w9 hw9 => Calls.gives (wardmotelaw31_lists_c n _ w9 (hS13284.hL hL hw9) ([(-1), 1099511627776] : List Int) (Rep.keep0 hr13286 hw9)) fun (w8 : World) (u8 : Value) ⟨b0_, hu_, s_⟩ => (⟨b0_, hu_, s_.from hw9⟩ : ∃ b13288 : Nat, u8 = Value.func (.func 38) #[] #[.pointer (some ⟨b13288, 0, none⟩)] ∧ St w12978 w8 [.cells b13288 [(.slice (some ⟨b12981, 0, none⟩) 2 2)] 22])) rfl (fun w13289 vu13290 hag13291 ⟨b13288, hu13293, s13292⟩ => ?_)
             subst hu13293
             have hS13294 : St w w13289 [.cells b13288 [(.slice (some ⟨b12981, 0, none⟩) 2 2)] 22, .cells b12658 [v12656] 22, .cells b38 [.int .i64 2, (.slice (some ⟨b32, 0, none⟩) 1 1)] 40, .row w.heap.size 46 (Rep.size (Int × Int)) (.slice (some ⟨b32, 0, none⟩) 1 1) (([(1, 0)] : List (Int × Int)).length) [.int .i64 1, .int .i64 0], .cells b20 [.int .u64 1099511627776] 37, .cells b15 [.int .i64 y3.fN, v9] 40] := St.merge hS13284 s13292
             have hT13295 : Tr w12978 [.cells b12658 [v12656] 22, .cells b38 [.int .i64 2, (.slice (some ⟨b32, 0, none⟩) 1 1)] 40, .row w.heap.size 46 (Rep.size (Int × Int)) (.slice (some ⟨b32, 0, none⟩) 1 1) (([(1, 0)] : List (Int × Int)).length) [.int .i64 1, .int .i64 0], .cells b20 [.int .u64 1099511627776] 37, .cells b15 [.int .i64 y3.fN, v9] 40] w13289 [.cells b13288 [(.slice (some ⟨b12981, 0, none⟩) 2 2)] 22, .cells b12658 [v12656] 22, .cells b38 [.int .i64 2, (.slice (some ⟨b32, 0, none⟩) 1 1)] 40, .row w.heap.size 46 (Rep.size (Int × Int)) (.slice (some ⟨b32, 0, none⟩) 1 1) (([(1, 0)] : List (Int × Int)).length) [.int .i64 1, .int .i64 0], .cells b20 [.int .u64 1099511627776] 37, .cells b15 [.int .i64 y3.fN, v9] 40] := Tr.merge hS13284 s13292
             refine RD.one (i := 27) (readyD_ok kt8337 (by kernel_rfl)) (RO.new (m' := 268435455) (stepC_ok kt8337 (by kernel_rfl)) rfl (.yes rfl rfl) rfl (Does.build (α := Int) (xs := ([(-1), 1099511627776] : List Int)) (vs := [.int .i64 (-1), .int .i64 1099511627776]) (ds' := [.int .i64 (-1), .int .i64 1099511627776]) rfl hS13294 el22 rfl (evs_cons rfl (evs_cons rfl evs_nil)) (by kernel_rfl) rfl) (fun w13597 b13600 hS13598 hT13599 => ?_))
             have hc13601 : Cells w13597 (bl [.row w.heap.size 3 (Rep.size Int) (.slice (some ⟨b13600, 0, none⟩) 2 2) (([(-1), 1099511627776] : List Int).length) [.int .i64 (-1), .int .i64 1099511627776], .cells b13288 [(.slice (some ⟨b12981, 0, none⟩) 2 2)] 22, .cells b12658 [v12656] 22, .cells b38 [.int .i64 2, (.slice (some ⟨b32, 0, none⟩) 1 1)] 40, .row w.heap.size 46 (Rep.size (Int × Int)) (.slice (some ⟨b32, 0, none⟩) 1 1) (([(1, 0)] : List (Int × Int)).length) [.int .i64 1, .int .i64 0], .cells b20 [.int .u64 1099511627776] 37, .cells b15 [.int .i64 y3.fN, v9] 40] ++ L) [.int .i64 (-1), .int .i64 1099511627776] (([(-1), 1099511627776] : List Int) : List Int) := Cells.cons (cs := [.int .i64 (-1)]) (ds := [.int .i64 1099511627776]) rfl (Cells.cons (cs := [.int .i64 1099511627776]) (ds := []) rfl (Cells.nil _ _))
             have hS15792 : St _ _ [.row w.heap.size 3 (Rep.size Int) (.slice (some ⟨b13600, 0, none⟩) 2 2) (([(-1), 1099511627776] : List Int).length) [.int .i64 (-1), .int .i64 1099511627776], .cells b13288 [(.slice (some ⟨b12981, 0, none⟩) 2 2)] 22, .cells b38 [.int .i64 2, (.slice (some ⟨b32, 0, none⟩) 1 1)] 40, .row w.heap.size 46 (Rep.size (Int × Int)) (.slice (some ⟨b32, 0, none⟩) 1 1) (([(1, 0)] : List (Int × Int)).length) [.int .i64 1, .int .i64 0], .cells b20 [.int .u64 1099511627776] 37, .cells b15 [.int .i64 y3.fN, v9] 40] := hS13598.arr (.one .hd (.one .hd (.one (.tl .hd) (.one (.tl .hd) (.one (.tl .hd) (.one (.tl .hd) .done))))))
             have hT15793 : Tr w13597 _ w13597 [.row w.heap.size 3 (Rep.size Int) (.slice (some ⟨b13600, 0, none⟩) 2 2) (([(-1), 1099511627776] : List Int).length) [.int .i64 (-1), .int .i64 1099511627776], .cells b13288 [(.slice (some ⟨b12981, 0, none⟩) 2 2)] 22, .cells b38 [.int .i64 2, (.slice (some ⟨b32, 0, none⟩) 1 1)] 40, .row w.heap.size 46 (Rep.size (Int × Int)) (.slice (some ⟨b32, 0, none⟩) 1 1) (([(1, 0)] : List (Int × Int)).length) [.int .i64 1, .int .i64 0], .cells b20 [.int .u64 1099511627776] 37, .cells b15 [.int .i64 y3.fN, v9] 40] := Tr.arr (St.arrOf hS13598 (.one .hd (.one .hd (.one (.tl .hd) (.one (.tl .hd) (.one (.tl .hd) (.one (.tl .hd) .done)))))))
             have hm15794 := Cells.mv hc13601 hT15793
             have hm15795 := Rep.mv hr13286 (Tr.trans hT13295 (Tr.trans hT13599 hT15793))
             exact hJ15791 ((.slice (some ⟨b13600, 0, none⟩) 2 2), [.int .i64 (-1), .int .i64 1099511627776], (.slice (some ⟨b12981, 0, none⟩) 2 2), b13288) _ _ ⟨rfl, rfl, rfl, rfl, rfl, rfl, trivial⟩ ⟨hS15792, (Tr.trans hT12980 (Tr.trans hT13285 (Tr.trans hT13295 (Tr.trans hT13599 hT15793)))), hm15794, hm15795⟩
            ·skip
             refine RO.new (m' := 201326591) (stepC_ok kt8337 (by kernel_rfl)) rfl (.yes rfl rfl) rfl (Does.build (α := Int) (xs := ([(-1), 1099511627776] : List Int)) (vs := [.int .i64 (-1), .int .i64 1099511627776]) (ds' := [.int .i64 (-1), .int .i64 1099511627776]) rfl hS12979 el22 rfl (evs_cons rfl (evs_cons rfl evs_nil)) (by kernel_rfl) rfl) (fun w13597 b13600 hS13598 hT13599 => ?_)
             have hc13601 : Cells w13597 (bl [.row w.heap.size 3 (Rep.size Int) (.slice (some ⟨b13600, 0, none⟩) 2 2) (([(-1), 1099511627776] : List Int).length) [.int .i64 (-1), .int .i64 1099511627776], .row w.heap.size 3 (Rep.size Int) (.slice (some ⟨b12981, 0, none⟩) 2 2) (([(-1), 1099511627776] : List Int).length) [.int .i64 (-1), .int .i64 1099511627776], .cells b12658 [v12656] 22, .cells b38 [.int .i64 2, (.slice (some ⟨b32, 0, none⟩) 1 1)] 40, .row w.heap.size 46 (Rep.size (Int × Int)) (.slice (some ⟨b32, 0, none⟩) 1 1) (([(1, 0)] : List (Int × Int)).length) [.int .i64 1, .int .i64 0], .cells b20 [.int .u64 1099511627776] 37, .cells b15 [.int .i64 y3.fN, v9] 40] ++ L) [.int .i64 (-1), .int .i64 1099511627776] (([(-1), 1099511627776] : List Int) : List Int) := Cells.cons (cs := [.int .i64 (-1)]) (ds := [.int .i64 1099511627776]) rfl (Cells.cons (cs := [.int .i64 1099511627776]) (ds := []) rfl (Cells.nil _ _))
             have hm13286 := Cells.mv hc12982 hT13599
             have hr13283 := St.freeze (α := Int) hS13598 (.tl .hd) hm13286 hL
             have hS13284 := hS13598.del ((.tl .hd) : Out _ _ _).del
             have hT13285 := Tr.del (w := w13597) ((.tl .hd) : Out [.row w.heap.size 3 (Rep.size Int) (.slice (some ⟨b13600, 0, none⟩) 2 2) (([(-1), 1099511627776] : List Int).length) [.int .i64 (-1), .int .i64 1099511627776], .row w.heap.size 3 (Rep.size Int) (.slice (some ⟨b12981, 0, none⟩) 2 2) (([(-1), 1099511627776] : List Int).length) [.int .i64 (-1), .int .i64 1099511627776], .cells b12658 [v12656] 22, .cells b38 [.int .i64 2, (.slice (some ⟨b32, 0, none⟩) 1 1)] 40, .row w.heap.size 46 (Rep.size (Int × Int)) (.slice (some ⟨b32, 0, none⟩) 1 1) (([(1, 0)] : List (Int × Int)).length) [.int .i64 1, .int .i64 0], .cells b20 [.int .u64 1099511627776] 37, .cells b15 [.int .i64 y3.fN, v9] 40] _ _).del
             have hr13287 : Rep.R w13597 (bl [.row w.heap.size 3 (Rep.size Int) (.slice (some ⟨b13600, 0, none⟩) 2 2) (([(-1), 1099511627776] : List Int).length) [.int .i64 (-1), .int .i64 1099511627776], .cells b12658 [v12656] 22, .cells b38 [.int .i64 2, (.slice (some ⟨b32, 0, none⟩) 1 1)] 40, .row w.heap.size 46 (Rep.size (Int × Int)) (.slice (some ⟨b32, 0, none⟩) 1 1) (([(1, 0)] : List (Int × Int)).length) [.int .i64 1, .int .i64 0], .cells b20 [.int .u64 1099511627776] 37, .cells b15 [.int .i64 y3.fN, v9] 40] ++ L) [(.slice (some ⟨b12981, 0, none⟩) 2 2)] ([(-1), 1099511627776] : List Int) := hr13283
             refine RD.one (i := 26) (readyD_ok kt8337 (by kernel_rfl)) (RO.call (m' := 268435455) (fst := []) (cap := []) (stepC_ok kt8337 (by kernel_rfl)) rfl (.yes rfl rfl) body20 rfl (evs_cons rfl evs_nil) (fun w9 hw9 => Calls.gives (wardmotelaw31_lists_c n _ w9 (hS13284.hL hL hw9) ([(-1), 1099511627776] : List Int) (Rep.keep0 hr13287 hw9)) fun (w8 : World) (u8 : Value) ⟨b0_, hu_, s_⟩ => (⟨b0_, hu_, s_.from hw9⟩ : ∃ b13289 : Nat, u8 = Value.func (.func 38) #[] #[.pointer (some ⟨b13289, 0, none⟩)] ∧ St w13597 w8 [.cells b13289 [(.slice (some ⟨b12981, 0, none⟩) 2 2)] 22])) rfl (fun w13290 vu13291 hag13292 ⟨b13289, hu13294, s13293⟩ => ?_))
             subst hu13294
             have hS13295 : St w w13290 [.cells b13289 [(.slice (some ⟨b12981, 0, none⟩) 2 2)] 22, .row w.heap.size 3 (Rep.size Int) (.slice (some ⟨b13600, 0, none⟩) 2 2) (([(-1), 1099511627776] : List Int).length) [.int .i64 (-1), .int .i64 1099511627776], .cells b12658 [v12656] 22, .cells b38 [.int .i64 2, (.slice (some ⟨b32, 0, none⟩) 1 1)] 40, .row w.heap.size 46 (Rep.size (Int × Int)) (.slice (some ⟨b32, 0, none⟩) 1 1) (([(1, 0)] : List (Int × Int)).length) [.int .i64 1, .int .i64 0], .cells b20 [.int .u64 1099511627776] 37, .cells b15 [.int .i64 y3.fN, v9] 40] := St.merge hS13284 s13293
             have hT13296 : Tr w13597 [.row w.heap.size 3 (Rep.size Int) (.slice (some ⟨b13600, 0, none⟩) 2 2) (([(-1), 1099511627776] : List Int).length) [.int .i64 (-1), .int .i64 1099511627776], .cells b12658 [v12656] 22, .cells b38 [.int .i64 2, (.slice (some ⟨b32, 0, none⟩) 1 1)] 40, .row w.heap.size 46 (Rep.size (Int × Int)) (.slice (some ⟨b32, 0, none⟩) 1 1) (([(1, 0)] : List (Int × Int)).length) [.int .i64 1, .int .i64 0], .cells b20 [.int .u64 1099511627776] 37, .cells b15 [.int .i64 y3.fN, v9] 40] w13290 [.cells b13289 [(.slice (some ⟨b12981, 0, none⟩) 2 2)] 22, .row w.heap.size 3 (Rep.size Int) (.slice (some ⟨b13600, 0, none⟩) 2 2) (([(-1), 1099511627776] : List Int).length) [.int .i64 (-1), .int .i64 1099511627776], .cells b12658 [v12656] 22, .cells b38 [.int .i64 2, (.slice (some ⟨b32, 0, none⟩) 1 1)] 40, .row w.heap.size 46 (Rep.size (Int × Int)) (.slice (some ⟨b32, 0, none⟩) 1 1) (([(1, 0)] : List (Int × Int)).length) [.int .i64 1, .int .i64 0], .cells b20 [.int .u64 1099511627776] 37, .cells b15 [.int .i64 y3.fN, v9] 40] := Tr.merge hS13284 s13293
             have hS15796 : St _ _ [.row w.heap.size 3 (Rep.size Int) (.slice (some ⟨b13600, 0, none⟩) 2 2) (([(-1), 1099511627776] : List Int).length) [.int .i64 (-1), .int .i64 1099511627776], .cells b13289 [(.slice (some ⟨b12981, 0, none⟩) 2 2)] 22, .cells b38 [.int .i64 2, (.slice (some ⟨b32, 0, none⟩) 1 1)] 40, .row w.heap.size 46 (Rep.size (Int × Int)) (.slice (some ⟨b32, 0, none⟩) 1 1) (([(1, 0)] : List (Int × Int)).length) [.int .i64 1, .int .i64 0], .cells b20 [.int .u64 1099511627776] 37, .cells b15 [.int .i64 y3.fN, v9] 40] := hS13295.arr (.one (.tl .hd) (.one .hd (.one (.tl .hd) (.one (.tl .hd) (.one (.tl .hd) (.one (.tl .hd) .done))))))
             have hT15797 : Tr w13290 _ w13290 [.row w.heap.size 3 (Rep.size Int) (.slice (some ⟨b13600, 0, none⟩) 2 2) (([(-1), 1099511627776] : List Int).length) [.int .i64 (-1), .int .i64 1099511627776], .cells b13289 [(.slice (some ⟨b12981, 0, none⟩) 2 2)] 22, .cells b38 [.int .i64 2, (.slice (some ⟨b32, 0, none⟩) 1 1)] 40, .row w.heap.size 46 (Rep.size (Int × Int)) (.slice (some ⟨b32, 0, none⟩) 1 1) (([(1, 0)] : List (Int × Int)).length) [.int .i64 1, .int .i64 0], .cells b20 [.int .u64 1099511627776] 37, .cells b15 [.int .i64 y3.fN, v9] 40] := Tr.arr (St.arrOf hS13295 (.one (.tl .hd) (.one .hd (.one (.tl .hd) (.one (.tl .hd) (.one (.tl .hd) (.one (.tl .hd) .done)))))))
             have hm15798 := Cells.mv hc13601 (Tr.trans hT13285 (Tr.trans hT13296 hT15797))
             have hm15799 := Rep.mv hr13287 (Tr.trans hT13296 hT15797)
             exact hJ15791 ((.slice (some ⟨b13600, 0, none⟩) 2 2), [.int .i64 (-1), .int .i64 1099511627776], (.slice (some ⟨b12981, 0, none⟩) 2 2), b13289) _ _ ⟨rfl, rfl, rfl, rfl, rfl, rfl, trivial⟩ ⟨hS15796, (Tr.trans hT12980 (Tr.trans hT13599 (Tr.trans hT13285 (Tr.trans hT13296 hT15797)))), hm15798, hm15799⟩
           ·skip
            refine RO.new (m' := 167772159) (stepC_ok kt8337 (by kernel_rfl)) rfl (.yes rfl rfl) rfl (Does.build (α := Int) (xs := ([(-1), 1099511627776] : List Int)) (vs := [.int .i64 (-1), .int .i64 1099511627776]) (ds' := [.int .i64 (-1), .int .i64 1099511627776]) rfl hS12670 el22 rfl (evs_cons rfl (evs_cons rfl evs_nil)) (by kernel_rfl) rfl) (fun w13597 b13600 hS13598 hT13599 => ?_)
            have hc13601 : Cells w13597 (bl [.row w.heap.size 3 (Rep.size Int) (.slice (some ⟨b13600, 0, none⟩) 2 2) (([(-1), 1099511627776] : List Int).length) [.int .i64 (-1), .int .i64 1099511627776], .cells b12658 [v12656] 22, .cells b38 [.int .i64 2, (.slice (some ⟨b32, 0, none⟩) 1 1)] 40, .row w.heap.size 46 (Rep.size (Int × Int)) (.slice (some ⟨b32, 0, none⟩) 1 1) (([(1, 0)] : List (Int × Int)).length) [.int .i64 1, .int .i64 0], .cells b20 [.int .u64 1099511627776] 37, .cells b15 [.int .i64 y3.fN, v9] 40] ++ L) [.int .i64 (-1), .int .i64 1099511627776] (([(-1), 1099511627776] : List Int) : List Int) := Cells.cons (cs := [.int .i64 (-1)]) (ds := [.int .i64 1099511627776]) rfl (Cells.cons (cs := [.int .i64 1099511627776]) (ds := []) rfl (Cells.nil _ _))
            refine RD.one (i := 25) (readyD_ok kt8337 (by kernel_rfl)) (RO.new (m' := 201326591) (stepC_ok kt8337 (by kernel_rfl)) rfl (.yes rfl rfl) rfl (Does.build (α := Int) (xs := ([(-1), 1099511627776] : List Int)) (vs := [.int .i64 (-1), .int .i64 1099511627776]) (ds' := [.int .i64 (-1), .int .i64 1099511627776]) rfl hS13598 el22 rfl (evs_cons rfl (evs_cons rfl evs_nil)) (by kernel_rfl) rfl) (fun w12978 b12981 hS12979 hT12980 => ?_))
            have hc12982 : Cells w12978 (bl [.row w.heap.size 3 (Rep.size Int) (.slice (some ⟨b12981, 0, none⟩) 2 2) (([(-1), 1099511627776] : List Int).length) [.int .i64 (-1), .int .i64 1099511627776], .row w.heap.size 3 (Rep.size Int) (.slice (some ⟨b13600, 0, none⟩) 2 2) (([(-1), 1099511627776] : List Int).length) [.int .i64 (-1), .int .i64 1099511627776], .cells b12658 [v12656] 22, .cells b38 [.int .i64 2, (.slice (some ⟨b32, 0, none⟩) 1 1)] 40, .row w.heap.size 46 (Rep.size (Int × Int)) (.slice (some ⟨b32, 0, none⟩) 1 1) (([(1, 0)] : List (Int × Int)).length) [.int .i64 1, .int .i64 0], .cells b20 [.int .u64 1099511627776] 37, .cells b15 [.int .i64 y3.fN, v9] 40] ++ L) [.int .i64 (-1), .int .i64 1099511627776] (([(-1), 1099511627776] : List Int) : List Int) := Cells.cons (cs := [.int .i64 (-1)]) (ds := [.int .i64 1099511627776]) rfl (Cells.cons (cs := [.int .i64 1099511627776]) (ds := []) rfl (Cells.nil _ _))
            have hr13283 := St.freeze (α := Int) hS12979 .hd hc12982 hL
            have hS13284 := hS12979.del (.hd : Out _ _ _).del
            have hT13285 := Tr.del (w := w12978) (.hd : Out [.row w.heap.size 3 (Rep.size Int) (.slice (some ⟨b12981, 0, none⟩) 2 2) (([(-1), 1099511627776] : List Int).length) [.int .i64 (-1), .int .i64 1099511627776], .row w.heap.size 3 (Rep.size Int) (.slice (some ⟨b13600, 0, none⟩) 2 2) (([(-1), 1099511627776] : List Int).length) [.int .i64 (-1), .int .i64 1099511627776], .cells b12658 [v12656] 22, .cells b38 [.int .i64 2, (.slice (some ⟨b32, 0, none⟩) 1 1)] 40, .row w.heap.size 46 (Rep.size (Int × Int)) (.slice (some ⟨b32, 0, none⟩) 1 1) (([(1, 0)] : List (Int × Int)).length) [.int .i64 1, .int .i64 0], .cells b20 [.int .u64 1099511627776] 37, .cells b15 [.int .i64 y3.fN, v9] 40] _ _).del
            have hr13286 : Rep.R w12978 (bl [.row w.heap.size 3 (Rep.size Int) (.slice (some ⟨b13600, 0, none⟩) 2 2) (([(-1), 1099511627776] : List Int).length) [.int .i64 (-1), .int .i64 1099511627776], .cells b12658 [v12656] 22, .cells b38 [.int .i64 2, (.slice (some ⟨b32, 0, none⟩) 1 1)] 40, .row w.heap.size 46 (Rep.size (Int × Int)) (.slice (some ⟨b32, 0, none⟩) 1 1) (([(1, 0)] : List (Int × Int)).length) [.int .i64 1, .int .i64 0], .cells b20 [.int .u64 1099511627776] 37, .cells b15 [.int .i64 y3.fN, v9] 40] ++ L) [(.slice (some ⟨b12981, 0, none⟩) 2 2)] ([(-1), 1099511627776] : List Int) := hr13283
            refine RD.one (i := 26) (readyD_ok kt8337 (by kernel_rfl)) (RO.call (m' := 268435455) (fst := []) (cap := []) (stepC_ok kt8337 (by kernel_rfl)) rfl (.yes rfl rfl) body20 rfl (evs_cons rfl evs_nil) (fun w9 hw9 => Calls.gives (wardmotelaw31_lists_c n _ w9 (hS13284.hL hL hw9) ([(-1), 1099511627776] : List Int) (Rep.keep0 hr13286 hw9)) fun (w8 : World) (u8 : Value) ⟨b0_, hu_, s_⟩ => (⟨b0_, hu_, s_.from hw9⟩ : ∃ b13288 : Nat, u8 = Value.func (.func 38) #[] #[.pointer (some ⟨b13288, 0, none⟩)] ∧ St w12978 w8 [.cells b13288 [(.slice (some ⟨b12981, 0, none⟩) 2 2)] 22])) rfl (fun w13289 vu13290 hag13291 ⟨b13288, hu13293, s13292⟩ => ?_))
            subst hu13293
            have hS13294 : St w w13289 [.cells b13288 [(.slice (some ⟨b12981, 0, none⟩) 2 2)] 22, .row w.heap.size 3 (Rep.size Int) (.slice (some ⟨b13600, 0, none⟩) 2 2) (([(-1), 1099511627776] : List Int).length) [.int .i64 (-1), .int .i64 1099511627776], .cells b12658 [v12656] 22, .cells b38 [.int .i64 2, (.slice (some ⟨b32, 0, none⟩) 1 1)] 40, .row w.heap.size 46 (Rep.size (Int × Int)) (.slice (some ⟨b32, 0, none⟩) 1 1) (([(1, 0)] : List (Int × Int)).length) [.int .i64 1, .int .i64 0], .cells b20 [.int .u64 1099511627776] 37, .cells b15 [.int .i64 y3.fN, v9] 40] := St.merge hS13284 s13292
            have hT13295 : Tr w12978 [.row w.heap.size 3 (Rep.size Int) (.slice (some ⟨b13600, 0, none⟩) 2 2) (([(-1), 1099511627776] : List Int).length) [.int .i64 (-1), .int .i64 1099511627776], .cells b12658 [v12656] 22, .cells b38 [.int .i64 2, (.slice (some ⟨b32, 0, none⟩) 1 1)] 40, .row w.heap.size 46 (Rep.size (Int × Int)) (.slice (some ⟨b32, 0, none⟩) 1 1) (([(1, 0)] : List (Int × Int)).length) [.int .i64 1, .int .i64 0], .cells b20 [.int .u64 1099511627776] 37, .cells b15 [.int .i64 y3.fN, v9] 40] w13289 [.cells b13288 [(.slice (some ⟨b12981, 0, none⟩) 2 2)] 22, .row w.heap.size 3 (Rep.size Int) (.slice (some ⟨b13600, 0, none⟩) 2 2) (([(-1), 1099511627776] : List Int).length) [.int .i64 (-1), .int .i64 1099511627776], .cells b12658 [v12656] 22, .cells b38 [.int .i64 2, (.slice (some ⟨b32, 0, none⟩) 1 1)] 40, .row w.heap.size 46 (Rep.size (Int × Int)) (.slice (some ⟨b32, 0, none⟩) 1 1) (([(1, 0)] : List (Int × Int)).length) [.int .i64 1, .int .i64 0], .cells b20 [.int .u64 1099511627776] 37, .cells b15 [.int .i64 y3.fN, v9] 40] := Tr.merge hS13284 s13292
            have hS15800 : St _ _ [.row w.heap.size 3 (Rep.size Int) (.slice (some ⟨b13600, 0, none⟩) 2 2) (([(-1), 1099511627776] : List Int).length) [.int .i64 (-1), .int .i64 1099511627776], .cells b13288 [(.slice (some ⟨b12981, 0, none⟩) 2 2)] 22, .cells b38 [.int .i64 2, (.slice (some ⟨b32, 0, none⟩) 1 1)] 40, .row w.heap.size 46 (Rep.size (Int × Int)) (.slice (some ⟨b32, 0, none⟩) 1 1) (([(1, 0)] : List (Int × Int)).length) [.int .i64 1, .int .i64 0], .cells b20 [.int .u64 1099511627776] 37, .cells b15 [.int .i64 y3.fN, v9] 40] := hS13294.arr (.one (.tl .hd) (.one .hd (.one (.tl .hd) (.one (.tl .hd) (.one (.tl .hd) (.one (.tl .hd) .done))))))
            have hT15801 : Tr w13289 _ w13289 [.row w.heap.size 3 (Rep.size Int) (.slice (some ⟨b13600, 0, none⟩) 2 2) (([(-1), 1099511627776] : List Int).length) [.int .i64 (-1), .int .i64 1099511627776], .cells b13288 [(.slice (some ⟨b12981, 0, none⟩) 2 2)] 22, .cells b38 [.int .i64 2, (.slice (some ⟨b32, 0, none⟩) 1 1)] 40, .row w.heap.size 46 (Rep.size (Int × Int)) (.slice (some ⟨b32, 0, none⟩) 1 1) (([(1, 0)] : List (Int × Int)).length) [.int .i64 1, .int .i64 0], .cells b20 [.int .u64 1099511627776] 37, .cells b15 [.int .i64 y3.fN, v9] 40] := Tr.arr (St.arrOf hS13294 (.one (.tl .hd) (.one .hd (.one (.tl .hd) (.one (.tl .hd) (.one (.tl .hd) (.one (.tl .hd) .done)))))))
            have hm15802 := Cells.mv hc13601 (Tr.trans hT12980 (Tr.trans hT13285 (Tr.trans hT13295 hT15801)))
            have hm15803 := Rep.mv hr13286 (Tr.trans hT13295 hT15801)
            exact hJ15791 ((.slice (some ⟨b13600, 0, none⟩) 2 2), [.int .i64 (-1), .int .i64 1099511627776], (.slice (some ⟨b12981, 0, none⟩) 2 2), b13288) _ _ ⟨rfl, rfl, rfl, rfl, rfl, rfl, trivial⟩ ⟨hS15800, (Tr.trans hT13599 (Tr.trans hT12980 (Tr.trans hT13285 (Tr.trans hT13295 hT15801)))), hm15802, hm15803⟩
         ·skip
          refine RD.offs 4294967295 11 [(25, 45), (26, 46), (27, 47), (28, 48), (29, 49), (30, 50), (31, 51)] (F := [(44, false)]) (U := []) kt8337 kp8338 (.cons rfl .nil) .nil ?_
          dsimp only [offS, List.map]
          refine RD.vP 32 8589934591 kt8337 rfl kp8338 .plain (fun _ => FV.pick_f rfl rfl) rfl ?_
          refine RD.vP 33 17179869183 kt8337 rfl kp8338 .plain (fun _ => FV.move rfl) rfl ?_
          refine RD.offs 2199023255551 2 [(34, 54), (35, 55), (36, 56), (37, 57), (38, 58), (39, 59), (40, 60)] (F := [(53, false)]) (U := []) kt8337 kp8338 (.cons rfl .nil) .nil ?_
          dsimp only [offS, List.map]
          refine RD.vP 41 4398046511103 kt8337 rfl kp8338 .plain (fun _ => FV.pick_f rfl rfl) rfl ?_
          refine RD.vP 42 8796093022207 kt8337 rfl kp8338 .plain (fun _ => FV.assign rfl) rfl ?_
          refine RD.done (doneD_ok kt8337 (by kernel_rfl)) ?_
          have hS15804 : St _ _ [.cells b38 [.int .i64 2, (.slice (some ⟨b32, 0, none⟩) 1 1)] 40, .row w.heap.size 46 (Rep.size (Int × Int)) (.slice (some ⟨b32, 0, none⟩) 1 1) (([(1, 0)] : List (Int × Int)).length) [.int .i64 1, .int .i64 0], .cells b20 [.int .u64 1099511627776] 37, .cells b15 [.int .i64 y3.fN, v9] 40] := hS12670.arr (.one (.tl .hd) (.one (.tl .hd) (.one (.tl .hd) (.one (.tl .hd) .done))))
          have hT15805 : Tr w12667 _ w12667 [.cells b38 [.int .i64 2, (.slice (some ⟨b32, 0, none⟩) 1 1)] 40, .row w.heap.size 46 (Rep.size (Int × Int)) (.slice (some ⟨b32, 0, none⟩) 1 1) (([(1, 0)] : List (Int × Int)).length) [.int .i64 1, .int .i64 0], .cells b20 [.int .u64 1099511627776] 37, .cells b15 [.int .i64 y3.fN, v9] 40] := Tr.arr (St.arrOf hS12670 (.one (.tl .hd) (.one (.tl .hd) (.one (.tl .hd) (.one (.tl .hd) .done)))))
          exact hJ7540 false _ _ ⟨rfl, rfl, rfl, rfl, trivial⟩ ⟨hS15804, (Tr.trans hT9561 (Tr.trans hT9566 (Tr.trans hT9572 (Tr.trans hT11111 (Tr.trans hT11116 (Tr.trans hT11122 (Tr.trans hT12660 (Tr.trans hT12665 (Tr.trans hT12671 hT15805)))))))))⟩ h
        ·skip
         intro hJ15806
         refine RD.each [16, 18] (readyD_ok kt8337 (by kernel_rfl)) ⟨?_, ?_, trivial⟩
         ·skip
          refine RO.new (m' := 131071) (stepC_ok kt8337 (by kernel_rfl)) rfl (.yes rfl rfl) rfl (Does.build (α := Int) (xs := ([7, 8] : List Int)) (vs := [.int .i64 7, .int .i64 8]) (ds' := [.int .i64 7, .int .i64 8]) rfl hS11121 el22 rfl (evs_cons rfl (evs_cons rfl evs_nil)) (by kernel_rfl) rfl) (fun w11429 b11432 hS11430 hT11431 => ?_)
          have hc11433 : Cells w11429 (bl [.row w.heap.size 3 (Rep.size Int) (.slice (some ⟨b11432, 0, none⟩) 2 2) (([7, 8] : List Int).length) [.int .i64 7, .int .i64 8], .cells b11109 [v11107] 22, .cells b38 [.int .i64 2, (.slice (some ⟨b32, 0, none⟩) 1 1)] 40, .row w.heap.size 46 (Rep.size (Int × Int)) (.slice (some ⟨b32, 0, none⟩) 1 1) (([(1, 0)] : List (Int × Int)).length) [.int .i64 1, .int .i64 0], .cells b20 [.int .u64 1099511627776] 37, .cells b15 [.int .i64 y3.fN, v9] 40] ++ L) [.int .i64 7, .int .i64 8] (([7, 8] : List Int) : List Int) := Cells.cons (cs := [.int .i64 7]) (ds := [.int .i64 8]) rfl (Cells.cons (cs := [.int .i64 8]) (ds := []) rfl (Cells.nil _ _))
          refine RD.each [17, 18] (readyD_ok kt8337 (by kernel_rfl)) ⟨?_, ?_, trivial⟩
          ·skip
           have hr11734 := St.freeze (α := Int) hS11430 .hd hc11433 hL
           have hS11735 := hS11430.del (.hd : Out _ _ _).del
           have hT11736 := Tr.del (w := w11429) (.hd : Out [.row w.heap.size 3 (Rep.size Int) (.slice (some ⟨b11432, 0, none⟩) 2 2) (([7, 8] : List Int).length) [.int .i64 7, .int .i64 8], .cells b11109 [v11107] 22, .cells b38 [.int .i64 2, (.slice (some ⟨b32, 0, none⟩) 1 1)] 40, .row w.heap.size 46 (Rep.size (Int × Int)) (.slice (some ⟨b32, 0, none⟩) 1 1) (([(1, 0)] : List (Int × Int)).length) [.int .i64 1, .int .i64 0], .cells b20 [.int .u64 1099511627776] 37, .cells b15 [.int .i64 y3.fN, v9] 40] _ _).del
           have hr11737 : Rep.R w11429 (bl [.cells b11109 [v11107] 22, .cells b38 [.int .i64 2, (.slice (some ⟨b32, 0, none⟩) 1 1)] 40, .row w.heap.size 46 (Rep.size (Int × Int)) (.slice (some ⟨b32, 0, none⟩) 1 1) (([(1, 0)] : List (Int × Int)).length) [.int .i64 1, .int .i64 0], .cells b20 [.int .u64 1099511627776] 37, .cells b15 [.int .i64 y3.fN, v9] 40] ++ L) [(.slice (some ⟨b11432, 0, none⟩) 2 2)] ([7, 8] : List Int) := hr11734
           refine RO.call (m' := 262143) (fst := []) (cap := []) (stepC_ok kt8337 (by kernel_rfl)) rfl (.yes rfl rfl) body20 rfl (evs_cons rfl evs_nil) (fun w9 hw9 => Calls.gives (wardmotelaw31_lists_c n _ w9 (hS11735.hL hL hw9) ([7, 8] : List Int) (Rep.keep0 hr11737 hw9)) fun (w8 : World) (u8 : Value) ⟨b0_, hu_, s_⟩ => (⟨b0_, hu_, s_.from hw9⟩ : ∃ b11739 : Nat, u8 = Value.func (.func 38) #[] #[.pointer (some ⟨b11739, 0, none⟩)] ∧ St w11429 w8 [.cells b11739 [(.slice (some ⟨b11432, 0, none⟩) 2 2)] 22])) rfl (fun w11740 vu11741 hag11742 ⟨b11739, hu11744, s11743⟩ => ?_)
           subst hu11744
           have hS11745 : St w w11740 [.cells b11739 [(.slice (some ⟨b11432, 0, none⟩) 2 2)] 22, .cells b11109 [v11107] 22, .cells b38 [.int .i64 2, (.slice (some ⟨b32, 0, none⟩) 1 1)] 40, .row w.heap.size 46 (Rep.size (Int × Int)) (.slice (some ⟨b32, 0, none⟩) 1 1) (([(1, 0)] : List (Int × Int)).length) [.int .i64 1, .int .i64 0], .cells b20 [.int .u64 1099511627776] 37, .cells b15 [.int .i64 y3.fN, v9] 40] := St.merge hS11735 s11743
           have hT11746 : Tr w11429 [.cells b11109 [v11107] 22, .cells b38 [.int .i64 2, (.slice (some ⟨b32, 0, none⟩) 1 1)] 40, .row w.heap.size 46 (Rep.size (Int × Int)) (.slice (some ⟨b32, 0, none⟩) 1 1) (([(1, 0)] : List (Int × Int)).length) [.int .i64 1, .int .i64 0], .cells b20 [.int .u64 1099511627776] 37, .cells b15 [.int .i64 y3.fN, v9] 40] w11740 [.cells b11739 [(.slice (some ⟨b11432, 0, none⟩) 2 2)] 22, .cells b11109 [v11107] 22, .cells b38 [.int .i64 2, (.slice (some ⟨b32, 0, none⟩) 1 1)] 40, .row w.heap.size 46 (Rep.size (Int × Int)) (.slice (some ⟨b32, 0, none⟩) 1 1) (([(1, 0)] : List (Int × Int)).length) [.int .i64 1, .int .i64 0], .cells b20 [.int .u64 1099511627776] 37, .cells b15 [.int .i64 y3.fN, v9] 40] := Tr.merge hS11735 s11743
           refine RD.one (i := 18) (readyD_ok kt8337 (by kernel_rfl)) (RO.new (m' := 524287) (stepC_ok kt8337 (by kernel_rfl)) rfl (.yes rfl rfl) rfl (Does.build (α := Int) (xs := ([7, 9, 7, 8] : List Int)) (vs := [.int .i64 7, .int .i64 9, .int .i64 7, .int .i64 8]) (ds' := [.int .i64 7, .int .i64 9, .int .i64 7, .int .i64 8]) rfl hS11745 el22 rfl (evs_cons rfl (evs_cons rfl (evs_cons rfl (evs_cons rfl evs_nil)))) (by kernel_rfl) rfl) (fun w12048 b12051 hS12049 hT12050 => ?_))
           have hc12052 : Cells w12048 (bl [.row w.heap.size 3 (Rep.size Int) (.slice (some ⟨b12051, 0, none⟩) 4 4) (([7, 9, 7, 8] : List Int).length) [.int .i64 7, .int .i64 9, .int .i64 7, .int .i64 8], .cells b11739 [(.slice (some ⟨b11432, 0, none⟩) 2 2)] 22, .cells b11109 [v11107] 22, .cells b38 [.int .i64 2, (.slice (some ⟨b32, 0, none⟩) 1 1)] 40, .row w.heap.size 46 (Rep.size (Int × Int)) (.slice (some ⟨b32, 0, none⟩) 1 1) (([(1, 0)] : List (Int × Int)).length) [.int .i64 1, .int .i64 0], .cells b20 [.int .u64 1099511627776] 37, .cells b15 [.int .i64 y3.fN, v9] 40] ++ L) [.int .i64 7, .int .i64 9, .int .i64 7, .int .i64 8] (([7, 9, 7, 8] : List Int) : List Int) := Cells.cons (cs := [.int .i64 7]) (ds := [.int .i64 9, .int .i64 7, .int .i64 8]) rfl (Cells.cons (cs := [.int .i64 9]) (ds := [.int .i64 7, .int .i64 8]) rfl (Cells.cons (cs := [.int .i64 7]) (ds := [.int .i64 8]) rfl (Cells.cons (cs := [.int .i64 8]) (ds := []) rfl (Cells.nil _ _))))
           have hS15807 : St _ _ [.row w.heap.size 3 (Rep.size Int) (.slice (some ⟨b12051, 0, none⟩) 4 4) (([7, 9, 7, 8] : List Int).length) [.int .i64 7, .int .i64 9, .int .i64 7, .int .i64 8], .cells b11739 [(.slice (some ⟨b11432, 0, none⟩) 2 2)] 22, .cells b38 [.int .i64 2, (.slice (some ⟨b32, 0, none⟩) 1 1)] 40, .row w.heap.size 46 (Rep.size (Int × Int)) (.slice (some ⟨b32, 0, none⟩) 1 1) (([(1, 0)] : List (Int × Int)).length) [.int .i64 1, .int .i64 0], .cells b20 [.int .u64 1099511627776] 37, .cells b15 [.int .i64 y3.fN, v9] 40] := hS12049.arr (.one .hd (.one .hd (.one (.tl .hd) (.one (.tl .hd) (.one (.tl .hd) (.one (.tl .hd) .done))))))
           have hT15808 : Tr w12048 _ w12048 [.row w.heap.size 3 (Rep.size Int) (.slice (some ⟨b12051, 0, none⟩) 4 4) (([7, 9, 7, 8] : List Int).length) [.int .i64 7, .int .i64 9, .int .i64 7, .int .i64 8], .cells b11739 [(.slice (some ⟨b11432, 0, none⟩) 2 2)] 22, .cells b38 [.int .i64 2, (.slice (some ⟨b32, 0, none⟩) 1 1)] 40, .row w.heap.size 46 (Rep.size (Int × Int)) (.slice (some ⟨b32, 0, none⟩) 1 1) (([(1, 0)] : List (Int × Int)).length) [.int .i64 1, .int .i64 0], .cells b20 [.int .u64 1099511627776] 37, .cells b15 [.int .i64 y3.fN, v9] 40] := Tr.arr (St.arrOf hS12049 (.one .hd (.one .hd (.one (.tl .hd) (.one (.tl .hd) (.one (.tl .hd) (.one (.tl .hd) .done)))))))
           have hm15809 := Cells.mv hc12052 hT15808
           have hm15810 := Rep.mv hr11737 (Tr.trans hT11746 (Tr.trans hT12050 hT15808))
           exact hJ15806 ((.slice (some ⟨b12051, 0, none⟩) 4 4), [.int .i64 7, .int .i64 9, .int .i64 7, .int .i64 8], (.slice (some ⟨b11432, 0, none⟩) 2 2), b11739) _ _ ⟨rfl, rfl, rfl, rfl, rfl, rfl, trivial⟩ ⟨hS15807, (Tr.trans hT11431 (Tr.trans hT11736 (Tr.trans hT11746 (Tr.trans hT12050 hT15808)))), hm15809, hm15810⟩
          ·skip
           refine RO.new (m' := 393215) (stepC_ok kt8337 (by kernel_rfl)) rfl (.yes rfl rfl) rfl (Does.build (α := Int) (xs := ([7, 9, 7, 8] : List Int)) (vs := [.int .i64 7, .int .i64 9, .int .i64 7, .int .i64 8]) (ds' := [.int .i64 7, .int .i64 9, .int .i64 7, .int .i64 8]) rfl hS11430 el22 rfl (evs_cons rfl (evs_cons rfl (evs_cons rfl (evs_cons rfl evs_nil)))) (by kernel_rfl) rfl) (fun w12048 b12051 hS12049 hT12050 => ?_)
           have hc12052 : Cells w12048 (bl [.row w.heap.size 3 (Rep.size Int) (.slice (some ⟨b12051, 0, none⟩) 4 4) (([7, 9, 7, 8] : List Int).length) [.int .i64 7, .int .i64 9, .int .i64 7, .int .i64 8], .row w.heap.size 3 (Rep.size Int) (.slice (some ⟨b11432, 0, none⟩) 2 2) (([7, 8] : List Int).length) [.int .i64 7, .int .i64 8], .cells b11109 [v11107] 22, .cells b38 [.int .i64 2, (.slice (some ⟨b32, 0, none⟩) 1 1)] 40, .row w.heap.size 46 (Rep.size (Int × Int)) (.slice (some ⟨b32, 0, none⟩) 1 1) (([(1, 0)] : List (Int × Int)).length) [.int .i64 1, .int .i64 0], .cells b20 [.int .u64 1099511627776] 37, .cells b15 [.int .i64 y3.fN, v9] 40] ++ L) [.int .i64 7, .int .i64 9, .int .i64 7, .int .i64 8] (([7, 9, 7, 8] : List Int) : List Int) := Cells.cons (cs := [.int .i64 7]) (ds := [.int .i64 9, .int .i64 7, .int .i64 8]) rfl (Cells.cons (cs := [.int .i64 9]) (ds := [.int .i64 7, .int .i64 8]) rfl (Cells.cons (cs := [.int .i64 7]) (ds := [.int .i64 8]) rfl (Cells.cons (cs := [.int .i64 8]) (ds := []) rfl (Cells.nil _ _))))
           have hm11737 := Cells.mv hc11433 hT12050
           have hr11734 := St.freeze (α := Int) hS12049 (.tl .hd) hm11737 hL
           have hS11735 := hS12049.del ((.tl .hd) : Out _ _ _).del
           have hT11736 := Tr.del (w := w12048) ((.tl .hd) : Out [.row w.heap.size 3 (Rep.size Int) (.slice (some ⟨b12051, 0, none⟩) 4 4) (([7, 9, 7, 8] : List Int).length) [.int .i64 7, .int .i64 9, .int .i64 7, .int .i64 8], .row w.heap.size 3 (Rep.size Int) (.slice (some ⟨b11432, 0, none⟩) 2 2) (([7, 8] : List Int).length) [.int .i64 7, .int .i64 8], .cells b11109 [v11107] 22, .cells b38 [.int .i64 2, (.slice (some ⟨b32, 0, none⟩) 1 1)] 40, .row w.heap.size 46 (Rep.size (Int × Int)) (.slice (some ⟨b32, 0, none⟩) 1 1) (([(1, 0)] : List (Int × Int)).length) [.int .i64 1, .int .i64 0], .cells b20 [.int .u64 1099511627776] 37, .cells b15 [.int .i64 y3.fN, v9] 40] _ _).del
           have hr11738 : Rep.R w12048 (bl [.row w.heap.size 3 (Rep.size Int) (.slice (some ⟨b12051, 0, none⟩) 4 4) (([7, 9, 7, 8] : List Int).length) [.int .i64 7, .int .i64 9, .int .i64 7, .int .i64 8], .cells b11109 [v11107] 22, .cells b38 [.int .i64 2, (.slice (some ⟨b32, 0, none⟩) 1 1)] 40, .row w.heap.size 46 (Rep.size (Int × Int)) (.slice (some ⟨b32, 0, none⟩) 1 1) (([(1, 0)] : List (Int × Int)).length) [.int .i64 1, .int .i64 0], .cells b20 [.int .u64 1099511627776] 37, .cells b15 [.int .i64 y3.fN, v9] 40] ++ L) [(.slice (some ⟨b11432, 0, none⟩) 2 2)] ([7, 8] : List Int) := hr11734
           refine RD.one (i := 17) (readyD_ok kt8337 (by kernel_rfl)) (RO.call (m' := 524287) (fst := []) (cap := []) (stepC_ok kt8337 (by kernel_rfl)) rfl (.yes rfl rfl) body20 rfl (evs_cons rfl evs_nil) (fun w9 hw9 => Calls.gives (wardmotelaw31_lists_c n _ w9 (hS11735.hL hL hw9) ([7, 8] : List Int) (Rep.keep0 hr11738 hw9)) fun (w8 : World) (u8 : Value) ⟨b0_, hu_, s_⟩ => (⟨b0_, hu_, s_.from hw9⟩ : ∃ b11740 : Nat, u8 = Value.func (.func 38) #[] #[.pointer (some ⟨b11740, 0, none⟩)] ∧ St w12048 w8 [.cells b11740 [(.slice (some ⟨b11432, 0, none⟩) 2 2)] 22])) rfl (fun w11741 vu11742 hag11743 ⟨b11740, hu11745, s11744⟩ => ?_))
           subst hu11745
           have hS11746 : St w w11741 [.cells b11740 [(.slice (some ⟨b11432, 0, none⟩) 2 2)] 22, .row w.heap.size 3 (Rep.size Int) (.slice (some ⟨b12051, 0, none⟩) 4 4) (([7, 9, 7, 8] : List Int).length) [.int .i64 7, .int .i64 9, .int .i64 7, .int .i64 8], .cells b11109 [v11107] 22, .cells b38 [.int .i64 2, (.slice (some ⟨b32, 0, none⟩) 1 1)] 40, .row w.heap.size 46 (Rep.size (Int × Int)) (.slice (some ⟨b32, 0, none⟩) 1 1) (([(1, 0)] : List (Int × Int)).length) [.int .i64 1, .int .i64 0], .cells b20 [.int .u64 1099511627776] 37, .cells b15 [.int .i64 y3.fN, v9] 40] := St.merge hS11735 s11744
           have hT11747 : Tr w12048 [.row w.heap.size 3 (Rep.size Int) (.slice (some ⟨b12051, 0, none⟩) 4 4) (([7, 9, 7, 8] : List Int).length) [.int .i64 7, .int .i64 9, .int .i64 7, .int .i64 8], .cells b11109 [v11107] 22, .cells b38 [.int .i64 2, (.slice (some ⟨b32, 0, none⟩) 1 1)] 40, .row w.heap.size 46 (Rep.size (Int × Int)) (.slice (some ⟨b32, 0, none⟩) 1 1) (([(1, 0)] : List (Int × Int)).length) [.int .i64 1, .int .i64 0], .cells b20 [.int .u64 1099511627776] 37, .cells b15 [.int .i64 y3.fN, v9] 40] w11741 [.cells b11740 [(.slice (some ⟨b11432, 0, none⟩) 2 2)] 22, .row w.heap.size 3 (Rep.size Int) (.slice (some ⟨b12051, 0, none⟩) 4 4) (([7, 9, 7, 8] : List Int).length) [.int .i64 7, .int .i64 9, .int .i64 7, .int .i64 8], .cells b11109 [v11107] 22, .cells b38 [.int .i64 2, (.slice (some ⟨b32, 0, none⟩) 1 1)] 40, .row w.heap.size 46 (Rep.size (Int × Int)) (.slice (some ⟨b32, 0, none⟩) 1 1) (([(1, 0)] : List (Int × Int)).length) [.int .i64 1, .int .i64 0], .cells b20 [.int .u64 1099511627776] 37, .cells b15 [.int .i64 y3.fN, v9] 40] := Tr.merge hS11735 s11744
           have hS15811 : St _ _ [.row w.heap.size 3 (Rep.size Int) (.slice (some ⟨b12051, 0, none⟩) 4 4) (([7, 9, 7, 8] : List Int).length) [.int .i64 7, .int .i64 9, .int .i64 7, .int .i64 8], .cells b11740 [(.slice (some ⟨b11432, 0, none⟩) 2 2)] 22, .cells b38 [.int .i64 2, (.slice (some ⟨b32, 0, none⟩) 1 1)] 40, .row w.heap.size 46 (Rep.size (Int × Int)) (.slice (some ⟨b32, 0, none⟩) 1 1) (([(1, 0)] : List (Int × Int)).length) [.int .i64 1, .int .i64 0], .cells b20 [.int .u64 1099511627776] 37, .cells b15 [.int .i64 y3.fN, v9] 40] := hS11746.arr (.one (.tl .hd) (.one .hd (.one (.tl .hd) (.one (.tl .hd) (.one (.tl .hd) (.one (.tl .hd) .done))))))
           have hT15812 : Tr w11741 _ w11741 [.row w.heap.size 3 (Rep.size Int) (.slice (some ⟨b12051, 0, none⟩) 4 4) (([7, 9, 7, 8] : List Int).length) [.int .i64 7, .int .i64 9, .int .i64 7, .int .i64 8], .cells b11740 [(.slice (some ⟨b11432, 0, none⟩) 2 2)] 22, .cells b38 [.int .i64 2, (.slice (some ⟨b32, 0, none⟩) 1 1)] 40, .row w.heap.size 46 (Rep.size (Int × Int)) (.slice (some ⟨b32, 0, none⟩) 1 1) (([(1, 0)] : List (Int × Int)).length) [.int .i64 1, .int .i64 0], .cells b20 [.int .u64 1099511627776] 37, .cells b15 [.int .i64 y3.fN, v9] 40] := Tr.arr (St.arrOf hS11746 (.one (.tl .hd) (.one .hd (.one (.tl .hd) (.one (.tl .hd) (.one (.tl .hd) (.one (.tl .hd) .done)))))))
           have hm15813 := Cells.mv hc12052 (Tr.trans hT11736 (Tr.trans hT11747 hT15812))
           have hm15814 := Rep.mv hr11738 (Tr.trans hT11747 hT15812)
           exact hJ15806 ((.slice (some ⟨b12051, 0, none⟩) 4 4), [.int .i64 7, .int .i64 9, .int .i64 7, .int .i64 8], (.slice (some ⟨b11432, 0, none⟩) 2 2), b11740) _ _ ⟨rfl, rfl, rfl, rfl, rfl, rfl, trivial⟩ ⟨hS15811, (Tr.trans hT11431 (Tr.trans hT12050 (Tr.trans hT11736 (Tr.trans hT11747 hT15812)))), hm15813, hm15814⟩
         ·skip
          refine RO.new (m' := 327679) (stepC_ok kt8337 (by kernel_rfl)) rfl (.yes rfl rfl) rfl (Does.build (α := Int) (xs := ([7, 9, 7, 8] : List Int)) (vs := [.int .i64 7, .int .i64 9, .int .i64 7, .int .i64 8]) (ds' := [.int .i64 7, .int .i64 9, .int .i64 7, .int .i64 8]) rfl hS11121 el22 rfl (evs_cons rfl (evs_cons rfl (evs_cons rfl (evs_cons rfl evs_nil)))) (by kernel_rfl) rfl) (fun w12048 b12051 hS12049 hT12050 => ?_)
          have hc12052 : Cells w12048 (bl [.row w.heap.size 3 (Rep.size Int) (.slice (some ⟨b12051, 0, none⟩) 4 4) (([7, 9, 7, 8] : List Int).length) [.int .i64 7, .int .i64 9, .int .i64 7, .int .i64 8], .cells b11109 [v11107] 22, .cells b38 [.int .i64 2, (.slice (some ⟨b32, 0, none⟩) 1 1)] 40, .row w.heap.size 46 (Rep.size (Int × Int)) (.slice (some ⟨b32, 0, none⟩) 1 1) (([(1, 0)] : List (Int × Int)).length) [.int .i64 1, .int .i64 0], .cells b20 [.int .u64 1099511627776] 37, .cells b15 [.int .i64 y3.fN, v9] 40] ++ L) [.int .i64 7, .int .i64 9, .int .i64 7, .int .i64 8] (([7, 9, 7, 8] : List Int) : List Int) := Cells.cons (cs := [.int .i64 7]) (ds := [.int .i64 9, .int .i64 7, .int .i64 8]) rfl (Cells.cons (cs := [.int .i64 9]) (ds := [.int .i64 7, .int .i64 8]) rfl (Cells.cons (cs := [.int .i64 7]) (ds := [.int .i64 8]) rfl (Cells.cons (cs := [.int .i64 8]) (ds := []) rfl (Cells.nil _ _))))
          refine RD.one (i := 16) (readyD_ok kt8337 (by kernel_rfl)) (RO.new (m' := 393215) (stepC_ok kt8337 (by kernel_rfl)) rfl (.yes rfl rfl) rfl (Does.build (α := Int) (xs := ([7, 8] : List Int)) (vs := [.int .i64 7, .int .i64 8]) (ds' := [.int .i64 7, .int .i64 8]) rfl hS12049 el22 rfl (evs_cons rfl (evs_cons rfl evs_nil)) (by kernel_rfl) rfl) (fun w11429 b11432 hS11430 hT11431 => ?_))
          have hc11433 : Cells w11429 (bl [.row w.heap.size 3 (Rep.size Int) (.slice (some ⟨b11432, 0, none⟩) 2 2) (([7, 8] : List Int).length) [.int .i64 7, .int .i64 8], .row w.heap.size 3 (Rep.size Int) (.slice (some ⟨b12051, 0, none⟩) 4 4) (([7, 9, 7, 8] : List Int).length) [.int .i64 7, .int .i64 9, .int .i64 7, .int .i64 8], .cells b11109 [v11107] 22, .cells b38 [.int .i64 2, (.slice (some ⟨b32, 0, none⟩) 1 1)] 40, .row w.heap.size 46 (Rep.size (Int × Int)) (.slice (some ⟨b32, 0, none⟩) 1 1) (([(1, 0)] : List (Int × Int)).length) [.int .i64 1, .int .i64 0], .cells b20 [.int .u64 1099511627776] 37, .cells b15 [.int .i64 y3.fN, v9] 40] ++ L) [.int .i64 7, .int .i64 8] (([7, 8] : List Int) : List Int) := Cells.cons (cs := [.int .i64 7]) (ds := [.int .i64 8]) rfl (Cells.cons (cs := [.int .i64 8]) (ds := []) rfl (Cells.nil _ _))
          have hr11734 := St.freeze (α := Int) hS11430 .hd hc11433 hL
          have hS11735 := hS11430.del (.hd : Out _ _ _).del
          have hT11736 := Tr.del (w := w11429) (.hd : Out [.row w.heap.size 3 (Rep.size Int) (.slice (some ⟨b11432, 0, none⟩) 2 2) (([7, 8] : List Int).length) [.int .i64 7, .int .i64 8], .row w.heap.size 3 (Rep.size Int) (.slice (some ⟨b12051, 0, none⟩) 4 4) (([7, 9, 7, 8] : List Int).length) [.int .i64 7, .int .i64 9, .int .i64 7, .int .i64 8], .cells b11109 [v11107] 22, .cells b38 [.int .i64 2, (.slice (some ⟨b32, 0, none⟩) 1 1)] 40, .row w.heap.size 46 (Rep.size (Int × Int)) (.slice (some ⟨b32, 0, none⟩) 1 1) (([(1, 0)] : List (Int × Int)).length) [.int .i64 1, .int .i64 0], .cells b20 [.int .u64 1099511627776] 37, .cells b15 [.int .i64 y3.fN, v9] 40] _ _).del
          have hr11737 : Rep.R w11429 (bl [.row w.heap.size 3 (Rep.size Int) (.slice (some ⟨b12051, 0, none⟩) 4 4) (([7, 9, 7, 8] : List Int).length) [.int .i64 7, .int .i64 9, .int .i64 7, .int .i64 8], .cells b11109 [v11107] 22, .cells b38 [.int .i64 2, (.slice (some ⟨b32, 0, none⟩) 1 1)] 40, .row w.heap.size 46 (Rep.size (Int × Int)) (.slice (some ⟨b32, 0, none⟩) 1 1) (([(1, 0)] : List (Int × Int)).length) [.int .i64 1, .int .i64 0], .cells b20 [.int .u64 1099511627776] 37, .cells b15 [.int .i64 y3.fN, v9] 40] ++ L) [(.slice (some ⟨b11432, 0, none⟩) 2 2)] ([7, 8] : List Int) := hr11734
          refine RD.one (i := 17) (readyD_ok kt8337 (by kernel_rfl)) (RO.call (m' := 524287) (fst := []) (cap := []) (stepC_ok kt8337 (by kernel_rfl)) rfl (.yes rfl rfl) body20 rfl (evs_cons rfl evs_nil) (fun w9 hw9 => Calls.gives (wardmotelaw31_lists_c n _ w9 (hS11735.hL hL hw9) ([7, 8] : List Int) (Rep.keep0 hr11737 hw9)) fun (w8 : World) (u8 : Value) ⟨b0_, hu_, s_⟩ => (⟨b0_, hu_, s_.from hw9⟩ : ∃ b11739 : Nat, u8 = Value.func (.func 38) #[] #[.pointer (some ⟨b11739, 0, none⟩)] ∧ St w11429 w8 [.cells b11739 [(.slice (some ⟨b11432, 0, none⟩) 2 2)] 22])) rfl (fun w11740 vu11741 hag11742 ⟨b11739, hu11744, s11743⟩ => ?_))
          subst hu11744
          have hS11745 : St w w11740 [.cells b11739 [(.slice (some ⟨b11432, 0, none⟩) 2 2)] 22, .row w.heap.size 3 (Rep.size Int) (.slice (some ⟨b12051, 0, none⟩) 4 4) (([7, 9, 7, 8] : List Int).length) [.int .i64 7, .int .i64 9, .int .i64 7, .int .i64 8], .cells b11109 [v11107] 22, .cells b38 [.int .i64 2, (.slice (some ⟨b32, 0, none⟩) 1 1)] 40, .row w.heap.size 46 (Rep.size (Int × Int)) (.slice (some ⟨b32, 0, none⟩) 1 1) (([(1, 0)] : List (Int × Int)).length) [.int .i64 1, .int .i64 0], .cells b20 [.int .u64 1099511627776] 37, .cells b15 [.int .i64 y3.fN, v9] 40] := St.merge hS11735 s11743
          have hT11746 : Tr w11429 [.row w.heap.size 3 (Rep.size Int) (.slice (some ⟨b12051, 0, none⟩) 4 4) (([7, 9, 7, 8] : List Int).length) [.int .i64 7, .int .i64 9, .int .i64 7, .int .i64 8], .cells b11109 [v11107] 22, .cells b38 [.int .i64 2, (.slice (some ⟨b32, 0, none⟩) 1 1)] 40, .row w.heap.size 46 (Rep.size (Int × Int)) (.slice (some ⟨b32, 0, none⟩) 1 1) (([(1, 0)] : List (Int × Int)).length) [.int .i64 1, .int .i64 0], .cells b20 [.int .u64 1099511627776] 37, .cells b15 [.int .i64 y3.fN, v9] 40] w11740 [.cells b11739 [(.slice (some ⟨b11432, 0, none⟩) 2 2)] 22, .row w.heap.size 3 (Rep.size Int) (.slice (some ⟨b12051, 0, none⟩) 4 4) (([7, 9, 7, 8] : List Int).length) [.int .i64 7, .int .i64 9, .int .i64 7, .int .i64 8], .cells b11109 [v11107] 22, .cells b38 [.int .i64 2, (.slice (some ⟨b32, 0, none⟩) 1 1)] 40, .row w.heap.size 46 (Rep.size (Int × Int)) (.slice (some ⟨b32, 0, none⟩) 1 1) (([(1, 0)] : List (Int × Int)).length) [.int .i64 1, .int .i64 0], .cells b20 [.int .u64 1099511627776] 37, .cells b15 [.int .i64 y3.fN, v9] 40] := Tr.merge hS11735 s11743
          have hS15815 : St _ _ [.row w.heap.size 3 (Rep.size Int) (.slice (some ⟨b12051, 0, none⟩) 4 4) (([7, 9, 7, 8] : List Int).length) [.int .i64 7, .int .i64 9, .int .i64 7, .int .i64 8], .cells b11739 [(.slice (some ⟨b11432, 0, none⟩) 2 2)] 22, .cells b38 [.int .i64 2, (.slice (some ⟨b32, 0, none⟩) 1 1)] 40, .row w.heap.size 46 (Rep.size (Int × Int)) (.slice (some ⟨b32, 0, none⟩) 1 1) (([(1, 0)] : List (Int × Int)).length) [.int .i64 1, .int .i64 0], .cells b20 [.int .u64 1099511627776] 37, .cells b15 [.int .i64 y3.fN, v9] 40] := hS11745.arr (.one (.tl .hd) (.one .hd (.one (.tl .hd) (.one (.tl .hd) (.one (.tl .hd) (.one (.tl .hd) .done))))))
          have hT15816 : Tr w11740 _ w11740 [.row w.heap.size 3 (Rep.size Int) (.slice (some ⟨b12051, 0, none⟩) 4 4) (([7, 9, 7, 8] : List Int).length) [.int .i64 7, .int .i64 9, .int .i64 7, .int .i64 8], .cells b11739 [(.slice (some ⟨b11432, 0, none⟩) 2 2)] 22, .cells b38 [.int .i64 2, (.slice (some ⟨b32, 0, none⟩) 1 1)] 40, .row w.heap.size 46 (Rep.size (Int × Int)) (.slice (some ⟨b32, 0, none⟩) 1 1) (([(1, 0)] : List (Int × Int)).length) [.int .i64 1, .int .i64 0], .cells b20 [.int .u64 1099511627776] 37, .cells b15 [.int .i64 y3.fN, v9] 40] := Tr.arr (St.arrOf hS11745 (.one (.tl .hd) (.one .hd (.one (.tl .hd) (.one (.tl .hd) (.one (.tl .hd) (.one (.tl .hd) .done)))))))
          have hm15817 := Cells.mv hc12052 (Tr.trans hT11431 (Tr.trans hT11736 (Tr.trans hT11746 hT15816)))
          have hm15818 := Rep.mv hr11737 (Tr.trans hT11746 hT15816)
          exact hJ15806 ((.slice (some ⟨b12051, 0, none⟩) 4 4), [.int .i64 7, .int .i64 9, .int .i64 7, .int .i64 8], (.slice (some ⟨b11432, 0, none⟩) 2 2), b11739) _ _ ⟨rfl, rfl, rfl, rfl, rfl, rfl, trivial⟩ ⟨hS15815, (Tr.trans hT12050 (Tr.trans hT11431 (Tr.trans hT11736 (Tr.trans hT11746 hT15816)))), hm15817, hm15818⟩
       ·skip
        refine RD.offs 8388607 20 [(16, 36), (17, 37), (18, 38), (19, 39), (20, 40), (21, 41), (22, 42)] (F := [(35, false)]) (U := []) kt8337 kp8338 (.cons rfl .nil) .nil ?_
        dsimp only [offS, List.map]
        refine RD.vP 23 16777215 kt8337 rfl kp8338 .plain (fun _ => FV.pick_f rfl rfl) rfl ?_
        refine RD.vP 24 33554431 kt8337 rfl kp8338 .plain (fun _ => FV.move rfl) rfl ?_
        refine RD.offs 4294967295 11 [(25, 45), (26, 46), (27, 47), (28, 48), (29, 49), (30, 50), (31, 51)] (F := [(44, false)]) (U := []) kt8337 kp8338 (.cons rfl .nil) .nil ?_
        dsimp only [offS, List.map]
        refine RD.vP 32 8589934591 kt8337 rfl kp8338 .plain (fun _ => FV.pick_f rfl rfl) rfl ?_
        refine RD.vP 33 17179869183 kt8337 rfl kp8338 .plain (fun _ => FV.move rfl) rfl ?_
        refine RD.offs 2199023255551 2 [(34, 54), (35, 55), (36, 56), (37, 57), (38, 58), (39, 59), (40, 60)] (F := [(53, false)]) (U := []) kt8337 kp8338 (.cons rfl .nil) .nil ?_
        dsimp only [offS, List.map]
        refine RD.vP 41 4398046511103 kt8337 rfl kp8338 .plain (fun _ => FV.pick_f rfl rfl) rfl ?_
        refine RD.vP 42 8796093022207 kt8337 rfl kp8338 .plain (fun _ => FV.assign rfl) rfl ?_
        refine RD.done (doneD_ok kt8337 (by kernel_rfl)) ?_
        have hS15819 : St _ _ [.cells b38 [.int .i64 2, (.slice (some ⟨b32, 0, none⟩) 1 1)] 40, .row w.heap.size 46 (Rep.size (Int × Int)) (.slice (some ⟨b32, 0, none⟩) 1 1) (([(1, 0)] : List (Int × Int)).length) [.int .i64 1, .int .i64 0], .cells b20 [.int .u64 1099511627776] 37, .cells b15 [.int .i64 y3.fN, v9] 40] := hS11121.arr (.one (.tl .hd) (.one (.tl .hd) (.one (.tl .hd) (.one (.tl .hd) .done))))
        have hT15820 : Tr w11118 _ w11118 [.cells b38 [.int .i64 2, (.slice (some ⟨b32, 0, none⟩) 1 1)] 40, .row w.heap.size 46 (Rep.size (Int × Int)) (.slice (some ⟨b32, 0, none⟩) 1 1) (([(1, 0)] : List (Int × Int)).length) [.int .i64 1, .int .i64 0], .cells b20 [.int .u64 1099511627776] 37, .cells b15 [.int .i64 y3.fN, v9] 40] := Tr.arr (St.arrOf hS11121 (.one (.tl .hd) (.one (.tl .hd) (.one (.tl .hd) (.one (.tl .hd) .done)))))
        exact hJ7540 false _ _ ⟨rfl, rfl, rfl, rfl, trivial⟩ ⟨hS15819, (Tr.trans hT9561 (Tr.trans hT9566 (Tr.trans hT9572 (Tr.trans hT11111 (Tr.trans hT11116 (Tr.trans hT11122 hT15820))))))⟩ h
      ·skip
       intro hJ15821
       refine RD.each [7, 9] (readyD_ok kt8337 (by kernel_rfl)) ⟨?_, ?_, trivial⟩
       ·skip
        refine RO.new (m' := 255) (stepC_ok kt8337 (by kernel_rfl)) rfl (.yes rfl rfl) rfl (Does.build (α := Int) (xs := ([0] : List Int)) (vs := [.int .i64 0]) (ds' := [.int .i64 0]) rfl hS9571 el22 rfl (evs_cons rfl evs_nil) (by kernel_rfl) rfl) (fun w9878 b9881 hS9879 hT9880 => ?_)
        have hc9882 : Cells w9878 (bl [.row w.heap.size 3 (Rep.size Int) (.slice (some ⟨b9881, 0, none⟩) 1 1) (([0] : List Int).length) [.int .i64 0], .cells b9559 [.int .i64 3] 27, .cells b38 [.int .i64 2, (.slice (some ⟨b32, 0, none⟩) 1 1)] 40, .row w.heap.size 46 (Rep.size (Int × Int)) (.slice (some ⟨b32, 0, none⟩) 1 1) (([(1, 0)] : List (Int × Int)).length) [.int .i64 1, .int .i64 0], .cells b20 [.int .u64 1099511627776] 37, .cells b15 [.int .i64 y3.fN, v9] 40] ++ L) [.int .i64 0] (([0] : List Int) : List Int) := Cells.cons (cs := [.int .i64 0]) (ds := []) rfl (Cells.nil _ _)
        refine RD.each [8, 9] (readyD_ok kt8337 (by kernel_rfl)) ⟨?_, ?_, trivial⟩
        ·skip
         have hr10183 := St.freeze (α := Int) hS9879 .hd hc9882 hL
         have hS10184 := hS9879.del (.hd : Out _ _ _).del
         have hT10185 := Tr.del (w := w9878) (.hd : Out [.row w.heap.size 3 (Rep.size Int) (.slice (some ⟨b9881, 0, none⟩) 1 1) (([0] : List Int).length) [.int .i64 0], .cells b9559 [.int .i64 3] 27, .cells b38 [.int .i64 2, (.slice (some ⟨b32, 0, none⟩) 1 1)] 40, .row w.heap.size 46 (Rep.size (Int × Int)) (.slice (some ⟨b32, 0, none⟩) 1 1) (([(1, 0)] : List (Int × Int)).length) [.int .i64 1, .int .i64 0], .cells b20 [.int .u64 1099511627776] 37, .cells b15 [.int .i64 y3.fN, v9] 40] _ _).del
         have hr10186 : Rep.R w9878 (bl [.cells b9559 [.int .i64 3] 27, .cells b38 [.int .i64 2, (.slice (some ⟨b32, 0, none⟩) 1 1)] 40, .row w.heap.size 46 (Rep.size (Int × Int)) (.slice (some ⟨b32, 0, none⟩) 1 1) (([(1, 0)] : List (Int × Int)).length) [.int .i64 1, .int .i64 0], .cells b20 [.int .u64 1099511627776] 37, .cells b15 [.int .i64 y3.fN, v9] 40] ++ L) [(.slice (some ⟨b9881, 0, none⟩) 1 1)] ([0] : List Int) := hr10183
         refine RO.call (m' := 511) (fst := []) (cap := []) (stepC_ok kt8337 (by kernel_rfl)) rfl (.yes rfl rfl) body20 rfl (evs_cons rfl evs_nil) (fun w9 hw9 => Calls.gives (wardmotelaw31_lists_c n _ w9 (hS10184.hL hL hw9) ([0] : List Int) (Rep.keep0 hr10186 hw9)) fun (w8 : World) (u8 : Value) ⟨b0_, hu_, s_⟩ => (⟨b0_, hu_, s_.from hw9⟩ : ∃ b10188 : Nat, u8 = Value.func (.func 38) #[] #[.pointer (some ⟨b10188, 0, none⟩)] ∧ St w9878 w8 [.cells b10188 [(.slice (some ⟨b9881, 0, none⟩) 1 1)] 22])) rfl (fun w10189 vu10190 hag10191 ⟨b10188, hu10193, s10192⟩ => ?_)
         subst hu10193
         have hS10194 : St w w10189 [.cells b10188 [(.slice (some ⟨b9881, 0, none⟩) 1 1)] 22, .cells b9559 [.int .i64 3] 27, .cells b38 [.int .i64 2, (.slice (some ⟨b32, 0, none⟩) 1 1)] 40, .row w.heap.size 46 (Rep.size (Int × Int)) (.slice (some ⟨b32, 0, none⟩) 1 1) (([(1, 0)] : List (Int × Int)).length) [.int .i64 1, .int .i64 0], .cells b20 [.int .u64 1099511627776] 37, .cells b15 [.int .i64 y3.fN, v9] 40] := St.merge hS10184 s10192
         have hT10195 : Tr w9878 [.cells b9559 [.int .i64 3] 27, .cells b38 [.int .i64 2, (.slice (some ⟨b32, 0, none⟩) 1 1)] 40, .row w.heap.size 46 (Rep.size (Int × Int)) (.slice (some ⟨b32, 0, none⟩) 1 1) (([(1, 0)] : List (Int × Int)).length) [.int .i64 1, .int .i64 0], .cells b20 [.int .u64 1099511627776] 37, .cells b15 [.int .i64 y3.fN, v9] 40] w10189 [.cells b10188 [(.slice (some ⟨b9881, 0, none⟩) 1 1)] 22, .cells b9559 [.int .i64 3] 27, .cells b38 [.int .i64 2, (.slice (some ⟨b32, 0, none⟩) 1 1)] 40, .row w.heap.size 46 (Rep.size (Int × Int)) (.slice (some ⟨b32, 0, none⟩) 1 1) (([(1, 0)] : List (Int × Int)).length) [.int .i64 1, .int .i64 0], .cells b20 [.int .u64 1099511627776] 37, .cells b15 [.int .i64 y3.fN, v9] 40] := Tr.merge hS10184 s10192
         refine RD.one (i := 9) (readyD_ok kt8337 (by kernel_rfl)) (RO.does (m' := 1023) (stepC_ok kt8337 (by kernel_rfl)) rfl (.yes rfl rfl) rfl (Does.mkH (α := Int) (L := L) hxs10497 hS10194 el22 rfl (fun _ _ => rfl)) (fun v10501 w10498 ⟨cs10502, hS10499, hT10500, hc10503⟩ => ?_))
         have hS15822 : St _ _ [.row w.heap.size 3 (Rep.size Int) v10501 xs10497.length cs10502, .cells b10188 [(.slice (some ⟨b9881, 0, none⟩) 1 1)] 22, .cells b38 [.int .i64 2, (.slice (some ⟨b32, 0, none⟩) 1 1)] 40, .row w.heap.size 46 (Rep.size (Int × Int)) (.slice (some ⟨b32, 0, none⟩) 1 1) (([(1, 0)] : List (Int × Int)).length) [.int .i64 1, .int .i64 0], .cells b20 [.int .u64 1099511627776] 37, .cells b15 [.int .i64 y3.fN, v9] 40] := hS10499.arr (.one .hd (.one .hd (.one (.tl .hd) (.one (.tl .hd) (.one (.tl .hd) (.one (.tl .hd) .done))))))
         have hT15823 : Tr w10498 _ w10498 [.row w.heap.size 3 (Rep.size Int) v10501 xs10497.length cs10502, .cells b10188 [(.slice (some ⟨b9881, 0, none⟩) 1 1)] 22, .cells b38 [.int .i64 2, (.slice (some ⟨b32, 0, none⟩) 1 1)] 40, .row w.heap.size 46 (Rep.size (Int × Int)) (.slice (some ⟨b32, 0, none⟩) 1 1) (([(1, 0)] : List (Int × Int)).length) [.int .i64 1, .int .i64 0], .cells b20 [.int .u64 1099511627776] 37, .cells b15 [.int .i64 y3.fN, v9] 40] := Tr.arr (St.arrOf hS10499 (.one .hd (.one .hd (.one (.tl .hd) (.one (.tl .hd) (.one (.tl .hd) (.one (.tl .hd) .done)))))))
         have hm15824 := Cells.mv hc10503 hT15823
         have hm15825 := Rep.mv hr10186 (Tr.trans hT10195 (Tr.trans hT10500 hT15823))
         exact hJ15821 (v10501, cs10502, (.slice (some ⟨b9881, 0, none⟩) 1 1), b10188) _ _ ⟨rfl, rfl, rfl, rfl, rfl, rfl, trivial⟩ ⟨hS15822, (Tr.trans hT9880 (Tr.trans hT10185 (Tr.trans hT10195 (Tr.trans hT10500 hT15823)))), hm15824, hm15825⟩
        ·skip
         refine RO.does (m' := 767) (stepC_ok kt8337 (by kernel_rfl)) rfl (.yes rfl rfl) rfl (Does.mkH (α := Int) (L := L) hxs10497 hS9879 el22 rfl (fun _ _ => rfl)) (fun v10501 w10498 ⟨cs10502, hS10499, hT10500, hc10503⟩ => ?_)
         have hm10186 := Cells.mv hc9882 hT10500
         have hr10183 := St.freeze (α := Int) hS10499 (.tl .hd) hm10186 hL
         have hS10184 := hS10499.del ((.tl .hd) : Out _ _ _).del
         have hT10185 := Tr.del (w := w10498) ((.tl .hd) : Out [.row w.heap.size 3 (Rep.size Int) v10501 xs10497.length cs10502, .row w.heap.size 3 (Rep.size Int) (.slice (some ⟨b9881, 0, none⟩) 1 1) (([0] : List Int).length) [.int .i64 0], .cells b9559 [.int .i64 3] 27, .cells b38 [.int .i64 2, (.slice (some ⟨b32, 0, none⟩) 1 1)] 40, .row w.heap.size 46 (Rep.size (Int × Int)) (.slice (some ⟨b32, 0, none⟩) 1 1) (([(1, 0)] : List (Int × Int)).length) [.int .i64 1, .int .i64 0], .cells b20 [.int .u64 1099511627776] 37, .cells b15 [.int .i64 y3.fN, v9] 40] _ _).del
         have hr10187 : Rep.R w10498 (bl [.row w.heap.size 3 (Rep.size Int) v10501 xs10497.length cs10502, .cells b9559 [.int .i64 3] 27, .cells b38 [.int .i64 2, (.slice (some ⟨b32, 0, none⟩) 1 1)] 40, .row w.heap.size 46 (Rep.size (Int × Int)) (.slice (some ⟨b32, 0, none⟩) 1 1) (([(1, 0)] : List (Int × Int)).length) [.int .i64 1, .int .i64 0], .cells b20 [.int .u64 1099511627776] 37, .cells b15 [.int .i64 y3.fN, v9] 40] ++ L) [(.slice (some ⟨b9881, 0, none⟩) 1 1)] ([0] : List Int) := hr10183
         refine RD.one (i := 8) (readyD_ok kt8337 (by kernel_rfl)) (RO.call (m' := 1023) (fst := []) (cap := []) (stepC_ok kt8337 (by kernel_rfl)) rfl (.yes rfl rfl) body20 rfl (evs_cons rfl evs_nil) (fun w9 hw9 => Calls.gives (wardmotelaw31_lists_c n _ w9 (hS10184.hL hL hw9) ([0] : List Int) (Rep.keep0 hr10187 hw9)) fun (w8 : World) (u8 : Value) ⟨b0_, hu_, s_⟩ => (⟨b0_, hu_, s_.from hw9⟩ : ∃ b10189 : Nat, u8 = Value.func (.func 38) #[] #[.pointer (some ⟨b10189, 0, none⟩)] ∧ St w10498 w8 [.cells b10189 [(.slice (some ⟨b9881, 0, none⟩) 1 1)] 22])) rfl (fun w10190 vu10191 hag10192 ⟨b10189, hu10194, s10193⟩ => ?_))
         subst hu10194
         have hS10195 : St w w10190 [.cells b10189 [(.slice (some ⟨b9881, 0, none⟩) 1 1)] 22, .row w.heap.size 3 (Rep.size Int) v10501 xs10497.length cs10502, .cells b9559 [.int .i64 3] 27, .cells b38 [.int .i64 2, (.slice (some ⟨b32, 0, none⟩) 1 1)] 40, .row w.heap.size 46 (Rep.size (Int × Int)) (.slice (some ⟨b32, 0, none⟩) 1 1) (([(1, 0)] : List (Int × Int)).length) [.int .i64 1, .int .i64 0], .cells b20 [.int .u64 1099511627776] 37, .cells b15 [.int .i64 y3.fN, v9] 40] := St.merge hS10184 s10193
         have hT10196 : Tr w10498 [.row w.heap.size 3 (Rep.size Int) v10501 xs10497.length cs10502, .cells b9559 [.int .i64 3] 27, .cells b38 [.int .i64 2, (.slice (some ⟨b32, 0, none⟩) 1 1)] 40, .row w.heap.size 46 (Rep.size (Int × Int)) (.slice (some ⟨b32, 0, none⟩) 1 1) (([(1, 0)] : List (Int × Int)).length) [.int .i64 1, .int .i64 0], .cells b20 [.int .u64 1099511627776] 37, .cells b15 [.int .i64 y3.fN, v9] 40] w10190 [.cells b10189 [(.slice (some ⟨b9881, 0, none⟩) 1 1)] 22, .row w.heap.size 3 (Rep.size Int) v10501 xs10497.length cs10502, .cells b9559 [.int .i64 3] 27, .cells b38 [.int .i64 2, (.slice (some ⟨b32, 0, none⟩) 1 1)] 40, .row w.heap.size 46 (Rep.size (Int × Int)) (.slice (some ⟨b32, 0, none⟩) 1 1) (([(1, 0)] : List (Int × Int)).length) [.int .i64 1, .int .i64 0], .cells b20 [.int .u64 1099511627776] 37, .cells b15 [.int .i64 y3.fN, v9] 40] := Tr.merge hS10184 s10193
         have hS15826 : St _ _ [.row w.heap.size 3 (Rep.size Int) v10501 xs10497.length cs10502, .cells b10189 [(.slice (some ⟨b9881, 0, none⟩) 1 1)] 22, .cells b38 [.int .i64 2, (.slice (some ⟨b32, 0, none⟩) 1 1)] 40, .row w.heap.size 46 (Rep.size (Int × Int)) (.slice (some ⟨b32, 0, none⟩) 1 1) (([(1, 0)] : List (Int × Int)).length) [.int .i64 1, .int .i64 0], .cells b20 [.int .u64 1099511627776] 37, .cells b15 [.int .i64 y3.fN, v9] 40] := hS10195.arr (.one (.tl .hd) (.one .hd (.one (.tl .hd) (.one (.tl .hd) (.one (.tl .hd) (.one (.tl .hd) .done))))))
         have hT15827 : Tr w10190 _ w10190 [.row w.heap.size 3 (Rep.size Int) v10501 xs10497.length cs10502, .cells b10189 [(.slice (some ⟨b9881, 0, none⟩) 1 1)] 22, .cells b38 [.int .i64 2, (.slice (some ⟨b32, 0, none⟩) 1 1)] 40, .row w.heap.size 46 (Rep.size (Int × Int)) (.slice (some ⟨b32, 0, none⟩) 1 1) (([(1, 0)] : List (Int × Int)).length) [.int .i64 1, .int .i64 0], .cells b20 [.int .u64 1099511627776] 37, .cells b15 [.int .i64 y3.fN, v9] 40] := Tr.arr (St.arrOf hS10195 (.one (.tl .hd) (.one .hd (.one (.tl .hd) (.one (.tl .hd) (.one (.tl .hd) (.one (.tl .hd) .done)))))))
         have hm15828 := Cells.mv hc10503 (Tr.trans hT10185 (Tr.trans hT10196 hT15827))
         have hm15829 := Rep.mv hr10187 (Tr.trans hT10196 hT15827)
         exact hJ15821 (v10501, cs10502, (.slice (some ⟨b9881, 0, none⟩) 1 1), b10189) _ _ ⟨rfl, rfl, rfl, rfl, rfl, rfl, trivial⟩ ⟨hS15826, (Tr.trans hT9880 (Tr.trans hT10500 (Tr.trans hT10185 (Tr.trans hT10196 hT15827)))), hm15828, hm15829⟩
       ·skip
        refine RO.does (m' := 639) (stepC_ok kt8337 (by kernel_rfl)) rfl (.yes rfl rfl) rfl (Does.mkH (α := Int) (L := L) hxs10497 hS9571 el22 rfl (fun _ _ => rfl)) (fun v10501 w10498 ⟨cs10502, hS10499, hT10500, hc10503⟩ => ?_)
        refine RD.one (i := 7) (readyD_ok kt8337 (by kernel_rfl)) (RO.new (m' := 767) (stepC_ok kt8337 (by kernel_rfl)) rfl (.yes rfl rfl) rfl (Does.build (α := Int) (xs := ([0] : List Int)) (vs := [.int .i64 0]) (ds' := [.int .i64 0]) rfl hS10499 el22 rfl (evs_cons rfl evs_nil) (by kernel_rfl) rfl) (fun w9878 b9881 hS9879 hT9880 => ?_))
        have hc9882 : Cells w9878 (bl [.row w.heap.size 3 (Rep.size Int) (.slice (some ⟨b9881, 0, none⟩) 1 1) (([0] : List Int).length) [.int .i64 0], .row w.heap.size 3 (Rep.size Int) v10501 xs10497.length cs10502, .cells b9559 [.int .i64 3] 27, .cells b38 [.int .i64 2, (.slice (some ⟨b32, 0, none⟩) 1 1)] 40, .row w.heap.size 46 (Rep.size (Int × Int)) (.slice (some ⟨b32, 0, none⟩) 1 1) (([(1, 0)] : List (Int × Int)).length) [.int .i64 1, .int .i64 0], .cells b20 [.int .u64 1099511627776] 37, .cells b15 [.int .i64 y3.fN, v9] 40] ++ L) [.int .i64 0] (([0] : List Int) : List Int) := Cells.cons (cs := [.int .i64 0]) (ds := []) rfl (Cells.nil _ _)
        have hr10183 := St.freeze (α := Int) hS9879 .hd hc9882 hL
        have hS10184 := hS9879.del (.hd : Out _ _ _).del
        have hT10185 := Tr.del (w := w9878) (.hd : Out [.row w.heap.size 3 (Rep.size Int) (.slice (some ⟨b9881, 0, none⟩) 1 1) (([0] : List Int).length) [.int .i64 0], .row w.heap.size 3 (Rep.size Int) v10501 xs10497.length cs10502, .cells b9559 [.int .i64 3] 27, .cells b38 [.int .i64 2, (.slice (some ⟨b32, 0, none⟩) 1 1)] 40, .row w.heap.size 46 (Rep.size (Int × Int)) (.slice (some ⟨b32, 0, none⟩) 1 1) (([(1, 0)] : List (Int × Int)).length) [.int .i64 1, .int .i64 0], .cells b20 [.int .u64 1099511627776] 37, .cells b15 [.int .i64 y3.fN, v9] 40] _ _).del
        have hr10186 : Rep.R w9878 (bl [.row w.heap.size 3 (Rep.size Int) v10501 xs10497.length cs10502, .cells b9559 [.int .i64 3] 27, .cells b38 [.int .i64 2, (.slice (some ⟨b32, 0, none⟩) 1 1)] 40, .row w.heap.size 46 (Rep.size (Int × Int)) (.slice (some ⟨b32, 0, none⟩) 1 1) (([(1, 0)] : List (Int × Int)).length) [.int .i64 1, .int .i64 0], .cells b20 [.int .u64 1099511627776] 37, .cells b15 [.int .i64 y3.fN, v9] 40] ++ L) [(.slice (some ⟨b9881, 0, none⟩) 1 1)] ([0] : List Int) := hr10183
        refine RD.one (i := 8) (readyD_ok kt8337 (by kernel_rfl)) (RO.call (m' := 1023) (fst := []) (cap := []) (stepC_ok kt8337 (by kernel_rfl)) rfl (.yes rfl rfl) body20 rfl (evs_cons rfl evs_nil) (fun w9 hw9 => Calls.gives (wardmotelaw31_lists_c n _ w9 (hS10184.hL hL hw9) ([0] : List Int) (Rep.keep0 hr10186 hw9)) fun (w8 : World) (u8 : Value) ⟨b0_, hu_, s_⟩ => (⟨b0_, hu_, s_.from hw9⟩ : ∃ b10188 : Nat, u8 = Value.func (.func 38) #[] #[.pointer (some ⟨b10188, 0, none⟩)] ∧ St w9878 w8 [.cells b10188 [(.slice (some ⟨b9881, 0, none⟩) 1 1)] 22])) rfl (fun w10189 vu10190 hag10191 ⟨b10188, hu10193, s10192⟩ => ?_))
        subst hu10193
        have hS10194 : St w w10189 [.cells b10188 [(.slice (some ⟨b9881, 0, none⟩) 1 1)] 22, .row w.heap.size 3 (Rep.size Int) v10501 xs10497.length cs10502, .cells b9559 [.int .i64 3] 27, .cells b38 [.int .i64 2, (.slice (some ⟨b32, 0, none⟩) 1 1)] 40, .row w.heap.size 46 (Rep.size (Int × Int)) (.slice (some ⟨b32, 0, none⟩) 1 1) (([(1, 0)] : List (Int × Int)).length) [.int .i64 1, .int .i64 0], .cells b20 [.int .u64 1099511627776] 37, .cells b15 [.int .i64 y3.fN, v9] 40] := St.merge hS10184 s10192
        have hT10195 : Tr w9878 [.row w.heap.size 3 (Rep.size Int) v10501 xs10497.length cs10502, .cells b9559 [.int .i64 3] 27, .cells b38 [.int .i64 2, (.slice (some ⟨b32, 0, none⟩) 1 1)] 40, .row w.heap.size 46 (Rep.size (Int × Int)) (.slice (some ⟨b32, 0, none⟩) 1 1) (([(1, 0)] : List (Int × Int)).length) [.int .i64 1, .int .i64 0], .cells b20 [.int .u64 1099511627776] 37, .cells b15 [.int .i64 y3.fN, v9] 40] w10189 [.cells b10188 [(.slice (some ⟨b9881, 0, none⟩) 1 1)] 22, .row w.heap.size 3 (Rep.size Int) v10501 xs10497.length cs10502, .cells b9559 [.int .i64 3] 27, .cells b38 [.int .i64 2, (.slice (some ⟨b32, 0, none⟩) 1 1)] 40, .row w.heap.size 46 (Rep.size (Int × Int)) (.slice (some ⟨b32, 0, none⟩) 1 1) (([(1, 0)] : List (Int × Int)).length) [.int .i64 1, .int .i64 0], .cells b20 [.int .u64 1099511627776] 37, .cells b15 [.int .i64 y3.fN, v9] 40] := Tr.merge hS10184 s10192
        have hS15830 : St _ _ [.row w.heap.size 3 (Rep.size Int) v10501 xs10497.length cs10502, .cells b10188 [(.slice (some ⟨b9881, 0, none⟩) 1 1)] 22, .cells b38 [.int .i64 2, (.slice (some ⟨b32, 0, none⟩) 1 1)] 40, .row w.heap.size 46 (Rep.size (Int × Int)) (.slice (some ⟨b32, 0, none⟩) 1 1) (([(1, 0)] : List (Int × Int)).length) [.int .i64 1, .int .i64 0], .cells b20 [.int .u64 1099511627776] 37, .cells b15 [.int .i64 y3.fN, v9] 40] := hS10194.arr (.one (.tl .hd) (.one .hd (.one (.tl .hd) (.one (.tl .hd) (.one (.tl .hd) (.one (.tl .hd) .done))))))
        have hT15831 : Tr w10189 _ w10189 [.row w.heap.size 3 (Rep.size Int) v10501 xs10497.length cs10502, .cells b10188 [(.slice (some ⟨b9881, 0, none⟩) 1 1)] 22, .cells b38 [.int .i64 2, (.slice (some ⟨b32, 0, none⟩) 1 1)] 40, .row w.heap.size 46 (Rep.size (Int × Int)) (.slice (some ⟨b32, 0, none⟩) 1 1) (([(1, 0)] : List (Int × Int)).length) [.int .i64 1, .int .i64 0], .cells b20 [.int .u64 1099511627776] 37, .cells b15 [.int .i64 y3.fN, v9] 40] := Tr.arr (St.arrOf hS10194 (.one (.tl .hd) (.one .hd (.one (.tl .hd) (.one (.tl .hd) (.one (.tl .hd) (.one (.tl .hd) .done)))))))
        have hm15832 := Cells.mv hc10503 (Tr.trans hT9880 (Tr.trans hT10185 (Tr.trans hT10195 hT15831)))
        have hm15833 := Rep.mv hr10186 (Tr.trans hT10195 hT15831)
        exact hJ15821 (v10501, cs10502, (.slice (some ⟨b9881, 0, none⟩) 1 1), b10188) _ _ ⟨rfl, rfl, rfl, rfl, rfl, rfl, trivial⟩ ⟨hS15830, (Tr.trans hT10500 (Tr.trans hT9880 (Tr.trans hT10185 (Tr.trans hT10195 hT15831)))), hm15832, hm15833⟩
     ·skip
      refine RD.offs 16383 29 [(7, 27), (8, 28), (9, 29), (10, 30), (11, 31), (12, 32), (13, 33)] (F := [(26, false)]) (U := []) kt8337 kp8338 (.cons rfl .nil) .nil ?_
      dsimp only [offS, List.map]
      refine RD.vP 14 32767 kt8337 rfl kp8338 .plain (fun _ => FV.pick_f rfl rfl) rfl ?_
      refine RD.vP 15 65535 kt8337 rfl kp8338 .plain (fun _ => FV.move rfl) rfl ?_
      refine RD.offs 8388607 20 [(16, 36), (17, 37), (18, 38), (19, 39), (20, 40), (21, 41), (22, 42)] (F := [(35, false)]) (U := []) kt8337 kp8338 (.cons rfl .nil) .nil ?_
      dsimp only [offS, List.map]
      refine RD.vP 23 16777215 kt8337 rfl kp8338 .plain (fun _ => FV.pick_f rfl rfl) rfl ?_
      refine RD.vP 24 33554431 kt8337 rfl kp8338 .plain (fun _ => FV.move rfl) rfl ?_
      refine RD.offs 4294967295 11 [(25, 45), (26, 46), (27, 47), (28, 48), (29, 49), (30, 50), (31, 51)] (F := [(44, false)]) (U := []) kt8337 kp8338 (.cons rfl .nil) .nil ?_
      dsimp only [offS, List.map]
      refine RD.vP 32 8589934591 kt8337 rfl kp8338 .plain (fun _ => FV.pick_f rfl rfl) rfl ?_
      refine RD.vP 33 17179869183 kt8337 rfl kp8338 .plain (fun _ => FV.move rfl) rfl ?_
      refine RD.offs 2199023255551 2 [(34, 54), (35, 55), (36, 56), (37, 57), (38, 58), (39, 59), (40, 60)] (F := [(53, false)]) (U := []) kt8337 kp8338 (.cons rfl .nil) .nil ?_
      dsimp only [offS, List.map]
      refine RD.vP 41 4398046511103 kt8337 rfl kp8338 .plain (fun _ => FV.pick_f rfl rfl) rfl ?_
      refine RD.vP 42 8796093022207 kt8337 rfl kp8338 .plain (fun _ => FV.assign rfl) rfl ?_
      refine RD.done (doneD_ok kt8337 (by kernel_rfl)) ?_
      have hS15834 : St _ _ [.cells b38 [.int .i64 2, (.slice (some ⟨b32, 0, none⟩) 1 1)] 40, .row w.heap.size 46 (Rep.size (Int × Int)) (.slice (some ⟨b32, 0, none⟩) 1 1) (([(1, 0)] : List (Int × Int)).length) [.int .i64 1, .int .i64 0], .cells b20 [.int .u64 1099511627776] 37, .cells b15 [.int .i64 y3.fN, v9] 40] := hS9571.arr (.one (.tl .hd) (.one (.tl .hd) (.one (.tl .hd) (.one (.tl .hd) .done))))
      have hT15835 : Tr w9568 _ w9568 [.cells b38 [.int .i64 2, (.slice (some ⟨b32, 0, none⟩) 1 1)] 40, .row w.heap.size 46 (Rep.size (Int × Int)) (.slice (some ⟨b32, 0, none⟩) 1 1) (([(1, 0)] : List (Int × Int)).length) [.int .i64 1, .int .i64 0], .cells b20 [.int .u64 1099511627776] 37, .cells b15 [.int .i64 y3.fN, v9] 40] := Tr.arr (St.arrOf hS9571 (.one (.tl .hd) (.one (.tl .hd) (.one (.tl .hd) (.one (.tl .hd) .done)))))
      exact hJ7540 false _ _ ⟨rfl, rfl, rfl, rfl, trivial⟩ ⟨hS15834, (Tr.trans hT9561 (Tr.trans hT9566 (Tr.trans hT9572 hT15835)))⟩ h
    ·skip
     intro hJ15836
     refine RD.each [0, 1] (readyD_ok kt8337 (by kernel_rfl)) ⟨?_, ?_, trivial⟩
     ·skip
      refine RO.call (m' := 1) (fst := []) (cap := []) (stepC_ok kt8337 (by kernel_rfl)) rfl .plain body19 rfl (evs_cons rfl evs_nil) (fun w9 hw9 => Calls.gives (wardmotelaw31_fails_c n _ w9 (hS40.hL hL hw9) 3) fun (w8 : World) (u8 : Value) ⟨b0_, hu_, s_⟩ => (⟨b0_, hu_, s_.from hw9⟩ : ∃ b8640 : Nat, u8 = Value.func (.func 37) #[] #[.pointer (some ⟨b8640, 0, none⟩)] ∧ St w39 w8 [.cells b8640 [.int .i64 3] 27])) rfl (fun w8641 vu8642 hag8643 ⟨b8640, hu8645, s8644⟩ => ?_)
      subst hu8645
      have hS8646 : St w w8641 [.cells b8640 [.int .i64 3] 27, .cells b38 [.int .i64 2, (.slice (some ⟨b32, 0, none⟩) 1 1)] 40, .row w.heap.size 46 (Rep.size (Int × Int)) (.slice (some ⟨b32, 0, none⟩) 1 1) (([(1, 0)] : List (Int × Int)).length) [.int .i64 1, .int .i64 0], .cells b20 [.int .u64 1099511627776] 37, .cells b15 [.int .i64 y3.fN, v9] 40] := St.merge hS40 s8644
      have hT8647 : Tr w39 [.cells b38 [.int .i64 2, (.slice (some ⟨b32, 0, none⟩) 1 1)] 40, .row w.heap.size 46 (Rep.size (Int × Int)) (.slice (some ⟨b32, 0, none⟩) 1 1) (([(1, 0)] : List (Int × Int)).length) [.int .i64 1, .int .i64 0], .cells b20 [.int .u64 1099511627776] 37, .cells b15 [.int .i64 y3.fN, v9] 40] w8641 [.cells b8640 [.int .i64 3] 27, .cells b38 [.int .i64 2, (.slice (some ⟨b32, 0, none⟩) 1 1)] 40, .row w.heap.size 46 (Rep.size (Int × Int)) (.slice (some ⟨b32, 0, none⟩) 1 1) (([(1, 0)] : List (Int × Int)).length) [.int .i64 1, .int .i64 0], .cells b20 [.int .u64 1099511627776] 37, .cells b15 [.int .i64 y3.fN, v9] 40] := Tr.merge hS40 s8644
      refine RD.one (i := 1) (readyD_ok kt8337 (by kernel_rfl)) (RO.does (m' := 3) (stepC_ok kt8337 (by kernel_rfl)) rfl .plain rfl (Does.mkH (α := Int) (L := L) hxs8949 hS8646 el22 rfl (fun _ _ => rfl)) (fun v8953 w8950 ⟨cs8954, hS8951, hT8952, hc8955⟩ => ?_))
      exact hJ15836 (v8953, cs8954, b8640) _ _ ⟨rfl, rfl, rfl, rfl, rfl, trivial⟩ ⟨hS8951, (Tr.trans hT8647 hT8952), hc8955⟩
     ·skip
      refine RO.does (m' := 2) (stepC_ok kt8337 (by kernel_rfl)) rfl .plain rfl (Does.mkH (α := Int) (L := L) hxs8949 hS40 el22 rfl (fun _ _ => rfl)) (fun v8953 w8950 ⟨cs8954, hS8951, hT8952, hc8955⟩ => ?_)
      refine RD.one (i := 0) (readyD_ok kt8337 (by kernel_rfl)) (RO.call (m' := 3) (fst := []) (cap := []) (stepC_ok kt8337 (by kernel_rfl)) rfl .plain body19 rfl (evs_cons rfl evs_nil) (fun w9 hw9 => Calls.gives (wardmotelaw31_fails_c n _ w9 (hS8951.hL hL hw9) 3) fun (w8 : World) (u8 : Value) ⟨b0_, hu_, s_⟩ => (⟨b0_, hu_, s_.from hw9⟩ : ∃ b8640 : Nat, u8 = Value.func (.func 37) #[] #[.pointer (some ⟨b8640, 0, none⟩)] ∧ St w8950 w8 [.cells b8640 [.int .i64 3] 27])) rfl (fun w8641 vu8642 hag8643 ⟨b8640, hu8645, s8644⟩ => ?_))
      subst hu8645
      have hS8646 : St w w8641 [.cells b8640 [.int .i64 3] 27, .row w.heap.size 3 (Rep.size Int) v8953 xs8949.length cs8954, .cells b38 [.int .i64 2, (.slice (some ⟨b32, 0, none⟩) 1 1)] 40, .row w.heap.size 46 (Rep.size (Int × Int)) (.slice (some ⟨b32, 0, none⟩) 1 1) (([(1, 0)] : List (Int × Int)).length) [.int .i64 1, .int .i64 0], .cells b20 [.int .u64 1099511627776] 37, .cells b15 [.int .i64 y3.fN, v9] 40] := St.merge hS8951 s8644
      have hT8647 : Tr w8950 [.row w.heap.size 3 (Rep.size Int) v8953 xs8949.length cs8954, .cells b38 [.int .i64 2, (.slice (some ⟨b32, 0, none⟩) 1 1)] 40, .row w.heap.size 46 (Rep.size (Int × Int)) (.slice (some ⟨b32, 0, none⟩) 1 1) (([(1, 0)] : List (Int × Int)).length) [.int .i64 1, .int .i64 0], .cells b20 [.int .u64 1099511627776] 37, .cells b15 [.int .i64 y3.fN, v9] 40] w8641 [.cells b8640 [.int .i64 3] 27, .row w.heap.size 3 (Rep.size Int) v8953 xs8949.length cs8954, .cells b38 [.int .i64 2, (.slice (some ⟨b32, 0, none⟩) 1 1)] 40, .row w.heap.size 46 (Rep.size (Int × Int)) (.slice (some ⟨b32, 0, none⟩) 1 1) (([(1, 0)] : List (Int × Int)).length) [.int .i64 1, .int .i64 0], .cells b20 [.int .u64 1099511627776] 37, .cells b15 [.int .i64 y3.fN, v9] 40] := Tr.merge hS8951 s8644
      have hS15837 : St _ _ [.row w.heap.size 3 (Rep.size Int) v8953 xs8949.length cs8954, .cells b8640 [.int .i64 3] 27, .cells b38 [.int .i64 2, (.slice (some ⟨b32, 0, none⟩) 1 1)] 40, .row w.heap.size 46 (Rep.size (Int × Int)) (.slice (some ⟨b32, 0, none⟩) 1 1) (([(1, 0)] : List (Int × Int)).length) [.int .i64 1, .int .i64 0], .cells b20 [.int .u64 1099511627776] 37, .cells b15 [.int .i64 y3.fN, v9] 40] := hS8646.arr (.one (.tl .hd) (.one .hd (.one .hd (.one .hd (.one .hd (.one .hd .done))))))
      have hT15838 : Tr w8641 _ w8641 [.row w.heap.size 3 (Rep.size Int) v8953 xs8949.length cs8954, .cells b8640 [.int .i64 3] 27, .cells b38 [.int .i64 2, (.slice (some ⟨b32, 0, none⟩) 1 1)] 40, .row w.heap.size 46 (Rep.size (Int × Int)) (.slice (some ⟨b32, 0, none⟩) 1 1) (([(1, 0)] : List (Int × Int)).length) [.int .i64 1, .int .i64 0], .cells b20 [.int .u64 1099511627776] 37, .cells b15 [.int .i64 y3.fN, v9] 40] := Tr.arr (St.arrOf hS8646 (.one (.tl .hd) (.one .hd (.one .hd (.one .hd (.one .hd (.one .hd .done)))))))
      have hm15839 := Cells.mv hc8955 (Tr.trans hT8647 hT15838)
      exact hJ15836 (v8953, cs8954, b8640) _ _ ⟨rfl, rfl, rfl, rfl, rfl, trivial⟩ ⟨hS15837, (Tr.trans hT8952 (Tr.trans hT8647 hT15838)), hm15839⟩
  ·skip
   refine MX.seq ?_
   refine MX.region ?_
   refine RG.val' .plain (FV.assign rfl) rfl ?_
   refine RG.nil ?_
   refine MX.ret rfl ?_
   refine RT.leave (u := .bool false) hb0 Tryd.func5 rfl (.cons (.tmp rfl) .nil) rfl ?_
   obtain rfl := Option.some.inj h
   exact ⟨hS0.ag, fun w9 hw9 => rfl⟩
end Go.Proofs.YtplkfbljncfdnaaDoor
