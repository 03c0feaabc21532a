/- The waves that rows of up to 256 lean on: a table, by whole numbers. Nothing of a program stands here. -/
import Derived.Test.YtaakbajhbmbhcaaDoorFe41
set_option linter.unusedSimpArgs false
set_option linter.unusedVariables false
namespace Go.Fe
open Ieee Fl

/-! Two hundred and fifty-six waves. -/
def tcN : Nat := 223052260074297296066300838348434365655173553979659237609335502342893730998616203621276195733978691345378433889262961294957107988884090774867036621381639653851917395159116708198187660837958400694877717596459044670319452609961329873246872527832782249704775691891435831423901734821901592552265825462603301536240071497834186636994170484712702224738517199586547204099982822827810559083921006946252203312038317244271045015729451517865999665164247333706865999287251277026556384562697584822222491934465686460015164386035294383734797616382885645501860582281369805289567708647094313898189136876354997379116743623540301238912405850379342246369305155602985298060628043714106116186989504820480156922514302587455125721463345079923607541800824699471208379894404675981775444825108182118353256850754806418303679831396691959769966360077316122261551969482007272727645092399081422662861849118506767135721025882117721060870240230862733370826622170587713126228532361326329850272762049574962234446482886739860670225073086425764994703966662326274220067698594445542884538240822405086485881878271427600557409366879047380958369686093192960284730016680617518811997573404434336450751446592136792863630305773563280441056397794725445299775287115509934079909391799241524209001080498129884205675240939838007117028105580052816283288825103818064804897002811210458569342696505366424290312819722283227687469762765430262575850908277909472935470000059565040402166532876125006784571359981402032864555862127053128060823262195217030775496276062216579849672038891732304127519992228126625903965028515556850883374850905611504151267941683630790073142963428166820617347561105466229940274072936870668759795421534864145360683400643567089815926869636248699739261610949099121571994299082014498108056862096810352439606348776048268595457554311434292065575795482078134240736477502281662373284012391664147350171697688225875573189653479320077553698917262897132071579790267890361263724432793429132776425024779274451635816075177837804697920482082063181679564052632146434283009572263417206442993756262715125180431553599393570769304078646885874989898946097697584564013529464802435714148417767236079272392165047508844488987445474263311414917789202018583292206935344540097901786372614358338228817158361253699760406777575690596478691955043298396165639287223216296182221599885810713405948639173646685411101069955464520572191655163201730781096752993888004288852957772724648101542874453684389094449014129650462190835228637999451051793637952896170080075060576579758163282695072162864297568590930530027311108702474879034046320789612222317208041419155776533529506430549964575319161873529780042270493585207860591517514110415026104396678568422313354419026226525689742133586621836626804713591262464286063551945111334891812030269291820135546180936582162632216601850541950905528610895243643032870752228851586916435276521664376647395701232128600133961007723504589079536544275942519223488304990409212622985220671897797563320439643323049446301784384326750673178257054094204063882964980124050721115087257234641568054765576014607923396942318238435531218240769975087068825908540781121837177908615143718441564732225535659924551702583676892703998932489977653187594820040268129503514901917380540960120832367785927530649470972676678122323787860671365352268095246738331438695660592805072884955608296550093754282046688037523543505379940595592259512592035830633284676318962624843219129903109110731978845792047290221225850661871632023089367854139491023794138812272437114445113883749732246042662074567158153724519275627893907042336362208178818560150187645564896639371829599711833675283784483944732249467110455031320041314144493237558336501104561425972162339800485891472491670701862880551565359472699904380494802297186671714183546334293994508578592840116494936083554848831830493060917014947507396286139078780901174115326015030410900126960238983774722700865130721205963529236043416560391385965266725609731353380957941684780529887517834015834444812728692642901295660369025305074693088952600129507052796767684214353929459928709256595975920000416848560577125314508317404679554327935880426089707657378291490846739572099321440439436754093711951239790738923903669073583465248810871958020067181441753288625244844537088655195645807516755195944903693271806578424648146432475896015070366713915165779533085872610692872948823578189290164761386581911082524852952988120643610116598948104095401595221569206153147506558907030584318571971431157285396113254050103511164310430310242514055488024925782520095021935929637429124060801456952508932046800070006600784760956248555125139402173779308784697426877946989736326173758622859288534838242658146820472586013495326189237306213229360345252156702047723380216135644082945563714719235435936465764736521736250918840305159188326184940466553730678226763046725047708668351493814776526650252688116329168979631588628531930225623198154675472905277975599487822341219159141349054640391341968026823192215552
def tsN : Nat := 146891594887874721600722940838703383405509894680758543628900221094767830984438400966988418099870495011647283867738500556772430186276379427788246419063093483065623529337379102691487407772762023651544953503944970024775700678709339851012795066165500066225973451491261737070056804392538028188992597729187780381508152096074774408273774673842263815264015996117954423808649563905889876670675476541160229715687185914609491934341353655767358926956628507653382117322733038158811953900633434659139345707337608429624598350369857551906927971217179716513073556095964827651843914875798390498705485074152906038556586041291502333214172588410365923784173479382367425513189182426161885043080285082164743546018286593284953363731991037694022817925771210418625261058400965567423178283910728878300232511820778961167366502453181076955070974524989269324298803907101928576489055407669010511513376143336145673359820306685288930873988782620366771225235247705994323298183869657340229156773356483018295969973428765929100336783930929130878078014204233973946860959127693068999783488698713915360056048007447586886432125346733302570933626833961150316670311304626355270312311406745404239608463454478577533803342871443806232422971013184746757995063752920427797018899661956973654621828263457549434715914796897744355360408114131723859382661033921672364413238311249599871592022297247207575640054768549373664097848100953123040123960861634978167964387615549211239504069248394531638494596369576803081138510978969415058532146779266946917138945322420365564460650842707920779847928538327566035402217042210659142976190826518146646982733386194798193312423518639488696336297975404698732860213341872459270858895743999775894451646760143988218370029964358430982959952996088661228661236262631915894706862222808319280307147928916498377973690897754723076937649391662681214780015321475731319126954855293752218672408495863080083749566531894900306487194535002758310782340938060342420152608152030362030645158886827599404026696045036314894455452689960083628997580505699837712757358279103237693670583359930941749044200078882885286567260175517561127713705740591652885148507669839996151650034875586684761210790715012718679794584348705310291623879690701697173865485137068669598973695700373023802374552709119813785095772986433152403307498648527704151045176563759677587908270560390142454925474032746670468176050021505797657264960513683421706685244095036409878252688217117985228630179181414521644788188621838764952642084619909692493730998786213441563397873636726154638832480244059367167617241528962936455827721518420348424433628417753190119878635287205024990025110599995636953093222850695279685807301849862921431261794838318081610569993022391535688873371492682606076379709381401131430739386184079854569618073056461950866116561618199553234573738954571283027452854247493855611326814835469234637252139574659207913186716681929309938472165312787699442444818697203546804717538398419755924133684755604817017793884630766842902435510006086663553455889261786564765432008058594661652203513671608388324032462345775501064086360095077731780479313055980454453697283173073459482829878837737669007062390157465292193869982989218656907477007003764298667229547034206264500351401951062074656638133413356092257847915875221929154059575364761952110540562717488439557148498041831546567344780599535815922577034610657360416491692895660880891353557564876191212229209897396533275545170755864876941062685299667428747578709117334072576766185570817156374972513455070548537379203595659223156525578698475358585087571772119467687894895355602035641111105668304441354606272776772245475942241548204244204976216356808347015094840122191526441437963590454536419476209317398045940778689199843491009616936939386159249730032835966245149870060567028879211238666216641274071333521173027379428055306522777683591731566776786117923678021786564619996256116745527429804598573545739530326670701836807353552330400300306371700487971728916800458268956470482218906395555951429524691562397902071358619377279024118085585895822277796129421920307839479820505269312900997304243421989840724471345126890403533279924245734367122159700047417800234023284880436182768538906188009874424380756449058828430249499102003090832645446968173799850316481189484636522528631883779549687938377238801189327353381788498119359923484363019499288898774542923054318068340510353500783731961520736149048332784330327657970196630398165223572571329744227664936645871812439930937468167439530723527336665238472787267949899397207048452289145780007748791947079473277017096313050222471015949944072489845659674585193680969357658479574518182374561225517795334598763656674979361800984163896880672783422885661231707364972885600351873539195019493530556849881189774476944221348455314296812185047497156061983794204247557449545864193472773693189085638438805533485850212492331124806716861367171619105145042390418554779294090657958431781825882855651701134949218474353631829108780516157901731467332943872
def cI (m : Nat) : Int := ((tcN / 2 ^ (64 * (m % 256)) % 2 ^ 64 : Nat) : Int) - 2305843009213693952
def sI (m : Nat) : Int := ((tsN / 2 ^ (64 * (m % 256)) % 2 ^ 64 : Nat) : Int) - 2305843009213693952
def allB (f : Nat → Bool) : Nat → Bool
  | 0 => true
  | n + 1 => f n && allB f n
theorem allB_all {f : Nat → Bool} : ∀ {n : Nat}, allB f n = true → ∀ k, k < n → f k = true
  | n + 1, h, k, hk => by
    unfold allB at h
    rw [Bool.and_eq_true] at h
    rcases Nat.lt_succ_iff_lt_or_eq.1 hk with h1 | h1
    · exact allB_all h.2 k h1
    · rw [h1]; exact h.1
def tC (m : Nat) : Rat := (cI m : Rat) * two (-60)
def tS (m : Nat) : Rat := (sI m : Rat) * two (-60)
def wordB (X Y : Option Nat) (C S : Rat) : Bool := match X, Y with
  | some c, some s => fnB c && fnB s && decide (V c = C) && decide (V s = S)
  | _, _ => false
theorem wordB_get {X Y : Option Nat} {C S : Rat} (h : wordB X Y C S = true) : ∃ c s, X = some c ∧ Y = some s ∧ Fn c ∧ Fn s ∧ V c = C ∧ V s = S := by
  cases X with
  | none => cases h
  | some c => cases Y with
    | none => cases h
    | some s =>
      unfold wordB at h
      simp only [Bool.and_eq_true, decide_eq_true_eq] at h
      exact ⟨c, s, rfl, rfl, fn_of h.1.1.1, fn_of h.1.1.2, h.1.2, h.2⟩
def waveB (m : Nat) : Bool := wordB (Tr.cosA ((5062500000 * m : Nat) : Int)) (Tr.sinA ((5062500000 * m : Nat) : Int)) (tC m) (tS m)
theorem wave_0 : waveB 0 = true := by decide +kernel
theorem wave_1 : waveB 1 = true := by decide +kernel
theorem wave_2 : waveB 2 = true := by decide +kernel
theorem wave_3 : waveB 3 = true := by decide +kernel
theorem wave_4 : waveB 4 = true := by decide +kernel
theorem wave_5 : waveB 5 = true := by decide +kernel
theorem wave_6 : waveB 6 = true := by decide +kernel
theorem wave_7 : waveB 7 = true := by decide +kernel
theorem wave_8 : waveB 8 = true := by decide +kernel
theorem wave_9 : waveB 9 = true := by decide +kernel
theorem wave_10 : waveB 10 = true := by decide +kernel
theorem wave_11 : waveB 11 = true := by decide +kernel
theorem wave_12 : waveB 12 = true := by decide +kernel
theorem wave_13 : waveB 13 = true := by decide +kernel
theorem wave_14 : waveB 14 = true := by decide +kernel
theorem wave_15 : waveB 15 = true := by decide +kernel
theorem wave_16 : waveB 16 = true := by decide +kernel
theorem wave_17 : waveB 17 = true := by decide +kernel
theorem wave_18 : waveB 18 = true := by decide +kernel
theorem wave_19 : waveB 19 = true := by decide +kernel
theorem wave_20 : waveB 20 = true := by decide +kernel
theorem wave_21 : waveB 21 = true := by decide +kernel
theorem wave_22 : waveB 22 = true := by decide +kernel
theorem wave_23 : waveB 23 = true := by decide +kernel
theorem wave_24 : waveB 24 = true := by decide +kernel
theorem wave_25 : waveB 25 = true := by decide +kernel
theorem wave_26 : waveB 26 = true := by decide +kernel
theorem wave_27 : waveB 27 = true := by decide +kernel
theorem wave_28 : waveB 28 = true := by decide +kernel
theorem wave_29 : waveB 29 = true := by decide +kernel
theorem wave_30 : waveB 30 = true := by decide +kernel
theorem wave_31 : waveB 31 = true := by decide +kernel
theorem wave_32 : waveB 32 = true := by decide +kernel
theorem wave_33 : waveB 33 = true := by decide +kernel
theorem wave_34 : waveB 34 = true := by decide +kernel
theorem wave_35 : waveB 35 = true := by decide +kernel
theorem wave_36 : waveB 36 = true := by decide +kernel
theorem wave_37 : waveB 37 = true := by decide +kernel
theorem wave_38 : waveB 38 = true := by decide +kernel
theorem wave_39 : waveB 39 = true := by decide +kernel
theorem wave_40 : waveB 40 = true := by decide +kernel
theorem wave_41 : waveB 41 = true := by decide +kernel
theorem wave_42 : waveB 42 = true := by decide +kernel
theorem wave_43 : waveB 43 = true := by decide +kernel
theorem wave_44 : waveB 44 = true := by decide +kernel
theorem wave_45 : waveB 45 = true := by decide +kernel
theorem wave_46 : waveB 46 = true := by decide +kernel
theorem wave_47 : waveB 47 = true := by decide +kernel
theorem wave_48 : waveB 48 = true := by decide +kernel
theorem wave_49 : waveB 49 = true := by decide +kernel
theorem wave_50 : waveB 50 = true := by decide +kernel
theorem wave_51 : waveB 51 = true := by decide +kernel
theorem wave_52 : waveB 52 = true := by decide +kernel
theorem wave_53 : waveB 53 = true := by decide +kernel
theorem wave_54 : waveB 54 = true := by decide +kernel
theorem wave_55 : waveB 55 = true := by decide +kernel
theorem wave_56 : waveB 56 = true := by decide +kernel
theorem wave_57 : waveB 57 = true := by decide +kernel
theorem wave_58 : waveB 58 = true := by decide +kernel
theorem wave_59 : waveB 59 = true := by decide +kernel
theorem wave_60 : waveB 60 = true := by decide +kernel
theorem wave_61 : waveB 61 = true := by decide +kernel
theorem wave_62 : waveB 62 = true := by decide +kernel
theorem wave_63 : waveB 63 = true := by decide +kernel
theorem wave_64 : waveB 64 = true := by decide +kernel
theorem wave_65 : waveB 65 = true := by decide +kernel
theorem wave_66 : waveB 66 = true := by decide +kernel
theorem wave_67 : waveB 67 = true := by decide +kernel
theorem wave_68 : waveB 68 = true := by decide +kernel
theorem wave_69 : waveB 69 = true := by decide +kernel
theorem wave_70 : waveB 70 = true := by decide +kernel
theorem wave_71 : waveB 71 = true := by decide +kernel
theorem wave_72 : waveB 72 = true := by decide +kernel
theorem wave_73 : waveB 73 = true := by decide +kernel
theorem wave_74 : waveB 74 = true := by decide +kernel
theorem wave_75 : waveB 75 = true := by decide +kernel
theorem wave_76 : waveB 76 = true := by decide +kernel
theorem wave_77 : waveB 77 = true := by decide +kernel
theorem wave_78 : waveB 78 = true := by decide +kernel
theorem wave_79 : waveB 79 = true := by decide +kernel
theorem wave_80 : waveB 80 = true := by decide +kernel
theorem wave_81 : waveB 81 = true := by decide +kernel
theorem wave_82 : waveB 82 = true := by decide +kernel
theorem wave_83 : waveB 83 = true := by decide +kernel
theorem wave_84 : waveB 84 = true := by decide +kernel
theorem wave_85 : waveB 85 = true := by decide +kernel
theorem wave_86 : waveB 86 = true := by decide +kernel
theorem wave_87 : waveB 87 = true := by decide +kernel
theorem wave_88 : waveB 88 = true := by decide +kernel
theorem wave_89 : waveB 89 = true := by decide +kernel
theorem wave_90 : waveB 90 = true := by decide +kernel
theorem wave_91 : waveB 91 = true := by decide +kernel
theorem wave_92 : waveB 92 = true := by decide +kernel
theorem wave_93 : waveB 93 = true := by decide +kernel
theorem wave_94 : waveB 94 = true := by decide +kernel
theorem wave_95 : waveB 95 = true := by decide +kernel
theorem wave_96 : waveB 96 = true := by decide +kernel
theorem wave_97 : waveB 97 = true := by decide +kernel
theorem wave_98 : waveB 98 = true := by decide +kernel
theorem wave_99 : waveB 99 = true := by decide +kernel
theorem wave_100 : waveB 100 = true := by decide +kernel
theorem wave_101 : waveB 101 = true := by decide +kernel
theorem wave_102 : waveB 102 = true := by decide +kernel
theorem wave_103 : waveB 103 = true := by decide +kernel
theorem wave_104 : waveB 104 = true := by decide +kernel
theorem wave_105 : waveB 105 = true := by decide +kernel
theorem wave_106 : waveB 106 = true := by decide +kernel
theorem wave_107 : waveB 107 = true := by decide +kernel
theorem wave_108 : waveB 108 = true := by decide +kernel
theorem wave_109 : waveB 109 = true := by decide +kernel
theorem wave_110 : waveB 110 = true := by decide +kernel
theorem wave_111 : waveB 111 = true := by decide +kernel
theorem wave_112 : waveB 112 = true := by decide +kernel
theorem wave_113 : waveB 113 = true := by decide +kernel
theorem wave_114 : waveB 114 = true := by decide +kernel
theorem wave_115 : waveB 115 = true := by decide +kernel
theorem wave_116 : waveB 116 = true := by decide +kernel
theorem wave_117 : waveB 117 = true := by decide +kernel
theorem wave_118 : waveB 118 = true := by decide +kernel
theorem wave_119 : waveB 119 = true := by decide +kernel
theorem wave_120 : waveB 120 = true := by decide +kernel
theorem wave_121 : waveB 121 = true := by decide +kernel
theorem wave_122 : waveB 122 = true := by decide +kernel
theorem wave_123 : waveB 123 = true := by decide +kernel
theorem wave_124 : waveB 124 = true := by decide +kernel
theorem wave_125 : waveB 125 = true := by decide +kernel
theorem wave_126 : waveB 126 = true := by decide +kernel
theorem wave_127 : waveB 127 = true := by decide +kernel
theorem wave_128 : waveB 128 = true := by decide +kernel
theorem wave_129 : waveB 129 = true := by decide +kernel
theorem wave_130 : waveB 130 = true := by decide +kernel
theorem wave_131 : waveB 131 = true := by decide +kernel
theorem wave_132 : waveB 132 = true := by decide +kernel
theorem wave_133 : waveB 133 = true := by decide +kernel
theorem wave_134 : waveB 134 = true := by decide +kernel
theorem wave_135 : waveB 135 = true := by decide +kernel
theorem wave_136 : waveB 136 = true := by decide +kernel
theorem wave_137 : waveB 137 = true := by decide +kernel
theorem wave_138 : waveB 138 = true := by decide +kernel
theorem wave_139 : waveB 139 = true := by decide +kernel
theorem wave_140 : waveB 140 = true := by decide +kernel
theorem wave_141 : waveB 141 = true := by decide +kernel
theorem wave_142 : waveB 142 = true := by decide +kernel
theorem wave_143 : waveB 143 = true := by decide +kernel
theorem wave_144 : waveB 144 = true := by decide +kernel
theorem wave_145 : waveB 145 = true := by decide +kernel
theorem wave_146 : waveB 146 = true := by decide +kernel
theorem wave_147 : waveB 147 = true := by decide +kernel
theorem wave_148 : waveB 148 = true := by decide +kernel
theorem wave_149 : waveB 149 = true := by decide +kernel
theorem wave_150 : waveB 150 = true := by decide +kernel
theorem wave_151 : waveB 151 = true := by decide +kernel
theorem wave_152 : waveB 152 = true := by decide +kernel
theorem wave_153 : waveB 153 = true := by decide +kernel
theorem wave_154 : waveB 154 = true := by decide +kernel
theorem wave_155 : waveB 155 = true := by decide +kernel
theorem wave_156 : waveB 156 = true := by decide +kernel
theorem wave_157 : waveB 157 = true := by decide +kernel
theorem wave_158 : waveB 158 = true := by decide +kernel
theorem wave_159 : waveB 159 = true := by decide +kernel
theorem wave_160 : waveB 160 = true := by decide +kernel
theorem wave_161 : waveB 161 = true := by decide +kernel
theorem wave_162 : waveB 162 = true := by decide +kernel
theorem wave_163 : waveB 163 = true := by decide +kernel
theorem wave_164 : waveB 164 = true := by decide +kernel
theorem wave_165 : waveB 165 = true := by decide +kernel
theorem wave_166 : waveB 166 = true := by decide +kernel
theorem wave_167 : waveB 167 = true := by decide +kernel
theorem wave_168 : waveB 168 = true := by decide +kernel
theorem wave_169 : waveB 169 = true := by decide +kernel
theorem wave_170 : waveB 170 = true := by decide +kernel
theorem wave_171 : waveB 171 = true := by decide +kernel
theorem wave_172 : waveB 172 = true := by decide +kernel
theorem wave_173 : waveB 173 = true := by decide +kernel
theorem wave_174 : waveB 174 = true := by decide +kernel
theorem wave_175 : waveB 175 = true := by decide +kernel
theorem wave_176 : waveB 176 = true := by decide +kernel
theorem wave_177 : waveB 177 = true := by decide +kernel
theorem wave_178 : waveB 178 = true := by decide +kernel
theorem wave_179 : waveB 179 = true := by decide +kernel
theorem wave_180 : waveB 180 = true := by decide +kernel
theorem wave_181 : waveB 181 = true := by decide +kernel
theorem wave_182 : waveB 182 = true := by decide +kernel
theorem wave_183 : waveB 183 = true := by decide +kernel
theorem wave_184 : waveB 184 = true := by decide +kernel
theorem wave_185 : waveB 185 = true := by decide +kernel
theorem wave_186 : waveB 186 = true := by decide +kernel
theorem wave_187 : waveB 187 = true := by decide +kernel
theorem wave_188 : waveB 188 = true := by decide +kernel
theorem wave_189 : waveB 189 = true := by decide +kernel
theorem wave_190 : waveB 190 = true := by decide +kernel
theorem wave_191 : waveB 191 = true := by decide +kernel
theorem wave_192 : waveB 192 = true := by decide +kernel
theorem wave_193 : waveB 193 = true := by decide +kernel
theorem wave_194 : waveB 194 = true := by decide +kernel
theorem wave_195 : waveB 195 = true := by decide +kernel
theorem wave_196 : waveB 196 = true := by decide +kernel
theorem wave_197 : waveB 197 = true := by decide +kernel
theorem wave_198 : waveB 198 = true := by decide +kernel
theorem wave_199 : waveB 199 = true := by decide +kernel
theorem wave_200 : waveB 200 = true := by decide +kernel
theorem wave_201 : waveB 201 = true := by decide +kernel
theorem wave_202 : waveB 202 = true := by decide +kernel
theorem wave_203 : waveB 203 = true := by decide +kernel
theorem wave_204 : waveB 204 = true := by decide +kernel
theorem wave_205 : waveB 205 = true := by decide +kernel
theorem wave_206 : waveB 206 = true := by decide +kernel
theorem wave_207 : waveB 207 = true := by decide +kernel
theorem wave_208 : waveB 208 = true := by decide +kernel
theorem wave_209 : waveB 209 = true := by decide +kernel
theorem wave_210 : waveB 210 = true := by decide +kernel
theorem wave_211 : waveB 211 = true := by decide +kernel
theorem wave_212 : waveB 212 = true := by decide +kernel
theorem wave_213 : waveB 213 = true := by decide +kernel
theorem wave_214 : waveB 214 = true := by decide +kernel
theorem wave_215 : waveB 215 = true := by decide +kernel
theorem wave_216 : waveB 216 = true := by decide +kernel
theorem wave_217 : waveB 217 = true := by decide +kernel
theorem wave_218 : waveB 218 = true := by decide +kernel
theorem wave_219 : waveB 219 = true := by decide +kernel
theorem wave_220 : waveB 220 = true := by decide +kernel
theorem wave_221 : waveB 221 = true := by decide +kernel
theorem wave_222 : waveB 222 = true := by decide +kernel
theorem wave_223 : waveB 223 = true := by decide +kernel
theorem wave_224 : waveB 224 = true := by decide +kernel
theorem wave_225 : waveB 225 = true := by decide +kernel
theorem wave_226 : waveB 226 = true := by decide +kernel
theorem wave_227 : waveB 227 = true := by decide +kernel
theorem wave_228 : waveB 228 = true := by decide +kernel
theorem wave_229 : waveB 229 = true := by decide +kernel
theorem wave_230 : waveB 230 = true := by decide +kernel
theorem wave_231 : waveB 231 = true := by decide +kernel
theorem wave_232 : waveB 232 = true := by decide +kernel
theorem wave_233 : waveB 233 = true := by decide +kernel
theorem wave_234 : waveB 234 = true := by decide +kernel
theorem wave_235 : waveB 235 = true := by decide +kernel
theorem wave_236 : waveB 236 = true := by decide +kernel
theorem wave_237 : waveB 237 = true := by decide +kernel
theorem wave_238 : waveB 238 = true := by decide +kernel
theorem wave_239 : waveB 239 = true := by decide +kernel
theorem wave_240 : waveB 240 = true := by decide +kernel
theorem wave_241 : waveB 241 = true := by decide +kernel
theorem wave_242 : waveB 242 = true := by decide +kernel
theorem wave_243 : waveB 243 = true := by decide +kernel
theorem wave_244 : waveB 244 = true := by decide +kernel
theorem wave_245 : waveB 245 = true := by decide +kernel
theorem wave_246 : waveB 246 = true := by decide +kernel
theorem wave_247 : waveB 247 = true := by decide +kernel
theorem wave_248 : waveB 248 = true := by decide +kernel
theorem wave_249 : waveB 249 = true := by decide +kernel
theorem wave_250 : waveB 250 = true := by decide +kernel
theorem wave_251 : waveB 251 = true := by decide +kernel
theorem wave_252 : waveB 252 = true := by decide +kernel
theorem wave_253 : waveB 253 = true := by decide +kernel
theorem wave_254 : waveB 254 = true := by decide +kernel
theorem wave_255 : waveB 255 = true := by decide +kernel
theorem waves_all : ∀ m : Nat, m < 256 → waveB m = true
  | 0, _ => wave_0
  | 1, _ => wave_1
  | 2, _ => wave_2
  | 3, _ => wave_3
  | 4, _ => wave_4
  | 5, _ => wave_5
  | 6, _ => wave_6
  | 7, _ => wave_7
  | 8, _ => wave_8
  | 9, _ => wave_9
  | 10, _ => wave_10
  | 11, _ => wave_11
  | 12, _ => wave_12
  | 13, _ => wave_13
  | 14, _ => wave_14
  | 15, _ => wave_15
  | 16, _ => wave_16
  | 17, _ => wave_17
  | 18, _ => wave_18
  | 19, _ => wave_19
  | 20, _ => wave_20
  | 21, _ => wave_21
  | 22, _ => wave_22
  | 23, _ => wave_23
  | 24, _ => wave_24
  | 25, _ => wave_25
  | 26, _ => wave_26
  | 27, _ => wave_27
  | 28, _ => wave_28
  | 29, _ => wave_29
  | 30, _ => wave_30
  | 31, _ => wave_31
  | 32, _ => wave_32
  | 33, _ => wave_33
  | 34, _ => wave_34
  | 35, _ => wave_35
  | 36, _ => wave_36
  | 37, _ => wave_37
  | 38, _ => wave_38
  | 39, _ => wave_39
  | 40, _ => wave_40
  | 41, _ => wave_41
  | 42, _ => wave_42
  | 43, _ => wave_43
  | 44, _ => wave_44
  | 45, _ => wave_45
  | 46, _ => wave_46
  | 47, _ => wave_47
  | 48, _ => wave_48
  | 49, _ => wave_49
  | 50, _ => wave_50
  | 51, _ => wave_51
  | 52, _ => wave_52
  | 53, _ => wave_53
  | 54, _ => wave_54
  | 55, _ => wave_55
  | 56, _ => wave_56
  | 57, _ => wave_57
  | 58, _ => wave_58
  | 59, _ => wave_59
  | 60, _ => wave_60
  | 61, _ => wave_61
  | 62, _ => wave_62
  | 63, _ => wave_63
  | 64, _ => wave_64
  | 65, _ => wave_65
  | 66, _ => wave_66
  | 67, _ => wave_67
  | 68, _ => wave_68
  | 69, _ => wave_69
  | 70, _ => wave_70
  | 71, _ => wave_71
  | 72, _ => wave_72
  | 73, _ => wave_73
  | 74, _ => wave_74
  | 75, _ => wave_75
  | 76, _ => wave_76
  | 77, _ => wave_77
  | 78, _ => wave_78
  | 79, _ => wave_79
  | 80, _ => wave_80
  | 81, _ => wave_81
  | 82, _ => wave_82
  | 83, _ => wave_83
  | 84, _ => wave_84
  | 85, _ => wave_85
  | 86, _ => wave_86
  | 87, _ => wave_87
  | 88, _ => wave_88
  | 89, _ => wave_89
  | 90, _ => wave_90
  | 91, _ => wave_91
  | 92, _ => wave_92
  | 93, _ => wave_93
  | 94, _ => wave_94
  | 95, _ => wave_95
  | 96, _ => wave_96
  | 97, _ => wave_97
  | 98, _ => wave_98
  | 99, _ => wave_99
  | 100, _ => wave_100
  | 101, _ => wave_101
  | 102, _ => wave_102
  | 103, _ => wave_103
  | 104, _ => wave_104
  | 105, _ => wave_105
  | 106, _ => wave_106
  | 107, _ => wave_107
  | 108, _ => wave_108
  | 109, _ => wave_109
  | 110, _ => wave_110
  | 111, _ => wave_111
  | 112, _ => wave_112
  | 113, _ => wave_113
  | 114, _ => wave_114
  | 115, _ => wave_115
  | 116, _ => wave_116
  | 117, _ => wave_117
  | 118, _ => wave_118
  | 119, _ => wave_119
  | 120, _ => wave_120
  | 121, _ => wave_121
  | 122, _ => wave_122
  | 123, _ => wave_123
  | 124, _ => wave_124
  | 125, _ => wave_125
  | 126, _ => wave_126
  | 127, _ => wave_127
  | 128, _ => wave_128
  | 129, _ => wave_129
  | 130, _ => wave_130
  | 131, _ => wave_131
  | 132, _ => wave_132
  | 133, _ => wave_133
  | 134, _ => wave_134
  | 135, _ => wave_135
  | 136, _ => wave_136
  | 137, _ => wave_137
  | 138, _ => wave_138
  | 139, _ => wave_139
  | 140, _ => wave_140
  | 141, _ => wave_141
  | 142, _ => wave_142
  | 143, _ => wave_143
  | 144, _ => wave_144
  | 145, _ => wave_145
  | 146, _ => wave_146
  | 147, _ => wave_147
  | 148, _ => wave_148
  | 149, _ => wave_149
  | 150, _ => wave_150
  | 151, _ => wave_151
  | 152, _ => wave_152
  | 153, _ => wave_153
  | 154, _ => wave_154
  | 155, _ => wave_155
  | 156, _ => wave_156
  | 157, _ => wave_157
  | 158, _ => wave_158
  | 159, _ => wave_159
  | 160, _ => wave_160
  | 161, _ => wave_161
  | 162, _ => wave_162
  | 163, _ => wave_163
  | 164, _ => wave_164
  | 165, _ => wave_165
  | 166, _ => wave_166
  | 167, _ => wave_167
  | 168, _ => wave_168
  | 169, _ => wave_169
  | 170, _ => wave_170
  | 171, _ => wave_171
  | 172, _ => wave_172
  | 173, _ => wave_173
  | 174, _ => wave_174
  | 175, _ => wave_175
  | 176, _ => wave_176
  | 177, _ => wave_177
  | 178, _ => wave_178
  | 179, _ => wave_179
  | 180, _ => wave_180
  | 181, _ => wave_181
  | 182, _ => wave_182
  | 183, _ => wave_183
  | 184, _ => wave_184
  | 185, _ => wave_185
  | 186, _ => wave_186
  | 187, _ => wave_187
  | 188, _ => wave_188
  | 189, _ => wave_189
  | 190, _ => wave_190
  | 191, _ => wave_191
  | 192, _ => wave_192
  | 193, _ => wave_193
  | 194, _ => wave_194
  | 195, _ => wave_195
  | 196, _ => wave_196
  | 197, _ => wave_197
  | 198, _ => wave_198
  | 199, _ => wave_199
  | 200, _ => wave_200
  | 201, _ => wave_201
  | 202, _ => wave_202
  | 203, _ => wave_203
  | 204, _ => wave_204
  | 205, _ => wave_205
  | 206, _ => wave_206
  | 207, _ => wave_207
  | 208, _ => wave_208
  | 209, _ => wave_209
  | 210, _ => wave_210
  | 211, _ => wave_211
  | 212, _ => wave_212
  | 213, _ => wave_213
  | 214, _ => wave_214
  | 215, _ => wave_215
  | 216, _ => wave_216
  | 217, _ => wave_217
  | 218, _ => wave_218
  | 219, _ => wave_219
  | 220, _ => wave_220
  | 221, _ => wave_221
  | 222, _ => wave_222
  | 223, _ => wave_223
  | 224, _ => wave_224
  | 225, _ => wave_225
  | 226, _ => wave_226
  | 227, _ => wave_227
  | 228, _ => wave_228
  | 229, _ => wave_229
  | 230, _ => wave_230
  | 231, _ => wave_231
  | 232, _ => wave_232
  | 233, _ => wave_233
  | 234, _ => wave_234
  | 235, _ => wave_235
  | 236, _ => wave_236
  | 237, _ => wave_237
  | 238, _ => wave_238
  | 239, _ => wave_239
  | 240, _ => wave_240
  | 241, _ => wave_241
  | 242, _ => wave_242
  | 243, _ => wave_243
  | 244, _ => wave_244
  | 245, _ => wave_245
  | 246, _ => wave_246
  | 247, _ => wave_247
  | 248, _ => wave_248
  | 249, _ => wave_249
  | 250, _ => wave_250
  | 251, _ => wave_251
  | 252, _ => wave_252
  | 253, _ => wave_253
  | 254, _ => wave_254
  | 255, _ => wave_255
  | n + 256, h => absurd h (by omega)
theorem wave_word {m : Nat} (h : m < 256) : ∃ c s, Tr.cosA ((5062500000 * m : Nat) : Int) = some c ∧ Tr.sinA ((5062500000 * m : Nat) : Int) = some s ∧ Fn c ∧ Fn s ∧ V c = tC m ∧ V s = tS m :=
  wordB_get (waves_all m h)
theorem cI_mod (m : Nat) : cI (m % 256) = cI m := by unfold cI; rw [Nat.mod_mod]
theorem sI_mod (m : Nat) : sI (m % 256) = sI m := by unfold sI; rw [Nat.mod_mod]
/-- Products of two waves: as whole numbers. -/
def mulB (a b : Nat) : Bool :=
  decide ((cI a * cI b - sI a * sI b - 1152921504606846976 * cI (a + b)) * (cI a * cI b - sI a * sI b - 1152921504606846976 * cI (a + b)) + (cI a * sI b + sI a * cI b - 1152921504606846976 * sI (a + b)) * (cI a * sI b + sI a * cI b - 1152921504606846976 * sI (a + b)) ≤ 136112946768375385385349842972707284582400)
theorem mul_0 : allB (fun a => allB (mulB (8 * 0 + a)) 256) 8 = true := by decide +kernel
theorem mul_1 : allB (fun a => allB (mulB (8 * 1 + a)) 256) 8 = true := by decide +kernel
theorem mul_2 : allB (fun a => allB (mulB (8 * 2 + a)) 256) 8 = true := by decide +kernel
theorem mul_3 : allB (fun a => allB (mulB (8 * 3 + a)) 256) 8 = true := by decide +kernel
theorem mul_4 : allB (fun a => allB (mulB (8 * 4 + a)) 256) 8 = true := by decide +kernel
theorem mul_5 : allB (fun a => allB (mulB (8 * 5 + a)) 256) 8 = true := by decide +kernel
theorem mul_6 : allB (fun a => allB (mulB (8 * 6 + a)) 256) 8 = true := by decide +kernel
theorem mul_7 : allB (fun a => allB (mulB (8 * 7 + a)) 256) 8 = true := by decide +kernel
theorem mul_8 : allB (fun a => allB (mulB (8 * 8 + a)) 256) 8 = true := by decide +kernel
theorem mul_9 : allB (fun a => allB (mulB (8 * 9 + a)) 256) 8 = true := by decide +kernel
theorem mul_10 : allB (fun a => allB (mulB (8 * 10 + a)) 256) 8 = true := by decide +kernel
theorem mul_11 : allB (fun a => allB (mulB (8 * 11 + a)) 256) 8 = true := by decide +kernel
theorem mul_12 : allB (fun a => allB (mulB (8 * 12 + a)) 256) 8 = true := by decide +kernel
theorem mul_13 : allB (fun a => allB (mulB (8 * 13 + a)) 256) 8 = true := by decide +kernel
theorem mul_14 : allB (fun a => allB (mulB (8 * 14 + a)) 256) 8 = true := by decide +kernel
theorem mul_15 : allB (fun a => allB (mulB (8 * 15 + a)) 256) 8 = true := by decide +kernel
theorem mul_16 : allB (fun a => allB (mulB (8 * 16 + a)) 256) 8 = true := by decide +kernel
theorem mul_17 : allB (fun a => allB (mulB (8 * 17 + a)) 256) 8 = true := by decide +kernel
theorem mul_18 : allB (fun a => allB (mulB (8 * 18 + a)) 256) 8 = true := by decide +kernel
theorem mul_19 : allB (fun a => allB (mulB (8 * 19 + a)) 256) 8 = true := by decide +kernel
theorem mul_20 : allB (fun a => allB (mulB (8 * 20 + a)) 256) 8 = true := by decide +kernel
theorem mul_21 : allB (fun a => allB (mulB (8 * 21 + a)) 256) 8 = true := by decide +kernel
theorem mul_22 : allB (fun a => allB (mulB (8 * 22 + a)) 256) 8 = true := by decide +kernel
theorem mul_23 : allB (fun a => allB (mulB (8 * 23 + a)) 256) 8 = true := by decide +kernel
theorem mul_24 : allB (fun a => allB (mulB (8 * 24 + a)) 256) 8 = true := by decide +kernel
theorem mul_25 : allB (fun a => allB (mulB (8 * 25 + a)) 256) 8 = true := by decide +kernel
theorem mul_26 : allB (fun a => allB (mulB (8 * 26 + a)) 256) 8 = true := by decide +kernel
theorem mul_27 : allB (fun a => allB (mulB (8 * 27 + a)) 256) 8 = true := by decide +kernel
theorem mul_28 : allB (fun a => allB (mulB (8 * 28 + a)) 256) 8 = true := by decide +kernel
theorem mul_29 : allB (fun a => allB (mulB (8 * 29 + a)) 256) 8 = true := by decide +kernel
theorem mul_30 : allB (fun a => allB (mulB (8 * 30 + a)) 256) 8 = true := by decide +kernel
theorem mul_31 : allB (fun a => allB (mulB (8 * 31 + a)) 256) 8 = true := by decide +kernel
theorem mul_all (a : Nat) (ha : a < 256) (b : Nat) (hb : b < 256) : mulB a b = true := by
  obtain ⟨i, j, hi, hj, rfl⟩ : ∃ i j, i < 32 ∧ j < 8 ∧ 8 * i + j = a := ⟨a / 8, a % 8, by omega, by omega, by omega⟩
  have hi' : i = 0 ∨ i = 1 ∨ i = 2 ∨ i = 3 ∨ i = 4 ∨ i = 5 ∨ i = 6 ∨ i = 7 ∨ i = 8 ∨ i = 9 ∨ i = 10 ∨ i = 11 ∨ i = 12 ∨ i = 13 ∨ i = 14 ∨ i = 15 ∨ i = 16 ∨ i = 17 ∨ i = 18 ∨ i = 19 ∨ i = 20 ∨ i = 21 ∨ i = 22 ∨ i = 23 ∨ i = 24 ∨ i = 25 ∨ i = 26 ∨ i = 27 ∨ i = 28 ∨ i = 29 ∨ i = 30 ∨ i = 31 := by omega
  rcases hi' with rfl | rfl | rfl | rfl | rfl | rfl | rfl | rfl | rfl | rfl | rfl | rfl | rfl | rfl | rfl | rfl | rfl | rfl | rfl | rfl | rfl | rfl | rfl | rfl | rfl | rfl | rfl | rfl | rfl | rfl | rfl | rfl
  · exact allB_all (allB_all mul_0 j hj) b hb
  · exact allB_all (allB_all mul_1 j hj) b hb
  · exact allB_all (allB_all mul_2 j hj) b hb
  · exact allB_all (allB_all mul_3 j hj) b hb
  · exact allB_all (allB_all mul_4 j hj) b hb
  · exact allB_all (allB_all mul_5 j hj) b hb
  · exact allB_all (allB_all mul_6 j hj) b hb
  · exact allB_all (allB_all mul_7 j hj) b hb
  · exact allB_all (allB_all mul_8 j hj) b hb
  · exact allB_all (allB_all mul_9 j hj) b hb
  · exact allB_all (allB_all mul_10 j hj) b hb
  · exact allB_all (allB_all mul_11 j hj) b hb
  · exact allB_all (allB_all mul_12 j hj) b hb
  · exact allB_all (allB_all mul_13 j hj) b hb
  · exact allB_all (allB_all mul_14 j hj) b hb
  · exact allB_all (allB_all mul_15 j hj) b hb
  · exact allB_all (allB_all mul_16 j hj) b hb
  · exact allB_all (allB_all mul_17 j hj) b hb
  · exact allB_all (allB_all mul_18 j hj) b hb
  · exact allB_all (allB_all mul_19 j hj) b hb
  · exact allB_all (allB_all mul_20 j hj) b hb
  · exact allB_all (allB_all mul_21 j hj) b hb
  · exact allB_all (allB_all mul_22 j hj) b hb
  · exact allB_all (allB_all mul_23 j hj) b hb
  · exact allB_all (allB_all mul_24 j hj) b hb
  · exact allB_all (allB_all mul_25 j hj) b hb
  · exact allB_all (allB_all mul_26 j hj) b hb
  · exact allB_all (allB_all mul_27 j hj) b hb
  · exact allB_all (allB_all mul_28 j hj) b hb
  · exact allB_all (allB_all mul_29 j hj) b hb
  · exact allB_all (allB_all mul_30 j hj) b hb
  · exact allB_all (allB_all mul_31 j hj) b hb
def conB (a b : Nat) : Bool :=
  decide ((cI a * cI b + sI a * sI b - 1152921504606846976 * cI (b + (256 - a))) * (cI a * cI b + sI a * sI b - 1152921504606846976 * cI (b + (256 - a))) + (cI a * sI b - sI a * cI b - 1152921504606846976 * sI (b + (256 - a))) * (cI a * sI b - sI a * cI b - 1152921504606846976 * sI (b + (256 - a))) ≤ 136112946768375385385349842972707284582400)
theorem con_0 : allB (fun a => allB (conB (8 * 0 + a)) 256) 8 = true := by decide +kernel
theorem con_1 : allB (fun a => allB (conB (8 * 1 + a)) 256) 8 = true := by decide +kernel
theorem con_2 : allB (fun a => allB (conB (8 * 2 + a)) 256) 8 = true := by decide +kernel
theorem con_3 : allB (fun a => allB (conB (8 * 3 + a)) 256) 8 = true := by decide +kernel
theorem con_4 : allB (fun a => allB (conB (8 * 4 + a)) 256) 8 = true := by decide +kernel
theorem con_5 : allB (fun a => allB (conB (8 * 5 + a)) 256) 8 = true := by decide +kernel
theorem con_6 : allB (fun a => allB (conB (8 * 6 + a)) 256) 8 = true := by decide +kernel
theorem con_7 : allB (fun a => allB (conB (8 * 7 + a)) 256) 8 = true := by decide +kernel
theorem con_8 : allB (fun a => allB (conB (8 * 8 + a)) 256) 8 = true := by decide +kernel
theorem con_9 : allB (fun a => allB (conB (8 * 9 + a)) 256) 8 = true := by decide +kernel
theorem con_10 : allB (fun a => allB (conB (8 * 10 + a)) 256) 8 = true := by decide +kernel
theorem con_11 : allB (fun a => allB (conB (8 * 11 + a)) 256) 8 = true := by decide +kernel
theorem con_12 : allB (fun a => allB (conB (8 * 12 + a)) 256) 8 = true := by decide +kernel
theorem con_13 : allB (fun a => allB (conB (8 * 13 + a)) 256) 8 = true := by decide +kernel
theorem con_14 : allB (fun a => allB (conB (8 * 14 + a)) 256) 8 = true := by decide +kernel
theorem con_15 : allB (fun a => allB (conB (8 * 15 + a)) 256) 8 = true := by decide +kernel
theorem con_16 : allB (fun a => allB (conB (8 * 16 + a)) 256) 8 = true := by decide +kernel
theorem con_17 : allB (fun a => allB (conB (8 * 17 + a)) 256) 8 = true := by decide +kernel
theorem con_18 : allB (fun a => allB (conB (8 * 18 + a)) 256) 8 = true := by decide +kernel
theorem con_19 : allB (fun a => allB (conB (8 * 19 + a)) 256) 8 = true := by decide +kernel
theorem con_20 : allB (fun a => allB (conB (8 * 20 + a)) 256) 8 = true := by decide +kernel
theorem con_21 : allB (fun a => allB (conB (8 * 21 + a)) 256) 8 = true := by decide +kernel
theorem con_22 : allB (fun a => allB (conB (8 * 22 + a)) 256) 8 = true := by decide +kernel
theorem con_23 : allB (fun a => allB (conB (8 * 23 + a)) 256) 8 = true := by decide +kernel
theorem con_24 : allB (fun a => allB (conB (8 * 24 + a)) 256) 8 = true := by decide +kernel
theorem con_25 : allB (fun a => allB (conB (8 * 25 + a)) 256) 8 = true := by decide +kernel
theorem con_26 : allB (fun a => allB (conB (8 * 26 + a)) 256) 8 = true := by decide +kernel
theorem con_27 : allB (fun a => allB (conB (8 * 27 + a)) 256) 8 = true := by decide +kernel
theorem con_28 : allB (fun a => allB (conB (8 * 28 + a)) 256) 8 = true := by decide +kernel
theorem con_29 : allB (fun a => allB (conB (8 * 29 + a)) 256) 8 = true := by decide +kernel
theorem con_30 : allB (fun a => allB (conB (8 * 30 + a)) 256) 8 = true := by decide +kernel
theorem con_31 : allB (fun a => allB (conB (8 * 31 + a)) 256) 8 = true := by decide +kernel
theorem con_all (a : Nat) (ha : a < 256) (b : Nat) (hb : b < 256) : conB a b = true := by
  obtain ⟨i, j, hi, hj, rfl⟩ : ∃ i j, i < 32 ∧ j < 8 ∧ 8 * i + j = a := ⟨a / 8, a % 8, by omega, by omega, by omega⟩
  have hi' : i = 0 ∨ i = 1 ∨ i = 2 ∨ i = 3 ∨ i = 4 ∨ i = 5 ∨ i = 6 ∨ i = 7 ∨ i = 8 ∨ i = 9 ∨ i = 10 ∨ i = 11 ∨ i = 12 ∨ i = 13 ∨ i = 14 ∨ i = 15 ∨ i = 16 ∨ i = 17 ∨ i = 18 ∨ i = 19 ∨ i = 20 ∨ i = 21 ∨ i = 22 ∨ i = 23 ∨ i = 24 ∨ i = 25 ∨ i = 26 ∨ i = 27 ∨ i = 28 ∨ i = 29 ∨ i = 30 ∨ i = 31 := by omega
  rcases hi' with rfl | rfl | rfl | rfl | rfl | rfl | rfl | rfl | rfl | rfl | rfl | rfl | rfl | rfl | rfl | rfl | rfl | rfl | rfl | rfl | rfl | rfl | rfl | rfl | rfl | rfl | rfl | rfl | rfl | rfl | rfl | rfl
  · exact allB_all (allB_all con_0 j hj) b hb
  · exact allB_all (allB_all con_1 j hj) b hb
  · exact allB_all (allB_all con_2 j hj) b hb
  · exact allB_all (allB_all con_3 j hj) b hb
  · exact allB_all (allB_all con_4 j hj) b hb
  · exact allB_all (allB_all con_5 j hj) b hb
  · exact allB_all (allB_all con_6 j hj) b hb
  · exact allB_all (allB_all con_7 j hj) b hb
  · exact allB_all (allB_all con_8 j hj) b hb
  · exact allB_all (allB_all con_9 j hj) b hb
  · exact allB_all (allB_all con_10 j hj) b hb
  · exact allB_all (allB_all con_11 j hj) b hb
  · exact allB_all (allB_all con_12 j hj) b hb
  · exact allB_all (allB_all con_13 j hj) b hb
  · exact allB_all (allB_all con_14 j hj) b hb
  · exact allB_all (allB_all con_15 j hj) b hb
  · exact allB_all (allB_all con_16 j hj) b hb
  · exact allB_all (allB_all con_17 j hj) b hb
  · exact allB_all (allB_all con_18 j hj) b hb
  · exact allB_all (allB_all con_19 j hj) b hb
  · exact allB_all (allB_all con_20 j hj) b hb
  · exact allB_all (allB_all con_21 j hj) b hb
  · exact allB_all (allB_all con_22 j hj) b hb
  · exact allB_all (allB_all con_23 j hj) b hb
  · exact allB_all (allB_all con_24 j hj) b hb
  · exact allB_all (allB_all con_25 j hj) b hb
  · exact allB_all (allB_all con_26 j hj) b hb
  · exact allB_all (allB_all con_27 j hj) b hb
  · exact allB_all (allB_all con_28 j hj) b hb
  · exact allB_all (allB_all con_29 j hj) b hb
  · exact allB_all (allB_all con_30 j hj) b hb
  · exact allB_all (allB_all con_31 j hj) b hb
theorem half_all : ∀ a : Nat, a < 256 → cI (a + 128) = -cI a ∧ sI (a + 128) = -sI a := by decide +kernel
def sumI (f : Nat → Int) : Nat → Int
  | 0 => 0
  | n + 1 => sumI f n + f n
def zeroB (p : Nat) : Bool := (List.range (2 ^ p)).all fun d => d == 0 || (sumI (fun k => cI (2 ^ (8 - p) * (d * k))) (2 ^ p) == 0 && sumI (fun k => sI (2 ^ (8 - p) * (d * k))) (2 ^ p) == 0)
theorem zero_all : ∀ p : Nat, p < 9 → zeroB p = true := by decide +kernel
theorem size_all : ∀ a : Nat, a < 256 → cI a * cI a + sI a * sI a ≤ 1329227995784916168051712239633170432 := by decide +kernel
end Go.Fe
