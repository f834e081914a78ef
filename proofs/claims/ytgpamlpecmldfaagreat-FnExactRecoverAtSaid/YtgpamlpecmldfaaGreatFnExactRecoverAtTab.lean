import Derived.Test.YtgpamlpecmldfaaGreatChecked
import Derived.Test.YtgpamlpecmldfaaGreatRf9
import Derived.KernelRfl
set_option linter.all false
open List renaming getElem?_eq_getElem → Rba, length_take → Rbv, getElem?_drop → Sba, length_drop → Sbj, mem_of_mem_drop → Sbx
open Nat renaming add_assoc → Rbp, lt_or_ge → Rbu, le_trans → Rbz, min_def → Tbp
namespace Go.Proofs.YtgpamlpecmldfaaGreat
namespace FnExactRecoverAt
open Go Go.Proofs.YtgpamlpecmldfaaGreat.Rf
set_option maxRecDepth 100000
def t3:TI:=⟨false,1,8,[.sc (.int .i64 0)],[],none,(some .i64),false,false,false,false⟩
theorem ti3:nL Tryz.prog 3=some t3:=by kernel_rfl
def t4:TI:=⟨false,1,1,[.sc (.bool false)],[],none,none,true,false,false,false⟩
theorem ti4:nL Tryz.prog 4=some t4:=by kernel_rfl
def t22:TI:=⟨false,1,24,[.sl 1],[],(some 157),none,false,false,false,false⟩
theorem Obh:nL Tryz.prog 22=some t22:=by kernel_rfl
def t24:TI:=⟨true,2,32,[.sc (.int .i64 0),.sl 1],[(0,3),(1,22)],none,none,false,false,false,false⟩
theorem Obg:nL Tryz.prog 24=some t24:=by kernel_rfl
def t25:TI:=⟨false,1,24,[.sl 16],[],(some 159),none,false,false,false,false⟩
theorem Obf:nL Tryz.prog 25=some t25:=by kernel_rfl
def t27:TI:=⟨true,4,64,[.sc (.int .i64 0),.sc (.int .i64 0),.sl 1,.sl 16],[(0,3),(1,24),(3,25)],none,none,false,false,false,false⟩
theorem Obe:nL Tryz.prog 27=some t27:=by kernel_rfl
def t29:TI:=⟨false,1,24,[.sl 1],[],(some 68),none,false,false,false,false⟩
theorem Obd:nL Tryz.prog 29=some t29:=by kernel_rfl
def t31:TI:=⟨true,2,32,[.sc (.int .i64 0),.sl 1],[(0,3),(1,29)],none,none,false,false,false,false⟩
theorem Obc:nL Tryz.prog 31=some t31:=by kernel_rfl
def t32:TI:=⟨false,1,24,[.sl 16],[],(some 95),none,false,false,false,false⟩
theorem Obb:nL Tryz.prog 32=some t32:=by kernel_rfl
def t34:TI:=⟨true,4,64,[.sc (.int .i64 0),.sc (.int .i64 0),.sl 1,.sl 16],[(0,3),(1,31),(3,32)],none,none,false,false,false,false⟩
theorem Oba:nL Tryz.prog 34=some t34:=by kernel_rfl
def t35:TI:=⟨false,1,24,[.sl 15],[],(some 59),none,false,false,false,false⟩
theorem Nb9:nL Tryz.prog 35=some t35:=by kernel_rfl
def t45:TI:=⟨true,5,40,[.sc (.int .i64 0),.sc (.int .i64 0),.sc (.int .i64 0),.sc (.int .i64 0),.sc (.int .i64 0)],[(0,3),(1,3),(2,3),(3,3),(4,3)],none,none,false,false,false,true⟩
theorem Nb8:nL Tryz.prog 45=some t45:=by kernel_rfl
def t47:TI:=⟨true,5,40,[.sc (.int .i64 0),.sc (.int .i64 0),.sc (.int .i64 0),.sc (.int .i64 0),.sc (.int .i64 0)],[(0,3),(1,3),(2,3),(3,3),(4,3)],none,none,false,false,false,true⟩
theorem Nb7:nL Tryz.prog 47=some t47:=by kernel_rfl
def t50:TI:=⟨false,1,24,[.sl 1],[],(some 3),none,false,false,false,false⟩
theorem Nb6:nL Tryz.prog 50=some t50:=by kernel_rfl
def t52:TI:=⟨true,2,32,[.sc (.int .i64 0),.sl 1],[(0,3),(1,50)],none,none,false,false,false,false⟩
theorem Nb5:nL Tryz.prog 52=some t52:=by kernel_rfl
def t57:TI:=⟨true,2,32,[.sc (.int .i64 0),.sl 1],[(0,3),(1,50)],none,none,false,false,false,false⟩
theorem Nb4:nL Tryz.prog 57=some t57:=by kernel_rfl
def t59:TI:=⟨true,15,136,[.sc (.int .i64 0),.sc (.int .i64 0),.sc (.int .i64 0),.sc (.int .i64 0),.sc (.int .i64 0),.sc (.int .i64 0),.sc (.int .i64 0),.sc (.int .i64 0),.sc (.int .i64 0),.sc (.int .i64 0),.sc (.int .i64 0),.sc (.int .i64 0),.sc (.int .i64 0),.sc (.int .i64 0),.sl 1],[(0,3),(1,3),(2,3),(3,3),(4,3),(5,3),(6,3),(7,3),(8,47),(13,57)],none,none,false,false,false,false⟩
theorem Nb3:nL Tryz.prog 59=some t59:=by kernel_rfl
def t68:TI:=⟨false,1,24,[.sl 10],[],(some 70),none,false,false,false,false⟩
theorem Nb2:nL Tryz.prog 68=some t68:=by kernel_rfl
def t70:TI:=⟨true,10,96,[.sc (.int .i64 0),.sc (.int .i64 0),.sc (.int .i64 0),.sc (.int .i64 0),.sc (.int .i64 0),.sc (.int .i64 0),.sc (.int .i64 0),.sc (.int .i64 0),.sc (.int .i64 0),.sl 1],[(0,3),(1,3),(2,3),(3,47),(8,57)],none,none,false,false,false,false⟩
theorem Nb1:nL Tryz.prog 70=some t70:=by kernel_rfl
def t91:TI:=⟨true,6,96,[.sc (.int .i64 0),.sc (.int .i64 0),.sl 1,.sl 16,.sl 15,.sc (.bool false)],[(0,34),(4,35),(5,4)],none,none,false,false,false,false⟩
theorem Nb0:nL Tryz.prog 91=some t91:=by kernel_rfl
def t95:TI:=⟨true,16,192,[.sc (.int .i64 0),.sc (.int .i64 0),.sc (.int .i64 0),.sc (.int .i64 0),.sc (.int .i64 0),.sc (.int .i64 0),.sc (.int .i64 0),.sc (.int .i64 0),.sc (.int .i64 0),.sc (.int .i64 0),.sl 1,.sc (.int .i64 0),.sl 1,.sc (.bool false),.sl 1,.sl 10],[(0,3),(1,3),(2,3),(3,3),(4,47),(9,57),(11,57),(13,4),(14,50),(15,68)],none,none,false,false,false,false⟩
theorem Nbz:nL Tryz.prog 95=some t95:=by kernel_rfl
def Jbr:TI:=⟨true,6,96,[.sc (.int .i64 0),.sc (.int .i64 0),.sl 1,.sl 16,.sl 15,.sc (.bool false)],[(0,34),(4,35),(5,4)],none,none,false,false,false,false⟩
theorem Gb7:nL Tryz.prog 106=some Jbr:=by kernel_rfl
def t157:TI:=⟨false,1,24,[.sl 10],[],(some 220),none,false,false,false,false⟩
theorem Gb6:nL Tryz.prog 157=some t157:=by kernel_rfl
def t159:TI:=⟨true,16,192,[.sc (.int .i64 0),.sc (.int .i64 0),.sc (.int .i64 0),.sc (.int .i64 0),.sc (.int .i64 0),.sc (.int .i64 0),.sc (.int .i64 0),.sc (.int .i64 0),.sc (.int .i64 0),.sc (.int .i64 0),.sl 1,.sc (.int .i64 0),.sl 1,.sc (.bool false),.sl 1,.sl 10],[(0,3),(1,3),(2,3),(3,3),(4,45),(9,52),(11,52),(13,4),(14,50),(15,157)],none,none,false,false,false,false⟩
theorem Gb5:nL Tryz.prog 159=some t159:=by kernel_rfl
def Jbq:TI:=⟨false,1,8,[.sc (.int .u64 0)],[],none,(some .u64),false,false,false,false⟩
theorem Gb4:nL Tryz.prog 200=some Jbq:=by kernel_rfl
def Jbp:TI:=⟨true,10,96,[.sc (.int .i64 0),.sc (.int .i64 0),.sc (.int .i64 0),.sc (.int .i64 0),.sc (.int .i64 0),.sc (.int .i64 0),.sc (.int .i64 0),.sc (.int .i64 0),.sc (.int .i64 0),.sl 1],[(0,3),(1,3),(2,3),(3,45),(8,52)],none,none,false,false,false,false⟩
theorem Gb3:nL Tryz.prog 220=some Jbp:=by kernel_rfl
def tiL:List (Nat×TI):=[(3,t3),(4,t4),(22,t22),(24,t24),(25,t25),(27,t27),(29,t29),(31,t31),(32,t32),(34,t34),(35,t35),(45,t45),(47,t47),(50,t50),(52,t52),(57,t57),(59,t59),(68,t68),(70,t70),(91,t91),(95,t95),(106,Jbr),(157,t157),(159,t159),(200,Jbq),(220,Jbp)]
theorem Oat:wU Tryz.prog (lX tiL):=Mam (l:=tiL) (fc ti3 <| fc ti4 <| fc Obh <| fc Obg <| fc Obf <| fc Obe <| fc Obd <| fc Obc <| fc Obb <| fc Oba <| fc Nb9 <| fc Nb8 <| fc Nb7 <| fc Nb6 <| fc Nb5 <| fc Nb4 <| fc Nb3 <| fc Nb2 <| fc Nb1 <| fc Nb0 <| fc Nbz <| fc Gb7 <| fc Gb6 <| fc Gb5 <| fc Gb4 <| fc Gb3 <| fc0)
def sg0:Sig:=⟨4,[(true,[.sc,.sc,.fz false,.fz false]),(false,[.sc]),(false,[.sc])],[],[(false,[.sc])]⟩
def sg1:Sig:=⟨9,[(true,[.sc,.sc,.fz false,.fz false]),(false,[.sc])],[],[(false,[.sc])]⟩
def sg2:Sig:=⟨49,[(true,[.sc,.fz false]),(false,[.sc])],[],[(false,[.sc])]⟩
def sg3:Sig:=⟨130,[(false,[.fz false]),(false,[.sc])],[],[(false,[.sc])]⟩
def sg4:Sig:=⟨201,[(false,[.fz false]),(false,[.sc])],[],[(false,[.sc])]⟩
def sg5:Sig:=⟨230,[(true,[.sc,.sc,.sc,.sc,.sc,.sc,.sc,.sc,.sc,.fz false]),(false,[.sc])],[],[(false,[.sc])]⟩
def sg6:Sig:=⟨91,[(true,[.sc,.fz false]),(false,[.sc])],[],[(false,[.sc])]⟩
def sg7:Sig:=⟨163,[(false,[.fz false]),(false,[.sc])],[],[(false,[.sc])]⟩
def sg8:Sig:=⟨50,[(false,[.fz false]),(false,[.sc])],[],[(false,[.sc])]⟩
def sg9:Sig:=⟨131,[(true,[.sc,.sc,.sc,.sc,.sc,.sc,.sc,.sc,.sc,.sc,.fz false,.sc,.fz false,.sc,.fz false,.fz false]),(false,[.sc])],[],[(false,[.sc])]⟩
def Lb9:Sig:=⟨11,[(true,[.sc,.sc,.fz false,.fz false])],[],[(true,[.sc,.sc,.ow 99,.ow 99])]⟩
def Lb8:Sig:=⟨56,[(true,[.sc,.fz false])],[],[(true,[.sc,.ow 99])]⟩
def Lb7:Sig:=⟨135,[(false,[.fz false])],[],[(false,[.ow 99])]⟩
def Lb6:Sig:=⟨203,[(false,[.fz false])],[],[(false,[.ow 99])]⟩
def Lb5:Sig:=⟨231,[(true,[.sc,.sc,.sc,.sc,.sc,.sc,.sc,.sc,.sc,.fz false])],[],[(true,[.sc,.sc,.sc,.sc,.sc,.sc,.sc,.sc,.sc,.ow 99])]⟩
def Lb4:Sig:=⟨22,[(true,[.sc,.sc,.sc,.sc,.sc])],[],[(true,[.sc,.sc,.sc,.sc,.sc])]⟩
def Lb3:Sig:=⟨95,[(true,[.sc,.fz false])],[],[(true,[.sc,.ow 99])]⟩
def Lb2:Sig:=⟨173,[(false,[.fz false])],[],[(false,[.ow 99])]⟩
def Lb1:Sig:=⟨57,[(false,[.fz false])],[],[(false,[.ow 99])]⟩
def Lb0:Sig:=⟨136,[(true,[.sc,.sc,.sc,.sc,.sc,.sc,.sc,.sc,.sc,.sc,.fz false,.sc,.fz false,.sc,.fz false,.fz false])],[],[(true,[.sc,.sc,.sc,.sc,.sc,.sc,.sc,.sc,.sc,.sc,.ow 99,.sc,.ow 99,.sc,.ow 99,.ow 99])]⟩
def Lbz:Sig:=⟨19,[(true,[.sc,.sc,.fz false,.fz false]),(false,[.sc]),(false,[.sc])],[],[(true,[.sc,.sc,.fz,.fz]),(false,[.fz]),(false,[.sc])]⟩
def Lby:Sig:=⟨40,[(true,[.sc,.sc,.fz false,.fz false])],[],[(false,[.sc])]⟩
def Lbx:Sig:=⟨114,[(true,[.sc,.fz false])],[],[(false,[.sc])]⟩
def Lbw:Sig:=⟨127,[(false,[.sc])],[],[(false,[.sc])]⟩
def Lbv:Sig:=⟨151,[(false,[.sc]),(true,[.sc,.sc,.sc,.sc,.sc,.sc,.sc,.sc,.sc,.fz false])],[],[(false,[.sc])]⟩
def Lbu:Sig:=⟨115,[(false,[.sc]),(false,[.sc]),(false,[.sc])],[],[(false,[.sc])]⟩
def Lbt:Sig:=⟨75,[(false,[.sc])],[],[(true,[.sc,.ow 99])]⟩
def Lbs:Sig:=⟨165,[(true,[.sc,.fz false]),(true,[.sc,.fz false])],[],[(false,[.sc])]⟩
def Lbr:Sig:=⟨214,[(false,[.fz false]),(false,[.fz false])],[],[(false,[.sc])]⟩
def Lbq:Sig:=⟨85,[(true,[.sc,.sc,.sc,.sc,.sc])],[],[(false,[.sc])]⟩
def Lbp:Sig:=⟨156,[(true,[.sc,.sc,.sc,.sc,.sc])],[],[(false,[.sc])]⟩
def Lbo:Sig:=⟨209,[(false,[.sc])],[],[(false,[.sc])]⟩
def Lbn:Sig:=⟨164,[(false,[.sc]),(true,[.sc,.fz false])],[],[(false,[.sc])]⟩
def Lbm:Sig:=⟨213,[(false,[.fz false]),(false,[.sc]),(false,[.sc])],[],[(false,[.sc])]⟩
def Lbl:Sig:=⟨116,[(false,[.sc]),(false,[.sc]),(true,[.sc,.sc,.sc,.sc,.sc,.sc,.sc,.sc,.sc,.sc,.fz false,.sc,.fz false,.sc,.fz false,.fz false])],[],[(false,[.sc])]⟩
def Lbk:Sig:=⟨73,[(false,[.sc]),(false,[.sc]),(false,[.sc])],[],[(false,[.sc])]⟩
def Lbj:Sig:=⟨194,[(false,[.fz false]),(false,[.sc]),(false,[.sc])],[],[(false,[.sc])]⟩
def Lbi:Sig:=⟨195,[(false,[.fz false]),(false,[.sc])],[],[(false,[.sc])]⟩
def Lbh:Sig:=⟨53,[(true,[.sc,.fz false]),(false,[.sc]),(false,[.sc])],[],[(true,[.sc,.sc,.sc,.sc,.sc,.sc,.sc,.sc,.sc,.ow 99])]⟩
def Lbg:Sig:=⟨133,[(true,[.sc,.sc,.sc,.sc,.sc,.sc,.sc,.sc,.sc,.fz false])],[],[(true,[.sc,.sc,.sc,.sc,.sc,.sc,.sc,.sc,.sc,.ow 99])]⟩
def Lbf:Sig:=⟨172,[(true,[.sc,.fz false])],[],[(true,[.sc,.ow 99])]⟩
def Lbe:Sig:=⟨202,[(false,[.fz false])],[],[(false,[.ow 99])]⟩
def Lbd:Sig:=⟨74,[(true,[.sc,.fz false]),(false,[.sc]),(false,[.sc]),(false,[.sc])],[],[(false,[.sc]),(false,[.sc])]⟩
def Lbc:Sig:=⟨149,[(true,[.sc,.fz false]),(false,[.sc]),(false,[.sc])],[],[(false,[.sc])]⟩
def Lbb:Sig:=⟨150,[(true,[.sc,.fz false]),(false,[.sc]),(false,[.sc]),(false,[.sc])],[],[(false,[.sc])]⟩
def Lba:Sig:=⟨51,[(true,[.sc,.sc,.fz false,.fz false])],[],[(true,[.sc,.sc,.ow 99,.ow 99])]⟩
def Kb9:Sig:=⟨123,[(true,[.sc,.fz false])],[],[(true,[.sc,.ow 99])]⟩
def Kb8:Sig:=⟨128,[(false,[.sc])],[],[(true,[.sc,.ow 99])]⟩
def Kb7:Sig:=⟨132,[(true,[.sc,.sc,.sc,.sc,.sc,.sc,.sc,.sc,.sc,.sc,.fz false,.sc,.fz false,.sc,.fz false,.fz false])],[],[(true,[.sc,.sc,.sc,.sc,.sc,.sc,.sc,.sc,.sc,.sc,.ow 99,.sc,.ow 99,.sc,.ow 99,.ow 99])]⟩
def Kb6:Sig:=⟨76,[(false,[.px 0]),(true,[.sc,.sc,.sc,.sc,.sc,.sc,.sc,.sc,.sc,.sc,.fz false,.sc,.fz false,.sc,.fz false,.fz false])],[(false,[(.sc,.sc),(.sc,.sc),(.fz false,.fz),(.fz false,.fz),(.ow 99,.ow 99),(.sc,.sc)])],[]⟩
def Kb5:Sig:=⟨134,[(false,[.px 0]),(false,[.sc]),(false,[.sc])],[(false,[(.sc,.sc),(.sc,.sc),(.fz false,.fz),(.fz false,.fz),(.ow 99,.ow 99),(.sc,.sc)])],[]⟩
def Kb4:Sig:=⟨77,[(false,[.px 0]),(false,[.sc]),(false,[.sc]),(true,[.sc,.sc,.sc,.sc,.sc,.sc,.sc,.sc,.sc,.fz false])],[(false,[(.sc,.sc),(.sc,.sc),(.fz false,.fz),(.fz false,.fz),(.ow 99,.ow 99),(.sc,.sc)])],[]⟩
def Kb3:Sig:=⟨152,[(true,[.sc,.fz false]),(false,[.sc]),(false,[.sc]),(true,[.sc,.sc,.sc,.sc,.sc,.sc,.sc,.sc,.sc,.fz false])],[],[(true,[.sc,.ow 99])]⟩
def Kb2:Sig:=⟨78,[(false,[.px 0]),(true,[.sc,.sc,.sc,.sc,.sc,.sc,.sc,.sc,.sc,.sc,.sc,.sc,.sc,.sc,.fz false])],[(false,[(.sc,.sc),(.sc,.sc),(.fz false,.fz),(.fz false,.fz),(.ow 99,.ow 99),(.sc,.sc)])],[]⟩
def Kb1:Sig:=⟨94,[(false,[.px 0]),(false,[.sc]),(true,[.sc,.sc,.sc,.sc,.sc,.sc,.sc,.sc,.sc,.sc,.sc,.sc,.sc,.sc,.fz false])],[(false,[(.sc,.sc),(.sc,.sc),(.fz false,.fz),(.fz false,.fz),(.ow 99,.ow 99),(.sc,.sc)])],[]⟩
def Kb0:Sig:=⟨55,[(false,[.px 0])],[(true,[(.sc,.sc),(.sc,.sc),(.fz false,.fz),(.fz false,.fz),(.fz false,.fz),(.sc,.sc)])],[(true,[.sc,.sc,.fz,.fz]),(false,[.fz]),(false,[.sc])]⟩
def Kbz:Sig:=⟨20,[(true,[.sc,.sc,.fz false,.fz false]),(false,[.sc]),(false,[.sc])],[],[(true,[.sc,.sc,.ow 99,.ow 99]),(false,[.ow 99]),(false,[.sc])]⟩
def Kby:Sig:=⟨58,[(true,[.sc,.sc,.fz false,.fz false]),(false,[.sc]),(false,[.sc])],[],[(false,[.sc])]⟩
def Kbx:Sig:=⟨39,[(true,[.sc,.sc,.fz false,.fz false])],[],[(false,[.sc])]⟩
def Kbw:Sig:=⟨104,[(true,[.sc,.fz false])],[],[(false,[.sc])]⟩
def Kbv:Sig:=⟨125,[(false,[.sc])],[],[(false,[.sc])]⟩
def Kbu:Sig:=⟨182,[(false,[.fz false]),(false,[.clo 183 [.px 0]])],[(true,[(.sc,.sc),(.fz false,.fz)])],[(false,[.sc])]⟩
def Kbt:Sig:=⟨223,[(false,[.fz false]),(false,[.clo 183 [.px 0]])],[(true,[(.sc,.sc),(.fz false,.fz)])],[(false,[.sc])]⟩
def Kbs:Sig:=⟨183,[(false,[.fz false]),(false,[.px 0])],[(true,[(.sc,.sc),(.fz false,.fz)])],[(false,[.sc])]⟩
def Kbr:Sig:=⟨184,[(false,[.fz false]),(false,[.clo 185 [.px 0]])],[(true,[(.sc,.sc),(.fz false,.fz)])],[(false,[.sc])]⟩
def Kbq:Sig:=⟨224,[(false,[.fz false]),(false,[.clo 185 [.px 0]])],[(true,[(.sc,.sc),(.fz false,.fz)])],[(false,[.sc])]⟩
def Kbp:Sig:=⟨185,[(true,[.sc,.sc,.sc,.sc,.sc,.sc,.sc,.sc,.sc,.fz false]),(false,[.px 0])],[(true,[(.sc,.sc),(.fz false,.fz)])],[(false,[.sc])]⟩
def Kbo:Sig:=⟨117,[(false,[.sc]),(true,[.sc,.sc,.sc,.sc,.sc,.sc,.sc,.sc,.sc,.fz false])],[],[(false,[.sc])]⟩
def Kbn:Sig:=⟨111,[(false,[.sc]),(false,[.sc]),(false,[.sc])],[],[(false,[.sc])]⟩
def Kbm:Sig:=⟨88,[(true,[.sc,.sc,.sc,.sc,.sc])],[],[(false,[.sc])]⟩
def Kbl:Sig:=⟨159,[(false,[.sc])],[],[(false,[.sc])]⟩
def Kbk:Sig:=⟨119,[(false,[.sc]),(true,[.sc,.fz false])],[],[(false,[.sc])]⟩
def Kbj:Sig:=⟨196,[(false,[.fz false]),(false,[.clo 197 []])],[],[(false,[.sc])]⟩
def Kbi:Sig:=⟨229,[(false,[.fz false]),(false,[.clo 197 []])],[],[(false,[.sc])]⟩
def Kbh:Sig:=⟨197,[(false,[.sc])],[],[(false,[.sc])]⟩
def Kbg:Sig:=⟨81,[(false,[.sc])],[],[(true,[.sc,.ow 99])]⟩
def Kbf:Sig:=⟨120,[(true,[.sc,.fz false]),(true,[.sc,.fz false])],[],[(false,[.sc])]⟩
def Kbe:Sig:=⟨198,[(false,[.fz false]),(false,[.fz false])],[],[(false,[.sc])]⟩
def Kbd:Sig:=⟨112,[(false,[.sc]),(false,[.sc]),(true,[.sc,.sc,.sc,.sc,.sc,.sc,.sc,.sc,.sc,.sc,.fz false,.sc,.fz false,.sc,.fz false,.fz false])],[],[(false,[.sc])]⟩
def Kbc:Sig:=⟨105,[(false,[.sc]),(false,[.sc]),(false,[.sc])],[],[(false,[.sc])]⟩
def Kbb:Sig:=⟨190,[(false,[.sc]),(false,[.fz false])],[],[(false,[.sc])]⟩
def Kba:Sig:=⟨225,[(false,[.fz false])],[],[(false,[.sc])]⟩
def Jb9:Sig:=⟨196,[(false,[.fz false]),(false,[.clo 226 [.px 0]])],[(true,[(.sc,.sc)])],[(false,[.sc])]⟩
def Jb8:Sig:=⟨229,[(false,[.fz false]),(false,[.clo 226 [.px 0]])],[(true,[(.sc,.sc)])],[(false,[.sc])]⟩
def Jb7:Sig:=⟨226,[(false,[.sc]),(false,[.px 0])],[(true,[(.sc,.sc)])],[(false,[.sc])]⟩
def Jb6:Sig:=⟨191,[(false,[.fz false]),(false,[.sc])],[],[(false,[.sc])]⟩
def Jb5:Sig:=⟨227,[(false,[.fz false]),(false,[.sc])],[],[(false,[.sc])]⟩
def Jb4:Sig:=⟨184,[(false,[.fz false]),(false,[.clo 192 [.px 0]])],[(true,[(.sc,.sc)])],[(false,[.sc])]⟩
def Jb3:Sig:=⟨224,[(false,[.fz false]),(false,[.clo 192 [.px 0]])],[(true,[(.sc,.sc)])],[(false,[.sc])]⟩
def Jb2:Sig:=⟨192,[(true,[.sc,.sc,.sc,.sc,.sc,.sc,.sc,.sc,.sc,.fz false]),(false,[.px 0])],[(true,[(.sc,.sc)])],[(false,[.sc])]⟩
def Jb1:Sig:=⟨113,[(false,[.fz false]),(false,[.fz false])],[],[(false,[.sc])]⟩
def Jb0:Sig:=⟨193,[(false,[.sc]),(false,[.sc])],[],[(false,[.sc])]⟩
def Jbz:Sig:=⟨228,[(false,[.sc])],[],[(false,[.sc])]⟩
def Jby:Sig:=⟨80,[(true,[.sc,.fz false]),(false,[.sc]),(false,[.sc])],[],[(true,[.sc,.sc,.sc,.sc,.sc,.sc,.sc,.sc,.sc,.ow 99])]⟩
def Jbx:Sig:=⟨153,[(true,[.sc,.sc,.sc,.sc,.sc,.sc,.sc,.sc,.sc,.fz false])],[],[(true,[.sc,.sc,.sc,.sc,.sc,.sc,.sc,.sc,.sc,.ow 99])]⟩
def Gbc:Sig:=⟨140,[(true,[.sc,.fz false])],[],[(true,[.sc,.ow 99])]⟩
def Gbb:Sig:=⟨141,[(false,[.fz false])],[],[(false,[.ow 99])]⟩
def Jbw:Sig:=⟨79,[(true,[.sc,.fz false]),(false,[.sc]),(false,[.sc]),(false,[.sc])],[],[(false,[.sc]),(false,[.sc])]⟩
def Jbv:Sig:=⟨59,[(true,[.sc,.sc,.fz false,.fz false])],[],[(false,[.bx [.sc,.sc,.ow 99,.ow 99,.ow 99,.sc]])]⟩
def Jbu:Sig:=⟨122,[(true,[.sc,.sc,.fz false,.fz false])],[],[(true,[.sc,.sc,.ow 99,.ow 99])]⟩
def Yav:Sig:=⟨199,[(true,[.sc,.fz false])],[],[(true,[.sc,.ow 99])]⟩
def Yau:Sig:=⟨142,[(false,[.fz false])],[],[(false,[.ow 99])]⟩
def Yat:Sig:=⟨63,[(true,[.sc,.sc,.sc,.sc,.sc,.sc,.sc,.sc,.sc,.sc,.fz false,.sc,.fz false,.sc,.fz false,.fz false])],[],[(true,[.sc,.sc,.sc,.sc,.sc,.sc,.sc,.sc,.sc,.sc,.ow 99,.sc,.ow 99,.sc,.ow 99,.ow 99])]⟩
def Yas:Sig:=⟨82,[(false,[.px 0]),(true,[.sc,.sc,.sc,.sc,.sc,.sc,.sc,.sc,.sc,.sc,.fz false,.sc,.fz false,.sc,.fz false,.fz false])],[(false,[(.sc,.sc),(.sc,.sc),(.ow 99,.ow 99),(.ow 99,.ow 99),(.ow 99,.ow 99),(.sc,.sc)])],[]⟩
def Yar:Sig:=⟨139,[(false,[.px 0]),(false,[.sc]),(false,[.sc])],[(false,[(.sc,.sc),(.sc,.sc),(.ow 99,.ow 99),(.ow 99,.ow 99),(.ow 99,.ow 99),(.sc,.sc)])],[]⟩
def Yaq:Sig:=⟨60,[(false,[.px 0]),(false,[.sc]),(false,[.sc])],[(true,[(.sc,.sc),(.sc,.sc),(.fz false,.fz),(.fz false,.fz),(.fz false,.fz),(.sc,.sc)])],[(false,[.sc]),(false,[.sc])]⟩
def Yap:Sig:=⟨137,[(false,[.fz false]),(false,[.fz false]),(false,[.clo 138 []])],[],[(false,[.sc]),(false,[.sc])]⟩
def Yao:Sig:=⟨138,[(true,[.sc,.sc,.sc,.sc,.sc,.sc,.sc,.sc,.sc,.sc,.fz false,.sc,.fz false,.sc,.fz false,.fz false]),(false,[.fz false])],[],[(false,[.sc])]⟩
def Yan:Sig:=⟨204,[(false,[.ow 99]),(false,[.sc]),(false,[.sc])],[],[(false,[.ow 99])]⟩
def Yam:Sig:=⟨154,[(false,[.ow 99]),(false,[.sc]),(false,[.ow 99])],[],[(false,[.ow 99])]⟩
def Yal:Sig:=⟨83,[(false,[.px 0]),(false,[.sc]),(false,[.sc]),(true,[.sc,.sc,.sc,.sc,.sc,.sc,.sc,.sc,.sc,.fz false])],[(false,[(.sc,.sc),(.ow 99,.ow 99)])],[]⟩
def Yak:Sig:=⟨84,[(false,[.px 0]),(true,[.sc,.sc,.sc,.sc,.sc,.sc,.sc,.sc,.sc,.sc,.sc,.sc,.sc,.sc,.fz true])],[(false,[(.sc,.sc),(.sc,.sc),(.ow 99,.ow 99),(.ow 99,.ow 99),(.ow 99,.ow 99),(.sc,.sc)])],[]⟩
def Yaj:Sig:=⟨155,[(false,[.px 0]),(true,[.sc,.sc,.sc,.sc,.sc,.sc,.sc,.sc,.sc,.sc,.sc,.sc,.sc,.sc,.fz true]),(false,[.sc])],[(false,[(.sc,.sc),(.sc,.sc),(.ow 99,.ow 99),(.ow 99,.ow 99),(.ow 99,.ow 99),(.sc,.sc)])],[]⟩
def Yai:Sig:=⟨208,[(true,[.sc,.sc,.sc,.sc,.sc,.sc,.sc,.sc,.sc,.sc,.sc,.sc,.sc,.sc,.fz false])],[],[(true,[.sc,.sc,.sc,.sc,.sc,.sc,.sc,.sc,.sc,.sc,.sc,.sc,.sc,.sc,.ow 99])]⟩
def Yah:Sig:=⟨64,[(false,[.px 0])],[(false,[(.sc,.sc),(.sc,.sc),(.ow 99,.dead),(.ow 99,.dead),(.ow 99,.dead),(.sc,.sc)])],[(true,[.sc,.sc,.ow 99,.ow 99]),(false,[.ow 99]),(false,[.sc])]⟩
def Yag:Sig:=⟨13,[(true,[.sc,.sc,.fz false,.fz false]),(true,[.sc,.sc,.fz false,.fz false])],[],[(false,[.sc])]⟩
def Yaf:Sig:=⟨65,[(true,[.sc,.fz false]),(true,[.sc,.fz false])],[],[(false,[.sc])]⟩
def Yae:Sig:=⟨143,[(false,[.fz false]),(false,[.fz false])],[],[(false,[.sc])]⟩
def Yad:Sig:=⟨205,[(false,[.fz false]),(false,[.fz false])],[],[(false,[.sc])]⟩
def Yac:Sig:=⟨232,[(true,[.sc,.sc,.sc,.sc,.sc,.sc,.sc,.sc,.sc,.fz false]),(true,[.sc,.sc,.sc,.sc,.sc,.sc,.sc,.sc,.sc,.fz false])],[],[(false,[.sc])]⟩
def Yab:Sig:=⟨97,[(true,[.sc,.sc,.sc,.sc,.sc]),(true,[.sc,.sc,.sc,.sc,.sc])],[],[(false,[.sc])]⟩
def Yaa:Sig:=⟨98,[(true,[.sc,.fz false]),(true,[.sc,.fz false])],[],[(false,[.sc])]⟩
def Xa9:Sig:=⟨177,[(false,[.fz false]),(false,[.fz false])],[],[(false,[.sc])]⟩
def Xa8:Sig:=⟨66,[(false,[.fz false]),(false,[.fz false])],[],[(false,[.sc])]⟩
def Xa7:Sig:=⟨144,[(true,[.sc,.sc,.sc,.sc,.sc,.sc,.sc,.sc,.sc,.sc,.fz false,.sc,.fz false,.sc,.fz false,.fz false]),(true,[.sc,.sc,.sc,.sc,.sc,.sc,.sc,.sc,.sc,.sc,.fz false,.sc,.fz false,.sc,.fz false,.fz false])],[],[(false,[.sc])]⟩
def Xa6:Sig:=⟨14,[(false,[.fz false]),(false,[.fz false])],[],[(false,[.sc])]⟩
def Xa5:Sig:=⟨28,[(true,[.sc,.sc,.sc,.sc,.sc,.sc,.sc,.sc,.sc,.sc,.sc,.sc,.sc,.sc,.fz false]),(true,[.sc,.sc,.sc,.sc,.sc,.sc,.sc,.sc,.sc,.sc,.sc,.sc,.sc,.sc,.fz false])],[],[(false,[.sc])]⟩
def Xa4:Sig:=⟨15,[(true,[.sc,.sc,.mu 3,.mu 3]),(false,[.sc])],[],[(false,[.sc])]⟩
def Xa3:Sig:=⟨67,[(true,[.sc,.mu 3]),(false,[.sc])],[],[(false,[.sc])]⟩
def Xa2:Sig:=⟨145,[(false,[.mu 3]),(false,[.sc])],[],[(false,[.sc])]⟩
def Xa1:Sig:=⟨146,[(false,[.mu 2]),(false,[.sc])],[],[(false,[.sc])]⟩
def Xa0:Sig:=⟨69,[(false,[.mu 1]),(false,[.sc])],[],[(false,[.sc])]⟩
def Xaz:Sig:=⟨68,[(false,[.mu 3]),(false,[.sc])],[],[(false,[.sc])]⟩
def Xay:Sig:=⟨16,[(false,[.mu 2]),(false,[.sc])],[],[(false,[.sc])]⟩
def Xax:Sig:=⟨17,[(true,[.sc,.sc,.fz false,.fz false]),(false,[.sc])],[],[(false,[.sc])]⟩
def Xaw:Sig:=⟨70,[(true,[.sc,.fz false]),(false,[.sc])],[],[(false,[.sc])]⟩
def Xav:Sig:=⟨147,[(false,[.fz false]),(false,[.sc])],[],[(false,[.sc])]⟩
def Xau:Sig:=⟨148,[(false,[.fz false]),(false,[.sc])],[],[(false,[.sc])]⟩
def Xat:Sig:=⟨72,[(false,[.fz false]),(false,[.sc])],[],[(false,[.sc])]⟩
def Xas:Sig:=⟨71,[(false,[.fz false]),(false,[.sc])],[],[(false,[.sc])]⟩
def Xar:Sig:=⟨18,[(false,[.fz false]),(false,[.sc])],[],[(false,[.sc])]⟩
def sigs:List (Nat×Sig):=[(0,sg0),(1,sg1),(2,sg2),(3,sg3),(4,sg4),(5,sg5),(6,sg6),(7,sg7),(8,sg8),(9,sg9),(10,Lb9),(11,Lb8),(12,Lb7),(13,Lb6),(14,Lb5),(15,Lb4),(16,Lb3),(17,Lb2),(18,Lb1),(19,Lb0),(20,Lbz),(21,Lby),(22,Lbx),(23,Lbw),(24,Lbv),(25,Lbu),(26,Lbt),(27,Lbs),(28,Lbr),(29,Lbq),(30,Lbp),(31,Lbo),(32,Lbn),(33,Lbm),(34,Lbl),(35,Lbk),(36,Lbj),(37,Lbi),(38,Lbh),(39,Lbg),(40,Lbf),(41,Lbe),(42,Lbd),(43,Lbc),(44,Lbb),(45,Lba),(46,Kb9),(47,Kb8),(48,Kb7),(49,Kb6),(50,Kb5),(51,Kb4),(52,Kb3),(53,Kb2),(54,Kb1),(55,Kb0),(56,Kbz),(57,Kby),(58,Kbx),(59,Kbw),(60,Kbv),(61,Kbu),(62,Kbt),(63,Kbs),(64,Kbr),(65,Kbq),(66,Kbp),(67,Kbo),(68,Kbn),(69,Kbm),(70,Kbl),(71,Kbk),(72,Kbj),(73,Kbi),(74,Kbh),(75,Kbg),(76,Kbf),(77,Kbe),(78,Kbd),(79,Kbc),(80,Kbb),(81,Kba),(82,Jb9),(83,Jb8),(84,Jb7),(85,Jb6),(86,Jb5),(87,Jb4),(88,Jb3),(89,Jb2),(90,Jb1),(91,Jb0),(92,Jbz),(93,Jby),(94,Jbx),(95,Gbc),(96,Gbb),(97,Jbw),(98,Jbv),(99,Jbu),(100,Yav),(101,Yau),(102,Yat),(103,Yas),(104,Yar),(105,Yaq),(106,Yap),(107,Yao),(108,Yan),(109,Yam),(110,Yal),(111,Yak),(112,Yaj),(113,Yai),(114,Yah),(115,Yag),(116,Yaf),(117,Yae),(118,Yad),(119,Yac),(120,Yab),(121,Yaa),(122,Xa9),(123,Xa8),(124,Xa7),(125,Xa6),(126,Xa5),(127,Xa4),(128,Xa3),(129,Xa2),(130,Xa1),(131,Xa0),(132,Xaz),(133,Xay),(134,Xax),(135,Xaw),(136,Xav),(137,Xau),(138,Xat),(139,Xas),(140,Xar)]
abbrev E0:Env:=⟨lX tiL,sigs,0,0,false,false,[],[],[],0⟩
def tm0:Tm Unit :=
(.call none 1 [.v 0,.v 1,.v 2,.v 3,.c (.int .i64 1048576)] 1 [] <|
(.lt none (.bin .lss) [.v 6,.c (.int .i64 0)] 1 <|
(.ite (.v 7)
(.leaf .ret [.c (.bool true)] ())
(.call none 10 [.v 0,.v 1,.v 2,.v 3] 4 [] <|
(.call none 20 [.v 8,.v 9,.v 10,.v 11,.v 4,.v 5] 6 [] <|
(.call none 10 [.v 0,.v 1,.v 2,.v 3] 4 [] <|
(.call none 56 [.v 18,.v 19,.v 20,.v 21,.v 4,.v 5] 6 [] <|
(.lt none (.dep 99) [.v 24] 0 <|
(.lt none (.dep 99) [.v 25] 0 <|
(.lt none (.dep 99) [.v 26] 0 <|
(.call none 115 [.v 22,.v 23,.v 24,.v 25,.v 12,.v 13,.v 14,.v 15] 1 [] <|
(.lt none .not [.v 28] 1 <|
(.call (some (.v 29,false)) 125 [.v 26,.v 16] 1 [] <|
(.lt (some (.v 29,false)) .not [.v 30] 1 <|
(.lt none .pick [.v 29,.c (.bool true),.v 31] 1 <|
(.lt (some (.v 32,false)) .id [.v 27] 1 <|
(.lt (some (.v 32,false)) .id [.v 17] 1 <|
(.lt (some (.v 32,false)) (.eqb true) [.v 33,.v 34] 1 <|
(.lt none .pick [.v 32,.c (.bool true),.v 35] 1 <|
(.ite (.v 36)
(.leaf .ret [.c (.bool false)] ())
(.call none 10 [.v 0,.v 1,.v 2,.v 3] 4 [] <|
(.call none 115 [.v 18,.v 19,.v 20,.v 21,.v 37,.v 38,.v 39,.v 40] 1 [] <|
(.lt none .not [.v 41] 1 <|
(.ite (.v 42)
(.leaf .ret [.c (.bool false)] ())
(.call none 127 [.v 18,.v 19,.v 20,.v 21,.c (.int .i64 1)] 3 [] <|
(.lt none (.dep 3) [.v 44] 0 <|
(.lt none (.dep 3) [.v 45] 0 <|
(.lt none (.bin .lss) [.v 43,.c (.int .i64 0)] 1 <|
(.call (some (.v 46,false)) 115 [.v 22,.v 23,.v 24,.v 25,.v 12,.v 13,.v 14,.v 15] 1 [] <|
(.lt (some (.v 46,false)) .not [.v 47] 1 <|
(.lt none .pick [.v 46,.c (.bool true),.v 48] 1 <|
(.call (some (.v 49,false)) 125 [.v 26,.v 16] 1 [] <|
(.lt (some (.v 49,false)) .not [.v 50] 1 <|
(.lt none .pick [.v 49,.c (.bool true),.v 51] 1 <|
(.lt (some (.v 52,false)) .id [.v 27] 1 <|
(.lt (some (.v 52,false)) .id [.v 17] 1 <|
(.lt (some (.v 52,false)) (.eqb true) [.v 53,.v 54] 1 <|
(.lt none .pick [.v 52,.c (.bool true),.v 55] 1 <|
(.ite (.v 56)
(.leaf .ret [.c (.bool false)] ())
(.call none 127 [.v 22,.v 23,.v 24,.v 25,.c (.int .i64 1)] 3 [] <|
(.lt none (.dep 3) [.v 58] 0 <|
(.lt none (.dep 3) [.v 59] 0 <|
(.call none 133 [.v 26,.v 57] 2 [] <|
(.lt none (.dep 2) [.v 61] 0 <|
(.call none 134 [.v 22,.v 23,.v 58,.v 59,.c (.int .i64 1)] 1 [] <|
(.lt none (.bin .lss) [.v 62,.c (.int .i64 0)] 1 <|
(.ite (.v 63)
(.leaf .ret [.c (.bool false)] ())
(.call none 140 [.v 61,.v 62] 1 [] <|
(.lt none (.bin .lss) [.v 64,.c (.int .i64 0)] 1 <|
(.ite (.v 65)
(.leaf .ret [.c (.bool false)] ())
(.lt none (.bin .neq) [.v 64,.v 60] 1 <|
(.ite (.v 66)
(.leaf .ret [.c (.bool false)] ())
(.call none 10 [.v 0,.v 1,.v 2,.v 3] 4 [] <|
(.call none 56 [.v 67,.v 68,.v 69,.v 70,.v 4,.v 5] 6 [] <|
(.lt none (.dep 99) [.v 73] 0 <|
(.lt none (.dep 99) [.v 74] 0 <|
(.lt none (.dep 99) [.v 75] 0 <|
(.call none 115 [.v 71,.v 72,.v 73,.v 74,.v 12,.v 13,.v 14,.v 15] 1 [] <|
(.lt none .not [.v 77] 1 <|
(.call (some (.v 78,false)) 125 [.v 75,.v 16] 1 [] <|
(.lt (some (.v 78,false)) .not [.v 79] 1 <|
(.lt none .pick [.v 78,.c (.bool true),.v 80] 1 <|
(.lt (some (.v 81,false)) .id [.v 76] 1 <|
(.lt (some (.v 81,false)) .id [.v 17] 1 <|
(.lt (some (.v 81,false)) (.eqb true) [.v 82,.v 83] 1 <|
(.lt none .pick [.v 81,.c (.bool true),.v 84] 1 <|
(.ite (.v 85)
(.leaf .ret [.c (.bool false)] ())
(.call none 134 [.v 22,.v 23,.v 58,.v 59,.c (.int .i64 1)] 1 [] <|
(.lt none (.bin .lss) [.v 86,.c (.int .i64 0)] 1 <|
(.ite (.v 87)
(.leaf .ret [.c (.bool false)] ())
(.call none 140 [.v 61,.v 86] 1 [] <|
(.lt none (.bin .lss) [.v 88,.c (.int .i64 0)] 1 <|
(.ite (.v 89)
(.leaf .ret [.c (.bool false)] ())
(.lt none (.bin .neq) [.v 88,.v 60] 1 <|
(.ite (.v 90)
(.leaf .ret [.c (.bool false)] ())
(.leaf .ret [.c (.bool true)] ()))))))))))))))))))))))))))))))))))))))))))))))))))))))))))))))))))))))))))))
def tm1:Tm Unit :=
(.call none 2 [.v 1,.v 2,.v 4] 1 [] <|
(.lt none (.bin .lss) [.v 5,.c (.int .i64 0)] 1 <|
(.ite (.v 6)
(.leaf .ret [.c (.int .i64 (-1))] ())
(.call none 8 [.v 3,.v 5] 1 [] <|
(.lt none (.bin .lss) [.v 7,.c (.int .i64 0)] 1 <|
(.ite (.v 8)
(.leaf .ret [.c (.int .i64 (-1))] ())
(.leaf .ret [.v 7] ())))))))
def tm2:Tm Unit :=
(.call none 3 [.v 1,.v 2] 1 [] <|
(.lt none (.bin .lss) [.v 3,.c (.int .i64 0)] 1 <|
(.ite (.v 4)
(.leaf .ret [.c (.int .i64 (-1))] ())
(.leaf .ret [.v 3] ()))))
def tm3:Tm Unit :=
(.lt none .len [.v 0] 1 <|
(.lt none (.bin .sub) [.v 1,.v 2] 1 <|
(.lt none (.bin .lss) [.v 3,.c (.int .i64 0)] 1 <|
(.ite (.v 4)
(.leaf .ret [.c (.int .i64 (-1))] ())
(.bind 1
(.loop [.v 3,.c (.int .i64 0)]
(.lt none .len [.v 0] 1 <|
(.lt none (.bin .lss) [.v 6,.v 7] 1 <|
(.ite (.v 8)
(.lt none .inb [.v 0,.v 6] 0 <|
(.lt none (.row 1 0 [false]) [.v 0,.v 6] 1 <|
(.call none 4 [.v 9,.v 5] 1 [] <|
(.lt none (.bin .lss) [.v 10,.c (.int .i64 0)] 1 <|
(.ite (.v 11)
(.leaf .ret [.c (.int .i64 (-1))] ())
(.lt none (.bin .add) [.v 6,.c (.int .i64 1)] 1 <|
(.leaf .cont [.v 10,.v 12] ())))))))
(.leaf (.yield 1) [.v 5] ()))))) <|
(.leaf .ret [.v 5] ()))))))
def tm4:Tm Unit :=
(.lt none .len [.v 0] 1 <|
(.lt none (.bin .sub) [.v 1,.v 2] 1 <|
(.lt none (.bin .lss) [.v 3,.c (.int .i64 0)] 1 <|
(.ite (.v 4)
(.leaf .ret [.c (.int .i64 (-1))] ())
(.bind 1
(.loop [.v 3,.c (.int .i64 0)]
(.lt none .len [.v 0] 1 <|
(.lt none (.bin .lss) [.v 6,.v 7] 1 <|
(.ite (.v 8)
(.lt none .inb [.v 0,.v 6] 0 <|
(.lt none (.row 10 0 [true,true,true,true,true,true,true,true,true,false]) [.v 0,.v 6] 10 <|
(.call none 5 [.v 9,.v 10,.v 11,.v 12,.v 13,.v 14,.v 15,.v 16,.v 17,.v 18,.v 5] 1 [] <|
(.lt none (.bin .lss) [.v 19,.c (.int .i64 0)] 1 <|
(.ite (.v 20)
(.leaf .ret [.c (.int .i64 (-1))] ())
(.lt none (.bin .add) [.v 6,.c (.int .i64 1)] 1 <|
(.leaf .cont [.v 19,.v 21] ())))))))
(.leaf (.yield 1) [.v 5] ()))))) <|
(.leaf .ret [.v 5] ()))))))
def tm5:Tm Unit :=
(.call none 6 [.v 8,.v 9,.v 10] 1 [] <|
(.lt none (.bin .lss) [.v 11,.c (.int .i64 0)] 1 <|
(.ite (.v 12)
(.leaf .ret [.c (.int .i64 (-1))] ())
(.leaf .ret [.v 11] ()))))
def tm6:Tm Unit :=
(.call none 7 [.v 1,.v 2] 1 [] <|
(.lt none (.bin .lss) [.v 3,.c (.int .i64 0)] 1 <|
(.ite (.v 4)
(.leaf .ret [.c (.int .i64 (-1))] ())
(.leaf .ret [.v 3] ()))))
def tm7:Tm Unit :=
(.lt none .len [.v 0] 1 <|
(.lt none (.bin .sub) [.v 1,.v 2] 1 <|
(.lt none (.bin .lss) [.v 3,.c (.int .i64 0)] 1 <|
(.ite (.v 4)
(.leaf .ret [.c (.int .i64 (-1))] ())
(.leaf .ret [.v 3] ())))))
def tm8:Tm Unit :=
(.lt none .len [.v 0] 1 <|
(.lt none (.bin .sub) [.v 1,.v 2] 1 <|
(.lt none (.bin .lss) [.v 3,.c (.int .i64 0)] 1 <|
(.ite (.v 4)
(.leaf .ret [.c (.int .i64 (-1))] ())
(.bind 1
(.loop [.v 3,.c (.int .i64 0)]
(.lt none .len [.v 0] 1 <|
(.lt none (.bin .lss) [.v 6,.v 7] 1 <|
(.ite (.v 8)
(.lt none .inb [.v 0,.v 6] 0 <|
(.lt none (.row 16 0 [true,true,true,true,true,true,true,true,true,true,false,true,false,true,false,false]) [.v 0,.v 6] 16 <|
(.call none 9 [.v 9,.v 10,.v 11,.v 12,.v 13,.v 14,.v 15,.v 16,.v 17,.v 18,.v 19,.v 20,.v 21,.v 22,.v 23,.v 24,.v 5] 1 [] <|
(.lt none (.bin .lss) [.v 25,.c (.int .i64 0)] 1 <|
(.ite (.v 26)
(.leaf .ret [.c (.int .i64 (-1))] ())
(.lt none (.bin .add) [.v 6,.c (.int .i64 1)] 1 <|
(.leaf .cont [.v 25,.v 27] ())))))))
(.leaf (.yield 1) [.v 5] ()))))) <|
(.leaf .ret [.v 5] ()))))))
def tm9:Tm Unit :=
(.call none 6 [.v 9,.v 10,.v 16] 1 [] <|
(.lt none (.bin .lss) [.v 17,.c (.int .i64 0)] 1 <|
(.ite (.v 18)
(.leaf .ret [.c (.int .i64 (-1))] ())
(.call none 6 [.v 11,.v 12,.v 17] 1 [] <|
(.lt none (.bin .lss) [.v 19,.c (.int .i64 0)] 1 <|
(.ite (.v 20)
(.leaf .ret [.c (.int .i64 (-1))] ())
(.call none 7 [.v 14,.v 19] 1 [] <|
(.lt none (.bin .lss) [.v 21,.c (.int .i64 0)] 1 <|
(.ite (.v 22)
(.leaf .ret [.c (.int .i64 (-1))] ())
(.call none 4 [.v 15,.v 21] 1 [] <|
(.lt none (.bin .lss) [.v 23,.c (.int .i64 0)] 1 <|
(.ite (.v 24)
(.leaf .ret [.c (.int .i64 (-1))] ())
(.leaf .ret [.v 23] ())))))))))))))
def Db9:Tm Unit :=
(.call none 11 [.v 1,.v 2] 2 [] <|
(.call none 18 [.v 3] 1 [] <|
(.leaf .ret [.v 0,.v 4,.v 5,.v 6] ())))
def Db8:Tm Unit :=
(.call none 12 [.v 1] 1 [] <|
(.leaf .ret [.v 0,.v 2] ()))
def Db7:Tm Unit :=
(.lt none .len [.v 0] 1 <|
(.lt none (.make 24 [(.rows 10 [])]) [.v 1] 1 <|
(.bind 1
(.loop [.v 2,.c (.int .i64 0)]
(.lt none .len [.v 0] 1 <|
(.lt none (.bin .lss) [.v 4,.v 5] 1 <|
(.ite (.v 6)
(.lt none .inb [.v 0,.v 4] 0 <|
(.lt none (.row 1 0 [false]) [.v 0,.v 4] 1 <|
(.call none 13 [.v 7] 1 [] <|
(.lt none .inb [.v 3,.v 4] 0 <|
(.lt none (.set 1 0 1) [.v 3,.v 4,.v 8] 1 <|
(.lt none (.bin .add) [.v 4,.c (.int .i64 1)] 1 <|
(.leaf .cont [.v 9,.v 10] ())))))))
(.leaf (.yield 1) [.v 3] ()))))) <|
(.leaf .ret [.v 3] ()))))
def Db6:Tm Unit :=
(.lt none .len [.v 0] 1 <|
(.lt none (.make 96 [(.int .i64 0),(.int .i64 0),(.int .i64 0),(.int .i64 0),(.int .i64 0),(.int .i64 0),(.int .i64 0),(.int .i64 0),(.int .i64 0),(.rows 1 [])]) [.v 1] 1 <|
(.bind 1
(.loop [.v 2,.c (.int .i64 0)]
(.lt none .len [.v 0] 1 <|
(.lt none (.bin .lss) [.v 4,.v 5] 1 <|
(.ite (.v 6)
(.lt none .inb [.v 0,.v 4] 0 <|
(.lt none (.row 10 0 [true,true,true,true,true,true,true,true,true,false]) [.v 0,.v 4] 10 <|
(.call none 14 [.v 7,.v 8,.v 9,.v 10,.v 11,.v 12,.v 13,.v 14,.v 15,.v 16] 10 [] <|
(.lt none .inb [.v 3,.v 4] 0 <|
(.lt none (.set 10 0 10) [.v 3,.v 4,.v 17,.v 18,.v 19,.v 20,.v 21,.v 22,.v 23,.v 24,.v 25,.v 26] 1 <|
(.lt none (.bin .add) [.v 4,.c (.int .i64 1)] 1 <|
(.leaf .cont [.v 27,.v 28] ())))))))
(.leaf (.yield 1) [.v 3] ()))))) <|
(.leaf .ret [.v 3] ()))))
def Db5:Tm Unit :=
(.call none 15 [.v 3,.v 4,.v 5,.v 6,.v 7] 5 [] <|
(.call none 16 [.v 8,.v 9] 2 [] <|
(.leaf .ret [.v 0,.v 1,.v 2,.v 10,.v 11,.v 12,.v 13,.v 14,.v 15,.v 16] ())))
def Db4:Tm Unit :=
(.leaf .ret [.v 0,.v 1,.v 2,.v 3,.v 4] ())
def Db3:Tm Unit :=
(.call none 17 [.v 1] 1 [] <|
(.leaf .ret [.v 0,.v 2] ()))
def Db2:Tm Unit :=
(.lt none .len [.v 0] 1 <|
(.lt none (.make 8 [(.int .i64 0)]) [.v 1] 1 <|
(.bind 1
(.loop [.v 2,.c (.int .i64 0)]
(.lt none .len [.v 0] 1 <|
(.lt none (.bin .lss) [.v 4,.v 5] 1 <|
(.ite (.v 6)
(.lt none .inb [.v 0,.v 4] 0 <|
(.lt none (.row 1 0 [true]) [.v 0,.v 4] 1 <|
(.lt none .inb [.v 3,.v 4] 0 <|
(.lt none (.set 1 0 1) [.v 3,.v 4,.v 7] 1 <|
(.lt none (.bin .add) [.v 4,.c (.int .i64 1)] 1 <|
(.leaf .cont [.v 8,.v 9] ()))))))
(.leaf (.yield 1) [.v 3] ()))))) <|
(.leaf .ret [.v 3] ()))))
def Db1:Tm Unit :=
(.lt none .len [.v 0] 1 <|
(.lt none (.make 192 [(.int .i64 0),(.int .i64 0),(.int .i64 0),(.int .i64 0),(.int .i64 0),(.int .i64 0),(.int .i64 0),(.int .i64 0),(.int .i64 0),(.int .i64 0),(.rows 1 []),(.int .i64 0),(.rows 1 []),(.bool false),(.rows 1 []),(.rows 10 [])]) [.v 1] 1 <|
(.bind 1
(.loop [.v 2,.c (.int .i64 0)]
(.lt none .len [.v 0] 1 <|
(.lt none (.bin .lss) [.v 4,.v 5] 1 <|
(.ite (.v 6)
(.lt none .inb [.v 0,.v 4] 0 <|
(.lt none (.row 16 0 [true,true,true,true,true,true,true,true,true,true,false,true,false,true,false,false]) [.v 0,.v 4] 16 <|
(.call none 19 [.v 7,.v 8,.v 9,.v 10,.v 11,.v 12,.v 13,.v 14,.v 15,.v 16,.v 17,.v 18,.v 19,.v 20,.v 21,.v 22] 16 [] <|
(.lt none .inb [.v 3,.v 4] 0 <|
(.lt none (.set 16 0 16) [.v 3,.v 4,.v 23,.v 24,.v 25,.v 26,.v 27,.v 28,.v 29,.v 30,.v 31,.v 32,.v 33,.v 34,.v 35,.v 36,.v 37,.v 38] 1 <|
(.lt none (.bin .add) [.v 4,.c (.int .i64 1)] 1 <|
(.leaf .cont [.v 39,.v 40] ())))))))
(.leaf (.yield 1) [.v 3] ()))))) <|
(.leaf .ret [.v 3] ()))))
def Db0:Tm Unit :=
(.call none 15 [.v 4,.v 5,.v 6,.v 7,.v 8] 5 [] <|
(.call none 16 [.v 9,.v 10] 2 [] <|
(.call none 16 [.v 11,.v 12] 2 [] <|
(.call none 17 [.v 14] 1 [] <|
(.call none 13 [.v 15] 1 [] <|
(.leaf .ret [.v 0,.v 1,.v 2,.v 3,.v 16,.v 17,.v 18,.v 19,.v 20,.v 21,.v 22,.v 23,.v 24,.v 13,.v 25,.v 26] ()))))))
def Dbz:Tm Unit :=
(.call none 21 [.v 0,.v 1,.v 2,.v 3] 1 [] <|
(.lt none .not [.v 6] 1 <|
(.lt (some (.v 7,false)) .id [.v 1] 1 <|
(.lt (some (.v 7,false)) .id [.v 4] 1 <|
(.lt (some (.v 7,false)) .id [.v 5] 1 <|
(.call (some (.v 7,false)) 35 [.v 8,.v 9,.v 10] 1 [] <|
(.lt (some (.v 7,false)) .not [.v 11] 1 <|
(.lt none .pick [.v 7,.c (.bool true),.v 12] 1 <|
(.ite (.v 13)
(.leaf .ret [.c (.int .i64 0),.c (.int .i64 0),.c (.rows 1 []),.c (.rows 16 []),.c (.rows 15 []),.c (.bool false)] ())
(.call none 38 [.v 1,.v 2,.v 4,.v 5] 10 [] <|
(.call none 42 [.v 1,.v 2,.v 4,.v 5,.v 0] 2 [] <|
(.lt none (.bin .eql) [.v 16,.c (.int .i64 3)] 1 <|
(.lt (some (.v 26,false)) .id [.v 25] 1 <|
(.lt (some (.v 26,false)) .not [.v 27] 1 <|
(.lt none .pick [.v 26,.c (.bool true),.v 28] 1 <|
(.ite (.v 29)
(.leaf .ret [.c (.int .i64 0),.c (.int .i64 0),.c (.rows 1 []),.c (.rows 16 []),.c (.rows 15 []),.c (.bool false)] ())
(.call none 45 [.v 0,.v 1,.v 2,.v 3] 4 [] <|
(.call none 26 [.v 1] 2 [] <|
(.lt none (.mk 1 1) [.v 0] 1 <|
(.lt none (.mk 10 1) [.v 14,.v 15,.v 16,.v 17,.v 18,.v 19,.v 20,.v 21,.v 22,.v 23] 1 <|
(.call none 49 [.v 4,.v 5,.v 24,.c (.int .i64 3),.c (.int .i64 0),.c (.int .i64 0),.c (.int .i64 0),.c (.int .i64 0),.c (.int .i64 0),.v 34,.v 35,.v 34,.v 35,.c (.bool false),.v 36,.v 37,.v 30,.v 31,.v 32,.v 33,.c (.rows 15 []),.c (.bool true)] 6 [] <|
(.lt none (.dep 99) [.v 42] 0 <|
(.call none 51 [.v 4,.v 5,.v 24,.v 15,.v 16,.v 17,.v 18,.v 19,.v 20,.v 21,.v 22,.v 23,.v 38,.v 39,.v 40,.v 41,.v 42,.v 43] 6 [] <|
(.lt none (.dep 99) [.v 48] 0 <|
(.call none 53 [.c (.int .i64 6),.c (.int .i64 0),.c (.int .i64 0),.v 4,.v 5,.v 24,.c (.int .i64 0),.c (.int .i64 0),.c (.int .i64 0),.c (.int .i64 0),.c (.int .i64 0),.c (.int .i64 0),.c (.int .i64 0),.c (.int .i64 0),.c (.rows 1 []),.v 44,.v 45,.v 46,.v 47,.v 48,.v 49] 6 [] <|
(.lt none (.dep 99) [.v 54] 0 <|
(.call none 55 [.v 50,.v 51,.v 52,.v 53,.v 54,.v 55] 6 [] <|
(.leaf .ret [.v 56,.v 57,.v 58,.v 59,.v 60,.v 61] ()))))))))))))))))))))))))))))
def Dby:Tm Unit :=
(.call none 22 [.v 1,.v 2] 1 [] <|
(.lt none .not [.v 4] 1 <|
(.lt (some (.v 5,false)) .id [.v 0] 1 <|
(.lt (some (.v 5,false)) .id [.v 1] 1 <|
(.lt (some (.v 5,false)) (.bin .sub) [.v 7,.c (.int .i64 1)] 1 <|
(.call (some (.v 5,false)) 25 [.v 6,.c (.int .i64 0),.v 8] 1 [] <|
(.lt (some (.v 5,false)) .not [.v 9] 1 <|
(.lt none .pick [.v 5,.c (.bool true),.v 10] 1 <|
(.ite (.v 11)
(.leaf .ret [.c (.bool false)] ())
(.lt none .len [.v 3] 1 <|
(.bind 1
(.loop [.c (.int .i64 0)]
(.lt none (.bin .lss) [.v 13,.v 12] 1 <|
(.ite (.v 14)
(.bind 0
(.lt none .inb [.v 3,.v 13] 0 <|
(.lt none (.row 16 0 [true,true,true,true,true,true,true,true,true,true,false,true,false,true,false,false]) [.v 3,.v 13] 16 <|
(.call none 34 [.v 1,.v 0,.v 15,.v 16,.v 17,.v 18,.v 19,.v 20,.v 21,.v 22,.v 23,.v 24,.v 25,.v 26,.v 27,.v 28,.v 29,.v 30] 1 [] <|
(.lt none .not [.v 31] 1 <|
(.ite (.v 32)
(.leaf .ret [.c (.bool false)] ())
(.lt none (.bin .gtr) [.v 13,.c (.int .i64 0)] 1 <|
(.ite (.v 33)
(.lt none (.bin .sub) [.v 13,.c (.int .i64 1)] 1 <|
(.lt none .inb [.v 3,.v 34] 0 <|
(.lt none (.row 16 0 [true,true,true,true,true,true,true,true,true,true,false,true,false,true,false,false]) [.v 3,.v 34] 16 <|
(.lt none (.bin .gtr) [.v 35,.v 15] 1 <|
(.lt (some (.v 51,false)) .id [.v 35] 1 <|
(.lt (some (.v 51,false)) .id [.v 15] 1 <|
(.lt (some (.v 51,false)) (.bin .eql) [.v 52,.v 53] 1 <|
(.lt (some (.v 51,false)) .id [.v 54] 1 <|
(.lt (some (.v 55,true)) .id [.v 36] 1 <|
(.lt (some (.v 55,true)) .id [.v 16] 1 <|
(.lt (some (.v 55,true)) (.bin .geq) [.v 56,.v 57] 1 <|
(.lt (some (.v 51,false)) .pick [.v 55,.v 58,.c (.bool false)] 1 <|
(.lt none .pick [.v 51,.c (.bool true),.v 59] 1 <|
(.ite (.v 60)
(.leaf .ret [.c (.bool false)] ())
(.leaf (.yield 0) [] ())))))))))))))))
(.leaf (.yield 0) [] ())))))))) <|
(.lt none (.bin .add) [.v 13,.c (.int .i64 1)] 1 <|
(.leaf .cont [.v 15] ())))
(.leaf (.yield 1) [] ())))) <|
(.leaf .ret [.c (.bool true)] ()))))))))))))
def Dbx:Tm Unit :=
(.call none 23 [.v 0] 1 [] <|
(.lt none .not [.v 2] 1 <|
(.lt (some (.v 3,false)) .len [.v 1] 1 <|
(.lt (some (.v 3,false)) .id [.v 0] 1 <|
(.lt (some (.v 3,false)) (.bin .neq) [.v 4,.v 5] 1 <|
(.lt none .pick [.v 3,.c (.bool true),.v 6] 1 <|
(.ite (.v 7)
(.leaf .ret [.c (.bool false)] ())
(.lt none .len [.v 1] 1 <|
(.bind 1
(.loop [.c (.int .i64 0)]
(.lt none (.bin .lss) [.v 9,.v 8] 1 <|
(.ite (.v 10)
(.lt none .inb [.v 1,.v 9] 0 <|
(.lt none (.row 1 0 [false]) [.v 1,.v 9] 1 <|
(.lt none .len [.v 11] 1 <|
(.bind 3
(.loop [.c (.int .i64 0)]
(.lt none (.bin .lss) [.v 13,.v 12] 1 <|
(.ite (.v 14)
(.lt none .inb [.v 11,.v 13] 0 <|
(.lt none (.row 10 0 [true,true,true,true,true,true,true,true,true,false]) [.v 11,.v 13] 10 <|
(.call none 24 [.v 0,.v 15,.v 16,.v 17,.v 18,.v 19,.v 20,.v 21,.v 22,.v 23,.v 24] 1 [] <|
(.lt none .not [.v 25] 1 <|
(.ite (.v 26)
(.leaf .ret [.c (.bool false)] ())
(.lt none (.bin .add) [.v 13,.c (.int .i64 1)] 1 <|
(.leaf .cont [.v 27] ())))))))
(.leaf (.yield 3) [] ())))) <|
(.lt none .len [.v 11] 1 <|
(.lt none (.bin .gtr) [.v 13,.c (.int .i64 6)] 1 <|
(.ite (.v 14)
(.leaf .ret [.c (.bool false)] ())
(.lt none (.bin .add) [.v 9,.c (.int .i64 1)] 1 <|
(.leaf .cont [.v 15] ())))))))))
(.leaf (.yield 1) [] ())))) <|
(.leaf .ret [.c (.bool true)] ()))))))))))
def Dbw:Tm Unit :=
(.lt none (.bin .eql) [.v 0,.c (.int .i64 3)] 1 <|
(.lt (some (.v 1,false)) .id [.v 0] 1 <|
(.lt (some (.v 1,false)) (.bin .eql) [.v 2,.c (.int .i64 5)] 1 <|
(.lt none .pick [.v 1,.c (.bool true),.v 3] 1 <|
(.leaf .ret [.v 4] ())))))
def Dbv:Tm Unit :=
(.call none 25 [.v 1,.c (.int .i64 0),.c (.int .i64 9999)] 1 [] <|
(.lt none .not [.v 11] 1 <|
(.lt (some (.v 12,false)) .id [.v 2] 1 <|
(.lt (some (.v 12,false)) .id [.v 1] 1 <|
(.call (some (.v 12,false)) 25 [.v 13,.c (.int .i64 0),.v 14] 1 [] <|
(.lt (some (.v 12,false)) .not [.v 15] 1 <|
(.lt none .pick [.v 12,.c (.bool true),.v 16] 1 <|
(.lt (some (.v 17,false)) .id [.v 3] 1 <|
(.call (some (.v 17,false)) 25 [.v 18,.c (.int .i64 0),.c (.int .i64 3)] 1 [] <|
(.lt (some (.v 17,false)) .not [.v 19] 1 <|
(.lt none .pick [.v 17,.c (.bool true),.v 20] 1 <|
(.ite (.v 21)
(.leaf .ret [.c (.bool false)] ())
(.lt none (.bin .eql) [.v 3,.c (.int .i64 0)] 1 <|
(.ite (.v 22)
(.lt none (.bin .eql) [.v 2,.c (.int .i64 0)] 1 <|
(.lt (some (.v 23,true)) (.eqs [0,0,0,0,0]) [.v 4,.v 5,.v 6,.v 7,.v 8,.c (.int .i64 0),.c (.int .i64 0),.c (.int .i64 0),.c (.int .i64 0),.c (.int .i64 0)] 1 <|
(.lt none .pick [.v 23,.v 24,.c (.bool false)] 1 <|
(.lt (some (.v 25,true)) .id [.v 0] 1 <|
(.call (some (.v 25,true)) 26 [.v 26] 2 [] <|
(.call (some (.v 25,true)) 27 [.v 9,.v 10,.v 27,.v 28] 1 [] <|
(.lt none .pick [.v 25,.v 29,.c (.bool false)] 1 <|
(.leaf .ret [.v 30] ()))))))))
(.call none 29 [.v 4,.v 5,.v 6,.v 7,.v 8] 1 [] <|
(.lt (some (.v 23,true)) .id [.v 0] 1 <|
(.call (some (.v 23,true)) 32 [.v 24,.v 9,.v 10] 1 [] <|
(.lt none .pick [.v 23,.v 25,.c (.bool false)] 1 <|
(.leaf .ret [.v 26] ())))))))))))))))))))
def Dbu:Tm Unit :=
(.lt none (.bin .geq) [.v 0,.v 1] 1 <|
(.lt (some (.v 3,true)) .id [.v 0] 1 <|
(.lt (some (.v 3,true)) .id [.v 2] 1 <|
(.lt (some (.v 3,true)) (.bin .leq) [.v 4,.v 5] 1 <|
(.lt none .pick [.v 3,.v 6,.c (.bool false)] 1 <|
(.leaf .ret [.v 7] ()))))))
def Dbt:Tm Unit :=
(.lt none (.make 8 [(.int .i64 0)]) [.v 0] 1 <|
(.leaf .ret [.c (.int .i64 0),.v 1] ()))
def Dbs:Tm Unit :=
(.lt none (.bin .eql) [.v 0,.v 2] 1 <|
(.call (some (.v 4,true)) 28 [.v 1,.v 3] 1 [] <|
(.lt none .pick [.v 4,.v 5,.c (.bool false)] 1 <|
(.leaf .ret [.v 6] ()))))
def Dbr:Tm Unit :=
(.lt none .len [.v 0] 1 <|
(.lt none .len [.v 1] 1 <|
(.lt none (.bin .neq) [.v 2,.v 3] 1 <|
(.ite (.v 4)
(.leaf .ret [.c (.bool false)] ())
(.lt none .len [.v 0] 1 <|
(.bind 1
(.loop [.c (.int .i64 0)]
(.lt none (.bin .lss) [.v 6,.v 5] 1 <|
(.ite (.v 7)
(.lt none .inb [.v 0,.v 6] 0 <|
(.lt none (.row 1 0 [true]) [.v 0,.v 6] 1 <|
(.lt none .inb [.v 1,.v 6] 0 <|
(.lt none (.row 1 0 [true]) [.v 1,.v 6] 1 <|
(.lt none (.bin .neq) [.v 8,.v 9] 1 <|
(.ite (.v 10)
(.leaf .ret [.c (.bool false)] ())
(.lt none (.bin .add) [.v 6,.c (.int .i64 1)] 1 <|
(.leaf .cont [.v 11] ()))))))))
(.leaf (.yield 1) [] ())))) <|
(.leaf .ret [.c (.bool true)] ())))))))
def Dbq:Tm Unit :=
(.lt none (.bin .eql) [.v 0,.c (.int .i64 0)] 1 <|
(.ite (.v 5)
(.lt none (.eqs [0,0,0,0,0]) [.v 0,.v 1,.v 2,.v 3,.v 4,.c (.int .i64 0),.c (.int .i64 0),.c (.int .i64 0),.c (.int .i64 0),.c (.int .i64 0)] 1 <|
(.leaf .ret [.v 6] ()))
(.lt none (.bin .eql) [.v 0,.c (.int .i64 1)] 1 <|
(.ite (.v 6)
(.call none 30 [.v 0,.v 1,.v 2,.v 3,.v 4] 1 [] <|
(.lt none (.bin .eql) [.v 7,.c (.int .i64 0)] 1 <|
(.leaf .ret [.v 8] ())))
(.lt none (.bin .eql) [.v 0,.c (.int .i64 2)] 1 <|
(.ite (.v 7)
(.call none 30 [.v 0,.v 1,.v 2,.v 3,.v 4] 1 [] <|
(.lt none (.bin .eql) [.v 8,.c (.int .i64 0)] 1 <|
(.lt (some (.v 9,true)) .id [.v 3] 1 <|
(.lt (some (.v 9,true)) (.bin .eql) [.v 10,.c (.int .i64 0)] 1 <|
(.lt none .pick [.v 9,.v 11,.c (.bool false)] 1 <|
(.lt (some (.v 12,true)) .id [.v 4] 1 <|
(.lt (some (.v 12,true)) (.bin .eql) [.v 13,.c (.int .i64 0)] 1 <|
(.lt none .pick [.v 12,.v 14,.c (.bool false)] 1 <|
(.leaf .ret [.v 15] ())))))))))
(.leaf .ret [.c (.bool false)] ())))))))
def Dbp:Tm Unit :=
(.lt none (.bin .eql) [.v 0,.c (.int .i64 1)] 1 <|
(.call none 31 [.v 2] 1 [] <|
(.lt none .not [.v 6] 1 <|
(.lt (some (.v 7,false)) .id [.v 5] 1 <|
(.lt (some (.v 7,false)) .id [.v 8] 1 <|
(.lt (some (.v 9,true)) .id [.v 3] 1 <|
(.call (some (.v 9,true)) 31 [.v 10] 1 [] <|
(.lt (some (.v 9,true)) .not [.v 11] 1 <|
(.lt (some (.v 7,false)) .pick [.v 9,.v 12,.c (.bool false)] 1 <|
(.lt none .pick [.v 7,.c (.bool true),.v 13] 1 <|
(.ite (.v 14)
(.leaf .ret [.c (.int .i64 4)] ())
(.lt (some (.v 5,true)) .id [.v 2] 1 <|
(.lt (some (.v 5,true)) .id [.v 3] 1 <|
(.lt (some (.v 5,true)) (.bin .eql) [.v 15,.v 16] 1 <|
(.lt none .pick [.v 5,.v 17,.c (.bool false)] 1 <|
(.ite (.v 18)
(.leaf .ret [.c (.int .i64 5)] ())
(.call none 25 [.v 1,.c (.int .i64 1),.c (.int .i64 999)] 1 [] <|
(.lt none .not [.v 19] 1 <|
(.lt (some (.v 20,false)) .id [.v 5] 1 <|
(.lt (some (.v 20,false)) .id [.v 21] 1 <|
(.lt (some (.v 22,true)) .id [.v 4] 1 <|
(.call (some (.v 22,true)) 25 [.v 23,.c (.int .i64 1),.c (.int .i64 1000)] 1 [] <|
(.lt (some (.v 22,true)) .not [.v 24] 1 <|
(.lt (some (.v 20,false)) .pick [.v 22,.v 25,.c (.bool false)] 1 <|
(.lt none .pick [.v 20,.c (.bool true),.v 26] 1 <|
(.ite (.v 27)
(.leaf .ret [.c (.int .i64 6)] ())
(.leaf .ret [.c (.int .i64 0)] ())))))))))))))))))))))))))))
def Dbo:Tm Unit :=
(.call none 25 [.v 0,.c (.int .i64 0),.c (.int .i64 3)] 1 [] <|
(.leaf .ret [.v 1] ()))
def Dbn:Tm Unit :=
(.call none 25 [.v 1,.c (.int .i64 0),.c (.int .i64 999)] 1 [] <|
(.lt (some (.v 3,true)) .len [.v 2] 1 <|
(.lt (some (.v 3,true)) .id [.v 0] 1 <|
(.lt (some (.v 3,true)) (.bin .eql) [.v 4,.v 5] 1 <|
(.lt none .pick [.v 3,.v 6,.c (.bool false)] 1 <|
(.call (some (.v 7,true)) 33 [.v 2,.c (.int .i64 0),.c (.int .i64 6)] 1 [] <|
(.lt none .pick [.v 7,.v 8,.c (.bool false)] 1 <|
(.leaf .ret [.v 9] ()))))))))
def Dbm:Tm Unit :=
(.lt none .len [.v 0] 1 <|
(.bind 1
(.loop [.c (.int .i64 0)]
(.lt none (.bin .lss) [.v 4,.v 3] 1 <|
(.ite (.v 5)
(.lt none .inb [.v 0,.v 4] 0 <|
(.lt none (.row 1 0 [true]) [.v 0,.v 4] 1 <|
(.call none 25 [.v 6,.v 1,.v 2] 1 [] <|
(.lt none .not [.v 7] 1 <|
(.ite (.v 8)
(.leaf .ret [.c (.bool false)] ())
(.lt none (.bin .add) [.v 4,.c (.int .i64 1)] 1 <|
(.leaf .cont [.v 9] ())))))))
(.leaf (.yield 1) [] ())))) <|
(.leaf .ret [.c (.bool true)] ())))
def Dbl:Tm Unit :=
(.call none 35 [.v 0,.v 2,.v 3] 1 [] <|
(.lt none .not [.v 18] 1 <|
(.lt (some (.v 19,false)) .id [.v 4] 1 <|
(.call (some (.v 19,false)) 25 [.v 20,.c (.int .i64 0),.c (.int .i64 9999)] 1 [] <|
(.lt (some (.v 19,false)) .not [.v 21] 1 <|
(.lt none .pick [.v 19,.c (.bool true),.v 22] 1 <|
(.lt (some (.v 23,false)) .id [.v 0] 1 <|
(.lt (some (.v 23,false)) (.bin .sub) [.v 24,.c (.int .i64 1)] 1 <|
(.call (some (.v 23,false)) 36 [.v 16,.c (.int .i64 0),.v 25] 1 [] <|
(.lt (some (.v 23,false)) .not [.v 26] 1 <|
(.lt none .pick [.v 23,.c (.bool true),.v 27] 1 <|
(.lt (some (.v 28,false)) .id [.v 1] 1 <|
(.call (some (.v 28,false)) 37 [.v 16,.v 29] 1 [] <|
(.lt (some (.v 28,false)) .not [.v 30] 1 <|
(.lt none .pick [.v 28,.c (.bool true),.v 31] 1 <|
(.lt (some (.v 32,false)) .id [.v 0] 1 <|
(.call (some (.v 32,false)) 32 [.v 33,.v 11,.v 12] 1 [] <|
(.lt (some (.v 32,false)) .not [.v 34] 1 <|
(.lt none .pick [.v 32,.c (.bool true),.v 35] 1 <|
(.lt (some (.v 36,false)) .id [.v 0] 1 <|
(.call (some (.v 36,false)) 32 [.v 37,.v 13,.v 14] 1 [] <|
(.lt (some (.v 36,false)) .not [.v 38] 1 <|
(.lt none .pick [.v 36,.c (.bool true),.v 39] 1 <|
(.ite (.v 40)
(.leaf .ret [.c (.bool false)] ())
(.lt none .len [.v 17] 1 <|
(.bind 1
(.loop [.c (.int .i64 0)]
(.lt none (.bin .lss) [.v 42,.v 41] 1 <|
(.ite (.v 43)
(.lt none .inb [.v 17,.v 42] 0 <|
(.lt none (.row 10 0 [true,true,true,true,true,true,true,true,true,false]) [.v 17,.v 42] 10 <|
(.call none 24 [.v 0,.v 44,.v 45,.v 46,.v 47,.v 48,.v 49,.v 50,.v 51,.v 52,.v 53] 1 [] <|
(.lt none .not [.v 54] 1 <|
(.lt (some (.v 55,false)) .id [.v 46] 1 <|
(.lt (some (.v 55,false)) (.bin .eql) [.v 56,.c (.int .i64 3)] 1 <|
(.lt none .pick [.v 55,.c (.bool true),.v 57] 1 <|
(.ite (.v 58)
(.leaf .ret [.c (.bool false)] ())
(.lt none (.bin .add) [.v 42,.c (.int .i64 1)] 1 <|
(.leaf .cont [.v 59] ()))))))))))
(.leaf (.yield 1) [] ())))) <|
(.lt none (.bin .eql) [.v 5,.c (.int .i64 1)] 1 <|
(.ite (.v 42)
(.call none 29 [.v 6,.v 7,.v 8,.v 9,.v 10] 1 [] <|
(.lt (some (.v 43,true)) .len [.v 17] 1 <|
(.lt (some (.v 43,true)) (.bin .eql) [.v 44,.c (.int .i64 0)] 1 <|
(.lt none .pick [.v 43,.v 45,.c (.bool false)] 1 <|
(.leaf .ret [.v 46] ())))))
(.lt none (.bin .eql) [.v 5,.c (.int .i64 2)] 1 <|
(.ite (.v 43)
(.call none 29 [.v 6,.v 7,.v 8,.v 9,.v 10] 1 [] <|
(.lt (some (.v 44,true)) .len [.v 17] 1 <|
(.lt (some (.v 44,true)) (.bin .eql) [.v 45,.c (.int .i64 0)] 1 <|
(.lt none .pick [.v 44,.v 46,.c (.bool false)] 1 <|
(.lt (some (.v 47,true)) .id [.v 15] 1 <|
(.lt (some (.v 47,true)) .not [.v 48] 1 <|
(.lt none .pick [.v 47,.v 49,.c (.bool false)] 1 <|
(.call (some (.v 50,true)) 27 [.v 11,.v 12,.v 13,.v 14] 1 [] <|
(.lt none .pick [.v 50,.v 51,.c (.bool false)] 1 <|
(.leaf .ret [.v 52] ()))))))))))
(.lt none (.bin .eql) [.v 5,.c (.int .i64 3)] 1 <|
(.ite (.v 44)
(.call none 26 [.v 0] 2 [] <|
(.lt none (.eqs [0,0,0,0,0]) [.v 6,.v 7,.v 8,.v 9,.v 10,.c (.int .i64 0),.c (.int .i64 0),.c (.int .i64 0),.c (.int .i64 0),.c (.int .i64 0)] 1 <|
(.call (some (.v 47,true)) 27 [.v 11,.v 12,.v 45,.v 46] 1 [] <|
(.lt none .pick [.v 47,.v 48,.c (.bool false)] 1 <|
(.call (some (.v 49,true)) 27 [.v 13,.v 14,.v 45,.v 46] 1 [] <|
(.lt none .pick [.v 49,.v 50,.c (.bool false)] 1 <|
(.lt (some (.v 51,true)) .id [.v 15] 1 <|
(.lt (some (.v 51,true)) .not [.v 52] 1 <|
(.lt none .pick [.v 51,.v 53,.c (.bool false)] 1 <|
(.lt (some (.v 54,true)) .len [.v 17] 1 <|
(.lt (some (.v 54,true)) .len [.v 16] 1 <|
(.lt (some (.v 54,true)) (.bin .eql) [.v 55,.v 56] 1 <|
(.lt none .pick [.v 54,.v 57,.c (.bool false)] 1 <|
(.leaf .ret [.v 58] ()))))))))))))))
(.leaf .ret [.c (.bool false)] ())))))))))))))))))))))))))))))))))
def Dbk:Tm Unit :=
(.lt none (.bin .sub) [.v 0,.c (.int .i64 1)] 1 <|
(.call none 25 [.v 1,.c (.int .i64 0),.v 3] 1 [] <|
(.lt (some (.v 4,true)) .id [.v 2] 1 <|
(.call (some (.v 4,true)) 25 [.v 5,.c (.int .i64 1),.c (.int .i64 6)] 1 [] <|
(.lt none .pick [.v 4,.v 6,.c (.bool false)] 1 <|
(.leaf .ret [.v 7] ()))))))
def Dbj:Tm Unit :=
(.lt none .len [.v 0] 1 <|
(.bind 1
(.loop [.c (.int .i64 0)]
(.lt none (.bin .lss) [.v 4,.v 3] 1 <|
(.ite (.v 5)
(.lt none .inb [.v 0,.v 4] 0 <|
(.lt none (.row 1 0 [true]) [.v 0,.v 4] 1 <|
(.call none 25 [.v 6,.v 1,.v 2] 1 [] <|
(.lt none .not [.v 7] 1 <|
(.lt (some (.v 8,false)) .id [.v 4] 1 <|
(.lt (some (.v 8,false)) (.bin .gtr) [.v 9,.c (.int .i64 0)] 1 <|
(.lt (some (.v 8,false)) .id [.v 10] 1 <|
(.lt (some (.v 11,true)) .id [.v 4] 1 <|
(.lt (some (.v 11,true)) (.bin .sub) [.v 12,.c (.int .i64 1)] 1 <|
(.lt (some (.v 11,true)) .inb [.v 0,.v 13] 0 <|
(.lt (some (.v 11,true)) (.row 1 0 [true]) [.v 0,.v 13] 1 <|
(.lt (some (.v 11,true)) .id [.v 6] 1 <|
(.lt (some (.v 11,true)) (.bin .geq) [.v 14,.v 15] 1 <|
(.lt (some (.v 8,false)) .pick [.v 11,.v 16,.c (.bool false)] 1 <|
(.lt none .pick [.v 8,.c (.bool true),.v 17] 1 <|
(.ite (.v 18)
(.leaf .ret [.c (.bool false)] ())
(.lt none (.bin .add) [.v 4,.c (.int .i64 1)] 1 <|
(.leaf .cont [.v 19] ()))))))))))))))))))
(.leaf (.yield 1) [] ())))) <|
(.leaf .ret [.c (.bool true)] ())))
def Dbi:Tm Unit :=
(.lt none .len [.v 0] 1 <|
(.bind 1
(.loop [.c (.int .i64 0)]
(.lt none (.bin .lss) [.v 3,.v 2] 1 <|
(.ite (.v 4)
(.lt none .inb [.v 0,.v 3] 0 <|
(.lt none (.row 1 0 [true]) [.v 0,.v 3] 1 <|
(.lt none (.bin .eql) [.v 5,.v 1] 1 <|
(.ite (.v 6)
(.leaf .ret [.c (.bool true)] ())
(.lt none (.bin .add) [.v 3,.c (.int .i64 1)] 1 <|
(.leaf .cont [.v 7] ()))))))
(.leaf (.yield 1) [] ())))) <|
(.leaf .ret [.c (.bool false)] ())))
def Dbh:Tm Unit :=
(.lt none .inb [.v 1,.v 2] 0 <|
(.lt none (.row 1 0 [false]) [.v 1,.v 2] 1 <|
(.lt none .len [.v 4] 1 <|
(.lt none (.bin .gtr) [.v 3,.v 5] 1 <|
(.ite (.v 6)
(.call none 26 [.v 0] 2 [] <|
(.leaf .ret [.c (.int .i64 0),.c (.int .i64 0),.c (.int .i64 0),.c (.int .i64 0),.c (.int .i64 0),.c (.int .i64 0),.c (.int .i64 0),.c (.int .i64 0),.v 7,.v 8] ()))
(.lt none .inb [.v 1,.v 2] 0 <|
(.lt none (.row 1 0 [false]) [.v 1,.v 2] 1 <|
(.lt none (.bin .sub) [.v 3,.c (.int .i64 1)] 1 <|
(.lt none .inb [.v 7,.v 8] 0 <|
(.lt none (.row 10 0 [true,true,true,true,true,true,true,true,true,false]) [.v 7,.v 8] 10 <|
(.call none 39 [.v 9,.v 10,.v 11,.v 12,.v 13,.v 14,.v 15,.v 16,.v 17,.v 18] 10 [] <|
(.leaf .ret [.v 19,.v 20,.v 21,.v 22,.v 23,.v 24,.v 25,.v 26,.v 27,.v 28] ()))))))))))))
def Dbg:Tm Unit :=
(.call none 40 [.v 8,.v 9] 2 [] <|
(.leaf .ret [.v 0,.v 1,.v 2,.v 3,.v 4,.v 5,.v 6,.v 7,.v 10,.v 11] ()))
def Dbf:Tm Unit :=
(.call none 41 [.v 1] 1 [] <|
(.leaf .ret [.v 0,.v 2] ()))
def Dbe:Tm Unit :=
(.lt none (.mk 1 0) [] 1 <|
(.lt none (.app 1 8 true) [.v 1,.v 0] 1 <|
(.leaf .ret [.v 2] ())))
def Dbd:Tm Unit :=
(.call none 43 [.v 0,.v 1,.v 2,.v 3] 1 [] <|
(.lt none .not [.v 5] 1 <|
(.lt (some (.v 6,false)) .id [.v 4] 1 <|
(.lt (some (.v 6,false)) .id [.v 0] 1 <|
(.lt (some (.v 6,false)) (.bin .sub) [.v 8,.c (.int .i64 1)] 1 <|
(.call (some (.v 6,false)) 25 [.v 7,.c (.int .i64 0),.v 9] 1 [] <|
(.lt (some (.v 6,false)) .not [.v 10] 1 <|
(.lt none .pick [.v 6,.c (.bool true),.v 11] 1 <|
(.lt (some (.v 12,false)) .id [.v 2] 1 <|
(.lt (some (.v 12,false)) .id [.v 3] 1 <|
(.lt (some (.v 12,false)) .id [.v 4] 1 <|
(.call (some (.v 12,false)) 44 [.v 0,.v 1,.v 13,.v 14,.v 15] 1 [] <|
(.lt (some (.v 12,false)) (.bin .gtr) [.v 16,.c (.int .i64 9999)] 1 <|
(.lt none .pick [.v 12,.c (.bool true),.v 17] 1 <|
(.ite (.v 18)
(.leaf .ret [.c (.int .i64 0),.c (.bool false)] ())
(.call none 44 [.v 0,.v 1,.v 2,.v 3,.v 4] 1 [] <|
(.leaf .ret [.v 19,.c (.bool true)] ())))))))))))))))))
def Dbc:Tm Unit :=
(.call none 22 [.v 0,.v 1] 1 [] <|
(.lt (some (.v 4,true)) .id [.v 0] 1 <|
(.lt (some (.v 4,true)) .id [.v 2] 1 <|
(.lt (some (.v 4,true)) .id [.v 3] 1 <|
(.call (some (.v 4,true)) 35 [.v 5,.v 6,.v 7] 1 [] <|
(.lt none .pick [.v 4,.v 8,.c (.bool false)] 1 <|
(.leaf .ret [.v 9] ())))))))
def Dbb:Tm Unit :=
(.call none 38 [.v 0,.v 1,.v 2,.v 3] 10 [] <|
(.lt none (.bin .add) [.c (.int .i64 8),.v 4] 1 <|
(.bind 1
(.loop [.v 15]
(.lt none (.bin .leq) [.v 16,.v 5] 1 <|
(.ite (.v 17)
(.lt none (.bin .add) [.v 16,.c (.int .i64 8)] 1 <|
(.leaf .cont [.v 18] ()))
(.leaf (.yield 1) [.v 16] ())))) <|
(.leaf .ret [.v 16] ()))))
def Dba:Tm Unit :=
(.call none 46 [.v 1,.v 2] 2 [] <|
(.lt none .len [.v 3] 1 <|
(.bind 1
(.loop [.c (.int .i64 0),.c (.rows 16 [])]
(.lt none (.bin .lss) [.v 7,.v 6] 1 <|
(.ite (.v 9)
(.lt none .inb [.v 3,.v 7] 0 <|
(.lt none (.row 16 0 [true,true,true,true,true,true,true,true,true,true,false,true,false,true,false,false]) [.v 3,.v 7] 16 <|
(.call none 48 [.v 10,.v 11,.v 12,.v 13,.v 14,.v 15,.v 16,.v 17,.v 18,.v 19,.v 20,.v 21,.v 22,.v 23,.v 24,.v 25] 16 [] <|
(.lt none (.mk 16 1) [.v 26,.v 27,.v 28,.v 29,.v 30,.v 31,.v 32,.v 33,.v 34,.v 35,.v 36,.v 37,.v 38,.v 39,.v 40,.v 41] 1 <|
(.lt none (.app 16 192 false) [.v 8,.v 42] 1 <|
(.lt none (.bin .add) [.v 7,.c (.int .i64 1)] 1 <|
(.leaf .cont [.v 44,.v 43] ())))))))
(.leaf (.yield 1) [.v 8] ())))) <|
(.leaf .ret [.v 0,.v 4,.v 5,.v 7] ()))))
def Cb9:Tm Unit :=
(.call none 47 [.v 0] 2 [] <|
(.lt none .len [.v 1] 1 <|
(.bind 1
(.loop [.c (.int .i64 0),.v 3]
(.lt none (.bin .lss) [.v 5,.v 4] 1 <|
(.ite (.v 7)
(.lt none .inb [.v 1,.v 5] 0 <|
(.lt none (.row 1 0 [false]) [.v 1,.v 5] 1 <|
(.lt none .len [.v 8] 1 <|
(.bind 3
(.loop [.c (.int .i64 0),.v 6]
(.lt none (.bin .lss) [.v 10,.v 9] 1 <|
(.ite (.v 12)
(.lt none .inb [.v 8,.v 10] 0 <|
(.lt none (.row 10 0 [true,true,true,true,true,true,true,true,true,false]) [.v 8,.v 10] 10 <|
(.lt none .inb [.v 11,.v 5] 0 <|
(.lt none (.row 1 0 [false]) [.v 11,.v 5] 1 <|
(.call none 39 [.v 13,.v 14,.v 15,.v 16,.v 17,.v 18,.v 19,.v 20,.v 21,.v 22] 10 [] <|
(.lt none (.mk 10 1) [.v 24,.v 25,.v 26,.v 27,.v 28,.v 29,.v 30,.v 31,.v 32,.v 33] 1 <|
(.lt none (.set 1 0 1) [.v 11,.v 5,.c .hole] 1 <|
(.lt none (.app 10 96 false) [.v 23,.v 34] 1 <|
(.lt none .inb [.v 35,.v 5] 0 <|
(.lt none (.set 1 0 1) [.v 35,.v 5,.v 36] 1 <|
(.lt none (.bin .add) [.v 10,.c (.int .i64 1)] 1 <|
(.leaf .cont [.v 38,.v 37] ()))))))))))))
(.leaf (.yield 3) [.v 11] ())))) <|
(.lt none (.bin .add) [.v 5,.c (.int .i64 1)] 1 <|
(.leaf .cont [.v 11,.v 10] ()))))))
(.leaf (.yield 1) [.v 6] ())))) <|
(.leaf .ret [.v 2,.v 5] ()))))
def Cb8:Tm Unit :=
(.lt none (.make 24 [(.rows 10 [])]) [.v 0] 1 <|
(.leaf .ret [.v 0,.v 1] ()))
def Cb7:Tm Unit :=
(.call none 40 [.v 9,.v 10] 2 [] <|
(.call none 40 [.v 11,.v 12] 2 [] <|
(.call none 41 [.v 14] 1 [] <|
(.lt none .len [.v 15] 1 <|
(.bind 1
(.loop [.c (.rows 10 []),.c (.int .i64 0)]
(.lt none (.bin .lss) [.v 23,.v 21] 1 <|
(.ite (.v 24)
(.lt none .inb [.v 15,.v 23] 0 <|
(.lt none (.row 10 0 [true,true,true,true,true,true,true,true,true,false]) [.v 15,.v 23] 10 <|
(.call none 39 [.v 25,.v 26,.v 27,.v 28,.v 29,.v 30,.v 31,.v 32,.v 33,.v 34] 10 [] <|
(.lt none (.mk 10 1) [.v 35,.v 36,.v 37,.v 38,.v 39,.v 40,.v 41,.v 42,.v 43,.v 44] 1 <|
(.lt none (.app 10 96 false) [.v 22,.v 45] 1 <|
(.lt none (.bin .add) [.v 23,.c (.int .i64 1)] 1 <|
(.leaf .cont [.v 46,.v 47] ())))))))
(.leaf (.yield 1) [.v 22] ())))) <|
(.leaf .ret [.v 0,.v 1,.v 2,.v 3,.v 4,.v 5,.v 6,.v 7,.v 8,.v 16,.v 17,.v 18,.v 19,.v 13,.v 20,.v 22] ()))))))
def Cb6:Tm Unit :=
(.call none 50 [.v 0,.v 1,.v 16,.v 17,.v 18,.v 19,.v 20,.v 21] 6 [] <|
(.bind 1
(.loop [.c (.int .i64 0)]
(.lt none .len [.v 25] 1 <|
(.lt none (.bin .lss) [.v 28,.v 29] 1 <|
(.lt (some (.v 30,true)) .id [.v 28] 1 <|
(.lt (some (.v 30,true)) .inb [.v 25,.v 31] 0 <|
(.lt (some (.v 30,true)) (.row 16 0 [true]) [.v 25,.v 31] 1 <|
(.lt (some (.v 30,true)) .id [.v 0] 1 <|
(.lt (some (.v 30,true)) (.bin .lss) [.v 32,.v 33] 1 <|
(.lt (some (.v 30,true)) .id [.v 34] 1 <|
(.lt (some (.v 35,false)) .id [.v 28] 1 <|
(.lt (some (.v 35,false)) .inb [.v 25,.v 36] 0 <|
(.lt (some (.v 35,false)) (.row 16 0 [true]) [.v 25,.v 36] 1 <|
(.lt (some (.v 35,false)) .id [.v 0] 1 <|
(.lt (some (.v 35,false)) (.bin .eql) [.v 37,.v 38] 1 <|
(.lt (some (.v 35,false)) .id [.v 39] 1 <|
(.lt (some (.v 40,true)) .id [.v 28] 1 <|
(.lt (some (.v 40,true)) .inb [.v 25,.v 41] 0 <|
(.lt (some (.v 40,true)) (.row 16 1 [true]) [.v 25,.v 41] 1 <|
(.lt (some (.v 40,true)) .id [.v 1] 1 <|
(.lt (some (.v 40,true)) (.bin .lss) [.v 42,.v 43] 1 <|
(.lt (some (.v 35,false)) .pick [.v 40,.v 44,.c (.bool false)] 1 <|
(.lt (some (.v 30,true)) .pick [.v 35,.c (.bool true),.v 45] 1 <|
(.lt none .pick [.v 30,.v 46,.c (.bool false)] 1 <|
(.ite (.v 47)
(.lt none (.bin .add) [.v 28,.c (.int .i64 1)] 1 <|
(.leaf .cont [.v 48] ()))
(.leaf (.yield 1) [.v 28] ()))))))))))))))))))))))))) <|
(.lt none (.mk 16 0) [] 1 <|
(.lt none .len [.v 25] 1 <|
(.lt none (.sub 16 false) [.v 25,.v 28,.v 30] 1 <|
(.lt none (.app 16 192 false) [.v 29,.v 31] 1 <|
(.lt none (.mk 16 0) [] 1 <|
(.lt none (.sub 16 false) [.v 25,.c (.int .i64 0),.v 28] 1 <|
(.lt none (.app 16 192 false) [.v 33,.v 34] 1 <|
(.call none 48 [.v 0,.v 1,.v 2,.v 3,.v 4,.v 5,.v 6,.v 7,.v 8,.v 9,.v 10,.v 11,.v 12,.v 13,.v 14,.v 15] 16 [] <|
(.lt none (.mk 16 1) [.v 36,.v 37,.v 38,.v 39,.v 40,.v 41,.v 42,.v 43,.v 44,.v 45,.v 46,.v 47,.v 48,.v 49,.v 50,.v 51] 1 <|
(.lt none (.app 16 192 false) [.v 35,.v 52] 1 <|
(.lt none (.app 16 192 false) [.v 53,.v 32] 1 <|
(.leaf .ret [.v 22,.v 23,.v 24,.v 54,.v 26,.v 27] ()))))))))))))))
def Cb5:Tm Unit :=
(.lt none .len [.v 5] 1 <|
(.bind 1
(.loop [.c (.rows 16 []),.c (.int .i64 0)]
(.lt none (.bin .lss) [.v 10,.v 8] 1 <|
(.ite (.v 11)
(.bind 0
(.lt none .inb [.v 5,.v 10] 0 <|
(.lt none (.row 16 0 [true,true,true,true,true,true,true,true,true,true,false,true,false,true,false,false]) [.v 5,.v 10] 16 <|
(.lt none (.bin .neq) [.v 12,.v 0] 1 <|
(.lt (some (.v 28,false)) .id [.v 13] 1 <|
(.lt (some (.v 28,false)) .id [.v 1] 1 <|
(.lt (some (.v 28,false)) (.bin .neq) [.v 29,.v 30] 1 <|
(.lt none .pick [.v 28,.c (.bool true),.v 31] 1 <|
(.ite (.v 32)
(.lt none (.mk 16 1) [.v 12,.v 13,.v 14,.v 15,.v 16,.v 17,.v 18,.v 19,.v 20,.v 21,.v 22,.v 23,.v 24,.v 25,.v 26,.v 27] 1 <|
(.lt none (.app 16 192 false) [.v 9,.v 33] 1 <|
(.leaf (.yield 0) [.v 34,.c .undef,.c .undef,.c .undef] ())))
(.leaf (.yield 0) [.v 9,.c .undef,.c .undef,.c .undef] ()))))))))) <|
(.lt none (.bin .add) [.v 10,.c (.int .i64 1)] 1 <|
(.leaf .cont [.v 12,.v 16] ())))
(.leaf (.yield 1) [.v 9] ())))) <|
(.leaf .ret [.v 2,.v 3,.v 4,.v 9,.v 6,.v 7] ())))
def Cb4:Tm Unit :=
(.lt (some (.v 17,true)) .id [.v 13] 1 <|
(.call (some (.v 17,true)) 24 [.v 18,.v 2,.v 3,.v 4,.v 5,.v 6,.v 7,.v 8,.v 9,.v 10,.v 11] 1 [] <|
(.lt none .pick [.v 17,.v 19,.c (.bool false)] 1 <|
(.call none 52 [.v 13,.v 14,.v 0,.v 1,.v 2,.v 3,.v 4,.v 5,.v 6,.v 7,.v 8,.v 9,.v 10,.v 11] 2 [] <|
(.leaf .ret [.v 12,.v 21,.v 22,.v 15,.v 16,.v 20] ())))))
def Cb3:Tm Unit :=
(.call none 46 [.v 0,.v 1] 2 [] <|
(.bind 1
(.loop [.v 15]
(.lt none .inb [.v 16,.v 2] 0 <|
(.lt none (.row 1 0 [false]) [.v 16,.v 2] 1 <|
(.lt none .len [.v 17] 1 <|
(.lt none (.bin .lss) [.v 18,.v 3] 1 <|
(.ite (.v 19)
(.lt none .inb [.v 16,.v 2] 0 <|
(.lt none (.row 1 0 [false]) [.v 16,.v 2] 1 <|
(.call none 26 [.v 0] 2 [] <|
(.lt none (.mk 10 1) [.c (.int .i64 0),.c (.int .i64 0),.c (.int .i64 0),.c (.int .i64 0),.c (.int .i64 0),.c (.int .i64 0),.c (.int .i64 0),.c (.int .i64 0),.v 21,.v 22] 1 <|
(.lt none (.set 1 0 1) [.v 16,.v 2,.c .hole] 1 <|
(.lt none (.app 10 96 false) [.v 20,.v 23] 1 <|
(.lt none .inb [.v 24,.v 2] 0 <|
(.lt none (.set 1 0 1) [.v 24,.v 2,.v 25] 1 <|
(.leaf .cont [.v 26] ())))))))))
(.leaf (.yield 1) [.v 16] ()))))))) <|
(.lt none .inb [.v 16,.v 2] 0 <|
(.lt none (.row 1 0 [false]) [.v 16,.v 2] 1 <|
(.lt none (.bin .sub) [.v 3,.c (.int .i64 1)] 1 <|
(.call none 39 [.v 4,.v 5,.v 6,.v 7,.v 8,.v 9,.v 10,.v 11,.v 12,.v 13] 10 [] <|
(.lt none .inb [.v 17,.v 18] 0 <|
(.lt none (.set 10 0 10) [.v 17,.v 18,.v 19,.v 20,.v 21,.v 22,.v 23,.v 24,.v 25,.v 26,.v 27,.v 28] 1 <|
(.lt none (.set 1 0 1) [.v 16,.v 2,.v 29] 1 <|
(.leaf .ret [.v 14,.v 30] ()))))))))))
def Cb2:Tm Unit :=
(.bind 1
(.loop [.c (.int .i64 0),.v 15,.v 16,.v 17,.v 18,.v 19,.v 20]
(.lt none (.bin .lss) [.v 21,.v 23] 1 <|
(.ite (.v 28)
(.bind 0
(.lt none (.bin .neq) [.v 21,.v 22] 1 <|
(.ite (.v 29)
(.call none 54 [.v 21,.v 0,.v 1,.v 2,.v 3,.v 4,.v 5,.v 6,.v 7,.v 8,.v 9,.v 10,.v 11,.v 12,.v 13,.v 14,.v 22,.v 23,.v 24,.v 25,.v 26,.v 27] 6 [] <|
(.leaf (.yield 0) [.v 30,.v 31,.v 32,.v 33,.v 34,.v 35] ()))
(.leaf (.yield 0) [.v 22,.v 23,.v 24,.v 25,.v 26,.v 27] ()))) <|
(.lt none (.bin .add) [.v 21,.c (.int .i64 1)] 1 <|
(.leaf .cont [.v 35,.v 29,.v 30,.v 31,.v 32,.v 33,.v 34] ())))
(.leaf (.yield 1) [.v 22,.v 23,.v 24,.v 25,.v 26,.v 27] ())))) <|
(.leaf .ret [.v 21,.v 22,.v 23,.v 24,.v 25,.v 26] ()))
def Cb1:Tm Unit :=
(.bind 0
(.lt none .len [.v 15] 1 <|
(.lt none (.bin .eql) [.v 22,.c (.int .i64 0)] 1 <|
(.ite (.v 23)
(.call none 26 [.v 17] 2 [] <|
(.leaf (.yield 0) [.v 24,.v 25] ()))
(.leaf (.yield 0) [.v 14,.v 15] ())))) <|
(.call none 40 [.v 22,.v 23] 2 [] <|
(.lt none (.mk 15 1) [.v 1,.v 16,.v 0,.v 4,.v 5,.v 6,.v 7,.v 8,.v 9,.v 10,.v 11,.v 12,.v 13,.v 24,.v 25] 1 <|
(.lt none (.app 15 136 false) [.v 20,.v 26] 1 <|
(.leaf .ret [.v 16,.v 17,.v 18,.v 19,.v 27,.v 21] ())))))
def Cb0:Tm Unit :=
(.lt none .not [.v 5] 1 <|
(.call (some (.v 6,false)) 21 [.v 0,.v 1,.v 2,.v 3] 1 [] <|
(.lt (some (.v 6,false)) .not [.v 7] 1 <|
(.lt none .pick [.v 6,.c (.bool true),.v 8] 1 <|
(.ite (.v 9)
(.leaf .ret [.c (.int .i64 0),.c (.int .i64 0),.c (.rows 1 []),.c (.rows 16 []),.c (.rows 15 []),.c (.bool false)] ())
(.leaf .ret [.v 0,.v 1,.v 2,.v 3,.v 4,.c (.bool true)] ()))))))
def Cbz:Tm Unit :=
(.call none 57 [.v 0,.v 1,.v 2,.v 3,.v 4,.v 5] 1 [] <|
(.lt none .not [.v 6] 1 <|
(.ite (.v 7)
(.leaf .ret [.c (.int .i64 0),.c (.int .i64 0),.c (.rows 1 []),.c (.rows 16 []),.c (.rows 15 []),.c (.bool false)] ())
(.call none 97 [.v 1,.v 2,.v 4,.v 5,.v 0] 2 [] <|
(.lt none .not [.v 9] 1 <|
(.ite (.v 10)
(.leaf .ret [.c (.int .i64 0),.c (.int .i64 0),.c (.rows 1 []),.c (.rows 16 []),.c (.rows 15 []),.c (.bool false)] ())
(.call none 98 [.v 0,.v 1,.v 2,.v 3] 6 [] <|
(.call none 93 [.v 12,.v 13,.v 4,.v 5] 10 [] <|
(.lt none (.dep 99) [.v 26] 0 <|
(.call none 75 [.v 12] 2 [] <|
(.lt none (.mk 1 1) [.v 11] 1 <|
(.lt none (.mk 10 1) [.v 17,.v 18,.v 19,.v 20,.v 21,.v 22,.v 23,.v 24,.v 25,.v 26] 1 <|
(.call none 103 [.v 4,.v 5,.v 8,.c (.int .i64 3),.c (.int .i64 0),.c (.int .i64 0),.c (.int .i64 0),.c (.int .i64 0),.c (.int .i64 0),.v 27,.v 28,.v 27,.v 28,.c (.bool false),.v 29,.v 30,.v 11,.v 12,.v 13,.v 14,.v 15,.v 16] 6 [] <|
(.lt none (.dep 99) [.v 33] 0 <|
(.lt none (.dep 99) [.v 34] 0 <|
(.lt none (.dep 99) [.v 35] 0 <|
(.call none 110 [.v 4,.v 5,.v 8,.v 18,.v 19,.v 20,.v 21,.v 22,.v 23,.v 24,.v 25,.v 26,.v 32,.v 33] 2 [] <|
(.call none 111 [.c (.int .i64 6),.c (.int .i64 0),.c (.int .i64 0),.v 4,.v 5,.v 8,.c (.int .i64 0),.c (.int .i64 0),.c (.int .i64 0),.c (.int .i64 0),.c (.int .i64 0),.c (.int .i64 0),.c (.int .i64 0),.c (.int .i64 0),.c (.rows 1 []),.v 31,.v 37,.v 38,.v 34,.v 35,.v 36] 6 [] <|
(.call none 114 [.v 39,.v 40,.v 41,.v 42,.v 43,.v 44] 12 [] <|
(.leaf .ret [.v 45,.v 46,.v 47,.v 48,.v 49,.v 50] ()))))))))))))))))))))
def Cby:Tm Unit :=
(.call none 58 [.v 0,.v 1,.v 2,.v 3] 1 [] <|
(.lt (some (.v 6,true)) .id [.v 1] 1 <|
(.lt (some (.v 6,true)) .id [.v 4] 1 <|
(.lt (some (.v 6,true)) .id [.v 5] 1 <|
(.call (some (.v 6,true)) 79 [.v 7,.v 8,.v 9] 1 [] <|
(.lt none .pick [.v 6,.v 10,.c (.bool false)] 1 <|
(.lt (some (.v 11,true)) .id [.v 4] 1 <|
(.lt (some (.v 11,true)) .id [.v 5] 1 <|
(.call (some (.v 11,true)) 93 [.v 1,.v 2,.v 12,.v 13] 10 [] <|
(.lt (some (.v 11,true)) .id [.v 16] 1 <|
(.lt (some (.v 11,true)) (.bin .neq) [.v 24,.c (.int .i64 3)] 1 <|
(.lt none .pick [.v 11,.v 25,.c (.bool false)] 1 <|
(.leaf .ret [.v 26] ())))))))))))))
def Cbx:Tm Unit :=
(.call none 59 [.v 1,.v 2] 1 [] <|
(.lt none .not [.v 4] 1 <|
(.lt (some (.v 5,false)) .id [.v 0] 1 <|
(.lt (some (.v 5,false)) .id [.v 1] 1 <|
(.lt (some (.v 5,false)) (.bin .sub) [.v 7,.c (.int .i64 1)] 1 <|
(.call (some (.v 5,false)) 68 [.v 6,.c (.int .i64 0),.v 8] 1 [] <|
(.lt (some (.v 5,false)) .not [.v 9] 1 <|
(.lt none .pick [.v 5,.c (.bool true),.v 10] 1 <|
(.ite (.v 11)
(.leaf .ret [.c (.bool false)] ())
(.lt none .len [.v 3] 1 <|
(.bind 1
(.loop [.c (.int .i64 0)]
(.lt none (.bin .lss) [.v 13,.v 12] 1 <|
(.ite (.v 14)
(.lt none .inb [.v 3,.v 13] 0 <|
(.lt none (.row 16 0 [true,true,true,true,true,true,true,true,true,true,false,true,false,true,false,false]) [.v 3,.v 13] 16 <|
(.call none 78 [.v 1,.v 0,.v 15,.v 16,.v 17,.v 18,.v 19,.v 20,.v 21,.v 22,.v 23,.v 24,.v 25,.v 26,.v 27,.v 28,.v 29,.v 30] 1 [] <|
(.lt none .not [.v 31] 1 <|
(.lt (some (.v 32,false)) .id [.v 13] 1 <|
(.lt (some (.v 32,false)) (.bin .gtr) [.v 33,.c (.int .i64 0)] 1 <|
(.lt (some (.v 32,false)) .id [.v 34] 1 <|
(.lt (some (.v 35,true)) .id [.v 15] 1 <|
(.lt (some (.v 35,true)) .id [.v 16] 1 <|
(.lt (some (.v 35,true)) (.mk 1 2) [.v 36,.v 37] 1 <|
(.lt (some (.v 35,true)) .id [.v 13] 1 <|
(.lt (some (.v 35,true)) (.bin .sub) [.v 39,.c (.int .i64 1)] 1 <|
(.lt (some (.v 35,true)) .inb [.v 3,.v 40] 0 <|
(.lt (some (.v 35,true)) (.row 16 0 [true]) [.v 3,.v 40] 1 <|
(.lt (some (.v 35,true)) .id [.v 13] 1 <|
(.lt (some (.v 35,true)) (.bin .sub) [.v 42,.c (.int .i64 1)] 1 <|
(.lt (some (.v 35,true)) .inb [.v 3,.v 43] 0 <|
(.lt (some (.v 35,true)) (.row 16 1 [true]) [.v 3,.v 43] 1 <|
(.lt (some (.v 35,true)) (.mk 1 2) [.v 41,.v 44] 1 <|
(.call (some (.v 35,true)) 90 [.v 38,.v 45] 1 [] <|
(.lt (some (.v 35,true)) (.bin .leq) [.v 46,.c (.int .i64 0)] 1 <|
(.lt (some (.v 32,false)) .pick [.v 35,.v 47,.c (.bool false)] 1 <|
(.lt none .pick [.v 32,.c (.bool true),.v 48] 1 <|
(.ite (.v 49)
(.leaf .ret [.c (.bool false)] ())
(.lt none (.bin .add) [.v 13,.c (.int .i64 1)] 1 <|
(.leaf .cont [.v 50] ()))))))))))))))))))))))))))
(.leaf (.yield 1) [] ())))) <|
(.leaf .ret [.c (.bool true)] ()))))))))))))
def Cbw:Tm Unit :=
(.call none 60 [.v 0] 1 [] <|
(.lt (some (.v 2,true)) .len [.v 1] 1 <|
(.lt (some (.v 2,true)) .id [.v 0] 1 <|
(.lt (some (.v 2,true)) (.bin .eql) [.v 3,.v 4] 1 <|
(.lt none .pick [.v 2,.v 5,.c (.bool false)] 1 <|
(.call (some (.v 6,true)) 61 [.v 1,.v 0,.v 1] 1 [] <|
(.lt (some (.v 6,true)) .not [.v 7] 1 <|
(.lt none .pick [.v 6,.v 8,.c (.bool false)] 1 <|
(.leaf .ret [.v 9] ())))))))))
def Cbu:Tm Unit :=
(.lt none (.bin .eql) [.v 0,.c (.int .i64 3)] 1 <|
(.lt (some (.v 1,false)) .id [.v 0] 1 <|
(.lt (some (.v 1,false)) (.bin .eql) [.v 2,.c (.int .i64 5)] 1 <|
(.lt none .pick [.v 1,.c (.bool true),.v 3] 1 <|
(.leaf .ret [.v 4] ())))))
def Cbt:Tm Unit :=
(.call none 62 [.v 0,.v 1,.v 2] 1 [] <|
(.lt none (.bin .geq) [.v 3,.c (.int .i64 0)] 1 <|
(.leaf .ret [.v 4] ())))
def Cbs:Tm Unit :=
(.lt none .len [.v 0] 1 <|
(.bind 1
(.loop [.c (.int .i64 0)]
(.lt none (.bin .lss) [.v 4,.v 3] 1 <|
(.ite (.v 5)
(.lt none .inb [.v 0,.v 4] 0 <|
(.lt none (.row 1 0 [false]) [.v 0,.v 4] 1 <|
(.call none 63 [.v 6,.v 1,.v 2] 1 [] <|
(.ite (.v 7)
(.leaf .ret [.v 4] ())
(.lt none (.bin .add) [.v 4,.c (.int .i64 1)] 1 <|
(.leaf .cont [.v 8] ()))))))
(.leaf (.yield 1) [] ())))) <|
(.leaf .ret [.c (.int .i64 (-1))] ())))
def Cbr:Tm Unit :=
(.lt none .len [.v 0] 1 <|
(.lt none (.bin .gtr) [.v 3,.c (.int .i64 6)] 1 <|
(.call (some (.v 4,false)) 64 [.v 0,.v 1,.v 2] 1 [] <|
(.lt none .pick [.v 4,.c (.bool true),.v 5] 1 <|
(.leaf .ret [.v 6] ())))))
def Cbq:Tm Unit :=
(.call none 65 [.v 0,.v 1,.v 2] 1 [] <|
(.lt none (.bin .geq) [.v 3,.c (.int .i64 0)] 1 <|
(.leaf .ret [.v 4] ())))
def Cbp:Tm Unit :=
(.lt none .len [.v 0] 1 <|
(.bind 1
(.loop [.c (.int .i64 0)]
(.lt none (.bin .lss) [.v 4,.v 3] 1 <|
(.ite (.v 5)
(.lt none .inb [.v 0,.v 4] 0 <|
(.lt none (.row 10 0 [true,true,true,true,true,true,true,true,true,false]) [.v 0,.v 4] 10 <|
(.call none 66 [.v 6,.v 7,.v 8,.v 9,.v 10,.v 11,.v 12,.v 13,.v 14,.v 15,.v 1,.v 2] 1 [] <|
(.ite (.v 16)
(.leaf .ret [.v 4] ())
(.lt none (.bin .add) [.v 4,.c (.int .i64 1)] 1 <|
(.leaf .cont [.v 17] ()))))))
(.leaf (.yield 1) [] ())))) <|
(.leaf .ret [.c (.int .i64 (-1))] ())))
def Cbo:Tm Unit :=
(.call none 67 [.v 10,.v 0,.v 1,.v 2,.v 3,.v 4,.v 5,.v 6,.v 7,.v 8,.v 9] 1 [] <|
(.lt none .not [.v 12] 1 <|
(.leaf .ret [.v 13] ())))
def Cbn:Tm Unit :=
(.call none 68 [.v 1,.c (.int .i64 0),.c (.int .i64 9999)] 1 [] <|
(.lt none .not [.v 11] 1 <|
(.lt (some (.v 12,false)) .id [.v 2] 1 <|
(.lt (some (.v 12,false)) .id [.v 1] 1 <|
(.call (some (.v 12,false)) 68 [.v 13,.c (.int .i64 0),.v 14] 1 [] <|
(.lt (some (.v 12,false)) .not [.v 15] 1 <|
(.lt none .pick [.v 12,.c (.bool true),.v 16] 1 <|
(.lt (some (.v 17,false)) .id [.v 3] 1 <|
(.call (some (.v 17,false)) 68 [.v 18,.c (.int .i64 0),.c (.int .i64 3)] 1 [] <|
(.lt (some (.v 17,false)) .not [.v 19] 1 <|
(.lt none .pick [.v 17,.c (.bool true),.v 20] 1 <|
(.call (some (.v 21,false)) 69 [.v 4,.v 5,.v 6,.v 7,.v 8] 1 [] <|
(.lt (some (.v 21,false)) .not [.v 22] 1 <|
(.lt none .pick [.v 21,.c (.bool true),.v 23] 1 <|
(.lt (some (.v 24,false)) .id [.v 0] 1 <|
(.call (some (.v 24,false)) 71 [.v 25,.v 9,.v 10] 1 [] <|
(.lt (some (.v 24,false)) .not [.v 26] 1 <|
(.lt none .pick [.v 24,.c (.bool true),.v 27] 1 <|
(.ite (.v 28)
(.leaf .ret [.c (.bool false)] ())
(.lt none (.bin .neq) [.v 3,.c (.int .i64 0)] 1 <|
(.lt (some (.v 29,false)) .id [.v 2] 1 <|
(.lt (some (.v 29,false)) (.bin .eql) [.v 30,.c (.int .i64 0)] 1 <|
(.lt (some (.v 29,false)) .id [.v 31] 1 <|
(.lt (some (.v 32,true)) (.eqs [0,0,0,0,0]) [.v 4,.v 5,.v 6,.v 7,.v 8,.c (.int .i64 0),.c (.int .i64 0),.c (.int .i64 0),.c (.int .i64 0),.c (.int .i64 0)] 1 <|
(.lt (some (.v 29,false)) .pick [.v 32,.v 33,.c (.bool false)] 1 <|
(.lt (some (.v 29,false)) .id [.v 34] 1 <|
(.lt (some (.v 35,true)) .id [.v 0] 1 <|
(.call (some (.v 35,true)) 75 [.v 36] 2 [] <|
(.call (some (.v 35,true)) 76 [.v 9,.v 10,.v 37,.v 38] 1 [] <|
(.lt (some (.v 29,false)) .pick [.v 35,.v 39,.c (.bool false)] 1 <|
(.lt none .pick [.v 29,.c (.bool true),.v 40] 1 <|
(.leaf .ret [.v 41] ()))))))))))))))))))))))))))))))))
def Cbm:Tm Unit :=
(.lt none (.bin .leq) [.v 1,.v 0] 1 <|
(.lt (some (.v 3,true)) .id [.v 0] 1 <|
(.lt (some (.v 3,true)) .id [.v 2] 1 <|
(.lt (some (.v 3,true)) (.bin .leq) [.v 4,.v 5] 1 <|
(.lt none .pick [.v 3,.v 6,.c (.bool false)] 1 <|
(.leaf .ret [.v 7] ()))))))
def Cbl:Tm Unit :=
(.lt none (.bin .eql) [.v 0,.c (.int .i64 0)] 1 <|
(.ite (.v 5)
(.lt none (.eqs [0,0,0,0,0]) [.v 0,.v 1,.v 2,.v 3,.v 4,.c (.int .i64 0),.c (.int .i64 0),.c (.int .i64 0),.c (.int .i64 0),.c (.int .i64 0)] 1 <|
(.leaf .ret [.v 6] ()))
(.lt none (.bin .eql) [.v 0,.c (.int .i64 1)] 1 <|
(.ite (.v 6)
(.call none 68 [.v 1,.c (.int .i64 1),.c (.int .i64 999)] 1 [] <|
(.lt (some (.v 7,true)) .id [.v 2] 1 <|
(.call (some (.v 7,true)) 70 [.v 8] 1 [] <|
(.lt none .pick [.v 7,.v 9,.c (.bool false)] 1 <|
(.lt (some (.v 10,true)) .id [.v 3] 1 <|
(.call (some (.v 10,true)) 70 [.v 11] 1 [] <|
(.lt none .pick [.v 10,.v 12,.c (.bool false)] 1 <|
(.lt (some (.v 13,true)) .id [.v 2] 1 <|
(.lt (some (.v 13,true)) .id [.v 3] 1 <|
(.lt (some (.v 13,true)) (.bin .neq) [.v 14,.v 15] 1 <|
(.lt none .pick [.v 13,.v 16,.c (.bool false)] 1 <|
(.lt (some (.v 17,true)) .id [.v 4] 1 <|
(.call (some (.v 17,true)) 68 [.v 18,.c (.int .i64 1),.c (.int .i64 1000)] 1 [] <|
(.lt none .pick [.v 17,.v 19,.c (.bool false)] 1 <|
(.leaf .ret [.v 20] ())))))))))))))))
(.lt none (.bin .eql) [.v 0,.c (.int .i64 2)] 1 <|
(.lt (some (.v 7,true)) .id [.v 1] 1 <|
(.call (some (.v 7,true)) 68 [.v 8,.c (.int .i64 1),.c (.int .i64 999)] 1 [] <|
(.lt none .pick [.v 7,.v 9,.c (.bool false)] 1 <|
(.lt (some (.v 10,true)) .id [.v 2] 1 <|
(.call (some (.v 10,true)) 70 [.v 11] 1 [] <|
(.lt none .pick [.v 10,.v 12,.c (.bool false)] 1 <|
(.lt (some (.v 13,true)) .id [.v 3] 1 <|
(.lt (some (.v 13,true)) (.bin .eql) [.v 14,.c (.int .i64 0)] 1 <|
(.lt none .pick [.v 13,.v 15,.c (.bool false)] 1 <|
(.lt (some (.v 16,true)) .id [.v 4] 1 <|
(.lt (some (.v 16,true)) (.bin .eql) [.v 17,.c (.int .i64 0)] 1 <|
(.lt none .pick [.v 16,.v 18,.c (.bool false)] 1 <|
(.leaf .ret [.v 19] ()))))))))))))))))))
def Cbk:Tm Unit :=
(.call none 68 [.v 0,.c (.int .i64 0),.c (.int .i64 3)] 1 [] <|
(.leaf .ret [.v 1] ()))
def Cbj:Tm Unit :=
(.call none 60 [.v 0] 1 [] <|
(.lt (some (.v 3,true)) .id [.v 1] 1 <|
(.call (some (.v 3,true)) 68 [.v 4,.c (.int .i64 0),.c (.int .i64 999)] 1 [] <|
(.lt none .pick [.v 3,.v 5,.c (.bool false)] 1 <|
(.lt (some (.v 6,true)) .len [.v 2] 1 <|
(.lt (some (.v 6,true)) .id [.v 0] 1 <|
(.lt (some (.v 6,true)) (.bin .eql) [.v 7,.v 8] 1 <|
(.lt none .pick [.v 6,.v 9,.c (.bool false)] 1 <|
(.call (some (.v 10,true)) 72 [.v 2] 1 [] <|
(.lt (some (.v 10,true)) .not [.v 11] 1 <|
(.lt none .pick [.v 10,.v 12,.c (.bool false)] 1 <|
(.leaf .ret [.v 13] ()))))))))))))
def Cbi:Tm Unit :=
(.call none 73 [.v 0] 1 [] <|
(.lt none (.bin .geq) [.v 1,.c (.int .i64 0)] 1 <|
(.leaf .ret [.v 2] ())))
def Cbh:Tm Unit :=
(.lt none .len [.v 0] 1 <|
(.bind 1
(.loop [.c (.int .i64 0)]
(.lt none (.bin .lss) [.v 2,.v 1] 1 <|
(.ite (.v 3)
(.lt none .inb [.v 0,.v 2] 0 <|
(.lt none (.row 1 0 [true]) [.v 0,.v 2] 1 <|
(.call none 74 [.v 4] 1 [] <|
(.ite (.v 5)
(.leaf .ret [.v 2] ())
(.lt none (.bin .add) [.v 2,.c (.int .i64 1)] 1 <|
(.leaf .cont [.v 6] ()))))))
(.leaf (.yield 1) [] ())))) <|
(.leaf .ret [.c (.int .i64 (-1))] ())))
def Cbg:Tm Unit :=
(.call none 68 [.v 0,.c (.int .i64 0),.c (.int .i64 6)] 1 [] <|
(.lt none .not [.v 1] 1 <|
(.leaf .ret [.v 2] ())))
def Cbf:Tm Unit :=
(.lt none (.make 8 [(.int .i64 0)]) [.v 0] 1 <|
(.leaf .ret [.c (.int .i64 0),.v 1] ()))
def Cbe:Tm Unit :=
(.lt none (.bin .eql) [.v 0,.v 2] 1 <|
(.call (some (.v 4,true)) 77 [.v 1,.v 3] 1 [] <|
(.lt none .pick [.v 4,.v 5,.c (.bool false)] 1 <|
(.leaf .ret [.v 6] ()))))
def Cbd:Tm Unit :=
(.lt none .len [.v 0] 1 <|
(.lt none .len [.v 1] 1 <|
(.lt none (.bin .neq) [.v 2,.v 3] 1 <|
(.ite (.v 4)
(.leaf .ret [.c (.bool false)] ())
(.lt none .len [.v 0] 1 <|
(.bind 1
(.loop [.c (.int .i64 0)]
(.lt none (.bin .lss) [.v 6,.v 5] 1 <|
(.ite (.v 7)
(.lt none .inb [.v 0,.v 6] 0 <|
(.lt none (.row 1 0 [true]) [.v 0,.v 6] 1 <|
(.lt none .inb [.v 1,.v 6] 0 <|
(.lt none (.row 1 0 [true]) [.v 1,.v 6] 1 <|
(.lt none (.bin .neq) [.v 8,.v 9] 1 <|
(.ite (.v 10)
(.leaf .ret [.c (.bool false)] ())
(.lt none (.bin .add) [.v 6,.c (.int .i64 1)] 1 <|
(.leaf .cont [.v 11] ()))))))))
(.leaf (.yield 1) [] ())))) <|
(.leaf .ret [.c (.bool true)] ())))))))
def Cbc:Tm Unit :=
(.call none 79 [.v 0,.v 2,.v 3] 1 [] <|
(.lt none .not [.v 18] 1 <|
(.lt (some (.v 19,false)) .id [.v 4] 1 <|
(.call (some (.v 19,false)) 68 [.v 20,.c (.int .i64 0),.c (.int .i64 9999)] 1 [] <|
(.lt (some (.v 19,false)) .not [.v 21] 1 <|
(.lt none .pick [.v 19,.c (.bool true),.v 22] 1 <|
(.lt (some (.v 23,false)) .id [.v 0] 1 <|
(.call (some (.v 23,false)) 80 [.v 24,.v 16] 1 [] <|
(.lt (some (.v 23,false)) .not [.v 25] 1 <|
(.lt none .pick [.v 23,.c (.bool true),.v 26] 1 <|
(.lt (some (.v 27,false)) .id [.v 1] 1 <|
(.call (some (.v 27,false)) 85 [.v 16,.v 28] 1 [] <|
(.lt (some (.v 27,false)) .not [.v 29] 1 <|
(.lt none .pick [.v 27,.c (.bool true),.v 30] 1 <|
(.lt (some (.v 31,false)) .id [.v 0] 1 <|
(.call (some (.v 31,false)) 71 [.v 32,.v 11,.v 12] 1 [] <|
(.lt (some (.v 31,false)) .not [.v 33] 1 <|
(.lt none .pick [.v 31,.c (.bool true),.v 34] 1 <|
(.lt (some (.v 35,false)) .id [.v 0] 1 <|
(.call (some (.v 35,false)) 71 [.v 36,.v 13,.v 14] 1 [] <|
(.lt (some (.v 35,false)) .not [.v 37] 1 <|
(.lt none .pick [.v 35,.c (.bool true),.v 38] 1 <|
(.ite (.v 39)
(.leaf .ret [.c (.bool false)] ())
(.lt none (.bin .eql) [.v 5,.c (.int .i64 1)] 1 <|
(.ite (.v 40)
(.call none 69 [.v 6,.v 7,.v 8,.v 9,.v 10] 1 [] <|
(.lt (some (.v 41,true)) .len [.v 17] 1 <|
(.lt (some (.v 41,true)) (.bin .eql) [.v 42,.c (.int .i64 0)] 1 <|
(.lt none .pick [.v 41,.v 43,.c (.bool false)] 1 <|
(.leaf .ret [.v 44] ())))))
(.lt none (.bin .eql) [.v 5,.c (.int .i64 2)] 1 <|
(.ite (.v 41)
(.call none 69 [.v 6,.v 7,.v 8,.v 9,.v 10] 1 [] <|
(.lt (some (.v 42,true)) .len [.v 17] 1 <|
(.lt (some (.v 42,true)) (.bin .eql) [.v 43,.c (.int .i64 0)] 1 <|
(.lt none .pick [.v 42,.v 44,.c (.bool false)] 1 <|
(.call (some (.v 45,true)) 76 [.v 11,.v 12,.v 13,.v 14] 1 [] <|
(.lt none .pick [.v 45,.v 46,.c (.bool false)] 1 <|
(.lt (some (.v 47,true)) .id [.v 15] 1 <|
(.lt (some (.v 47,true)) .not [.v 48] 1 <|
(.lt none .pick [.v 47,.v 49,.c (.bool false)] 1 <|
(.leaf .ret [.v 50] ()))))))))))
(.lt none (.bin .eql) [.v 5,.c (.int .i64 3)] 1 <|
(.ite (.v 42)
(.call none 75 [.v 0] 2 [] <|
(.lt none (.eqs [0,0,0,0,0]) [.v 6,.v 7,.v 8,.v 9,.v 10,.c (.int .i64 0),.c (.int .i64 0),.c (.int .i64 0),.c (.int .i64 0),.c (.int .i64 0)] 1 <|
(.call (some (.v 45,true)) 76 [.v 11,.v 12,.v 43,.v 44] 1 [] <|
(.lt none .pick [.v 45,.v 46,.c (.bool false)] 1 <|
(.call (some (.v 47,true)) 76 [.v 13,.v 14,.v 43,.v 44] 1 [] <|
(.lt none .pick [.v 47,.v 48,.c (.bool false)] 1 <|
(.lt (some (.v 49,true)) .id [.v 15] 1 <|
(.lt (some (.v 49,true)) .not [.v 50] 1 <|
(.lt none .pick [.v 49,.v 51,.c (.bool false)] 1 <|
(.lt (some (.v 52,true)) .len [.v 17] 1 <|
(.lt (some (.v 52,true)) .len [.v 16] 1 <|
(.lt (some (.v 52,true)) (.bin .eql) [.v 53,.v 54] 1 <|
(.lt none .pick [.v 52,.v 55,.c (.bool false)] 1 <|
(.call (some (.v 56,true)) 87 [.v 17,.v 0] 1 [] <|
(.lt (some (.v 56,true)) .not [.v 57] 1 <|
(.lt none .pick [.v 56,.v 58,.c (.bool false)] 1 <|
(.leaf .ret [.v 59] ())))))))))))))))))
(.leaf .ret [.c (.bool false)] ()))))))))))))))))))))))))))))))
def Cbb:Tm Unit :=
(.call none 60 [.v 0] 1 [] <|
(.lt (some (.v 3,true)) .id [.v 1] 1 <|
(.lt (some (.v 3,true)) .id [.v 0] 1 <|
(.lt (some (.v 3,true)) (.bin .sub) [.v 5,.c (.int .i64 1)] 1 <|
(.call (some (.v 3,true)) 68 [.v 4,.c (.int .i64 0),.v 6] 1 [] <|
(.lt none .pick [.v 3,.v 7,.c (.bool false)] 1 <|
(.lt (some (.v 8,true)) .id [.v 2] 1 <|
(.call (some (.v 8,true)) 68 [.v 9,.c (.int .i64 1),.c (.int .i64 6)] 1 [] <|
(.lt none .pick [.v 8,.v 10,.c (.bool false)] 1 <|
(.leaf .ret [.v 11] ()))))))))))
def Cba:Tm Unit :=
(.call none 81 [.v 1] 1 [] <|
(.call (some (.v 2,true)) 82 [.v 1,.v 0] 1 [] <|
(.lt (some (.v 2,true)) .not [.v 3] 1 <|
(.lt none .pick [.v 2,.v 4,.c (.bool false)] 1 <|
(.leaf .ret [.v 5] ())))))
def Bb9:Tm Unit :=
(.bind 1
(.loop [.c (.int .i64 1)]
(.lt none .len [.v 0] 1 <|
(.lt none (.bin .lss) [.v 1,.v 2] 1 <|
(.ite (.v 3)
(.lt none .inb [.v 0,.v 1] 0 <|
(.lt none (.row 1 0 [true]) [.v 0,.v 1] 1 <|
(.lt none (.bin .sub) [.v 1,.c (.int .i64 1)] 1 <|
(.lt none .inb [.v 0,.v 5] 0 <|
(.lt none (.row 1 0 [true]) [.v 0,.v 5] 1 <|
(.lt none (.bin .leq) [.v 4,.v 6] 1 <|
(.ite (.v 7)
(.leaf .ret [.c (.bool false)] ())
(.lt none (.bin .add) [.v 1,.c (.int .i64 1)] 1 <|
(.leaf .cont [.v 8] ())))))))))
(.leaf (.yield 1) [] ()))))) <|
(.leaf .ret [.c (.bool true)] ()))
def Bb8:Tm Unit :=
(.call none 83 [.v 0,.v 1] 1 [] <|
(.lt none (.bin .geq) [.v 2,.c (.int .i64 0)] 1 <|
(.leaf .ret [.v 3] ())))
def Bb7:Tm Unit :=
(.lt none .len [.v 0] 1 <|
(.bind 1
(.loop [.c (.int .i64 0)]
(.lt none (.bin .lss) [.v 3,.v 2] 1 <|
(.ite (.v 4)
(.lt none .inb [.v 0,.v 3] 0 <|
(.lt none (.row 1 0 [true]) [.v 0,.v 3] 1 <|
(.call none 84 [.v 5,.v 1] 1 [] <|
(.ite (.v 6)
(.leaf .ret [.v 3] ())
(.lt none (.bin .add) [.v 3,.c (.int .i64 1)] 1 <|
(.leaf .cont [.v 7] ()))))))
(.leaf (.yield 1) [] ())))) <|
(.leaf .ret [.c (.int .i64 (-1))] ())))
def Bb6:Tm Unit :=
(.lt none (.bin .sub) [.v 1,.c (.int .i64 1)] 1 <|
(.call none 68 [.v 0,.c (.int .i64 0),.v 2] 1 [] <|
(.lt none .not [.v 3] 1 <|
(.leaf .ret [.v 4] ()))))
def Bb5:Tm Unit :=
(.call none 86 [.v 0,.v 1] 1 [] <|
(.lt none (.bin .geq) [.v 2,.c (.int .i64 0)] 1 <|
(.leaf .ret [.v 3] ())))
def Bb4:Tm Unit :=
(.lt none .len [.v 0] 1 <|
(.bind 1
(.loop [.c (.int .i64 0)]
(.lt none (.bin .lss) [.v 3,.v 2] 1 <|
(.ite (.v 4)
(.lt none .inb [.v 0,.v 3] 0 <|
(.lt none (.row 1 0 [true]) [.v 0,.v 3] 1 <|
(.lt none (.bin .eql) [.v 1,.v 5] 1 <|
(.ite (.v 6)
(.leaf .ret [.v 3] ())
(.lt none (.bin .add) [.v 3,.c (.int .i64 1)] 1 <|
(.leaf .cont [.v 7] ()))))))
(.leaf (.yield 1) [] ())))) <|
(.leaf .ret [.c (.int .i64 (-1))] ())))
def Bb3:Tm Unit :=
(.call none 88 [.v 0,.v 1] 1 [] <|
(.lt none (.bin .geq) [.v 2,.c (.int .i64 0)] 1 <|
(.leaf .ret [.v 3] ())))
def Bb2:Tm Unit :=
(.lt none .len [.v 0] 1 <|
(.bind 1
(.loop [.c (.int .i64 0)]
(.lt none (.bin .lss) [.v 3,.v 2] 1 <|
(.ite (.v 4)
(.lt none .inb [.v 0,.v 3] 0 <|
(.lt none (.row 10 0 [true,true,true,true,true,true,true,true,true,false]) [.v 0,.v 3] 10 <|
(.call none 89 [.v 5,.v 6,.v 7,.v 8,.v 9,.v 10,.v 11,.v 12,.v 13,.v 14,.v 1] 1 [] <|
(.ite (.v 15)
(.leaf .ret [.v 3] ())
(.lt none (.bin .add) [.v 3,.c (.int .i64 1)] 1 <|
(.leaf .cont [.v 16] ()))))))
(.leaf (.yield 1) [] ())))) <|
(.leaf .ret [.c (.int .i64 (-1))] ())))
def Bb1:Tm Unit :=
(.call none 67 [.v 10,.v 0,.v 1,.v 2,.v 3,.v 4,.v 5,.v 6,.v 7,.v 8,.v 9] 1 [] <|
(.lt none .not [.v 11] 1 <|
(.lt (some (.v 12,false)) .id [.v 2] 1 <|
(.lt (some (.v 12,false)) (.bin .eql) [.v 13,.c (.int .i64 3)] 1 <|
(.lt none .pick [.v 12,.c (.bool true),.v 14] 1 <|
(.leaf .ret [.v 15] ()))))))
def Bb0:Tm Unit :=
(.lt none .len [.v 0] 1 <|
(.bind 1
(.loop [.c (.int .i64 0)]
(.lt none (.bin .lss) [.v 3,.v 2] 1 <|
(.ite (.v 4)
(.lt none .inb [.v 0,.v 3] 0 <|
(.lt none (.row 1 0 [true]) [.v 0,.v 3] 1 <|
(.lt none .len [.v 1] 1 <|
(.lt none (.bin .geq) [.v 3,.v 6] 1 <|
(.ite (.v 7)
(.leaf .ret [.c (.int .i64 1)] ())
(.lt none .inb [.v 1,.v 3] 0 <|
(.lt none (.row 1 0 [true]) [.v 1,.v 3] 1 <|
(.call none 91 [.v 5,.v 8] 1 [] <|
(.lt none (.bin .neq) [.v 9,.c (.int .i64 0)] 1 <|
(.ite (.v 10)
(.leaf .ret [.v 9] ())
(.lt none (.bin .add) [.v 3,.c (.int .i64 1)] 1 <|
(.leaf .cont [.v 11] ()))))))))))))
(.leaf (.yield 1) [] ())))) <|
(.lt none .len [.v 0] 1 <|
(.lt none .len [.v 1] 1 <|
(.lt none (.bin .lss) [.v 3,.v 4] 1 <|
(.ite (.v 5)
(.leaf .ret [.c (.int .i64 (-1))] ())
(.leaf .ret [.c (.int .i64 0)] ())))))))
def Bbz:Tm Unit :=
(.call none 92 [.v 0] 1 [] <|
(.call none 92 [.v 1] 1 [] <|
(.ite (.v 2)
(.ite (.v 3)
(.leaf .ret [.c (.int .i64 0)] ())
(.leaf .ret [.c (.int .i64 (-1))] ()))
(.ite (.v 3)
(.leaf .ret [.c (.int .i64 1)] ())
(.lt none (.bin .lss) [.v 0,.v 1] 1 <|
(.ite (.v 4)
(.leaf .ret [.c (.int .i64 (-1))] ())
(.lt none (.bin .gtr) [.v 0,.v 1] 1 <|
(.ite (.v 5)
(.leaf .ret [.c (.int .i64 1)] ())
(.leaf .ret [.c (.int .i64 0)] ())))))))))
def Bby:Tm Unit :=
(.lt none (.bin .neq) [.v 0,.v 0] 1 <|
(.leaf .ret [.v 1] ()))
def Bbx:Tm Unit :=
(.lt none .inb [.v 1,.v 2] 0 <|
(.lt none (.row 1 0 [false]) [.v 1,.v 2] 1 <|
(.lt none .len [.v 4] 1 <|
(.lt none (.bin .leq) [.v 3,.v 5] 1 <|
(.ite (.v 6)
(.lt none .inb [.v 1,.v 2] 0 <|
(.lt none (.row 1 0 [false]) [.v 1,.v 2] 1 <|
(.lt none (.bin .sub) [.v 3,.c (.int .i64 1)] 1 <|
(.lt none .inb [.v 7,.v 8] 0 <|
(.lt none (.row 10 0 [true,true,true,true,true,true,true,true,true,false]) [.v 7,.v 8] 10 <|
(.call none 94 [.v 9,.v 10,.v 11,.v 12,.v 13,.v 14,.v 15,.v 16,.v 17,.v 18] 10 [] <|
(.leaf .ret [.v 19,.v 20,.v 21,.v 22,.v 23,.v 24,.v 25,.v 26,.v 27,.v 28] ())))))))
(.call none 75 [.v 0] 2 [] <|
(.leaf .ret [.c (.int .i64 0),.c (.int .i64 0),.c (.int .i64 0),.c (.int .i64 0),.c (.int .i64 0),.c (.int .i64 0),.c (.int .i64 0),.c (.int .i64 0),.v 7,.v 8] ())))))))
def Bbw:Tm Unit :=
(.call none 95 [.v 8,.v 9] 2 [] <|
(.leaf .ret [.v 0,.v 1,.v 2,.v 3,.v 4,.v 5,.v 6,.v 7,.v 10,.v 11] ()))
def Wa9:Tm Unit :=
(.call none 96 [.v 1] 1 [] <|
(.leaf .ret [.v 0,.v 2] ()))
def Wa8:Tm Unit :=
(.lt none .ne [.v 0] 0 <|
(.lt none .emp [.v 0] 1 <|
(.ite (.v 1)
(.leaf .ret [.c (.rows 1 [])] ())
(.lt none (.mk 1 0) [] 1 <|
(.lt none (.app 1 8 true) [.v 2,.v 0] 1 <|
(.leaf .ret [.v 3] ()))))))
def Bbv:Tm Unit :=
(.call none 93 [.v 0,.v 1,.v 2,.v 3] 10 [] <|
(.lt none (.bin .add) [.v 5,.c (.int .i64 1)] 1 <|
(.lt none .max [.v 15,.c (.int .i64 8)] 1 <|
(.bind 1
(.loop [.v 16]
(.lt none (.bin .rem) [.v 17,.c (.int .i64 8)] 1 <|
(.lt none (.bin .neq) [.v 18,.v 4] 1 <|
(.ite (.v 19)
(.lt none (.bin .add) [.v 17,.c (.int .i64 1)] 1 <|
(.leaf .cont [.v 20] ()))
(.leaf (.yield 1) [.v 17] ()))))) <|
(.lt none (.bin .leq) [.v 17,.c (.int .i64 9999)] 1 <|
(.leaf .ret [.v 17,.v 18] ()))))))
def Bbu:Tm Unit :=
(.call none 99 [.v 0,.v 1,.v 2,.v 3] 4 [] <|
(.leaf .ret [.v 4,.v 5,.v 6,.v 7,.c (.rows 15 []),.c (.bool false)] ()))
def Bbt:Tm Unit :=
(.call none 100 [.v 1,.v 2] 2 [] <|
(.lt none .len [.v 3] 1 <|
(.bind 1
(.loop [.c (.int .i64 0),.c (.rows 16 [])]
(.lt none (.bin .lss) [.v 7,.v 6] 1 <|
(.ite (.v 9)
(.lt none .inb [.v 3,.v 7] 0 <|
(.lt none (.row 16 0 [true,true,true,true,true,true,true,true,true,true,false,true,false,true,false,false]) [.v 3,.v 7] 16 <|
(.call none 102 [.v 10,.v 11,.v 12,.v 13,.v 14,.v 15,.v 16,.v 17,.v 18,.v 19,.v 20,.v 21,.v 22,.v 23,.v 24,.v 25] 16 [] <|
(.lt none (.mk 16 1) [.v 26,.v 27,.v 28,.v 29,.v 30,.v 31,.v 32,.v 33,.v 34,.v 35,.v 36,.v 37,.v 38,.v 39,.v 40,.v 41] 1 <|
(.lt none (.app 16 192 false) [.v 8,.v 42] 1 <|
(.lt none (.bin .add) [.v 7,.c (.int .i64 1)] 1 <|
(.leaf .cont [.v 44,.v 43] ())))))))
(.leaf (.yield 1) [.v 8] ())))) <|
(.leaf .ret [.v 0,.v 4,.v 5,.v 7] ()))))
def Mal:Tm Unit :=
(.lt none .len [.v 1] 1 <|
(.bind 1
(.loop [.c (.int .i64 0),.c (.rows 1 [])]
(.lt none (.bin .lss) [.v 3,.v 2] 1 <|
(.ite (.v 5)
(.lt none .inb [.v 1,.v 3] 0 <|
(.lt none (.row 1 0 [false]) [.v 1,.v 3] 1 <|
(.call none 101 [.v 6] 1 [] <|
(.lt none (.mk 1 1) [.v 7] 1 <|
(.lt none (.app 1 24 false) [.v 4,.v 8] 1 <|
(.lt none (.bin .add) [.v 3,.c (.int .i64 1)] 1 <|
(.leaf .cont [.v 10,.v 9] ())))))))
(.leaf (.yield 1) [.v 4] ())))) <|
(.leaf .ret [.v 0,.v 3] ())))
def Mak:Tm Unit :=
(.lt none (.mk 10 0) [] 1 <|
(.lt none .len [.v 0] 1 <|
(.bind 1
(.loop [.v 1,.c (.int .i64 0)]
(.lt none (.bin .lss) [.v 4,.v 2] 1 <|
(.ite (.v 5)
(.lt none .inb [.v 0,.v 4] 0 <|
(.lt none (.row 10 0 [true,true,true,true,true,true,true,true,true,false]) [.v 0,.v 4] 10 <|
(.call none 94 [.v 6,.v 7,.v 8,.v 9,.v 10,.v 11,.v 12,.v 13,.v 14,.v 15] 10 [] <|
(.lt none (.mk 10 1) [.v 16,.v 17,.v 18,.v 19,.v 20,.v 21,.v 22,.v 23,.v 24,.v 25] 1 <|
(.lt none (.app 10 96 false) [.v 3,.v 26] 1 <|
(.lt none (.bin .add) [.v 4,.c (.int .i64 1)] 1 <|
(.leaf .cont [.v 27,.v 28] ())))))))
(.leaf (.yield 1) [.v 3] ())))) <|
(.leaf .ret [.v 3] ()))))
def Maj:Tm Unit :=
(.call none 95 [.v 9,.v 10] 2 [] <|
(.call none 95 [.v 11,.v 12] 2 [] <|
(.call none 96 [.v 14] 1 [] <|
(.call none 101 [.v 15] 1 [] <|
(.leaf .ret [.v 0,.v 1,.v 2,.v 3,.v 4,.v 5,.v 6,.v 7,.v 8,.v 16,.v 17,.v 18,.v 19,.v 13,.v 20,.v 21] ())))))
def Mai:Tm Unit :=
(.call none 104 [.v 0,.v 1,.v 16,.v 17,.v 18,.v 19,.v 20,.v 21] 6 [] <|
(.call none 105 [.v 0,.v 1,.v 22,.v 23,.v 24,.v 25,.v 26,.v 27] 2 [] <|
(.call none 102 [.v 0,.v 1,.v 2,.v 3,.v 4,.v 5,.v 6,.v 7,.v 8,.v 9,.v 10,.v 11,.v 12,.v 13,.v 14,.v 15] 16 [] <|
(.lt none (.mk 16 1) [.v 30,.v 31,.v 32,.v 33,.v 34,.v 35,.v 36,.v 37,.v 38,.v 39,.v 40,.v 41,.v 42,.v 43,.v 44,.v 45] 1 <|
(.call none 109 [.v 25,.v 28,.v 46] 1 [] <|
(.leaf .ret [.v 22,.v 23,.v 24,.v 47,.v 26,.v 27] ()))))))
def Mah:Tm Unit :=
(.call none 105 [.v 0,.v 1,.v 2,.v 3,.v 4,.v 5,.v 6,.v 7] 2 [] <|
(.ite (.v 9)
(.lt none (.bin .add) [.v 8,.c (.int .i64 1)] 1 <|
(.call none 108 [.v 5,.v 8,.v 10] 1 [] <|
(.leaf .ret [.v 2,.v 3,.v 4,.v 11,.v 6,.v 7] ())))
(.leaf .ret [.v 2,.v 3,.v 4,.v 5,.v 6,.v 7] ())))
def Mag:Tm Unit :=
(.lt none (.mk 1 2) [.v 0,.v 1] 1 <|
(.call none 106 [.v 5,.v 8] 2 [] <|
(.leaf .ret [.v 9,.v 10] ())))
def Maf:Tm Unit :=
(.lt none .len [.v 0] 1 <|
(.bind 1
(.loop [.c (.int .i64 0),.v 2]
(.lt none (.bin .lss) [.v 3,.v 4] 1 <|
(.ite (.v 5)
(.lt none (.bin .add) [.v 3,.v 4] 1 <|
(.lt none (.conv .u64) [.v 6] 1 <|
(.lt none (.bin .shr) [.v 7,.c (.int .u64 1)] 1 <|
(.lt none (.conv .i64) [.v 8] 1 <|
(.lt none .inb [.v 0,.v 9] 0 <|
(.lt none (.row 16 0 [true,true,true,true,true,true,true,true,true,true,false,true,false,true,false,false]) [.v 0,.v 9] 16 <|
(.call none 107 [.v 10,.v 11,.v 12,.v 13,.v 14,.v 15,.v 16,.v 17,.v 18,.v 19,.v 20,.v 21,.v 22,.v 23,.v 24,.v 25,.v 1] 1 [] <|
(.lt none (.bin .lss) [.v 26,.c (.int .i64 0)] 1 <|
(.ite (.v 27)
(.lt none (.bin .add) [.v 9,.c (.int .i64 1)] 1 <|
(.leaf .cont [.v 28,.v 4] ()))
(.leaf .cont [.v 3,.v 9] ()))))))))))
(.leaf (.yield 1) [.v 3] ())))) <|
(.lt none (.bin .lss) [.v 3,.v 2] 1 <|
(.lt (some (.v 4,true)) .id [.v 3] 1 <|
(.lt (some (.v 4,true)) .inb [.v 0,.v 5] 0 <|
(.lt (some (.v 4,true)) (.row 16 0 [true,true,true,true,true,true,true,true,true,true,false,true,false,true,false,false]) [.v 0,.v 5] 16 <|
(.call (some (.v 4,true)) 107 [.v 6,.v 7,.v 8,.v 9,.v 10,.v 11,.v 12,.v 13,.v 14,.v 15,.v 16,.v 17,.v 18,.v 19,.v 20,.v 21,.v 1] 1 [] <|
(.lt (some (.v 4,true)) (.bin .eql) [.v 22,.c (.int .i64 0)] 1 <|
(.lt none .pick [.v 4,.v 23,.c (.bool false)] 1 <|
(.leaf .ret [.v 3,.v 24] ()))))))))))
def Xad:Tm Unit :=
(.lt none (.mk 1 2) [.v 0,.v 1] 1 <|
(.call none 90 [.v 17,.v 16] 1 [] <|
(.leaf .ret [.v 18] ())))
def Xac:Tm Unit:=.stuck
def Xab:Tm Unit:=.stuck
def Xaa:Tm Unit :=
(.bind 1
(.loop [.v 13]
(.lt none .inb [.v 14,.v 0] 0 <|
(.lt none (.row 1 0 [false]) [.v 14,.v 0] 1 <|
(.lt none .len [.v 15] 1 <|
(.lt none (.bin .lss) [.v 16,.v 1] 1 <|
(.ite (.v 17)
(.lt none .inb [.v 14,.v 0] 0 <|
(.lt none (.row 1 0 [false]) [.v 14,.v 0] 1 <|
(.call none 75 [.v 12] 2 [] <|
(.lt none (.mk 10 1) [.c (.int .i64 0),.c (.int .i64 0),.c (.int .i64 0),.c (.int .i64 0),.c (.int .i64 0),.c (.int .i64 0),.c (.int .i64 0),.c (.int .i64 0),.v 19,.v 20] 1 <|
(.lt none (.set 1 0 1) [.v 14,.v 0,.c .hole] 1 <|
(.lt none (.app 10 96 false) [.v 18,.v 21] 1 <|
(.lt none .inb [.v 22,.v 0] 0 <|
(.lt none (.set 1 0 1) [.v 22,.v 0,.v 23] 1 <|
(.leaf .cont [.v 24] ())))))))))
(.leaf (.yield 1) [.v 14] ()))))))) <|
(.lt none .inb [.v 14,.v 0] 0 <|
(.lt none (.row 1 0 [false]) [.v 14,.v 0] 1 <|
(.lt none (.bin .sub) [.v 1,.c (.int .i64 1)] 1 <|
(.call none 94 [.v 2,.v 3,.v 4,.v 5,.v 6,.v 7,.v 8,.v 9,.v 10,.v 11] 10 [] <|
(.lt none .inb [.v 15,.v 16] 0 <|
(.lt none (.set 10 0 10) [.v 15,.v 16,.v 17,.v 18,.v 19,.v 20,.v 21,.v 22,.v 23,.v 24,.v 25,.v 26] 1 <|
(.lt none (.set 1 0 1) [.v 14,.v 0,.v 27] 1 <|
(.leaf .ret [.v 12,.v 28] ())))))))))
def Mae:Tm Unit :=
(.bind 1
(.loop [.c (.int .i64 0),.v 15,.v 16,.v 17,.v 18,.v 19,.v 20]
(.lt none (.bin .lss) [.v 21,.v 16] 1 <|
(.ite (.v 28)
(.bind 0
(.lt none (.bin .neq) [.v 21,.v 22] 1 <|
(.ite (.v 29)
(.call none 112 [.v 0,.v 1,.v 2,.v 3,.v 4,.v 5,.v 6,.v 7,.v 8,.v 9,.v 10,.v 11,.v 12,.v 13,.v 14,.v 21,.v 22,.v 23,.v 24,.v 25,.v 26,.v 27] 6 [] <|
(.leaf (.yield 0) [.v 30,.v 31,.v 32,.v 33,.v 34,.v 35] ()))
(.leaf (.yield 0) [.v 22,.v 23,.v 24,.v 25,.v 26,.v 27] ()))) <|
(.lt none (.bin .add) [.v 21,.c (.int .i64 1)] 1 <|
(.leaf .cont [.v 35,.v 29,.v 30,.v 31,.v 32,.v 33,.v 34] ())))
(.leaf (.yield 1) [.v 22,.v 23,.v 24,.v 25,.v 26,.v 27] ())))) <|
(.leaf .ret [.v 21,.v 22,.v 23,.v 24,.v 25,.v 26] ()))
def Mad:Tm Unit :=
(.bind 0
(.lt none .emp [.v 14] 1 <|
(.ite (.v 22)
(.call none 75 [.v 17] 2 [] <|
(.leaf (.yield 0) [.v 23,.v 24] ()))
(.leaf (.yield 0) [.v 13,.v 14] ()))) <|
(.call none 113 [.v 0,.v 16,.v 15,.v 3,.v 4,.v 5,.v 6,.v 7,.v 8,.v 9,.v 10,.v 11,.v 12,.v 22,.v 23] 15 [] <|
(.lt none (.mk 15 1) [.v 24,.v 25,.v 26,.v 27,.v 28,.v 29,.v 30,.v 31,.v 32,.v 33,.v 34,.v 35,.v 36,.v 37,.v 38] 1 <|
(.lt none (.app 15 136 false) [.v 20,.v 39] 1 <|
(.leaf .ret [.v 16,.v 17,.v 18,.v 19,.v 40,.v 21] ())))))
def Mac:Tm Unit :=
(.call none 95 [.v 13,.v 14] 2 [] <|
(.leaf .ret [.v 0,.v 1,.v 2,.v 3,.v 4,.v 5,.v 6,.v 7,.v 8,.v 9,.v 10,.v 11,.v 12,.v 15,.v 16] ()))
def Mab:Tm Unit :=
(.ite (.v 5)
(.leaf .ret [.c (.int .i64 0),.c (.int .i64 0),.c (.rows 1 []),.c (.rows 16 []),.c (.rows 15 []),.c (.bool false),.v 0,.v 1,.c .hole,.c .hole,.c .hole,.v 5] ())
(.leaf .ret [.v 0,.v 1,.v 2,.v 3,.v 4,.c (.bool true),.v 0,.v 1,.c .hole,.c .hole,.c .hole,.v 5] ()))
def Maa:Tm Unit :=
(.lt none (.bin .neq) [.v 0,.v 4] 1 <|
(.ite (.v 8)
(.leaf .ret [.c (.bool false)] ())
(.call none 116 [.v 1,.v 2,.v 5,.v 6] 1 [] <|
(.lt none .not [.v 9] 1 <|
(.ite (.v 10)
(.leaf .ret [.c (.bool false)] ())
(.call none 123 [.v 3,.v 7] 1 [] <|
(.lt none .not [.v 11] 1 <|
(.ite (.v 12)
(.leaf .ret [.c (.bool false)] ())
(.leaf .ret [.c (.bool true)] ())))))))))
def La9:Tm Unit :=
(.lt none (.bin .neq) [.v 0,.v 2] 1 <|
(.ite (.v 4)
(.leaf .ret [.c (.bool false)] ())
(.call none 117 [.v 1,.v 3] 1 [] <|
(.lt none .not [.v 5] 1 <|
(.ite (.v 6)
(.leaf .ret [.c (.bool false)] ())
(.leaf .ret [.c (.bool true)] ()))))))
def La8:Tm Unit :=
(.lt none .len [.v 0] 1 <|
(.lt none .len [.v 1] 1 <|
(.lt none (.bin .neq) [.v 2,.v 3] 1 <|
(.ite (.v 4)
(.leaf .ret [.c (.bool false)] ())
(.bind 1
(.loop [.c (.int .i64 0)]
(.lt none .len [.v 0] 1 <|
(.lt none (.bin .lss) [.v 5,.v 6] 1 <|
(.ite (.v 7)
(.lt none .inb [.v 0,.v 5] 0 <|
(.lt none (.row 1 0 [false]) [.v 0,.v 5] 1 <|
(.lt none .inb [.v 1,.v 5] 0 <|
(.lt none (.row 1 0 [false]) [.v 1,.v 5] 1 <|
(.call none 118 [.v 8,.v 9] 1 [] <|
(.lt none .not [.v 10] 1 <|
(.ite (.v 11)
(.leaf .ret [.c (.bool false)] ())
(.lt none (.bin .add) [.v 5,.c (.int .i64 1)] 1 <|
(.leaf .cont [.v 12] ())))))))))
(.leaf (.yield 1) [] ()))))) <|
(.leaf .ret [.c (.bool true)] ()))))))
def La7:Tm Unit :=
(.lt none .len [.v 0] 1 <|
(.lt none .len [.v 1] 1 <|
(.lt none (.bin .neq) [.v 2,.v 3] 1 <|
(.ite (.v 4)
(.leaf .ret [.c (.bool false)] ())
(.bind 1
(.loop [.c (.int .i64 0)]
(.lt none .len [.v 0] 1 <|
(.lt none (.bin .lss) [.v 5,.v 6] 1 <|
(.ite (.v 7)
(.lt none .inb [.v 0,.v 5] 0 <|
(.lt none (.row 10 0 [true,true,true,true,true,true,true,true,true,false]) [.v 0,.v 5] 10 <|
(.lt none .inb [.v 1,.v 5] 0 <|
(.lt none (.row 10 0 [true,true,true,true,true,true,true,true,true,false]) [.v 1,.v 5] 10 <|
(.call none 119 [.v 8,.v 9,.v 10,.v 11,.v 12,.v 13,.v 14,.v 15,.v 16,.v 17,.v 18,.v 19,.v 20,.v 21,.v 22,.v 23,.v 24,.v 25,.v 26,.v 27] 1 [] <|
(.lt none .not [.v 28] 1 <|
(.ite (.v 29)
(.leaf .ret [.c (.bool false)] ())
(.lt none (.bin .add) [.v 5,.c (.int .i64 1)] 1 <|
(.leaf .cont [.v 30] ())))))))))
(.leaf (.yield 1) [] ()))))) <|
(.leaf .ret [.c (.bool true)] ()))))))
def La6:Tm Unit :=
(.lt none (.bin .neq) [.v 0,.v 10] 1 <|
(.ite (.v 20)
(.leaf .ret [.c (.bool false)] ())
(.lt none (.bin .neq) [.v 1,.v 11] 1 <|
(.ite (.v 21)
(.leaf .ret [.c (.bool false)] ())
(.lt none (.bin .neq) [.v 2,.v 12] 1 <|
(.ite (.v 22)
(.leaf .ret [.c (.bool false)] ())
(.call none 120 [.v 3,.v 4,.v 5,.v 6,.v 7,.v 13,.v 14,.v 15,.v 16,.v 17] 1 [] <|
(.lt none .not [.v 23] 1 <|
(.ite (.v 24)
(.leaf .ret [.c (.bool false)] ())
(.call none 121 [.v 8,.v 9,.v 18,.v 19] 1 [] <|
(.lt none .not [.v 25] 1 <|
(.ite (.v 26)
(.leaf .ret [.c (.bool false)] ())
(.leaf .ret [.c (.bool true)] ())))))))))))))
def La5:Tm Unit :=
(.lt none (.bin .neq) [.v 0,.v 5] 1 <|
(.ite (.v 10)
(.leaf .ret [.c (.bool false)] ())
(.lt none (.bin .neq) [.v 1,.v 6] 1 <|
(.ite (.v 11)
(.leaf .ret [.c (.bool false)] ())
(.lt none (.bin .neq) [.v 2,.v 7] 1 <|
(.ite (.v 12)
(.leaf .ret [.c (.bool false)] ())
(.lt none (.bin .neq) [.v 3,.v 8] 1 <|
(.ite (.v 13)
(.leaf .ret [.c (.bool false)] ())
(.lt none (.bin .neq) [.v 4,.v 9] 1 <|
(.ite (.v 14)
(.leaf .ret [.c (.bool false)] ())
(.leaf .ret [.c (.bool true)] ())))))))))))
def La4:Tm Unit :=
(.lt none (.bin .neq) [.v 0,.v 2] 1 <|
(.ite (.v 4)
(.leaf .ret [.c (.bool false)] ())
(.call none 122 [.v 1,.v 3] 1 [] <|
(.lt none .not [.v 5] 1 <|
(.ite (.v 6)
(.leaf .ret [.c (.bool false)] ())
(.leaf .ret [.c (.bool true)] ()))))))
def La3:Tm Unit :=
(.lt none .len [.v 0] 1 <|
(.lt none .len [.v 1] 1 <|
(.lt none (.bin .neq) [.v 2,.v 3] 1 <|
(.ite (.v 4)
(.leaf .ret [.c (.bool false)] ())
(.bind 1
(.loop [.c (.int .i64 0)]
(.lt none .len [.v 0] 1 <|
(.lt none (.bin .lss) [.v 5,.v 6] 1 <|
(.ite (.v 7)
(.lt none .inb [.v 0,.v 5] 0 <|
(.lt none (.row 1 0 [true]) [.v 0,.v 5] 1 <|
(.lt none .inb [.v 1,.v 5] 0 <|
(.lt none (.row 1 0 [true]) [.v 1,.v 5] 1 <|
(.lt none (.bin .neq) [.v 8,.v 9] 1 <|
(.ite (.v 10)
(.leaf .ret [.c (.bool false)] ())
(.lt none (.bin .add) [.v 5,.c (.int .i64 1)] 1 <|
(.leaf .cont [.v 11] ()))))))))
(.leaf (.yield 1) [] ()))))) <|
(.leaf .ret [.c (.bool true)] ()))))))
def La2:Tm Unit :=
(.lt none .len [.v 0] 1 <|
(.lt none .len [.v 1] 1 <|
(.lt none (.bin .neq) [.v 2,.v 3] 1 <|
(.ite (.v 4)
(.leaf .ret [.c (.bool false)] ())
(.bind 1
(.loop [.c (.int .i64 0)]
(.lt none .len [.v 0] 1 <|
(.lt none (.bin .lss) [.v 5,.v 6] 1 <|
(.ite (.v 7)
(.lt none .inb [.v 0,.v 5] 0 <|
(.lt none (.row 16 0 [true,true,true,true,true,true,true,true,true,true,false,true,false,true,false,false]) [.v 0,.v 5] 16 <|
(.lt none .inb [.v 1,.v 5] 0 <|
(.lt none (.row 16 0 [true,true,true,true,true,true,true,true,true,true,false,true,false,true,false,false]) [.v 1,.v 5] 16 <|
(.call none 124 [.v 8,.v 9,.v 10,.v 11,.v 12,.v 13,.v 14,.v 15,.v 16,.v 17,.v 18,.v 19,.v 20,.v 21,.v 22,.v 23,.v 24,.v 25,.v 26,.v 27,.v 28,.v 29,.v 30,.v 31,.v 32,.v 33,.v 34,.v 35,.v 36,.v 37,.v 38,.v 39] 1 [] <|
(.lt none .not [.v 40] 1 <|
(.ite (.v 41)
(.leaf .ret [.c (.bool false)] ())
(.lt none (.bin .add) [.v 5,.c (.int .i64 1)] 1 <|
(.leaf .cont [.v 42] ())))))))))
(.leaf (.yield 1) [] ()))))) <|
(.leaf .ret [.c (.bool true)] ()))))))
def La1:Tm Unit :=
(.lt none (.bin .neq) [.v 0,.v 16] 1 <|
(.ite (.v 32)
(.leaf .ret [.c (.bool false)] ())
(.lt none (.bin .neq) [.v 1,.v 17] 1 <|
(.ite (.v 33)
(.leaf .ret [.c (.bool false)] ())
(.lt none (.bin .neq) [.v 2,.v 18] 1 <|
(.ite (.v 34)
(.leaf .ret [.c (.bool false)] ())
(.lt none (.bin .neq) [.v 3,.v 19] 1 <|
(.ite (.v 35)
(.leaf .ret [.c (.bool false)] ())
(.call none 120 [.v 4,.v 5,.v 6,.v 7,.v 8,.v 20,.v 21,.v 22,.v 23,.v 24] 1 [] <|
(.lt none .not [.v 36] 1 <|
(.ite (.v 37)
(.leaf .ret [.c (.bool false)] ())
(.call none 121 [.v 9,.v 10,.v 25,.v 26] 1 [] <|
(.lt none .not [.v 38] 1 <|
(.ite (.v 39)
(.leaf .ret [.c (.bool false)] ())
(.call none 121 [.v 11,.v 12,.v 27,.v 28] 1 [] <|
(.lt none .not [.v 40] 1 <|
(.ite (.v 41)
(.leaf .ret [.c (.bool false)] ())
(.lt none (.eqb true) [.v 13,.v 29] 1 <|
(.ite (.v 42)
(.leaf .ret [.c (.bool false)] ())
(.call none 122 [.v 14,.v 30] 1 [] <|
(.lt none .not [.v 43] 1 <|
(.ite (.v 44)
(.leaf .ret [.c (.bool false)] ())
(.call none 118 [.v 15,.v 31] 1 [] <|
(.lt none .not [.v 45] 1 <|
(.ite (.v 46)
(.leaf .ret [.c (.bool false)] ())
(.leaf .ret [.c (.bool true)] ()))))))))))))))))))))))))))
def La0:Tm Unit :=
(.lt none .len [.v 0] 1 <|
(.lt none .len [.v 1] 1 <|
(.lt none (.bin .neq) [.v 2,.v 3] 1 <|
(.ite (.v 4)
(.leaf .ret [.c (.bool false)] ())
(.bind 1
(.loop [.c (.int .i64 0)]
(.lt none .len [.v 0] 1 <|
(.lt none (.bin .lss) [.v 5,.v 6] 1 <|
(.ite (.v 7)
(.lt none .inb [.v 0,.v 5] 0 <|
(.lt none (.row 15 0 [true,true,true,true,true,true,true,true,true,true,true,true,true,true,false]) [.v 0,.v 5] 15 <|
(.lt none .inb [.v 1,.v 5] 0 <|
(.lt none (.row 15 0 [true,true,true,true,true,true,true,true,true,true,true,true,true,true,false]) [.v 1,.v 5] 15 <|
(.call none 126 [.v 8,.v 9,.v 10,.v 11,.v 12,.v 13,.v 14,.v 15,.v 16,.v 17,.v 18,.v 19,.v 20,.v 21,.v 22,.v 23,.v 24,.v 25,.v 26,.v 27,.v 28,.v 29,.v 30,.v 31,.v 32,.v 33,.v 34,.v 35,.v 36,.v 37] 1 [] <|
(.lt none .not [.v 38] 1 <|
(.ite (.v 39)
(.leaf .ret [.c (.bool false)] ())
(.lt none (.bin .add) [.v 5,.c (.int .i64 1)] 1 <|
(.leaf .cont [.v 40] ())))))))))
(.leaf (.yield 1) [] ()))))) <|
(.leaf .ret [.c (.bool true)] ()))))))
def Laz:Tm Unit :=
(.lt none (.bin .neq) [.v 0,.v 15] 1 <|
(.ite (.v 30)
(.leaf .ret [.c (.bool false)] ())
(.lt none (.bin .neq) [.v 1,.v 16] 1 <|
(.ite (.v 31)
(.leaf .ret [.c (.bool false)] ())
(.lt none (.bin .neq) [.v 2,.v 17] 1 <|
(.ite (.v 32)
(.leaf .ret [.c (.bool false)] ())
(.lt none (.bin .neq) [.v 3,.v 18] 1 <|
(.ite (.v 33)
(.leaf .ret [.c (.bool false)] ())
(.lt none (.bin .neq) [.v 4,.v 19] 1 <|
(.ite (.v 34)
(.leaf .ret [.c (.bool false)] ())
(.lt none (.bin .neq) [.v 5,.v 20] 1 <|
(.ite (.v 35)
(.leaf .ret [.c (.bool false)] ())
(.lt none (.bin .neq) [.v 6,.v 21] 1 <|
(.ite (.v 36)
(.leaf .ret [.c (.bool false)] ())
(.lt none (.bin .neq) [.v 7,.v 22] 1 <|
(.ite (.v 37)
(.leaf .ret [.c (.bool false)] ())
(.call none 120 [.v 8,.v 9,.v 10,.v 11,.v 12,.v 23,.v 24,.v 25,.v 26,.v 27] 1 [] <|
(.lt none .not [.v 38] 1 <|
(.ite (.v 39)
(.leaf .ret [.c (.bool false)] ())
(.call none 121 [.v 13,.v 14,.v 28,.v 29] 1 [] <|
(.lt none .not [.v 40] 1 <|
(.ite (.v 41)
(.leaf .ret [.c (.bool false)] ())
(.leaf .ret [.c (.bool true)] ())))))))))))))))))))))))
def Lax:Tm Unit :=
(.call none 128 [.v 1,.v 2,.v 4] 2 [] <|
(.call none 132 [.v 3,.v 5] 2 [] <|
(.leaf .ret [.v 7,.v 6,.v 8] ())))
def Law:Tm Unit :=
(.call none 129 [.v 1,.v 2] 2 [] <|
(.leaf .ret [.v 3,.v 4] ()))
def Lav:Tm Unit :=
(.bind 1
(.loop [.v 0,.c .undef,.v 1,.c (.int .i64 0)]
(.lt none .len [.v 2] 1 <|
(.lt none (.bin .lss) [.v 5,.v 6] 1 <|
(.ite (.v 7)
(.lt none .inb [.v 2,.v 5] 0 <|
(.lt none (.row 1 0 [false]) [.v 2,.v 5] 1 <|
(.call none 130 [.v 8,.v 4] 2 [] <|
(.lt none (.set 1 0 1) [.v 2,.v 5,.v 10] 1 <|
(.lt none (.bin .add) [.v 5,.c (.int .i64 1)] 1 <|
(.leaf .cont [.v 11,.c .undef,.v 9,.v 12] ()))))))
(.leaf (.yield 1) [.v 2,.v 4] ()))))) <|
(.leaf .ret [.v 3,.v 2] ()))
def Lau:Tm Unit :=
(.bind 1
(.loop [.v 0,.c .undef,.v 1,.c (.int .i64 0)]
(.lt none .len [.v 2] 1 <|
(.lt none (.bin .lss) [.v 5,.v 6] 1 <|
(.ite (.v 7)
(.lt none .inb [.v 2,.v 5] 0 <|
(.lt none (.set 10 0 1) [.v 2,.v 5,.v 4] 1 <|
(.lt none (.bin .add) [.v 4,.c (.int .i64 1)] 1 <|
(.lt none .inb [.v 8,.v 5] 0 <|
(.lt none (.set 10 1 1) [.v 8,.v 5,.v 9] 1 <|
(.lt none (.bin .add) [.v 9,.c (.int .i64 1)] 1 <|
(.lt none .inb [.v 10,.v 5] 0 <|
(.lt none (.set 10 2 1) [.v 10,.v 5,.v 11] 1 <|
(.lt none (.bin .add) [.v 11,.c (.int .i64 1)] 1 <|
(.lt none .inb [.v 12,.v 5] 0 <|
(.lt none (.set 10 3 1) [.v 12,.v 5,.v 13] 1 <|
(.lt none (.bin .add) [.v 13,.c (.int .i64 1)] 1 <|
(.lt none .inb [.v 14,.v 5] 0 <|
(.lt none (.set 10 4 1) [.v 14,.v 5,.v 15] 1 <|
(.lt none (.bin .add) [.v 15,.c (.int .i64 1)] 1 <|
(.lt none .inb [.v 16,.v 5] 0 <|
(.lt none (.set 10 5 1) [.v 16,.v 5,.v 17] 1 <|
(.lt none (.bin .add) [.v 17,.c (.int .i64 1)] 1 <|
(.lt none .inb [.v 18,.v 5] 0 <|
(.lt none (.set 10 6 1) [.v 18,.v 5,.v 19] 1 <|
(.lt none (.bin .add) [.v 19,.c (.int .i64 1)] 1 <|
(.lt none .inb [.v 20,.v 5] 0 <|
(.lt none (.set 10 7 1) [.v 20,.v 5,.v 21] 1 <|
(.lt none (.bin .add) [.v 21,.c (.int .i64 1)] 1 <|
(.lt none .inb [.v 22,.v 5] 0 <|
(.lt none (.set 10 8 1) [.v 22,.v 5,.v 23] 1 <|
(.lt none (.bin .add) [.v 23,.c (.int .i64 1)] 1 <|
(.lt none .inb [.v 24,.v 5] 0 <|
(.lt none (.row 10 9 [false]) [.v 24,.v 5] 1 <|
(.call none 131 [.v 26,.v 25] 2 [] <|
(.lt none (.set 10 9 1) [.v 24,.v 5,.v 28] 1 <|
(.lt none (.bin .add) [.v 5,.c (.int .i64 1)] 1 <|
(.leaf .cont [.v 29,.c .undef,.v 27,.v 30] ())))))))))))))))))))))))))))))))))
(.leaf (.yield 1) [.v 2,.v 4] ()))))) <|
(.leaf .ret [.v 3,.v 2] ()))
def Lat:Tm Unit :=
(.bind 1
(.loop [.v 0,.c .undef,.v 1,.c (.int .i64 0)]
(.lt none .len [.v 2] 1 <|
(.lt none (.bin .lss) [.v 5,.v 6] 1 <|
(.ite (.v 7)
(.lt none .inb [.v 2,.v 5] 0 <|
(.lt none (.set 1 0 1) [.v 2,.v 5,.v 4] 1 <|
(.lt none (.bin .add) [.v 4,.c (.int .i64 1)] 1 <|
(.lt none (.bin .add) [.v 5,.c (.int .i64 1)] 1 <|
(.leaf .cont [.v 8,.c .undef,.v 9,.v 10] ())))))
(.leaf (.yield 1) [.v 2,.v 4] ()))))) <|
(.leaf .ret [.v 3,.v 2] ()))
def Las:Tm Unit :=
(.bind 1
(.loop [.v 0,.c .undef,.v 1,.c (.int .i64 0)]
(.lt none .len [.v 2] 1 <|
(.lt none (.bin .lss) [.v 5,.v 6] 1 <|
(.ite (.v 7)
(.lt none .inb [.v 2,.v 5] 0 <|
(.lt none (.set 16 0 1) [.v 2,.v 5,.v 4] 1 <|
(.lt none (.bin .add) [.v 4,.c (.int .i64 1)] 1 <|
(.lt none .inb [.v 8,.v 5] 0 <|
(.lt none (.set 16 1 1) [.v 8,.v 5,.v 9] 1 <|
(.lt none (.bin .add) [.v 9,.c (.int .i64 1)] 1 <|
(.lt none .inb [.v 10,.v 5] 0 <|
(.lt none (.set 16 2 1) [.v 10,.v 5,.v 11] 1 <|
(.lt none (.bin .add) [.v 11,.c (.int .i64 1)] 1 <|
(.lt none .inb [.v 12,.v 5] 0 <|
(.lt none (.set 16 3 1) [.v 12,.v 5,.v 13] 1 <|
(.lt none (.bin .add) [.v 13,.c (.int .i64 1)] 1 <|
(.lt none .inb [.v 14,.v 5] 0 <|
(.lt none (.set 16 4 1) [.v 14,.v 5,.v 15] 1 <|
(.lt none (.bin .add) [.v 15,.c (.int .i64 1)] 1 <|
(.lt none .inb [.v 16,.v 5] 0 <|
(.lt none (.set 16 5 1) [.v 16,.v 5,.v 17] 1 <|
(.lt none (.bin .add) [.v 17,.c (.int .i64 1)] 1 <|
(.lt none .inb [.v 18,.v 5] 0 <|
(.lt none (.set 16 6 1) [.v 18,.v 5,.v 19] 1 <|
(.lt none (.bin .add) [.v 19,.c (.int .i64 1)] 1 <|
(.lt none .inb [.v 20,.v 5] 0 <|
(.lt none (.set 16 7 1) [.v 20,.v 5,.v 21] 1 <|
(.lt none (.bin .add) [.v 21,.c (.int .i64 1)] 1 <|
(.lt none .inb [.v 22,.v 5] 0 <|
(.lt none (.set 16 8 1) [.v 22,.v 5,.v 23] 1 <|
(.lt none (.bin .add) [.v 23,.c (.int .i64 1)] 1 <|
(.lt none .inb [.v 24,.v 5] 0 <|
(.lt none (.set 16 9 1) [.v 24,.v 5,.v 25] 1 <|
(.lt none (.bin .add) [.v 25,.c (.int .i64 1)] 1 <|
(.lt none .inb [.v 26,.v 5] 0 <|
(.lt none (.row 16 10 [false]) [.v 26,.v 5] 1 <|
(.call none 131 [.v 28,.v 27] 2 [] <|
(.lt none (.dep 1) [.v 30] 0 <|
(.lt none (.set 16 10 1) [.v 26,.v 5,.v 30] 1 <|
(.lt none .inb [.v 31,.v 5] 0 <|
(.lt none (.set 16 11 1) [.v 31,.v 5,.v 29] 1 <|
(.lt none (.bin .add) [.v 29,.c (.int .i64 1)] 1 <|
(.lt none .inb [.v 32,.v 5] 0 <|
(.lt none (.row 16 12 [false]) [.v 32,.v 5] 1 <|
(.call none 131 [.v 34,.v 33] 2 [] <|
(.lt none (.dep 1) [.v 36] 0 <|
(.lt none (.set 16 12 1) [.v 32,.v 5,.v 36] 1 <|
(.lt none (.bin .rem) [.v 35,.c (.int .i64 3)] 1 <|
(.lt none (.bin .eql) [.v 38,.c (.int .i64 0)] 1 <|
(.lt none .inb [.v 37,.v 5] 0 <|
(.lt none (.set 16 13 1) [.v 37,.v 5,.v 39] 1 <|
(.lt none (.bin .add) [.v 35,.c (.int .i64 1)] 1 <|
(.lt none .inb [.v 40,.v 5] 0 <|
(.lt none (.row 16 14 [false]) [.v 40,.v 5] 1 <|
(.call none 131 [.v 42,.v 41] 2 [] <|
(.lt none (.dep 1) [.v 44] 0 <|
(.lt none (.set 16 14 1) [.v 40,.v 5,.v 44] 1 <|
(.lt none .inb [.v 45,.v 5] 0 <|
(.lt none (.row 16 15 [false]) [.v 45,.v 5] 1 <|
(.call none 130 [.v 46,.v 43] 2 [] <|
(.lt none (.set 16 15 1) [.v 45,.v 5,.v 48] 1 <|
(.lt none (.bin .add) [.v 5,.c (.int .i64 1)] 1 <|
(.leaf .cont [.v 49,.c .undef,.v 47,.v 50] ())))))))))))))))))))))))))))))))))))))))))))))))))))))))))))
(.leaf (.yield 1) [.v 2,.v 4] ()))))) <|
(.leaf .ret [.v 3,.v 2] ()))
def Lar:Tm Unit :=
(.bind 1
(.loop [.v 0,.c .undef,.v 1,.c (.int .i64 0)]
(.lt none .len [.v 2] 1 <|
(.lt none (.bin .lss) [.v 5,.v 6] 1 <|
(.ite (.v 7)
(.lt none .inb [.v 2,.v 5] 0 <|
(.lt none (.set 15 0 1) [.v 2,.v 5,.v 4] 1 <|
(.lt none (.bin .add) [.v 4,.c (.int .i64 1)] 1 <|
(.lt none .inb [.v 8,.v 5] 0 <|
(.lt none (.set 15 1 1) [.v 8,.v 5,.v 9] 1 <|
(.lt none (.bin .add) [.v 9,.c (.int .i64 1)] 1 <|
(.lt none .inb [.v 10,.v 5] 0 <|
(.lt none (.set 15 2 1) [.v 10,.v 5,.v 11] 1 <|
(.lt none (.bin .add) [.v 11,.c (.int .i64 1)] 1 <|
(.lt none .inb [.v 12,.v 5] 0 <|
(.lt none (.set 15 3 1) [.v 12,.v 5,.v 13] 1 <|
(.lt none (.bin .add) [.v 13,.c (.int .i64 1)] 1 <|
(.lt none .inb [.v 14,.v 5] 0 <|
(.lt none (.set 15 4 1) [.v 14,.v 5,.v 15] 1 <|
(.lt none (.bin .add) [.v 15,.c (.int .i64 1)] 1 <|
(.lt none .inb [.v 16,.v 5] 0 <|
(.lt none (.set 15 5 1) [.v 16,.v 5,.v 17] 1 <|
(.lt none (.bin .add) [.v 17,.c (.int .i64 1)] 1 <|
(.lt none .inb [.v 18,.v 5] 0 <|
(.lt none (.set 15 6 1) [.v 18,.v 5,.v 19] 1 <|
(.lt none (.bin .add) [.v 19,.c (.int .i64 1)] 1 <|
(.lt none .inb [.v 20,.v 5] 0 <|
(.lt none (.set 15 7 1) [.v 20,.v 5,.v 21] 1 <|
(.lt none (.bin .add) [.v 21,.c (.int .i64 1)] 1 <|
(.lt none .inb [.v 22,.v 5] 0 <|
(.lt none (.set 15 8 1) [.v 22,.v 5,.v 23] 1 <|
(.lt none (.bin .add) [.v 23,.c (.int .i64 1)] 1 <|
(.lt none .inb [.v 24,.v 5] 0 <|
(.lt none (.set 15 9 1) [.v 24,.v 5,.v 25] 1 <|
(.lt none (.bin .add) [.v 25,.c (.int .i64 1)] 1 <|
(.lt none .inb [.v 26,.v 5] 0 <|
(.lt none (.set 15 10 1) [.v 26,.v 5,.v 27] 1 <|
(.lt none (.bin .add) [.v 27,.c (.int .i64 1)] 1 <|
(.lt none .inb [.v 28,.v 5] 0 <|
(.lt none (.set 15 11 1) [.v 28,.v 5,.v 29] 1 <|
(.lt none (.bin .add) [.v 29,.c (.int .i64 1)] 1 <|
(.lt none .inb [.v 30,.v 5] 0 <|
(.lt none (.set 15 12 1) [.v 30,.v 5,.v 31] 1 <|
(.lt none (.bin .add) [.v 31,.c (.int .i64 1)] 1 <|
(.lt none .inb [.v 32,.v 5] 0 <|
(.lt none (.set 15 13 1) [.v 32,.v 5,.v 33] 1 <|
(.lt none (.bin .add) [.v 33,.c (.int .i64 1)] 1 <|
(.lt none .inb [.v 34,.v 5] 0 <|
(.lt none (.row 15 14 [false]) [.v 34,.v 5] 1 <|
(.call none 131 [.v 36,.v 35] 2 [] <|
(.lt none (.set 15 14 1) [.v 34,.v 5,.v 38] 1 <|
(.lt none (.bin .add) [.v 5,.c (.int .i64 1)] 1 <|
(.leaf .cont [.v 39,.c .undef,.v 37,.v 40] ()))))))))))))))))))))))))))))))))))))))))))))))))
(.leaf (.yield 1) [.v 2,.v 4] ()))))) <|
(.leaf .ret [.v 3,.v 2] ()))
def Laq:Tm Unit :=
(.call none 135 [.v 1,.v 2,.v 4] 1 [] <|
(.lt none (.bin .lss) [.v 5,.c (.int .i64 0)] 1 <|
(.ite (.v 6)
(.leaf .ret [.c (.int .i64 (-1))] ())
(.call none 139 [.v 3,.v 5] 1 [] <|
(.lt none (.bin .lss) [.v 7,.c (.int .i64 0)] 1 <|
(.ite (.v 8)
(.leaf .ret [.c (.int .i64 (-1))] ())
(.leaf .ret [.v 7] ())))))))
def Lap:Tm Unit :=
(.call none 136 [.v 1,.v 2] 1 [] <|
(.lt none (.bin .lss) [.v 3,.c (.int .i64 0)] 1 <|
(.ite (.v 4)
(.leaf .ret [.c (.int .i64 (-1))] ())
(.leaf .ret [.v 3] ()))))
def Lao:Tm Unit :=
(.bind 1
(.loop [.v 1,.c (.int .i64 0)]
(.lt none .len [.v 0] 1 <|
(.lt none (.bin .lss) [.v 3,.v 4] 1 <|
(.ite (.v 5)
(.lt none .inb [.v 0,.v 3] 0 <|
(.lt none (.row 1 0 [false]) [.v 0,.v 3] 1 <|
(.call none 137 [.v 6,.v 2] 1 [] <|
(.lt none (.bin .lss) [.v 7,.c (.int .i64 0)] 1 <|
(.ite (.v 8)
(.leaf .ret [.c (.int .i64 (-1))] ())
(.lt none (.bin .add) [.v 3,.c (.int .i64 1)] 1 <|
(.leaf .cont [.v 7,.v 9] ())))))))
(.leaf (.yield 1) [.v 2] ()))))) <|
(.leaf .ret [.v 2] ()))
def Lan:Tm Unit :=
(.bind 1
(.loop [.v 1,.c (.int .i64 0)]
(.lt none .len [.v 0] 1 <|
(.lt none (.bin .lss) [.v 3,.v 4] 1 <|
(.ite (.v 5)
(.lt none .inb [.v 0,.v 3] 0 <|
(.lt none (.row 10 0 [true]) [.v 0,.v 3] 1 <|
(.lt none (.bin .neq) [.v 6,.v 2] 1 <|
(.ite (.v 7)
(.leaf .ret [.c (.int .i64 (-1))] ())
(.lt none (.bin .add) [.v 2,.c (.int .i64 1)] 1 <|
(.lt none .inb [.v 0,.v 3] 0 <|
(.lt none (.row 10 1 [true]) [.v 0,.v 3] 1 <|
(.lt none (.bin .neq) [.v 9,.v 8] 1 <|
(.ite (.v 10)
(.leaf .ret [.c (.int .i64 (-1))] ())
(.lt none (.bin .add) [.v 8,.c (.int .i64 1)] 1 <|
(.lt none .inb [.v 0,.v 3] 0 <|
(.lt none (.row 10 2 [true]) [.v 0,.v 3] 1 <|
(.lt none (.bin .neq) [.v 12,.v 11] 1 <|
(.ite (.v 13)
(.leaf .ret [.c (.int .i64 (-1))] ())
(.lt none (.bin .add) [.v 11,.c (.int .i64 1)] 1 <|
(.lt none .inb [.v 0,.v 3] 0 <|
(.lt none (.row 10 3 [true]) [.v 0,.v 3] 1 <|
(.lt none (.bin .neq) [.v 15,.v 14] 1 <|
(.ite (.v 16)
(.leaf .ret [.c (.int .i64 (-1))] ())
(.lt none (.bin .add) [.v 14,.c (.int .i64 1)] 1 <|
(.lt none .inb [.v 0,.v 3] 0 <|
(.lt none (.row 10 4 [true]) [.v 0,.v 3] 1 <|
(.lt none (.bin .neq) [.v 18,.v 17] 1 <|
(.ite (.v 19)
(.leaf .ret [.c (.int .i64 (-1))] ())
(.lt none (.bin .add) [.v 17,.c (.int .i64 1)] 1 <|
(.lt none .inb [.v 0,.v 3] 0 <|
(.lt none (.row 10 5 [true]) [.v 0,.v 3] 1 <|
(.lt none (.bin .neq) [.v 21,.v 20] 1 <|
(.ite (.v 22)
(.leaf .ret [.c (.int .i64 (-1))] ())
(.lt none (.bin .add) [.v 20,.c (.int .i64 1)] 1 <|
(.lt none .inb [.v 0,.v 3] 0 <|
(.lt none (.row 10 6 [true]) [.v 0,.v 3] 1 <|
(.lt none (.bin .neq) [.v 24,.v 23] 1 <|
(.ite (.v 25)
(.leaf .ret [.c (.int .i64 (-1))] ())
(.lt none (.bin .add) [.v 23,.c (.int .i64 1)] 1 <|
(.lt none .inb [.v 0,.v 3] 0 <|
(.lt none (.row 10 7 [true]) [.v 0,.v 3] 1 <|
(.lt none (.bin .neq) [.v 27,.v 26] 1 <|
(.ite (.v 28)
(.leaf .ret [.c (.int .i64 (-1))] ())
(.lt none (.bin .add) [.v 26,.c (.int .i64 1)] 1 <|
(.lt none .inb [.v 0,.v 3] 0 <|
(.lt none (.row 10 8 [true]) [.v 0,.v 3] 1 <|
(.lt none (.bin .neq) [.v 30,.v 29] 1 <|
(.ite (.v 31)
(.leaf .ret [.c (.int .i64 (-1))] ())
(.lt none (.bin .add) [.v 29,.c (.int .i64 1)] 1 <|
(.lt none .inb [.v 0,.v 3] 0 <|
(.lt none (.row 10 9 [false]) [.v 0,.v 3] 1 <|
(.call none 138 [.v 33,.v 32] 1 [] <|
(.lt none (.bin .lss) [.v 34,.c (.int .i64 0)] 1 <|
(.ite (.v 35)
(.leaf .ret [.c (.int .i64 (-1))] ())
(.lt none (.bin .add) [.v 3,.c (.int .i64 1)] 1 <|
(.leaf .cont [.v 34,.v 36] ()))))))))))))))))))))))))))))))))))))))))))))))))))))
(.leaf (.yield 1) [.v 2] ()))))) <|
(.leaf .ret [.v 2] ()))
def Lam:Tm Unit :=
(.bind 1
(.loop [.v 1,.c (.int .i64 0)]
(.lt none .len [.v 0] 1 <|
(.lt none (.bin .lss) [.v 3,.v 4] 1 <|
(.ite (.v 5)
(.lt none .inb [.v 0,.v 3] 0 <|
(.lt none (.row 1 0 [true]) [.v 0,.v 3] 1 <|
(.lt none (.bin .neq) [.v 6,.v 2] 1 <|
(.ite (.v 7)
(.leaf .ret [.c (.int .i64 (-1))] ())
(.lt none (.bin .add) [.v 2,.c (.int .i64 1)] 1 <|
(.lt none (.bin .add) [.v 3,.c (.int .i64 1)] 1 <|
(.leaf .cont [.v 8,.v 9] ())))))))
(.leaf (.yield 1) [.v 2] ()))))) <|
(.leaf .ret [.v 2] ()))
def Lal:Tm Unit :=
(.bind 1
(.loop [.v 1,.c (.int .i64 0)]
(.lt none .len [.v 0] 1 <|
(.lt none (.bin .lss) [.v 3,.v 4] 1 <|
(.ite (.v 5)
(.lt none .inb [.v 0,.v 3] 0 <|
(.lt none (.row 16 0 [true]) [.v 0,.v 3] 1 <|
(.lt none (.bin .neq) [.v 6,.v 2] 1 <|
(.ite (.v 7)
(.leaf .ret [.c (.int .i64 (-1))] ())
(.lt none (.bin .add) [.v 2,.c (.int .i64 1)] 1 <|
(.lt none .inb [.v 0,.v 3] 0 <|
(.lt none (.row 16 1 [true]) [.v 0,.v 3] 1 <|
(.lt none (.bin .neq) [.v 9,.v 8] 1 <|
(.ite (.v 10)
(.leaf .ret [.c (.int .i64 (-1))] ())
(.lt none (.bin .add) [.v 8,.c (.int .i64 1)] 1 <|
(.lt none .inb [.v 0,.v 3] 0 <|
(.lt none (.row 16 2 [true]) [.v 0,.v 3] 1 <|
(.lt none (.bin .neq) [.v 12,.v 11] 1 <|
(.ite (.v 13)
(.leaf .ret [.c (.int .i64 (-1))] ())
(.lt none (.bin .add) [.v 11,.c (.int .i64 1)] 1 <|
(.lt none .inb [.v 0,.v 3] 0 <|
(.lt none (.row 16 3 [true]) [.v 0,.v 3] 1 <|
(.lt none (.bin .neq) [.v 15,.v 14] 1 <|
(.ite (.v 16)
(.leaf .ret [.c (.int .i64 (-1))] ())
(.lt none (.bin .add) [.v 14,.c (.int .i64 1)] 1 <|
(.lt none .inb [.v 0,.v 3] 0 <|
(.lt none (.row 16 4 [true]) [.v 0,.v 3] 1 <|
(.lt none (.bin .neq) [.v 18,.v 17] 1 <|
(.ite (.v 19)
(.leaf .ret [.c (.int .i64 (-1))] ())
(.lt none (.bin .add) [.v 17,.c (.int .i64 1)] 1 <|
(.lt none .inb [.v 0,.v 3] 0 <|
(.lt none (.row 16 5 [true]) [.v 0,.v 3] 1 <|
(.lt none (.bin .neq) [.v 21,.v 20] 1 <|
(.ite (.v 22)
(.leaf .ret [.c (.int .i64 (-1))] ())
(.lt none (.bin .add) [.v 20,.c (.int .i64 1)] 1 <|
(.lt none .inb [.v 0,.v 3] 0 <|
(.lt none (.row 16 6 [true]) [.v 0,.v 3] 1 <|
(.lt none (.bin .neq) [.v 24,.v 23] 1 <|
(.ite (.v 25)
(.leaf .ret [.c (.int .i64 (-1))] ())
(.lt none (.bin .add) [.v 23,.c (.int .i64 1)] 1 <|
(.lt none .inb [.v 0,.v 3] 0 <|
(.lt none (.row 16 7 [true]) [.v 0,.v 3] 1 <|
(.lt none (.bin .neq) [.v 27,.v 26] 1 <|
(.ite (.v 28)
(.leaf .ret [.c (.int .i64 (-1))] ())
(.lt none (.bin .add) [.v 26,.c (.int .i64 1)] 1 <|
(.lt none .inb [.v 0,.v 3] 0 <|
(.lt none (.row 16 8 [true]) [.v 0,.v 3] 1 <|
(.lt none (.bin .neq) [.v 30,.v 29] 1 <|
(.ite (.v 31)
(.leaf .ret [.c (.int .i64 (-1))] ())
(.lt none (.bin .add) [.v 29,.c (.int .i64 1)] 1 <|
(.lt none .inb [.v 0,.v 3] 0 <|
(.lt none (.row 16 9 [true]) [.v 0,.v 3] 1 <|
(.lt none (.bin .neq) [.v 33,.v 32] 1 <|
(.ite (.v 34)
(.leaf .ret [.c (.int .i64 (-1))] ())
(.lt none (.bin .add) [.v 32,.c (.int .i64 1)] 1 <|
(.lt none .inb [.v 0,.v 3] 0 <|
(.lt none (.row 16 10 [false]) [.v 0,.v 3] 1 <|
(.call none 138 [.v 36,.v 35] 1 [] <|
(.lt none (.bin .lss) [.v 37,.c (.int .i64 0)] 1 <|
(.ite (.v 38)
(.leaf .ret [.c (.int .i64 (-1))] ())
(.lt none .inb [.v 0,.v 3] 0 <|
(.lt none (.row 16 11 [true]) [.v 0,.v 3] 1 <|
(.lt none (.bin .neq) [.v 39,.v 37] 1 <|
(.ite (.v 40)
(.leaf .ret [.c (.int .i64 (-1))] ())
(.lt none (.bin .add) [.v 37,.c (.int .i64 1)] 1 <|
(.lt none .inb [.v 0,.v 3] 0 <|
(.lt none (.row 16 12 [false]) [.v 0,.v 3] 1 <|
(.call none 138 [.v 42,.v 41] 1 [] <|
(.lt none (.bin .lss) [.v 43,.c (.int .i64 0)] 1 <|
(.ite (.v 44)
(.leaf .ret [.c (.int .i64 (-1))] ())
(.lt none .inb [.v 0,.v 3] 0 <|
(.lt none (.row 16 13 [true]) [.v 0,.v 3] 1 <|
(.lt none (.bin .rem) [.v 43,.c (.int .i64 3)] 1 <|
(.lt none (.bin .eql) [.v 46,.c (.int .i64 0)] 1 <|
(.lt none (.eqb true) [.v 45,.v 47] 1 <|
(.ite (.v 48)
(.leaf .ret [.c (.int .i64 (-1))] ())
(.lt none (.bin .add) [.v 43,.c (.int .i64 1)] 1 <|
(.lt none .inb [.v 0,.v 3] 0 <|
(.lt none (.row 16 14 [false]) [.v 0,.v 3] 1 <|
(.call none 138 [.v 50,.v 49] 1 [] <|
(.lt none (.bin .lss) [.v 51,.c (.int .i64 0)] 1 <|
(.ite (.v 52)
(.leaf .ret [.c (.int .i64 (-1))] ())
(.lt none .inb [.v 0,.v 3] 0 <|
(.lt none (.row 16 15 [false]) [.v 0,.v 3] 1 <|
(.call none 137 [.v 53,.v 51] 1 [] <|
(.lt none (.bin .lss) [.v 54,.c (.int .i64 0)] 1 <|
(.ite (.v 55)
(.leaf .ret [.c (.int .i64 (-1))] ())
(.lt none (.bin .add) [.v 3,.c (.int .i64 1)] 1 <|
(.leaf .cont [.v 54,.v 56] ()))))))))))))))))))))))))))))))))))))))))))))))))))))))))))))))))))))))))))))))))))))
(.leaf (.yield 1) [.v 2] ()))))) <|
(.leaf .ret [.v 2] ()))
def Lak:Tm Unit :=
(.bind 1
(.loop [.v 1,.c (.int .i64 0)]
(.lt none .len [.v 0] 1 <|
(.lt none (.bin .lss) [.v 3,.v 4] 1 <|
(.ite (.v 5)
(.lt none .inb [.v 0,.v 3] 0 <|
(.lt none (.row 15 0 [true]) [.v 0,.v 3] 1 <|
(.lt none (.bin .neq) [.v 6,.v 2] 1 <|
(.ite (.v 7)
(.leaf .ret [.c (.int .i64 (-1))] ())
(.lt none (.bin .add) [.v 2,.c (.int .i64 1)] 1 <|
(.lt none .inb [.v 0,.v 3] 0 <|
(.lt none (.row 15 1 [true]) [.v 0,.v 3] 1 <|
(.lt none (.bin .neq) [.v 9,.v 8] 1 <|
(.ite (.v 10)
(.leaf .ret [.c (.int .i64 (-1))] ())
(.lt none (.bin .add) [.v 8,.c (.int .i64 1)] 1 <|
(.lt none .inb [.v 0,.v 3] 0 <|
(.lt none (.row 15 2 [true]) [.v 0,.v 3] 1 <|
(.lt none (.bin .neq) [.v 12,.v 11] 1 <|
(.ite (.v 13)
(.leaf .ret [.c (.int .i64 (-1))] ())
(.lt none (.bin .add) [.v 11,.c (.int .i64 1)] 1 <|
(.lt none .inb [.v 0,.v 3] 0 <|
(.lt none (.row 15 3 [true]) [.v 0,.v 3] 1 <|
(.lt none (.bin .neq) [.v 15,.v 14] 1 <|
(.ite (.v 16)
(.leaf .ret [.c (.int .i64 (-1))] ())
(.lt none (.bin .add) [.v 14,.c (.int .i64 1)] 1 <|
(.lt none .inb [.v 0,.v 3] 0 <|
(.lt none (.row 15 4 [true]) [.v 0,.v 3] 1 <|
(.lt none (.bin .neq) [.v 18,.v 17] 1 <|
(.ite (.v 19)
(.leaf .ret [.c (.int .i64 (-1))] ())
(.lt none (.bin .add) [.v 17,.c (.int .i64 1)] 1 <|
(.lt none .inb [.v 0,.v 3] 0 <|
(.lt none (.row 15 5 [true]) [.v 0,.v 3] 1 <|
(.lt none (.bin .neq) [.v 21,.v 20] 1 <|
(.ite (.v 22)
(.leaf .ret [.c (.int .i64 (-1))] ())
(.lt none (.bin .add) [.v 20,.c (.int .i64 1)] 1 <|
(.lt none .inb [.v 0,.v 3] 0 <|
(.lt none (.row 15 6 [true]) [.v 0,.v 3] 1 <|
(.lt none (.bin .neq) [.v 24,.v 23] 1 <|
(.ite (.v 25)
(.leaf .ret [.c (.int .i64 (-1))] ())
(.lt none (.bin .add) [.v 23,.c (.int .i64 1)] 1 <|
(.lt none .inb [.v 0,.v 3] 0 <|
(.lt none (.row 15 7 [true]) [.v 0,.v 3] 1 <|
(.lt none (.bin .neq) [.v 27,.v 26] 1 <|
(.ite (.v 28)
(.leaf .ret [.c (.int .i64 (-1))] ())
(.lt none (.bin .add) [.v 26,.c (.int .i64 1)] 1 <|
(.lt none .inb [.v 0,.v 3] 0 <|
(.lt none (.row 15 8 [true]) [.v 0,.v 3] 1 <|
(.lt none (.bin .neq) [.v 30,.v 29] 1 <|
(.ite (.v 31)
(.leaf .ret [.c (.int .i64 (-1))] ())
(.lt none (.bin .add) [.v 29,.c (.int .i64 1)] 1 <|
(.lt none .inb [.v 0,.v 3] 0 <|
(.lt none (.row 15 9 [true]) [.v 0,.v 3] 1 <|
(.lt none (.bin .neq) [.v 33,.v 32] 1 <|
(.ite (.v 34)
(.leaf .ret [.c (.int .i64 (-1))] ())
(.lt none (.bin .add) [.v 32,.c (.int .i64 1)] 1 <|
(.lt none .inb [.v 0,.v 3] 0 <|
(.lt none (.row 15 10 [true]) [.v 0,.v 3] 1 <|
(.lt none (.bin .neq) [.v 36,.v 35] 1 <|
(.ite (.v 37)
(.leaf .ret [.c (.int .i64 (-1))] ())
(.lt none (.bin .add) [.v 35,.c (.int .i64 1)] 1 <|
(.lt none .inb [.v 0,.v 3] 0 <|
(.lt none (.row 15 11 [true]) [.v 0,.v 3] 1 <|
(.lt none (.bin .neq) [.v 39,.v 38] 1 <|
(.ite (.v 40)
(.leaf .ret [.c (.int .i64 (-1))] ())
(.lt none (.bin .add) [.v 38,.c (.int .i64 1)] 1 <|
(.lt none .inb [.v 0,.v 3] 0 <|
(.lt none (.row 15 12 [true]) [.v 0,.v 3] 1 <|
(.lt none (.bin .neq) [.v 42,.v 41] 1 <|
(.ite (.v 43)
(.leaf .ret [.c (.int .i64 (-1))] ())
(.lt none (.bin .add) [.v 41,.c (.int .i64 1)] 1 <|
(.lt none .inb [.v 0,.v 3] 0 <|
(.lt none (.row 15 13 [true]) [.v 0,.v 3] 1 <|
(.lt none (.bin .neq) [.v 45,.v 44] 1 <|
(.ite (.v 46)
(.leaf .ret [.c (.int .i64 (-1))] ())
(.lt none (.bin .add) [.v 44,.c (.int .i64 1)] 1 <|
(.lt none .inb [.v 0,.v 3] 0 <|
(.lt none (.row 15 14 [false]) [.v 0,.v 3] 1 <|
(.call none 138 [.v 48,.v 47] 1 [] <|
(.lt none (.bin .lss) [.v 49,.c (.int .i64 0)] 1 <|
(.ite (.v 50)
(.leaf .ret [.c (.int .i64 (-1))] ())
(.lt none (.bin .add) [.v 3,.c (.int .i64 1)] 1 <|
(.leaf .cont [.v 49,.v 51] ())))))))))))))))))))))))))))))))))))))))))))))))))))))))))))))))))))))))))))))
(.leaf (.yield 1) [.v 2] ()))))) <|
(.leaf .ret [.v 2] ()))
theorem Qb1:∀ n,qG Tryz.prog (Daj [(96,.tm Wa8)]) n 96 Gbb:=fun n=>contracts Oat (by kernel_rfl) (Gaw (List.forall_mem_cons.2 ⟨Saw (E:=⟨lX tiL,[(96,Gbb)],0,0,false,false,[],[],[],0⟩) Tryz.func141 (by kernel_rfl) (tm:=Wa8) (by kernel_rfl) (by kernel_rfl),List.forall_mem_nil _⟩)) n 96 Gbb (by simp)
def Obl:Go.Shelf.Ren:=⟨fun|41=>141|n=>n,fun|4=>4|22=>50|23=>3|n=>n,fun n=>n⟩
theorem Mbo:Go.Proofs.SlLaysE0.n41 Tryz.prog Obl:={ mixed:=by kernel_rfl,f41:=⟨Tryz.f141.name,by kernel_rfl,Tryz.func141.trans (congrArg some (by kernel_rfl))⟩,t4:=Tryz.underlying4,a4:=Tryz.isAgg4,z4:=Tryz.sizeOf4,v4:=Tryz.zeroValue4,t22:=Tryz.underlying50,a22:=Tryz.isAgg50,z22:=Tryz.sizeOf50,v22:=Tryz.zeroValue50 }
noncomputable def Qbm:List D → Option (List D):=Ab3 1 (Daj [(96,.tm Wa8)]) 96
noncomputable def T:Nat → Ent:=Daj [(0,.tm tm0),(1,.tm tm1),(2,.tm tm2),(3,.tm tm3),(4,.tm tm4),(5,.tm tm5),(6,.tm tm6),(7,.tm tm7),(8,.tm tm8),(9,.tm tm9),(10,.tm Db9),(11,.tm Db8),(12,.tm Db7),(13,.tm Db6),(14,.tm Db5),(15,.tm Db4),(16,.tm Db3),(17,.tm Db2),(18,.tm Db1),(19,.tm Db0),(20,.tm Dbz),(21,.tm Dby),(22,.tm Dbx),(23,.tm Dbw),(24,.tm Dbv),(25,.tm Dbu),(26,.tm Dbt),(27,.tm Dbs),(28,.tm Dbr),(29,.tm Dbq),(30,.tm Dbp),(31,.tm Dbo),(32,.tm Dbn),(33,.tm Dbm),(34,.tm Dbl),(35,.tm Dbk),(36,.tm Dbj),(37,.tm Dbi),(38,.tm Dbh),(39,.tm Dbg),(40,.tm Dbf),(41,.tm Dbe),(42,.tm Dbd),(43,.tm Dbc),(44,.tm Dbb),(45,.tm Dba),(46,.tm Cb9),(47,.tm Cb8),(48,.tm Cb7),(49,.tm Cb6),(50,.tm Cb5),(51,.tm Cb4),(52,.tm Cb3),(53,.tm Cb2),(54,.tm Cb1),(55,.tm Cb0),(56,.tm Cbz),(57,.tm Cby),(58,.tm Cbx),(59,.tm Cbw),(60,.tm Cbu),(61,.tm Cbt),(62,.tm Cbs),(63,.tm Cbr),(64,.tm Cbq),(65,.tm Cbp),(66,.tm Cbo),(67,.tm Cbn),(68,.tm Cbm),(69,.tm Cbl),(70,.tm Cbk),(71,.tm Cbj),(72,.tm Cbi),(73,.tm Cbh),(74,.tm Cbg),(75,.tm Cbf),(76,.tm Cbe),(77,.tm Cbd),(78,.tm Cbc),(79,.tm Cbb),(80,.tm Cba),(81,.tm Bb9),(82,.tm Bb8),(83,.tm Bb7),(84,.tm Bb6),(85,.tm Bb5),(86,.tm Bb4),(87,.tm Bb3),(88,.tm Bb2),(89,.tm Bb1),(90,.tm Bb0),(91,.tm Bbz),(92,.tm Bby),(93,.tm Bbx),(94,.tm Bbw),(95,.tm Wa9),(96,.ext Qbm),(97,.tm Bbv),(98,.tm Bbu),(99,.tm Bbt),(100,.tm Mal),(101,.tm Mak),(102,.tm Maj),(103,.tm Mai),(104,.tm Mah),(105,.tm Mag),(106,.tm Maf),(107,.tm Xad),(108,.ext (Bbq 16)),(109,.ext (Bbp 16)),(110,.tm Xaa),(111,.tm Mae),(112,.tm Mad),(113,.tm Mac),(114,.tm Mab),(115,.tm Maa),(116,.tm La9),(117,.tm La8),(118,.tm La7),(119,.tm La6),(120,.tm La5),(121,.tm La4),(122,.tm La3),(123,.tm La2),(124,.tm La1),(125,.tm La0),(126,.tm Laz),(127,.tm Lax),(128,.tm Law),(129,.tm Lav),(130,.tm Lau),(131,.tm Lat),(132,.tm Las),(133,.tm Lar),(134,.tm Laq),(135,.tm Lap),(136,.tm Lao),(137,.tm Lan),(138,.tm Lam),(139,.tm Lal),(140,.tm Lak)]
abbrev K:=Ran Tryz.prog T (lX tiL) sigs
theorem o96:Ran Tryz.prog T (lX tiL) sigs 96 Gbb:=Qa7 (m:=98) Mbo rfl (by kernel_rfl) Tryz.sizeOf3 Qb1 rfl
def Tryz.laysD204_ren:Go.Shelf.Ren:=⟨fun|45=>204|n=>n,fun|22=>32|23=>95|3=>3|4=>4|0=>0|n=>n,fun|n=>n⟩
theorem Tryz.laysD204:Go.Proofs.SlLaysE0.n45 Tryz.prog Tryz.laysD204_ren:={
  mixed:=by kernel_rfl
  f45:=⟨Tryz.f204.name,by decide,Tryz.func204.trans (congrArg some (by kernel_rfl))⟩
  t0:=Tryz.underlying0
  a0:=Tryz.isAgg0
  z0:=Tryz.sizeOf0
  v0:=Tryz.zeroValue0
  t3:=Tryz.underlying3
  a3:=Tryz.isAgg3
  z3:=Tryz.sizeOf3
  v3:=Tryz.zeroValue3
  t4:=Tryz.underlying4
  a4:=Tryz.isAgg4
  z4:=Tryz.sizeOf4
  v4:=Tryz.zeroValue4
  t22:=Tryz.underlying32
  a22:=Tryz.isAgg32
  z22:=Tryz.sizeOf32
  v22:=Tryz.zeroValue32 }
theorem Pbk:K 108 Yan:=Kay (m:=98) Tryz.laysD204 rfl (by kernel_rfl) Tryz.sizeOf95 (by kernel_rfl) rfl
section
open Go.Shelf Go.RowKit Go.Lib Go.Proofs
set_option maxHeartbeats 4000000
theorem Eaw (b off n c vb de vc:Nat)(vs:List Value)(w:World)(dv:n+1 ≤ c)(iS:vs.length=16)
    (fN:∀ j,j<16 → (w.cell? ⟨b,off+n*16+j,none⟩).isSome=true) (jr:∀ j,j<16 → w.frozen? ⟨b,off+n*16+j,none⟩=false)
    (fX:∀ j v,vs[j]?=some v → w.cell? ⟨vb,de+j,none⟩=some v) (kv:∀ v∈vs,v.oneCell'=true) :
    Calls Tryz.prog 154 #[.slice (some ⟨b,off,none⟩) n c,.int .i64 n,.slice (some ⟨vb,de,none⟩) 1 vc] w fun e w' =>
      e=.returned (.slice (some ⟨b,off,none⟩) (n+1) c) ∧ w'=w.setCells b (off+n*16) vs:=by
  obtain⟨i0,ju,kn⟩:∃ i0,Tryz.prog.info? 95=some i0 ∧ i0.size=16:=⟨_,rfl,rfl⟩
  have kb:Src Tryz.prog i0.size 32 (.slice (some ⟨vb,de,none⟩) 1 vc) 1 vs w:=by
    rw[kn];exact Src.ofSlice w Tryz.underlying32 ⟨vb,de,none⟩ 1 vc vs (by omega) (fun j u hj=>by rw[Addr.add_lit];exact fX j u hj) kv
  have cP:∀ ty,(Builtin.append_ #[32,32] ty #[.slice (some ⟨b,off,none⟩) n c,.slice (some ⟨vb,de,none⟩) 1 vc]).run Tryz.prog w=.ok (.slice (some ⟨b,off,none⟩) (n+1) c) (w.setCells b (off+n*16) vs):=fun ty=>by
    have h:=run_append_room_src w 32 32 ty 95 i0 Tryz.underlying32 ju b off n c _ 1 vs kb dv (by rw[kn,iS];exact fN) (by rw[kn,iS];exact jr);rw[kn]at h;exact h
  go_enter Tryz.func154,Tryz.ntmps154
  go_wp2_with (at_builtin;refine Lib.wpList_append_run _ rfl _ _ _ _ rfl _ _ rfl rfl _ _ (cP _) ?_)
  go_ret
  exact⟨rfl,rfl⟩
theorem Iad (base:Option Addr)(n c vb de vc:Nat)(cs vs:List Value)(w:World)(dv:c<n+1)(ko:n ≤ 100000000000)(fw:cs.length=n*16)(iS:vs.length=16)(fx:base=none → n=0)
    (gE:∀ a,base=some a → ∀ j v,cs[j]?=some v → w.cell? (a.add j)=some v)
    (fX:∀ j v,vs[j]?=some v → w.cell? ⟨vb,de+j,none⟩=some v) (kv:∀ v∈vs,v.oneCell'=true) :
    Calls Tryz.prog 154 #[.slice base n c,.int .i64 n,.slice (some ⟨vb,de,none⟩) 1 vc] w fun e w' =>
      ∃ zs:Array Value,zs.size=(grownCap w (n+1) c 95-(n+1))*16 ∧ e=.returned (.slice (some ⟨w.heap.size,0,none⟩) (n+1) (grownCap w (n+1) c 95)) ∧ w'=w.drew.alloc (.cells ((cs++vs).toArray++zs) 95):=by
  obtain⟨i0,z,ju,kn,l8,s9,n4⟩:∃ i0 z,Tryz.prog.info? 95=some i0 ∧ i0.size=16 ∧ i0.zero=some z ∧ i0.bytes ≤ 1000 ∧ z.cells.size=16:=⟨_,_,rfl,rfl,rfl,by decide,rfl⟩
  have kb:Src Tryz.prog i0.size 32 (.slice (some ⟨vb,de,none⟩) 1 vc) 1 vs w:=by
    rw[kn];exact Src.ofSlice w Tryz.underlying32 ⟨vb,de,none⟩ 1 vc vs (by omega) (fun j u hj=>by rw[Addr.add_lit];exact fX j u hj) kv
  have hold:(Builtin.firstCells i0.size n (.slice base n c)).run Tryz.prog w.drew=.ok cs.toArray w.drew:=by
    rw[kn]
    cases base with
    | none =>
      have h0:=fx rfl;subst h0;rw[List.length_eq_zero_iff.1 (show cs.length=0 by omega)];exact run_firstCells_none w.drew 16 0 0 c
    |some a=>exact run_firstCells_some w.drew 16 n a n c cs (by omega) (fun j v hj=>gE a rfl j v hj)
  have fh:(n+1)*i0.bytes ≤ 140737488355328:=Rbz (Nat.mul_le_mul (show n+1 ≤ 100000000001 by omega) s9) (by decide)
  have cP:∀ ty,(Builtin.append_ #[32,32] ty #[.slice base n c,.slice (some ⟨vb,de,none⟩) 1 vc]).run Tryz.prog w=_:=fun ty =>
    run_append_grow_src w 32 32 ty 95 i0 z Tryz.underlying32 ju l8 base n c cs hold _ 1 vs kb dv (by omega) (growslice_fits dv fh)
  obtain⟨zs,oS⟩:∃ zs,zs=Builtin.zeroCells z.cells (grownCap w (n+1) c 95-(n+1)):=⟨_,rfl⟩;have rk:zs.size=(grownCap w (n+1) c 95-(n+1))*16:=by rw[oS];simp[Builtin.zeroCells,n4]
  rw[← oS]at cP
  suffices hC:Calls Tryz.prog 154 #[.slice base n c,.int .i64 n,.slice (some ⟨vb,de,none⟩) 1 vc] w fun e w'=>e=.returned (.slice (some ⟨w.heap.size,0,none⟩) (n+1) (grownCap w (n+1) c 95)) ∧ w'=w.drew.alloc (.cells ((cs++vs).toArray++zs) 95) from hC.mono fun e w' h=>⟨zs,rk,h⟩
  clear oS rk fh n4 s9 l8
  go_enter Tryz.func154,Tryz.ntmps154
  cases base with
  | none =>
    have h0:=fx rfl;subst h0
    go_wp2_with (at_builtin;refine Lib.wpList_append_run _ rfl _ _ _ _ rfl _ _ rfl rfl _ _ (cP _) ?_)
    go_ret
    exact⟨rfl,rfl⟩
  | some a =>
    obtain⟨ab,ao,asp⟩:=a
    go_wp2_with (at_builtin;refine Lib.wpList_append_run _ rfl _ _ _ _ rfl _ _ rfl rfl _ _ (cP _) ?_)
    all_goals (go_ret;exact⟨rfl,rfl⟩)
theorem Baa (b off n c i vb de vc:Nat)(cs vs:List Value)(w:World)(hi:i<n)(dv:n+1 ≤ c)(ko:n ≤ 100000000000)(hvb:vb≠b)(fw:cs.length=n*16)(iS:vs.length=16)
    (gE:∀ j v,cs[j]?=some v → w.cell? ⟨b,off+j,none⟩=some v) (fN:∀ j,j<(n+1)*16 → (w.cell? ⟨b,off+j,none⟩).isSome=true) (jr:∀ j,w.frozen? ⟨b,off+j,none⟩=false)
    (fX:∀ j v,vs[j]?=some v → w.cell? ⟨vb,de+j,none⟩=some v) (pb:∀ v∈cs,v.oneCell'=true) (kv:∀ v∈vs,v.oneCell'=true)
    (tA tB:TypeId) (kA kB:Nat) (vj:w.shape? vb=some (tA,kA)) (oz:w.shape? b=some (tB,kB)) (vA:kB≠0) (ny:w.frozen? ⟨vb,de,none⟩=false) (hfe:w.frozen? ⟨vb,kA,none⟩=false) :
    Calls Tryz.prog 154 #[.slice (some ⟨b,off,none⟩) n c,.int .i64 i,.slice (some ⟨vb,de,none⟩) 1 vc] w fun e w' =>
      e=.returned (.slice (some ⟨b,off,none⟩) (n+1) c) ∧ w'=(w.drew.setCells b (off+(i+1)*16) (cs.drop (i*16))).setCells b (off+i*16) vs:=by
  have mixed:Tryz.prog.follows .mixedOrders=true:=by kernel_rfl
  have ej:(Tryz.prog.info? 95).map (·.size)=some 16:=by kernel_rfl
  have nq:¬ ((i:Int)=(n:Int)):=by omega
  have hov:∀ lb cb,(callFunc 206 #[.slice (some ⟨vb,de,none⟩) 1 vc,.slice (some ⟨b,off+(i+1)*16,none⟩) lb cb]).run Tryz.prog w=.ok (.value (.bool false)) w:=fun lb cb=>by
    rw [run_callFunc_extern Tryz.func206 (by kernel_rfl) (by kernel_rfl) (by kernel_rfl) (e := Extern.SlicesOverlaps.overlaps #[32, 32] #[4]) (by kernel_rfl),
      Lib.run_overlaps_apart w 32 4 95 Tryz.underlying32 16 Tryz.sizeOf95 ⟨vb,de,none⟩ ⟨b,off+(i+1)*16,none⟩ 1 vc lb cb hvb tA tB kA kB vj oz vA ny hfe]
    rfl
  have lE:(cs.drop (i*16)).length=(n-i)*16:=by rw[Sbj,fw];omega
  have sY:IntKind.i64.wrap ((i:Int)+1)=(i:Int)+1:=by rw[IntKind.wrap_i64];omega
  have nw:IntKind.i64.wrap ((n:Int)+1)=(n:Int)+1:=by rw[IntKind.wrap_i64];omega
  have ox:(0:Int) ≤ (i:Int)+1:=by omega
  have jc:i ≤ n:=by omega
  have htn:((i:Int)+1).toNat=i+1:=by omega
  have a4s:((n:Int)+1).toNat=n+1:=by omega
  have gC:¬ (c=i+1):=by omega
  have oY:(i:Int) ≤ (n:Int)+1:=by omega
  have hb4:¬ (c=i):=by omega
  have hb5:¬ ((c:Int)<(n:Int)+1):=by omega
  have tq:∀ ty dc sc,(Builtin.copy_ #[32,32] ty #[.slice (some ⟨b,off+(i+1)*16,none⟩) (n-i) dc,.slice (some ⟨b,off+i*16,none⟩) (n+1-i) sc]).run Tryz.prog w.drew =   .ok (goInt ((n-i:Nat):Int)) (w.drew.setCells b (off+(i+1)*16) (cs.drop (i*16))):=fun ty dc sc=>by
    have h:=mK (P:=Tryz.prog) w.drew 32 32 ty 95 b (off+(i+1)*16) (n-i) dc ⟨b,off+i*16,none⟩ (n+1-i) sc (cs.drop (i*16)) Tryz.underlying32 ej (by rw[lE];simp only[Tbp];split<;>omega)
      (fun j v hj=>by rw[Addr.add_lit,Rbp];exact gE (i*16+j) v (by rwa[Sba]at hj))
      (fun j hj=>by rw[Rbp];exact fN _ (by omega)) (fun j hj=>by rw[Rbp];exact jr _) (fun v hv=>pb v (Sbx hv))
    rw[h,show Nat.min (n+1-i) (n-i)=n-i by simp only[Tbp];split<;>omega]
  obtain⟨W1,ll⟩:∃ W1,W1=w.drew.setCells b (off+(i+1)*16) (cs.drop (i*16)):=⟨_,rfl⟩
  have tu:∀ k,k<(n+1)*16 → (W1.cell? ⟨b,off+k,none⟩).isSome=true:=fun k hk=>by
    rw[ll];exact isSome_setCells b _ _ _ (fun j hj=>by rw[Rbp];exact fN _ (by omega)) _ (fN k hk)
  have yq:∀ (W:World),(∀ x,W.cell? x=W1.cell? x) → (∀ x,W.frozen? x=W1.frozen? x) → ∀ ty dc,(Builtin.copy_ #[32,32] ty #[.slice (some ⟨b,off+i*16,none⟩) (n+1-i) dc,.slice (some ⟨vb,de,none⟩) 1 vc]).run Tryz.prog W=.ok (goInt 1) (W.setCells b (off+i*16) vs):=fun W pc sE ty dc=>by
    have h:=mK (P:=Tryz.prog) W 32 32 ty 95 b (off+i*16) (n+1-i) dc ⟨vb,de,none⟩ 1 vc vs Tryz.underlying32 ej (by rw[iS];simp only[Tbp];split<;>omega)
      (fun j v hj=>by
        rw[Addr.add_lit,pc,ll,World.cell?_setCells_out b _ _ _ _ (fun h _=>absurd h hvb)];exact fX j v hj)
      (fun j hj=>by rw[pc,Rbp];exact tu _ (by omega)) (fun j hj=>by rw[sE,ll,World.frozen?_setCells,Rbp];exact jr _) kv
    rw[h,show Nat.min 1 (n+1-i)=1 by simp only[Tbp];split<;>omega];rfl
  rw[← ll]at tq;clear fN jr ej gE fX pb kv vj oz vA ny hfe lE tu
  go_enter Tryz.func154,Tryz.ntmps154
  go_wp2_with (simp only[hov])
  go_region_law_o (refine step_copy_runI rfl _ _ 32 32 rfl _ _ (by simp[Act.eval,Act.put]) (by simp[Act.eval,Act.put]) (tq _ _ _) ?_)
  go_wp2_with (at_builtin;refine wpList_copy_runI _ rfl _ _ 32 32 rfl _ _ rfl rfl (yq _ (fun _=>rfl) (fun _=>rfl) _ _) ?_)
  go_ret
  first|exact⟨rfl,rfl⟩|exact⟨rfl,by rw[ll]⟩
theorem Eax (b off n c i vb de vc:Nat)(cs vs:List Value)(w:World)(hi:i<n)(uz:n ≤ c)(dv:c<n+1)(ko:n ≤ 100000000000)(fw:cs.length=n*16)(iS:vs.length=16)
    (gE:∀ j v,cs[j]?=some v → w.cell? ⟨b,off+j,none⟩=some v)
    (fX:∀ j v,vs[j]?=some v → w.cell? ⟨vb,de+j,none⟩=some v) (pb:∀ v∈cs,v.oneCell'=true) (kv:∀ v∈vs,v.oneCell'=true) :
    Calls Tryz.prog 154 #[.slice (some ⟨b,off,none⟩) n c,.int .i64 i,.slice (some ⟨vb,de,none⟩) 1 vc] w fun e w' =>
      ∃ z1 z2:Array Value,z1.size=(n+1-i)*16 ∧ z2.size=(grownCap w (n+1) c 95-(n+1))*16 ∧ e=.returned (.slice (some ⟨w.heap.size,0,none⟩) (n+1) (grownCap w (n+1) c 95)) ∧
      w'=(((w.alloc (.cells ((cs.take (i*16)).toArray++z1++z2) 95)).drew.setCells w.heap.size (i*16) vs).drew).setCells w.heap.size ((i+1)*16) (cs.drop (i*16)):=by
  have mixed:Tryz.prog.follows .mixedOrders=true:=by kernel_rfl
  obtain⟨i0,z,ju,kn,l8,s9,n4⟩:∃ i0 z,Tryz.prog.info? 95=some i0 ∧ i0.size=16 ∧ i0.zero=some z ∧ i0.bytes ≤ 1000 ∧ z.cells.size=16:=⟨_,_,rfl,rfl,rfl,by decide,rfl⟩;have nq:¬ ((i:Int)=(n:Int)):=by omega
  have yu:(c:Int)<(n:Int)+1:=by omega
  have ej:(Tryz.prog.info? 95).map (·.size)=some 16:=by kernel_rfl
  have hbw:b<w.heap.size:=block_lt_of_cell (gE 0 _ (Rba (by omega)));have uk:vb<w.heap.size:=block_lt_of_cell (fX 0 _ (Rba (by omega)));have hkk:(n:Int)+1-(i:Int)=((n+1-i:Nat):Int):=by omega
  have zu:i+(n+1-i)=n+1:=by omega
  have fh:(n+1)*i0.bytes ≤ 140737488355328:=Rbz (Nat.mul_le_mul (show n+1 ≤ 100000000001 by omega) s9) (by decide);have mB:(n+1-i)*i0.bytes ≤ 281474976710656:=Rbz (Nat.mul_le_mul_right _ (show n+1-i ≤ n+1 by omega)) (by omega)
  have hold:(Builtin.firstCells i0.size i (.slice (some ⟨b,off,none⟩) i c)).run Tryz.prog w.drew=.ok (cs.take (i*16)).toArray w.drew:=by
    rw[kn]
    exact run_firstCells_some w.drew 16 i ⟨b,off,none⟩ i c (cs.take (i*16)) (by rw[Rbv];omega) (fun j v hj=>by
      rw[Addr.add_lit];rw[List.getElem?_take]at hj;split at hj
      · exact gE j v hj
      · cases hj)
  obtain⟨z1,kf⟩:∃ z1,z1=Builtin.zeroCells z.cells (n+1-i):=⟨_,rfl⟩;obtain⟨G,hG⟩:∃ G,G=grownCap w (n+1) c 95:=⟨_,rfl⟩;obtain⟨z2,ql⟩:∃ z2,z2=Builtin.zeroCells z.cells (G-(n+1)):=⟨_,rfl⟩;have iz:z1.size=(n+1-i)*16:=by rw[kf];simp[Builtin.zeroCells,n4]
  have ka:z2.size=(G-(n+1))*16:=by rw[ql];simp[Builtin.zeroCells,n4]
  obtain⟨ke,nB⟩:∃ ke:Array Value,ke=(cs.take (i*16)).toArray++z1++z2:=⟨_,rfl⟩
  have hrz:∀ ty,(Builtin.append_ #[32,3] ty #[.slice (some ⟨b,off,none⟩) i c,.int .i64 ((n:Int)+1-(i:Int))]).run Tryz.prog w =
      .ok (.slice (some ⟨w.heap.size,0,none⟩) (n+1) G) (w.drew.alloc (.cells ke 95)):=fun ty=>by
    have h:=Lib.run_append_grow_zeros w 32 3 ty 95 i0 z .i64 .i64 Tryz.underlying32 Tryz.underlying3 ju l8 (some ⟨b,off,none⟩) i c (cs.take (i*16)) hold (n+1-i) (by omega) (by omega) (by omega) (by omega) mB (by rw[zu];exact growslice_fits dv fh);rw[zu]at h;rw[hkk,nB,kf,ql,hG];exact h
  have hGn:n+1 ≤ G:=by rw[hG];exact grownCap_ge w _ _ _
  rw[← hG]
  have hRl:(n+1)*16 ≤ ke.size:=by
    rw[nB];simp only[Array.size_append,List.size_toArray,Rbv,iz];omega
  suffices hC:Calls Tryz.prog 154 #[.slice (some ⟨b,off,none⟩) n c,.int .i64 i,.slice (some ⟨vb,de,none⟩) 1 vc] w fun e w' =>
      e=.returned (.slice (some ⟨w.heap.size,0,none⟩) (n+1) G) ∧
      w'=(((w.alloc (.cells ke 95)).drew.setCells w.heap.size (i*16) vs).drew).setCells w.heap.size ((i+1)*16) (cs.drop (i*16)) from hC.mono fun e w' h=>⟨z1,z2,iz,ka,h.1,by rw[← nB];exact h.2⟩
  obtain⟨W1,ll⟩:∃ W1,W1=w.drew.alloc (.cells ke 95):=⟨_,rfl⟩;rw[← ll]at hrz
  have hN:∀ j,j<(n+1)*16 → (W1.cell? ⟨w.heap.size,j,none⟩).isSome=true:=fun j hj=>by
    rw[ll,World.cell?_alloc_at (w:=w.drew) ke _ w.heap.size j rfl,Array.getElem?_eq_getElem (by omega)];rfl
  have yn:∀ j,W1.frozen? ⟨w.heap.size,j,none⟩=false:=fun j=>by rw[ll];exact World.frozen?_alloc_at (w:=w.drew) ke _ w.heap.size j rfl
  have hOb:∀ j v,w.cell? ⟨b,j,none⟩=some v → W1.cell? ⟨b,j,none⟩=some v:=fun j v h=>by rw[ll,World.cell?_alloc_past (w:=w.drew) _ b j hbw];exact h
  have hOv:∀ j v,w.cell? ⟨vb,j,none⟩=some v → W1.cell? ⟨vb,j,none⟩=some v:=fun j v h=>by rw[ll,World.cell?_alloc_past (w:=w.drew) _ vb j uk];exact h
  have zz:∀ (W:World),(∀ x,W.cell? x=W1.cell? x) → (∀ x,W.frozen? x=W1.frozen? x) → ∀ ty dc,(Builtin.copy_ #[32,32] ty #[.slice (some ⟨w.heap.size,i*16,none⟩) (n+1-i) dc,.slice (some ⟨vb,de,none⟩) 1 vc]).run Tryz.prog W=.ok (goInt 1) (W.setCells w.heap.size (i*16) vs):=fun W pc sE ty dc=>by
    have h:=mK (P:=Tryz.prog) W 32 32 ty 95 w.heap.size (i*16) (n+1-i) dc ⟨vb,de,none⟩ 1 vc vs Tryz.underlying32 ej (by rw[iS];simp only[Tbp];split<;>omega)
      (fun j v hj=>by rw[Addr.add_lit,pc];exact hOv _ v (fX j v hj))
      (fun j hj=>by rw[pc];exact hN _ (by omega)) (fun j hj=>by rw[sE];exact yn _) kv
    rw[h,show Nat.min 1 (n+1-i)=1 by simp only[Tbp];split<;>omega];rfl
  have hGi:¬ (G=i):=by omega
  have a4m:¬ (G=i+1):=by omega
  have hci:¬ (c=i):=by omega
  have hbN:b≠w.heap.size:=by omega
  have lE:(cs.drop (i*16)).length=(n-i)*16:=by rw[Sbj,fw];omega
  have s8:∀ (W:World),(∀ x,W.cell? x=(W1.setCells w.heap.size (i*16) vs).cell? x) → (∀ x,W.frozen? x=(W1.setCells w.heap.size (i*16) vs).frozen? x) → ∀ ty dc sc,(Builtin.copy_ #[32,32] ty #[.slice (some ⟨w.heap.size,(i+1)*16,none⟩) (n-i) dc,.slice (some ⟨b,off+i*16,none⟩) (n-i) sc]).run Tryz.prog W=.ok (goInt ((n-i:Nat):Int)) (W.setCells w.heap.size ((i+1)*16) (cs.drop (i*16))):=fun W pc sE ty dc sc=>by
    have h:=mK (P:=Tryz.prog) W 32 32 ty 95 w.heap.size ((i+1)*16) (n-i) dc ⟨b,off+i*16,none⟩ (n-i) sc (cs.drop (i*16)) Tryz.underlying32 ej (by rw[lE];simp only[Tbp];split<;>omega)
      (fun j v hj=>by
        rw[Addr.add_lit,pc,World.cell?_setCells_out _ _ _ _ _ (fun h _=>absurd h hbN),Rbp];exact hOb _ v (gE (i*16+j) v (by rwa[Sba]at hj)))
      (fun j hj=>by rw[pc];exact isSome_setCells _ _ _ _ (fun t ht=>hN _ (by omega)) _ (hN _ (by omega)))
      (fun j hj=>by rw[sE,World.frozen?_setCells];exact yn _) (fun v hv=>pb v (Sbx hv))
    rw[h,show Nat.min (n-i) (n-i)=n-i by simp only[Tbp];split<;>omega]
  subst ll;have hE1:∀ x,((w.alloc (.cells ke 95)).drew).cell? x=(w.drew.alloc (.cells ke 95)).cell? x:=fun x=>rfl
  have hE2:∀ x,((w.alloc (.cells ke 95)).drew).frozen? x=(w.drew.alloc (.cells ke 95)).frozen? x:=fun x=>rfl
  have hF1:∀ x,(((w.alloc (.cells ke 95)).drew.setCells w.heap.size (i*16) vs).drew).cell? x=((w.drew.alloc (.cells ke 95)).setCells w.heap.size (i*16) vs).cell? x:=fun x=>rfl
  have hF2:∀ x,(((w.alloc (.cells ke 95)).drew.setCells w.heap.size (i*16) vs).drew).frozen? x=((w.drew.alloc (.cells ke 95)).setCells w.heap.size (i*16) vs).frozen? x:=fun x=>rfl
  have sY:IntKind.i64.wrap ((i:Int)+1)=(i:Int)+1:=by rw[IntKind.wrap_i64];omega
  have nw:IntKind.i64.wrap ((n:Int)+1)=(n:Int)+1:=by rw[IntKind.wrap_i64];omega
  have hw3:IntKind.i64.wrap ((n:Int)+1-(i:Int))=(n:Int)+1-(i:Int):=by rw[IntKind.wrap_i64];omega
  have ox:(0:Int) ≤ (i:Int)+1:=by omega
  have jc:i ≤ n:=by omega
  have htn:((i:Int)+1).toNat=i+1:=by omega
  have oY:(i:Int) ≤ (n:Int):=by omega
  have hb6:i ≤ c:=by omega
  have rh:i ≤ n+1:=by omega
  have hb8:n ≤ G:=by omega
  clear hkk zu hold nB hG hRl fh mB ql kf iz ka s9 n4 l8 ju kn hN yn hOb hOv ej lE pb kv gE fX
  go_enter Tryz.func154,Tryz.ntmps154
  go_wp2_with (first
    |(at_builtin;refine Lib.wpList_append_run _ rfl _ _ _ _ rfl _ _ rfl rfl _ _ (hrz _) ?_)
    |(at_builtin;refine wpList_copy_runI _ rfl _ _ 32 32 rfl _ _ rfl rfl (zz _ hE1 hE2 _ _) ?_)
    |(at_builtin;refine wpList_copy_runI _ rfl _ _ 32 32 rfl _ _ rfl rfl (s8 _ (fun _=>rfl) (fun _=>rfl) _ _ _) ?_))
  go_region_law_o (refine step_copy_runI rfl _ _ 32 32 rfl (.slice (some ⟨w.heap.size,(i+1)*16,none⟩) (n-i) (G-(i+1))) (.slice (some ⟨b,off+i*16,none⟩) (n-i) (c-i)) (by simp[Act.eval,Act.put]) (by simp[Act.eval,Act.put]) (s8 _ hF1 hF2 _ (G-(i+1)) (c-i)) ?_)
  go_wp2
  go_ret
  exact⟨rfl,rfl⟩
theorem Eav:Oai Tryz.prog 154 16:=by
  intro A n c i vb de vc cs vs w jc uz ko fw iS pb kv ia hA fX hfv;have qh:=fX 0 _ (Rba (show 0<vs.length by omega));by_cases dv:n+1 ≤ c
  · obtain⟨a,rfl⟩:∃ a,A=some a:=by
      cases A with
      |none=>have:=ia rfl;omega
      |some a=>exact⟨a,rfl⟩
    obtain⟨fN,dz,ny,gE,df⟩:=hA a rfl;obtain⟨b,off,s⟩:=a;obtain rfl:s=none:=fN;dsimp only at dz gE df;have ny:=ny (by omega)
    rcases Rbu i n with hi|hi
    · obtain⟨u0,oc⟩:=df 0 (by omega)
      obtain⟨tA,kA,vj,-⟩:=pQ qh;obtain⟨tB,kB,oz,vA⟩:=pQ oc;refine (Baa b off n c i vb de vc cs vs w hi dv ko (fun e=>dz e.symm) fw iS gE (fun j hj=>by obtain⟨u,hu⟩:=df j (by omega);rw[hu];rfl) (fun j=>pE ny rfl) fX pb kv tA tB kA kB vj oz vA (pE hfv rfl) (pE hfv rfl)).mono ?_
      rintro e w' ⟨rfl,hw⟩
      exact⟨b,off,c,rfl,Qac hi dv fw iS ny gE df hw⟩
    · obtain rfl:i=n:=by omega
      refine (Eaw b off i c vb de vc vs w dv iS (fun j hj=>by obtain⟨u,hu⟩:=df (i*16+j) (by omega);rw[← Rbp]at hu;rw[hu];rfl) (fun j _=>pE ny rfl) fX kv).mono ?_
      rintro e w' ⟨rfl,hw⟩
      exact⟨b,off,c,rfl,Fax dv fw iS ny gE df hw⟩
  · rcases Rbu i n with hi|hi
    · obtain⟨a,rfl⟩:∃ a,A=some a:=by
        cases A with
        |none=>have:=ia rfl;omega
        |some a=>exact⟨a,rfl⟩
      obtain⟨fN,dz,ny,gE,df⟩:=hA a rfl;obtain⟨b,off,s⟩:=a;obtain rfl:s=none:=fN;refine (Eax b off n c i vb de vc cs vs w hi uz (by omega) ko fw iS gE fX pb kv).mono ?_
      rintro e w' ⟨z1,z2,iz,ka,rfl,hw⟩
      exact⟨w.heap.size,0,grownCap w (n+1) c 95,rfl,Uaj hi (grownCap_ge w _ _ _) fw iS iz ka hw⟩
    · obtain rfl:i=n:=by omega
      refine (Iad A i c vb de vc cs vs w (by omega) ko fw iS (fun e=>by have:=ia e;omega) (fun a e j u hj=>by
        obtain⟨fN,-,-,gE,-⟩:=hA a e;obtain⟨b,off,s⟩:=a;obtain rfl:s=none:=fN;rw[Addr.add_lit];exact gE j u hj) fX kv).mono ?_
      rintro e w' ⟨zs,hl,rfl,hw⟩
      exact⟨w.heap.size,0,grownCap w (i+1) c 95,rfl,Fay (grownCap_ge w _ _ _) fw iS hl hw⟩
end
theorem Pbj:K 109 Yam:=Zaw (m:=98) Tryz.func154 (by kernel_rfl) rfl (by decide) Eav rfl
theorem o0:K 0 sg0:=fnK (E:=E0) (tm:=tm0) Tryz.func4 (by kernel_rfl)
theorem o1:K 1 sg1:=fnK (E:=E0) (tm:=tm1) Tryz.func9 (by kernel_rfl)
theorem o2:K 2 sg2:=fnK (E:=E0) (tm:=tm2) Tryz.func49 (by kernel_rfl)
theorem o3:K 3 sg3:=fnK (E:=E0) (tm:=tm3) Tryz.func130 (by kernel_rfl)
theorem o4:K 4 sg4:=fnK (E:=E0) (tm:=tm4) Tryz.func201 (by kernel_rfl)
theorem o5:K 5 sg5:=fnK (E:=E0) (tm:=tm5) Tryz.func230 (by kernel_rfl)
theorem o6:K 6 sg6:=fnK (E:=E0) (tm:=tm6) Tryz.func91 (by kernel_rfl)
theorem o7:K 7 sg7:=fnK (E:=E0) (tm:=tm7) Tryz.func163 (by kernel_rfl)
theorem o8:K 8 sg8:=fnK (E:=E0) (tm:=tm8) Tryz.func50 (by kernel_rfl)
theorem o9:K 9 sg9:=fnK (E:=E0) (tm:=tm9) Tryz.func131 (by kernel_rfl)
theorem o10:K 10 Lb9:=fnK (E:=E0) (tm:=Db9) Tryz.func11 (by kernel_rfl)
theorem o11:K 11 Lb8:=fnK (E:=E0) (tm:=Db8) Tryz.func56 (by kernel_rfl)
theorem o12:K 12 Lb7:=fnK (E:=E0) (tm:=Db7) Tryz.func135 (by kernel_rfl)
theorem o13:K 13 Lb6:=fnK (E:=E0) (tm:=Db6) Tryz.func203 (by kernel_rfl)
theorem o14:K 14 Lb5:=fnK (E:=E0) (tm:=Db5) Tryz.func231 (by kernel_rfl)
theorem o15:K 15 Lb4:=fnK (E:=E0) (tm:=Db4) Tryz.func22 (by kernel_rfl)
theorem o16:K 16 Lb3:=fnK (E:=E0) (tm:=Db3) Tryz.func95 (by kernel_rfl)
theorem o17:K 17 Lb2:=fnK (E:=E0) (tm:=Db2) Tryz.func173 (by kernel_rfl)
theorem o18:K 18 Lb1:=fnK (E:=E0) (tm:=Db1) Tryz.func57 (by kernel_rfl)
theorem o19:K 19 Lb0:=fnK (E:=E0) (tm:=Db0) Tryz.func136 (by kernel_rfl)
theorem o20:K 20 Lbz:=fnK (E:=⟨lX tiL,sigs,0,0,true,false,[],[],[],0⟩) (tm:=Dbz) Tryz.func19 (by kernel_rfl)
theorem o21:K 21 Lby:=fnK (E:=E0) (tm:=Dby) Tryz.func40 (by kernel_rfl)
theorem o22:K 22 Lbx:=fnK (E:=⟨lX tiL,sigs,0,0,false,false,[],[(7,[(84,0,0,0)],[3,12,60,63,66,78,81,84,1],0,[]),(4,[(66,0,0,0)],[3,60,63,66,1],1,[])],[],0⟩) (tm:=Dbx) Tryz.func114 (by kernel_rfl)
theorem o23:K 23 Lbw:=fnK (E:=E0) (tm:=Dbw) Tryz.func127 (by kernel_rfl)
theorem o24:K 24 Lbv:=fnK (E:=E0) (tm:=Dbv) Tryz.func151 (by kernel_rfl)
theorem o25:K 25 Lbu:=fnK (E:=E0) (tm:=Dbu) Tryz.func115 (by kernel_rfl)
theorem o26:K 26 Lbt:=fnK (E:=E0) (tm:=Dbt) Tryz.func75 (by kernel_rfl)
theorem o27:K 27 Lbs:=fnK (E:=E0) (tm:=Dbs) Tryz.func165 (by kernel_rfl)
theorem o28:K 28 Lbr:=fnK (E:=E0) (tm:=Dbr) Tryz.func214 (by kernel_rfl)
theorem o29:K 29 Lbq:=fnK (E:=E0) (tm:=Dbq) Tryz.func85 (by kernel_rfl)
theorem o30:K 30 Lbp:=fnK (E:=E0) (tm:=Dbp) Tryz.func156 (by kernel_rfl)
theorem o31:K 31 Lbo:=fnK (E:=E0) (tm:=Dbo) Tryz.func209 (by kernel_rfl)
theorem o32:K 32 Lbn:=fnK (E:=E0) (tm:=Dbn) Tryz.func164 (by kernel_rfl)
theorem o33:K 33 Lbm:=fnK (E:=E0) (tm:=Dbm) Tryz.func213 (by kernel_rfl)
theorem o34:K 34 Lbl:=fnK (E:=⟨lX tiL,sigs,0,0,false,false,[],[(4,[(165,0,0,0)],[0,15,159,162,165,1],0,[])],[],0⟩) (tm:=Dbl) Tryz.func116 (by kernel_rfl)
theorem o35:K 35 Lbk:=fnK (E:=E0) (tm:=Dbk) Tryz.func73 (by kernel_rfl)
theorem o36:K 36 Lbj:=fnK (E:=E0) (tm:=Dbj) Tryz.func194 (by kernel_rfl)
theorem o37:K 37 Lbi:=fnK (E:=E0) (tm:=Dbi) Tryz.func195 (by kernel_rfl)
theorem o38:K 38 Lbh:=fnK (E:=E0) (tm:=Dbh) Tryz.func53 (by kernel_rfl)
theorem o39:K 39 Lbg:=fnK (E:=E0) (tm:=Dbg) Tryz.func133 (by kernel_rfl)
theorem o40:K 40 Lbf:=fnK (E:=E0) (tm:=Dbf) Tryz.func172 (by kernel_rfl)
theorem o41:K 41 Lbe:=fnK (E:=E0) (tm:=Dbe) Tryz.func202 (by kernel_rfl)
theorem o42:K 42 Lbd:=fnK (E:=E0) (tm:=Dbd) Tryz.func74 (by kernel_rfl)
theorem o43:K 43 Lbc:=fnK (E:=E0) (tm:=Dbc) Tryz.func149 (by kernel_rfl)
theorem o44:K 44 Lbb:=fnK (E:=E0) (tm:=Dbb) Tryz.func150 (by kernel_rfl)
theorem o45:K 45 Lba:=fnK (E:=E0) (tm:=Dba) Tryz.func51 (by kernel_rfl)
theorem o46:K 46 Kb9:=fnK (E:=⟨lX tiL,sigs,0,0,false,false,[],[(6,[(63,0,0,0),(16,1,2,99)],[6,9,12,36,39,42,57,60,63,1,4,16],177,[546]),(3,[(42,0,0,0),(16,1,2,99)],[6,9,36,39,42,1,4,16],180,[0])],[],0⟩) (tm:=Cb9) Tryz.func123 (by kernel_rfl)
theorem o47:K 47 Kb8:=fnK (E:=E0) (tm:=Cb8) Tryz.func128 (by kernel_rfl)
theorem o48:K 48 Kb7:=fnK (E:=E0) (tm:=Cb7) Tryz.func132 (by kernel_rfl)
theorem o49:K 49 Kb6:=fnK (E:=E0) (tm:=Cb6) Tryz.func76 (by kernel_rfl)
theorem o50:K 50 Kb5:=fnK (E:=E0) (tm:=Cb5) Tryz.func134 (by kernel_rfl)
theorem o51:K 51 Kb4:=fnK (E:=E0) (tm:=Cb4) Tryz.func77 (by kernel_rfl)
theorem o52:K 52 Kb3:=fnK (E:=E0) (tm:=Cb3) Tryz.func152 (by kernel_rfl)
theorem o53:K 53 Kb2:=fnK (E:=E0) (tm:=Cb2) Tryz.func78 (by kernel_rfl)
theorem o54:K 54 Kb1:=fnK (E:=E0) (tm:=Cb1) Tryz.func94 (by kernel_rfl)
theorem o55:K 55 Kb0:=fnK (E:=E0) (tm:=Cb0) Tryz.func55 (by kernel_rfl)
theorem o56:K 56 Kbz:=fnK (E:=⟨lX tiL,sigs,0,0,true,false,[],[],[],0⟩) (tm:=Cbz) Tryz.func20 (by kernel_rfl)
theorem o57:K 57 Kby:=fnK (E:=E0) (tm:=Cby) Tryz.func58 (by kernel_rfl)
theorem o58:K 58 Kbx:=fnK (E:=E0) (tm:=Cbx) Tryz.func39 (by kernel_rfl)
theorem o59:K 59 Kbw:=fnK (E:=E0) (tm:=Cbw) Tryz.func104 (by kernel_rfl)
theorem o60:K 60 Kbv:=fnK (E:=E0) (tm:=Cbu) Tryz.func125 (by kernel_rfl)
theorem o61:K 61 Kbu:=fnK (E:=E0) (tm:=Cbt) Tryz.func182 (by kernel_rfl)
theorem o62:K 62 Kbt:=fnK (E:=E0) (tm:=Cbs) Tryz.func223 (by kernel_rfl)
theorem o63:K 63 Kbs:=fnK (E:=E0) (tm:=Cbr) Tryz.func183 (by kernel_rfl)
theorem o64:K 64 Kbr:=fnK (E:=E0) (tm:=Cbq) Tryz.func184 (by kernel_rfl)
theorem o65:K 65 Kbq:=fnK (E:=E0) (tm:=Cbp) Tryz.func224 (by kernel_rfl)
theorem o66:K 66 Kbp:=fnK (E:=E0) (tm:=Cbo) Tryz.func185 (by kernel_rfl)
theorem o67:K 67 Kbo:=fnK (E:=E0) (tm:=Cbn) Tryz.func117 (by kernel_rfl)
theorem o68:K 68 Kbn:=fnK (E:=E0) (tm:=Cbm) Tryz.func111 (by kernel_rfl)
theorem o69:K 69 Kbm:=fnK (E:=E0) (tm:=Cbl) Tryz.func88 (by kernel_rfl)
theorem o70:K 70 Kbl:=fnK (E:=E0) (tm:=Cbk) Tryz.func159 (by kernel_rfl)
theorem o71:K 71 Kbk:=fnK (E:=E0) (tm:=Cbj) Tryz.func119 (by kernel_rfl)
theorem o72:K 72 Kbj:=fnK (E:=E0) (tm:=Cbi) Tryz.func196 (by kernel_rfl)
theorem o73:K 73 Kbi:=fnK (E:=E0) (tm:=Cbh) Tryz.func229 (by kernel_rfl)
theorem o74:K 74 Kbh:=fnK (E:=E0) (tm:=Cbg) Tryz.func197 (by kernel_rfl)
theorem o75:K 75 Kbg:=fnK (E:=E0) (tm:=Cbf) Tryz.func81 (by kernel_rfl)
theorem o76:K 76 Kbf:=fnK (E:=E0) (tm:=Cbe) Tryz.func120 (by kernel_rfl)
theorem o77:K 77 Kbe:=fnK (E:=E0) (tm:=Cbd) Tryz.func198 (by kernel_rfl)
theorem o78:K 78 Kbd:=fnK (E:=E0) (tm:=Cbc) Tryz.func112 (by kernel_rfl)
theorem o79:K 79 Kbc:=fnK (E:=E0) (tm:=Cbb) Tryz.func105 (by kernel_rfl)
theorem o80:K 80 Kbb:=fnK (E:=E0) (tm:=Cba) Tryz.func190 (by kernel_rfl)
theorem o81:K 81 Kba:=fnK (E:=E0) (tm:=Bb9) Tryz.func225 (by kernel_rfl)
theorem o82:K 82 Jb9:=fnK (E:=E0) (tm:=Bb8) Tryz.func196 (by kernel_rfl)
theorem o83:K 83 Jb8:=fnK (E:=E0) (tm:=Bb7) Tryz.func229 (by kernel_rfl)
theorem o84:K 84 Jb7:=fnK (E:=E0) (tm:=Bb6) Tryz.func226 (by kernel_rfl)
theorem o85:K 85 Jb6:=fnK (E:=E0) (tm:=Bb5) Tryz.func191 (by kernel_rfl)
theorem o86:K 86 Jb5:=fnK (E:=E0) (tm:=Bb4) Tryz.func227 (by kernel_rfl)
theorem o87:K 87 Jb4:=fnK (E:=E0) (tm:=Bb3) Tryz.func184 (by kernel_rfl)
theorem o88:K 88 Jb3:=fnK (E:=E0) (tm:=Bb2) Tryz.func224 (by kernel_rfl)
theorem o89:K 89 Jb2:=fnK (E:=E0) (tm:=Bb1) Tryz.func192 (by kernel_rfl)
theorem o90:K 90 Jb1:=fnK (E:=E0) (tm:=Bb0) Tryz.func113 (by kernel_rfl)
theorem o91:K 91 Jb0:=fnK (E:=E0) (tm:=Bbz) Tryz.func193 (by kernel_rfl)
theorem o92:K 92 Jbz:=fnK (E:=E0) (tm:=Bby) Tryz.func228 (by kernel_rfl)
theorem o93:K 93 Jby:=fnK (E:=E0) (tm:=Bbx) Tryz.func80 (by kernel_rfl)
theorem o94:K 94 Jbx:=fnK (E:=E0) (tm:=Bbw) Tryz.func153 (by kernel_rfl)
theorem o95:K 95 Gbc:=fnK (E:=E0) (tm:=Wa9) Tryz.func140 (by kernel_rfl)
theorem o97:K 97 Jbw:=fnK (E:=E0) (tm:=Bbv) Tryz.func79 (by kernel_rfl)
theorem o98:K 98 Jbv:=fnK (E:=E0) (tm:=Bbu) Tryz.func59 (by kernel_rfl)
theorem o99:K 99 Jbu:=fnK (E:=E0) (tm:=Bbt) Tryz.func122 (by kernel_rfl)
theorem Pbs:K 100 Yav:=fnK (E:=E0) (tm:=Mal) Tryz.func199 (by kernel_rfl)
theorem Pbr:K 101 Yau:=fnK (E:=E0) (tm:=Mak) Tryz.func142 (by kernel_rfl)
theorem Pbq:K 102 Yat:=fnK (E:=E0) (tm:=Maj) Tryz.func63 (by kernel_rfl)
theorem Pbp:K 103 Yas:=fnK (E:=E0) (tm:=Mai) Tryz.func82 (by kernel_rfl)
theorem Pbo:K 104 Yar:=fnK (E:=E0) (tm:=Mah) Tryz.func139 (by kernel_rfl)
theorem Pbn:K 105 Yaq:=fnK (E:=E0) (tm:=Mag) Tryz.func60 (by kernel_rfl)
theorem Pbm:K 106 Yap:=fnK (E:=E0) (tm:=Maf) Tryz.func137 (by kernel_rfl)
theorem Pbl:K 107 Yao:=fnK (E:=E0) (tm:=Xad) Tryz.func138 (by kernel_rfl)
theorem Pbi:K 110 Yal:=fnK (E:=E0) (tm:=Xaa) Tryz.func83 (by kernel_rfl)
theorem o111:K 111 Yak:=fnK (E:=E0) (tm:=Mae) Tryz.func84 (by kernel_rfl)
theorem Pbh:K 112 Yaj:=fnK (E:=E0) (tm:=Mad) Tryz.func155 (by kernel_rfl)
theorem Pbg:K 113 Yai:=fnK (E:=E0) (tm:=Mac) Tryz.func208 (by kernel_rfl)
theorem Pbf:K 114 Yah:=fnK (E:=E0) (tm:=Mab) Tryz.func64 (by kernel_rfl)
theorem Pbe:K 115 Yag:=fnK (E:=E0) (tm:=Maa) Tryz.func13 (by kernel_rfl)
theorem Pbd:K 116 Yaf:=fnK (E:=E0) (tm:=La9) Tryz.func65 (by kernel_rfl)
theorem Pbc:K 117 Yae:=fnK (E:=E0) (tm:=La8) Tryz.func143 (by kernel_rfl)
theorem Pbb:K 118 Yad:=fnK (E:=E0) (tm:=La7) Tryz.func205 (by kernel_rfl)
theorem Pba:K 119 Yac:=fnK (E:=E0) (tm:=La6) Tryz.func232 (by kernel_rfl)
theorem Ob9:K 120 Yab:=fnK (E:=E0) (tm:=La5) Tryz.func97 (by kernel_rfl)
theorem Ob8:K 121 Yaa:=fnK (E:=E0) (tm:=La4) Tryz.func98 (by kernel_rfl)
theorem Ob7:K 122 Xa9:=fnK (E:=E0) (tm:=La3) Tryz.func177 (by kernel_rfl)
theorem Ob6:K 123 Xa8:=fnK (E:=E0) (tm:=La2) Tryz.func66 (by kernel_rfl)
theorem Ob5:K 124 Xa7:=fnK (E:=E0) (tm:=La1) Tryz.func144 (by kernel_rfl)
theorem Ob4:K 125 Xa6:=fnK (E:=E0) (tm:=La0) Tryz.func14 (by kernel_rfl)
theorem Ob3:K 126 Xa5:=fnK (E:=E0) (tm:=Laz) Tryz.func28 (by kernel_rfl)
theorem Ob2:K 127 Xa4:=fnK (E:=E0) (tm:=Lax) Tryz.func15 (by kernel_rfl)
theorem Ob1:K 128 Xa3:=fnK (E:=E0) (tm:=Law) Tryz.func67 (by kernel_rfl)
theorem Ob0:K 129 Xa2:=fnK (E:=E0) (tm:=Lav) Tryz.func145 (by kernel_rfl)
theorem Obz:K 130 Xa1:=fnK (E:=E0) (tm:=Lau) Tryz.func146 (by kernel_rfl)
theorem Oby:K 131 Xa0:=fnK (E:=E0) (tm:=Lat) Tryz.func69 (by kernel_rfl)
theorem Obx:K 132 Xaz:=fnK (E:=⟨lX tiL,sigs,0,0,false,false,[],[(2,[(408,0,2,3),(0,0,6,0),(3,0,0,0),(15,0,0,0)],[408,0,3,15],0,[0])],[],0⟩) (tm:=Las) Tryz.func68 (by kernel_rfl)
theorem Obw:K 133 Xay:=fnK (E:=E0) (tm:=Lar) Tryz.func16 (by kernel_rfl)
theorem Obv:K 134 Xax:=fnK (E:=E0) (tm:=Laq) Tryz.func17 (by kernel_rfl)
theorem Obu:K 135 Xaw:=fnK (E:=E0) (tm:=Lap) Tryz.func70 (by kernel_rfl)
theorem Obt:K 136 Xav:=fnK (E:=E0) (tm:=Lao) Tryz.func147 (by kernel_rfl)
theorem Obs:K 137 Xau:=fnK (E:=⟨lX tiL,sigs,0,0,false,false,[],[(2,[(3,0,0,0),(15,0,0,0)],[0,3,15],0,[])],[],0⟩) (tm:=Lan) Tryz.func148 (by kernel_rfl)
theorem Obr:K 138 Xat:=fnK (E:=E0) (tm:=Lam) Tryz.func72 (by kernel_rfl)
theorem Obq:K 139 Xas:=fnK (E:=⟨lX tiL,sigs,0,0,false,false,[],[(2,[(3,0,0,0),(15,0,0,0)],[0,3,15],0,[])],[],0⟩) (tm:=Lal) Tryz.func71 (by kernel_rfl)
theorem Obp:K 140 Xar:=fnK (E:=⟨lX tiL,sigs,0,0,false,false,[],[(2,[(3,0,0,0),(15,0,0,0)],[0,3,15],0,[])],[],0⟩) (tm:=Lak) Tryz.func18 (by kernel_rfl)
theorem Abc:∀ key s,(key,s)∈sigs → Ran Tryz.prog T (lX tiL) sigs key s:=Gaw (fc o0 <| fc o1 <| fc o2 <| fc o3 <| fc o4 <| fc o5 <| fc o6 <| fc o7 <| fc o8 <| fc o9 <| fc o10 <| fc o11 <| fc o12 <| fc o13 <| fc o14 <| fc o15 <| fc o16 <| fc o17 <| fc o18 <| fc o19 <| fc o20 <| fc o21 <| fc o22 <| fc o23 <| fc o24 <| fc o25 <| fc o26 <| fc o27 <| fc o28 <| fc o29 <| fc o30 <| fc o31 <| fc o32 <| fc o33 <| fc o34 <| fc o35 <| fc o36 <| fc o37 <| fc o38 <| fc o39 <| fc o40 <| fc o41 <| fc o42 <| fc o43 <| fc o44 <| fc o45 <| fc o46 <| fc o47 <| fc o48 <| fc o49 <| fc o50 <| fc o51 <| fc o52 <| fc o53 <| fc o54 <| fc o55 <| fc o56 <| fc o57 <| fc o58 <| fc o59 <| fc o60 <| fc o61 <| fc o62 <| fc o63 <| fc o64 <| fc o65 <| fc o66 <| fc o67 <| fc o68 <| fc o69 <| fc o70 <| fc o71 <| fc o72 <| fc o73 <| fc o74 <| fc o75 <| fc o76 <| fc o77 <| fc o78 <| fc o79 <| fc o80 <| fc o81 <| fc o82 <| fc o83 <| fc o84 <| fc o85 <| fc o86 <| fc o87 <| fc o88 <| fc o89 <| fc o90 <| fc o91 <| fc o92 <| fc o93 <| fc o94 <| fc o95 <| fc o96 <| fc o97 <| fc o98 <| fc o99 <| fc Pbs <| fc Pbr <| fc Pbq <| fc Pbp <| fc Pbo <| fc Pbn <| fc Pbm <| fc Pbl <| fc Pbk <| fc Pbj <| fc Pbi <| fc o111 <| fc Pbh <| fc Pbg <| fc Pbf <| fc Pbe <| fc Pbd <| fc Pbc <| fc Pbb <| fc Pba <| fc Ob9 <| fc Ob8 <| fc Ob7 <| fc Ob6 <| fc Ob5 <| fc Ob4 <| fc Ob3 <| fc Ob2 <| fc Ob1 <| fc Ob0 <| fc Obz <| fc Oby <| fc Obx <| fc Obw <| fc Obv <| fc Obu <| fc Obt <| fc Obs <| fc Obr <| fc Obq <| fc Obp <| fc0)
theorem contract:∀ n,qG Tryz.prog T n 0 sg0:=fun n=>contracts Oat (by kernel_rfl) Abc n 0 sg0 (by simp[sigs])
end FnExactRecoverAt
end Go.Proofs.YtgpamlpecmldfaaGreat
