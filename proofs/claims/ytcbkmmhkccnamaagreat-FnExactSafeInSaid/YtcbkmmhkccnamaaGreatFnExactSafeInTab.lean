import Derived.Test.YtcbkmmhkccnamaaGreatChecked
import Derived.Test.YtcbkmmhkccnamaaGreatRf10
import Derived.KernelRfl
set_option linter.all false
namespace Go.Proofs.YtcbkmmhkccnamaaGreat
namespace FnExactSafeIn
open Go Go.Proofs.YtcbkmmhkccnamaaGreat.Rf
set_option maxRecDepth 100000
def t3:TI:=⟨false,1,8,[.sc (.int .i64 0)],[],none,(some .i64),false,false,false,false⟩
theorem ti3:tQ Tryz.prog 3=some t3:=by kernel_rfl
def t4:TI:=⟨false,1,1,[.sc (.bool false)],[],none,none,true,false,false,false⟩
theorem ti4:tQ Tryz.prog 4=some t4:=by kernel_rfl
def t22:TI:=⟨false,1,24,[.sl 4],[],(some 90),none,false,false,false,false⟩
theorem Wb8:tQ Tryz.prog 22=some t22:=by kernel_rfl
def t23:TI:=⟨false,1,24,[.sl 15],[],(some 96),none,false,false,false,false⟩
theorem Wb7:tQ Tryz.prog 23=some t23:=by kernel_rfl
def t24:TI:=⟨false,1,24,[.sl 7],[],(some 116),none,false,false,false,false⟩
theorem Wb6:tQ Tryz.prog 24=some t24:=by kernel_rfl
def t26:TI:=⟨true,3,72,[.sl 4,.sl 15,.sl 7],[(0,22),(1,23),(2,24)],none,none,false,false,false,false⟩
theorem Wb5:tQ Tryz.prog 26=some t26:=by kernel_rfl
def t27:TI:=⟨false,1,24,[.sl 1],[],(some 3),none,false,false,false,false⟩
theorem Wb4:tQ Tryz.prog 27=some t27:=by kernel_rfl
def t31:TI:=⟨false,1,24,[.sl 4],[],(some 71),none,false,false,false,false⟩
theorem Wb3:tQ Tryz.prog 31=some t31:=by kernel_rfl
def t32:TI:=⟨false,1,24,[.sl 15],[],(some 102),none,false,false,false,false⟩
theorem Wb2:tQ Tryz.prog 32=some t32:=by kernel_rfl
def t33:TI:=⟨false,1,24,[.sl 7],[],(some 113),none,false,false,false,false⟩
theorem Wb1:tQ Tryz.prog 33=some t33:=by kernel_rfl
def t35:TI:=⟨true,3,72,[.sl 4,.sl 15,.sl 7],[(0,31),(1,32),(2,33)],none,none,false,false,false,false⟩
theorem Wb0:tQ Tryz.prog 35=some t35:=by kernel_rfl
def t52:TI:=⟨false,1,24,[.sl 1],[],(some 27),none,false,false,false,false⟩
theorem Wbz:tQ Tryz.prog 52=some t52:=by kernel_rfl
def t66:TI:=⟨false,1,24,[.sl 1],[],(some 105),none,false,false,false,false⟩
theorem Wby:tQ Tryz.prog 66=some t66:=by kernel_rfl
def t68:TI:=⟨true,2,32,[.sc (.int .i64 0),.sl 1],[(0,3),(1,66)],none,none,false,false,false,false⟩
theorem Wbx:tQ Tryz.prog 68=some t68:=by kernel_rfl
def t69:TI:=⟨false,1,24,[.sl 16],[],(some 148),none,false,false,false,false⟩
theorem Wbw:tQ Tryz.prog 69=some t69:=by kernel_rfl
def t71:TI:=⟨true,4,64,[.sc (.int .i64 0),.sc (.int .i64 0),.sl 1,.sl 16],[(0,3),(1,68),(3,69)],none,none,false,false,false,false⟩
theorem Wbv:tQ Tryz.prog 71=some t71:=by kernel_rfl
def t75:TI:=⟨true,5,40,[.sc (.int .i64 0),.sc (.int .i64 0),.sc (.int .i64 0),.sc (.int .i64 0),.sc (.int .i64 0)],[(0,3),(1,3),(2,3),(3,3),(4,3)],none,none,false,false,false,true⟩
theorem Wbu:tQ Tryz.prog 75=some t75:=by kernel_rfl
def t85:TI:=⟨false,1,24,[.sl 1],[],(some 191),none,false,false,false,false⟩
theorem Wbt:tQ Tryz.prog 85=some t85:=by kernel_rfl
def t87:TI:=⟨true,2,32,[.sc (.int .i64 0),.sl 1],[(0,3),(1,85)],none,none,false,false,false,false⟩
theorem Wbs:tQ Tryz.prog 87=some t87:=by kernel_rfl
def t88:TI:=⟨false,1,24,[.sl 16],[],(some 193),none,false,false,false,false⟩
theorem Wbr:tQ Tryz.prog 88=some t88:=by kernel_rfl
def t90:TI:=⟨true,4,64,[.sc (.int .i64 0),.sc (.int .i64 0),.sl 1,.sl 16],[(0,3),(1,87),(3,88)],none,none,false,false,false,false⟩
theorem Wbq:tQ Tryz.prog 90=some t90:=by kernel_rfl
def t92:TI:=⟨true,5,40,[.sc (.int .i64 0),.sc (.int .i64 0),.sc (.int .i64 0),.sc (.int .i64 0),.sc (.int .i64 0)],[(0,3),(1,3),(2,3),(3,3),(4,3)],none,none,false,false,false,true⟩
theorem Wbp:tQ Tryz.prog 92=some t92:=by kernel_rfl
def t94:TI:=⟨true,2,32,[.sc (.int .i64 0),.sl 1],[(0,3),(1,27)],none,none,false,false,false,false⟩
theorem Wbo:tQ Tryz.prog 94=some t94:=by kernel_rfl
def t96:TI:=⟨true,15,136,[.sc (.int .i64 0),.sc (.int .i64 0),.sc (.int .i64 0),.sc (.int .i64 0),.sc (.int .i64 0),.sc (.int .i64 0),.sc (.int .i64 0),.sc (.int .i64 0),.sc (.int .i64 0),.sc (.int .i64 0),.sc (.int .i64 0),.sc (.int .i64 0),.sc (.int .i64 0),.sc (.int .i64 0),.sl 1],[(0,3),(1,3),(2,3),(3,3),(4,3),(5,3),(6,3),(7,3),(8,92),(13,94)],none,none,false,false,false,false⟩
theorem Wbn:tQ Tryz.prog 96=some t96:=by kernel_rfl
def Tbr:TI:=⟨true,2,32,[.sc (.int .i64 0),.sl 1],[(0,3),(1,27)],none,none,false,false,false,false⟩
theorem Sbu:tQ Tryz.prog 100=some Tbr:=by kernel_rfl
def Tbq:TI:=⟨true,15,136,[.sc (.int .i64 0),.sc (.int .i64 0),.sc (.int .i64 0),.sc (.int .i64 0),.sc (.int .i64 0),.sc (.int .i64 0),.sc (.int .i64 0),.sc (.int .i64 0),.sc (.int .i64 0),.sc (.int .i64 0),.sc (.int .i64 0),.sc (.int .i64 0),.sc (.int .i64 0),.sc (.int .i64 0),.sl 1],[(0,3),(1,3),(2,3),(3,3),(4,3),(5,3),(6,3),(7,3),(8,75),(13,100)],none,none,false,false,false,false⟩
theorem Sbt:tQ Tryz.prog 102=some Tbq:=by kernel_rfl
def t105:TI:=⟨false,1,24,[.sl 10],[],(some 108),none,false,false,false,false⟩
theorem Sbs:tQ Tryz.prog 105=some t105:=by kernel_rfl
def Tbp:TI:=⟨true,10,96,[.sc (.int .i64 0),.sc (.int .i64 0),.sc (.int .i64 0),.sc (.int .i64 0),.sc (.int .i64 0),.sc (.int .i64 0),.sc (.int .i64 0),.sc (.int .i64 0),.sc (.int .i64 0),.sl 1],[(0,3),(1,3),(2,3),(3,75),(8,100)],none,none,false,false,false,false⟩
theorem Sbr:tQ Tryz.prog 108=some Tbp:=by kernel_rfl
def Tbo:TI:=⟨true,7,56,[.sc (.int .i64 0),.sc (.int .i64 0),.sc (.int .i64 0),.sc (.int .i64 0),.sc (.int .i64 0),.sc (.int .i64 0),.sc (.int .i64 0)],[(0,3),(1,3),(2,75)],none,none,false,false,false,true⟩
theorem Sbq:tQ Tryz.prog 113=some Tbo:=by kernel_rfl
def t116:TI:=⟨true,7,56,[.sc (.int .i64 0),.sc (.int .i64 0),.sc (.int .i64 0),.sc (.int .i64 0),.sc (.int .i64 0),.sc (.int .i64 0),.sc (.int .i64 0)],[(0,3),(1,3),(2,92)],none,none,false,false,false,true⟩
theorem Sbp:tQ Tryz.prog 116=some t116:=by kernel_rfl
def t148:TI:=⟨true,16,192,[.sc (.int .i64 0),.sc (.int .i64 0),.sc (.int .i64 0),.sc (.int .i64 0),.sc (.int .i64 0),.sc (.int .i64 0),.sc (.int .i64 0),.sc (.int .i64 0),.sc (.int .i64 0),.sc (.int .i64 0),.sl 1,.sc (.int .i64 0),.sl 1,.sc (.bool false),.sl 1,.sl 10],[(0,3),(1,3),(2,3),(3,3),(4,75),(9,100),(11,100),(13,4),(14,27),(15,105)],none,none,false,false,false,false⟩
theorem Sbo:tQ Tryz.prog 148=some t148:=by kernel_rfl
def Tbn:TI:=⟨false,1,24,[.sl 10],[],(some 250),none,false,false,false,false⟩
theorem Sbn:tQ Tryz.prog 191=some Tbn:=by kernel_rfl
def t193:TI:=⟨true,16,192,[.sc (.int .i64 0),.sc (.int .i64 0),.sc (.int .i64 0),.sc (.int .i64 0),.sc (.int .i64 0),.sc (.int .i64 0),.sc (.int .i64 0),.sc (.int .i64 0),.sc (.int .i64 0),.sc (.int .i64 0),.sl 1,.sc (.int .i64 0),.sl 1,.sc (.bool false),.sl 1,.sl 10],[(0,3),(1,3),(2,3),(3,3),(4,92),(9,94),(11,94),(13,4),(14,27),(15,191)],none,none,false,false,false,false⟩
theorem Sbm:tQ Tryz.prog 193=some t193:=by kernel_rfl
def Tbm:TI:=⟨false,1,24,[.sl 1],[],(some 4),none,false,false,false,false⟩
theorem Sbl:tQ Tryz.prog 241=some Tbm:=by kernel_rfl
def Tbl:TI:=⟨true,10,96,[.sc (.int .i64 0),.sc (.int .i64 0),.sc (.int .i64 0),.sc (.int .i64 0),.sc (.int .i64 0),.sc (.int .i64 0),.sc (.int .i64 0),.sc (.int .i64 0),.sc (.int .i64 0),.sl 1],[(0,3),(1,3),(2,3),(3,92),(8,94)],none,none,false,false,false,false⟩
theorem Sbk:tQ Tryz.prog 250=some Tbl:=by kernel_rfl
def tiL:List (Nat×TI):=[(3,t3),(4,t4),(22,t22),(23,t23),(24,t24),(26,t26),(27,t27),(31,t31),(32,t32),(33,t33),(35,t35),(52,t52),(66,t66),(68,t68),(69,t69),(71,t71),(75,t75),(85,t85),(87,t87),(88,t88),(90,t90),(92,t92),(94,t94),(96,t96),(100,Tbr),(102,Tbq),(105,t105),(108,Tbp),(113,Tbo),(116,t116),(148,t148),(191,Tbn),(193,t193),(241,Tbm),(250,Tbl)]
theorem Ibj:vZ Tryz.prog (gT tiL):=Uav (l:=tiL) (fc ti3 <| fc ti4 <| fc Wb8 <| fc Wb7 <| fc Wb6 <| fc Wb5 <| fc Wb4 <| fc Wb3 <| fc Wb2 <| fc Wb1 <| fc Wb0 <| fc Wbz <| fc Wby <| fc Wbx <| fc Wbw <| fc Wbv <| fc Wbu <| fc Wbt <| fc Wbs <| fc Wbr <| fc Wbq <| fc Wbp <| fc Wbo <| fc Wbn <| fc Sbu <| fc Sbt <| fc Sbs <| fc Sbr <| fc Sbq <| fc Sbp <| fc Sbo <| fc Sbn <| fc Sbm <| fc Sbl <| fc Sbk <| fc0)
def sg0:Sig:=⟨7,[(true,[.fz false,.fz false,.fz false])],[],[(false,[.sc])]⟩
def sg1:Sig:=⟨8,[(true,[.fz false,.fz false,.fz false]),(false,[.sc])],[],[(false,[.sc])]⟩
def sg2:Sig:=⟨23,[(false,[.fz false]),(false,[.sc])],[],[(false,[.sc])]⟩
def sg3:Sig:=⟨52,[(true,[.sc,.sc,.fz false,.fz false]),(false,[.sc])],[],[(false,[.sc])]⟩
def sg4:Sig:=⟨103,[(true,[.sc,.fz false]),(false,[.sc])],[],[(false,[.sc])]⟩
def sg5:Sig:=⟨167,[(false,[.fz false]),(false,[.sc])],[],[(false,[.sc])]⟩
def sg6:Sig:=⟨212,[(false,[.fz false]),(false,[.sc])],[],[(false,[.sc])]⟩
def sg7:Sig:=⟨237,[(true,[.sc,.sc,.sc,.sc,.sc,.sc,.sc,.sc,.sc,.fz false]),(false,[.sc])],[],[(false,[.sc])]⟩
def sg8:Sig:=⟨105,[(true,[.sc,.fz false]),(false,[.sc])],[],[(false,[.sc])]⟩
def sg9:Sig:=⟨169,[(false,[.fz false]),(false,[.sc])],[],[(false,[.sc])]⟩
def Vb8:Sig:=⟨104,[(false,[.fz false]),(false,[.sc])],[],[(false,[.sc])]⟩
def Vb7:Sig:=⟨168,[(true,[.sc,.sc,.sc,.sc,.sc,.sc,.sc,.sc,.sc,.sc,.fz false,.sc,.fz false,.sc,.fz false,.fz false]),(false,[.sc])],[],[(false,[.sc])]⟩
def Vb6:Sig:=⟨24,[(false,[.fz false]),(false,[.sc])],[],[(false,[.sc])]⟩
def Vb5:Sig:=⟨53,[(true,[.sc,.sc,.sc,.sc,.sc,.sc,.sc,.sc,.sc,.sc,.sc,.sc,.sc,.sc,.fz false]),(false,[.sc])],[],[(false,[.sc])]⟩
def Vb4:Sig:=⟨25,[(false,[.fz false]),(false,[.sc])],[],[(false,[.sc])]⟩
def Vb3:Sig:=⟨10,[(true,[.fz false,.fz false,.fz false])],[],[(true,[.ow 99,.ow 99,.ow 99])]⟩
def Vb2:Sig:=⟨29,[(false,[.fz false])],[],[(false,[.ow 99])]⟩
def Vb1:Sig:=⟨61,[(true,[.sc,.sc,.fz false,.fz false])],[],[(true,[.sc,.sc,.ow 99,.ow 99])]⟩
def Vb0:Sig:=⟨114,[(true,[.sc,.fz false])],[],[(true,[.sc,.ow 99])]⟩
def Vbz:Sig:=⟨173,[(false,[.fz false])],[],[(false,[.ow 99])]⟩
def Vby:Sig:=⟨215,[(false,[.fz false])],[],[(false,[.ow 99])]⟩
def Vbx:Sig:=⟨238,[(true,[.sc,.sc,.sc,.sc,.sc,.sc,.sc,.sc,.sc,.fz false])],[],[(true,[.sc,.sc,.sc,.sc,.sc,.sc,.sc,.sc,.sc,.ow 99])]⟩
def Vbw:Sig:=⟨116,[(true,[.sc,.sc,.sc,.sc,.sc])],[],[(true,[.sc,.sc,.sc,.sc,.sc])]⟩
def Vbv:Sig:=⟨117,[(true,[.sc,.fz false])],[],[(true,[.sc,.ow 99])]⟩
def Vbu:Sig:=⟨11,[(false,[.fz false])],[],[(false,[.ow 99])]⟩
def Vbt:Sig:=⟨115,[(false,[.fz false])],[],[(false,[.ow 99])]⟩
def Vbs:Sig:=⟨174,[(true,[.sc,.sc,.sc,.sc,.sc,.sc,.sc,.sc,.sc,.sc,.fz false,.sc,.fz false,.sc,.fz false,.fz false])],[],[(true,[.sc,.sc,.sc,.sc,.sc,.sc,.sc,.sc,.sc,.sc,.ow 99,.sc,.ow 99,.sc,.ow 99,.ow 99])]⟩
def Vbr:Sig:=⟨30,[(false,[.fz false])],[],[(false,[.ow 99])]⟩
def Vbq:Sig:=⟨62,[(true,[.sc,.sc,.sc,.sc,.sc,.sc,.sc,.sc,.sc,.sc,.sc,.sc,.sc,.sc,.fz false])],[],[(true,[.sc,.sc,.sc,.sc,.sc,.sc,.sc,.sc,.sc,.sc,.sc,.sc,.sc,.sc,.ow 99])]⟩
def Vbp:Sig:=⟨31,[(false,[.fz false])],[],[(false,[.ow 99])]⟩
def Vbo:Sig:=⟨63,[(true,[.sc,.sc,.sc,.sc,.sc,.sc,.sc])],[],[(true,[.sc,.sc,.sc,.sc,.sc,.sc,.sc])]⟩
def Vbn:Sig:=⟨21,[(true,[.fz false,.fz false,.fz false])],[],[(false,[.sc]),(false,[.sc])]⟩
def Vbm:Sig:=⟨26,[(true,[.fz false,.fz false,.fz false])],[],[(false,[.sc])]⟩
def Vbl:Sig:=⟨54,[(false,[.sc])],[],[(false,[.sc])]⟩
def Vbk:Sig:=⟨55,[(false,[.sc]),(false,[.fz false])],[],[(false,[.sc])]⟩
def Vbj:Sig:=⟨106,[(false,[.sc]),(false,[.sc]),(false,[.sc])],[],[(false,[.sc])]⟩
def Vbi:Sig:=⟨58,[(false,[.sc]),(false,[.sc]),(false,[.sc])],[],[(false,[.sc])]⟩
def Vbh:Sig:=⟨107,[(true,[.sc,.sc,.sc,.sc,.sc])],[],[(false,[.sc])]⟩
def Vbg:Sig:=⟨170,[(true,[.sc,.sc,.sc,.sc,.sc])],[],[(false,[.sc])]⟩
def Vbf:Sig:=⟨213,[(false,[.sc])],[],[(false,[.sc])]⟩
def Vbe:Sig:=⟨56,[(true,[.sc,.sc,.fz false,.fz false])],[],[(false,[.sc])]⟩
def Vbd:Sig:=⟨108,[(true,[.sc,.fz false])],[],[(false,[.sc])]⟩
def Vbc:Sig:=⟨110,[(false,[.sc]),(true,[.sc,.sc,.sc,.sc,.sc,.sc,.sc,.sc,.sc,.fz false])],[],[(false,[.sc])]⟩
def Vbb:Sig:=⟨112,[(false,[.sc])],[],[(true,[.sc,.ow 99])]⟩
def Vba:Sig:=⟨77,[(true,[.sc,.fz false]),(true,[.sc,.fz false])],[],[(false,[.sc])]⟩
def Ub9:Sig:=⟨136,[(false,[.fz false]),(false,[.fz false])],[],[(false,[.sc])]⟩
def Ub8:Sig:=⟨111,[(false,[.sc]),(true,[.sc,.fz false])],[],[(false,[.sc])]⟩
def Ub7:Sig:=⟨171,[(false,[.fz false]),(false,[.sc]),(false,[.sc])],[],[(false,[.sc])]⟩
def Ub6:Sig:=⟨109,[(false,[.sc]),(false,[.sc]),(true,[.sc,.sc,.sc,.sc,.sc,.sc,.sc,.sc,.sc,.sc,.fz false,.sc,.fz false,.sc,.fz false,.fz false])],[],[(false,[.sc])]⟩
def Ub5:Sig:=⟨27,[(false,[.fz false]),(false,[.sc]),(false,[.sc])],[],[(false,[.sc])]⟩
def Ub4:Sig:=⟨166,[(false,[.fz false]),(false,[.sc])],[],[(false,[.sc])]⟩
def Ub3:Sig:=⟨57,[(false,[.sc]),(true,[.sc,.sc,.sc,.sc,.sc,.sc,.sc,.sc,.sc,.sc,.sc,.sc,.sc,.sc,.fz false])],[],[(false,[.sc])]⟩
def Ub2:Sig:=⟨40,[(true,[.fz false,.fz false,.fz false])],[],[(false,[.sc])]⟩
def Ub1:Sig:=⟨76,[(true,[.sc,.fz false])],[],[(false,[.ow 99])]⟩
def Ub0:Sig:=⟨60,[(true,[.sc,.fz false]),(false,[.sc]),(false,[.sc])],[],[(true,[.sc,.sc,.sc,.sc,.sc,.sc,.sc,.sc,.sc,.ow 99])]⟩
def Ubz:Sig:=⟨113,[(true,[.sc,.sc,.sc,.sc,.sc,.sc,.sc,.sc,.sc,.fz false])],[],[(true,[.sc,.sc,.sc,.sc,.sc,.sc,.sc,.sc,.sc,.ow 99])]⟩
def Uby:Sig:=⟨172,[(true,[.sc,.fz false])],[],[(true,[.sc,.ow 99])]⟩
def Ubx:Sig:=⟨214,[(false,[.fz false])],[],[(false,[.ow 99])]⟩
def Ubw:Sig:=⟨48,[(true,[.fz false,.fz false,.fz false])],[],[(false,[.sc])]⟩
def Ubv:Sig:=⟨50,[(true,[.fz false,.fz false,.fz false])],[],[(true,[.sc,.ow 99])]⟩
def Ubu:Sig:=⟨99,[(false,[.sc])],[],[(true,[.sc,.ow 99])]⟩
def Ubt:Sig:=⟨100,[(true,[.sc,.fz false]),(false,[.sc]),(false,[.sc]),(true,[.sc,.sc,.sc,.sc,.sc,.sc,.sc,.sc,.sc,.fz false])],[],[(true,[.sc,.ow 99])]⟩
def Ubs:Sig:=⟨140,[(true,[.sc,.fz false])],[],[(true,[.sc,.ow 99])]⟩
def Ubr:Sig:=⟨49,[(true,[.sc,.fz false])],[],[(false,[.sc])]⟩
def Ubq:Sig:=⟨98,[(true,[.sc,.sc,.sc,.sc,.sc]),(true,[.sc,.sc,.sc,.sc,.sc])],[],[(false,[.sc])]⟩
def Ubp:Sig:=⟨165,[(true,[.sc,.sc,.sc,.sc,.sc])],[],[(false,[.fz])]⟩
def Ubo:Sig:=⟨191,[(false,[.fz false]),(false,[.sc])],[],[(false,[.fz])]⟩
def Ubn:Sig:=⟨41,[(true,[.fz false,.fz false,.fz false])],[],[(false,[.sc])]⟩
def Ubm:Sig:=⟨79,[(true,[.sc,.fz false])],[],[(false,[.fz])]⟩
def Ubl:Sig:=⟨139,[(true,[.sc,.fz false])],[],[(false,[.fz])]⟩
def Ubk:Sig:=⟨189,[(true,[.sc,.fz false]),(false,[.sc]),(false,[.sc])],[],[(false,[.fz])]⟩
def Ubj:Sig:=⟨190,[(true,[.sc,.fz false]),(false,[.sc]),(false,[.sc])],[],[(false,[.ow 99])]⟩
def Ubi:Sig:=⟨138,[(false,[.fz false]),(false,[.fz false])],[],[(false,[.sc])]⟩
def Ubh:Sig:=⟨223,[(false,[.fz false]),(false,[.fz false])],[],[(false,[.fz])]⟩
def Ubg:Sig:=⟨141,[(true,[.sc,.fz false])],[],[(false,[.ow 99]),(false,[.fz])]⟩
def Ubf:Sig:=⟨142,[(false,[.fz false]),(false,[.fz false])],[],[(false,[.ow 99])]⟩
def Ube:Sig:=⟨192,[(false,[.fz false])],[],[(false,[.fz])]⟩
def Ubd:Sig:=⟨224,[(false,[.fz false])],[],[(false,[.ow 99])]⟩
def Ubc:Sig:=⟨241,[(false,[.fz false]),(false,[.sc])],[],[(false,[.fz])]⟩
def Ubb:Sig:=⟨193,[(false,[.fz false]),(false,[.fz false])],[],[(false,[.ow 99])]⟩
def Uba:Sig:=⟨78,[(false,[.fz false]),(false,[.fz false]),(true,[.sc,.fz false])],[],[(false,[.sc]),(false,[.sc])]⟩
def Tb9:Sig:=⟨137,[(true,[.sc,.fz false]),(false,[.fz false])],[],[(false,[.sc])]⟩
def Tb8:Sig:=⟨22,[(true,[.fz false,.fz false,.fz false])],[],[(false,[.sc]),(false,[.sc])]⟩
def Tb7:Sig:=⟨42,[(true,[.fz false,.fz false,.fz false])],[],[(false,[.sc])]⟩
def Tb6:Sig:=⟨80,[(false,[.sc])],[],[(false,[.sc])]⟩
def Tb5:Sig:=⟨81,[(false,[.fz false]),(false,[.clo 82 [.px 0]])],[(true,[(.sc,.sc)])],[(false,[.sc])]⟩
def Tb4:Sig:=⟨143,[(false,[.fz false]),(false,[.clo 82 [.px 0]])],[(true,[(.sc,.sc)])],[(false,[.sc])]⟩
def Tb3:Sig:=⟨82,[(true,[.sc,.sc,.sc,.sc,.sc,.sc,.sc,.sc,.sc,.sc,.sc,.sc,.sc,.sc,.fz false]),(false,[.px 0])],[(true,[(.sc,.sc)])],[(false,[.sc])]⟩
def Tb2:Sig:=⟨83,[(false,[.sc]),(true,[.sc,.sc,.sc,.sc,.sc,.sc,.sc,.sc,.sc,.sc,.sc,.sc,.sc,.sc,.fz false])],[],[(false,[.sc])]⟩
def Tb1:Sig:=⟨120,[(false,[.sc]),(false,[.sc]),(false,[.sc])],[],[(false,[.sc])]⟩
def Tb0:Sig:=⟨85,[(false,[.sc]),(false,[.sc]),(false,[.sc])],[],[(false,[.sc])]⟩
def Tbz:Sig:=⟨145,[(true,[.sc,.sc,.sc,.sc,.sc,.sc,.sc,.sc,.sc,.sc,.sc,.sc,.sc,.sc,.fz false])],[],[(true,[.sc,.sc,.sc,.sc,.sc,.sc,.sc,.sc,.sc,.ow 99])]⟩
def Tby:Sig:=⟨175,[(true,[.sc,.fz false])],[],[(true,[.sc,.ow 99])]⟩
def Lb4:Sig:=⟨216,[(false,[.fz false])],[],[(false,[.ow 99])]⟩
def Tbx:Sig:=⟨144,[(false,[.sc]),(true,[.sc,.sc,.sc,.sc,.sc,.sc,.sc,.sc,.sc,.fz false])],[],[(false,[.sc])]⟩
def Tbw:Sig:=⟨86,[(true,[.sc,.sc,.sc,.sc,.sc])],[],[(false,[.sc])]⟩
def Tbv:Sig:=⟨149,[(false,[.sc])],[],[(false,[.sc])]⟩
def Tbu:Sig:=⟨146,[(false,[.sc]),(true,[.sc,.fz false])],[],[(false,[.sc])]⟩
def Tbt:Sig:=⟨66,[(false,[.fz false]),(false,[.clo 194 []])],[],[(false,[.sc])]⟩
def Tbs:Sig:=⟨123,[(false,[.fz false]),(false,[.clo 194 []])],[],[(false,[.sc])]⟩
def Obn:Sig:=⟨194,[(false,[.sc])],[],[(false,[.sc])]⟩
def Obm:Sig:=⟨125,[(false,[.sc])],[],[(true,[.sc,.ow 99])]⟩
def Obl:Sig:=⟨89,[(true,[.sc,.fz false]),(true,[.sc,.fz false])],[],[(false,[.sc])]⟩
def Obk:Sig:=⟨128,[(false,[.fz false]),(false,[.fz false])],[],[(false,[.sc])]⟩
def Obi:Sig:=⟨84,[(true,[.sc,.sc,.fz false,.fz false])],[],[(false,[.sc])]⟩
def Obh:Sig:=⟨147,[(true,[.sc,.fz false])],[],[(false,[.sc])]⟩
def Obg:Sig:=⟨195,[(false,[.fz false]),(false,[.clo 196 [.px 0]])],[(true,[(.sc,.sc),(.fz false,.fz)])],[(false,[.sc])]⟩
def Obf:Sig:=⟨225,[(false,[.fz false]),(false,[.clo 196 [.px 0]])],[(true,[(.sc,.sc),(.fz false,.fz)])],[(false,[.sc])]⟩
def Obe:Sig:=⟨196,[(false,[.fz false]),(false,[.px 0])],[(true,[(.sc,.sc),(.fz false,.fz)])],[(false,[.sc])]⟩
def Obd:Sig:=⟨197,[(false,[.fz false]),(false,[.clo 198 [.px 0]])],[(true,[(.sc,.sc),(.fz false,.fz)])],[(false,[.sc])]⟩
def Obc:Sig:=⟨226,[(false,[.fz false]),(false,[.clo 198 [.px 0]])],[(true,[(.sc,.sc),(.fz false,.fz)])],[(false,[.sc])]⟩
def Obb:Sig:=⟨198,[(true,[.sc,.sc,.sc,.sc,.sc,.sc,.sc,.sc,.sc,.fz false]),(false,[.px 0])],[(true,[(.sc,.sc),(.fz false,.fz)])],[(false,[.sc])]⟩
def Oba:Sig:=⟨148,[(false,[.sc]),(false,[.sc]),(true,[.sc,.sc,.sc,.sc,.sc,.sc,.sc,.sc,.sc,.sc,.fz false,.sc,.fz false,.sc,.fz false,.fz false])],[],[(false,[.sc])]⟩
def Nb9:Sig:=⟨64,[(false,[.sc]),(false,[.fz false])],[],[(false,[.sc])]⟩
def Nb8:Sig:=⟨118,[(false,[.fz false])],[],[(false,[.sc])]⟩
def Nb7:Sig:=⟨66,[(false,[.fz false]),(false,[.clo 119 [.px 0]])],[(true,[(.sc,.sc)])],[(false,[.sc])]⟩
def Nb6:Sig:=⟨123,[(false,[.fz false]),(false,[.clo 119 [.px 0]])],[(true,[(.sc,.sc)])],[(false,[.sc])]⟩
def Nb5:Sig:=⟨119,[(false,[.sc]),(false,[.px 0])],[(true,[(.sc,.sc)])],[(false,[.sc])]⟩
def Nb4:Sig:=⟨199,[(false,[.fz false]),(false,[.sc])],[],[(false,[.sc])]⟩
def Nb3:Sig:=⟨227,[(false,[.fz false]),(false,[.sc])],[],[(false,[.sc])]⟩
def Nb2:Sig:=⟨197,[(false,[.fz false]),(false,[.clo 200 [.px 0]])],[(true,[(.sc,.sc)])],[(false,[.sc])]⟩
def Nb1:Sig:=⟨226,[(false,[.fz false]),(false,[.clo 200 [.px 0]])],[(true,[(.sc,.sc)])],[(false,[.sc])]⟩
def Nb0:Sig:=⟨200,[(true,[.sc,.sc,.sc,.sc,.sc,.sc,.sc,.sc,.sc,.fz false]),(false,[.px 0])],[(true,[(.sc,.sc)])],[(false,[.sc])]⟩
def Nbz:Sig:=⟨72,[(false,[.fz false]),(false,[.fz false])],[],[(false,[.sc])]⟩
def Nby:Sig:=⟨131,[(false,[.sc]),(false,[.sc])],[],[(false,[.sc])]⟩
def Nbx:Sig:=⟨186,[(false,[.sc])],[],[(false,[.sc])]⟩
def Nbw:Sig:=⟨87,[(true,[.fz false,.fz false,.fz false]),(false,[.sc]),(false,[.sc]),(false,[.sc])],[],[(false,[.sc])]⟩
def Nbv:Sig:=⟨150,[(false,[.fz false]),(false,[.clo 151 [.px 0,.px 1]])],[(true,[(.sc,.sc)]),(true,[(.sc,.sc)])],[(false,[.sc])]⟩
def Nbu:Sig:=⟨151,[(true,[.sc,.sc,.sc,.sc,.sc,.sc,.sc]),(false,[.px 0]),(false,[.px 1])],[(true,[(.sc,.sc)]),(true,[(.sc,.sc)])],[(false,[.sc])]⟩
def Nbt:Sig:=⟨51,[(true,[.fz false,.fz false,.fz false])],[],[(false,[.sc])]⟩
def Nbs:Sig:=⟨43,[(true,[.fz false,.fz false,.fz false])],[],[(false,[.sc])]⟩
def Nbr:Sig:=⟨88,[(true,[.sc,.fz false])],[],[(false,[.ow 99])]⟩
def Nbq:Sig:=⟨121,[(true,[.sc,.fz false]),(false,[.clo 152 [.px 0]])],[(false,[(.ow 99,.ow 99)])],[]⟩
def Nbp:Sig:=⟨152,[(false,[.sc]),(false,[.sc]),(true,[.sc,.sc,.sc,.sc,.sc,.sc,.sc,.sc,.sc,.fz false]),(false,[.px 0])],[(false,[(.ow 99,.ow 99)])],[]⟩
def Nbo:Sig:=⟨68,[(true,[.sc,.fz false]),(false,[.sc]),(false,[.sc])],[],[(true,[.sc,.sc,.sc,.sc,.sc,.sc,.sc,.sc,.sc,.ow 99])]⟩
def Nbn:Sig:=⟨124,[(true,[.sc,.sc,.sc,.sc,.sc,.sc,.sc,.sc,.sc,.fz false])],[],[(true,[.sc,.sc,.sc,.sc,.sc,.sc,.sc,.sc,.sc,.ow 99])]⟩
def Nbm:Sig:=⟨101,[(true,[.fz false,.fz false,.fz false])],[],[(false,[.sc])]⟩
def Nbl:Sig:=⟨90,[(true,[.fz false,.fz false,.fz false])],[],[(true,[.sc,.ow 99])]⟩
def Nbk:Sig:=⟨153,[(false,[.sc])],[],[(true,[.sc,.ow 99])]⟩
def Nbj:Sig:=⟨154,[(false,[.px 0]),(false,[.sc]),(false,[.sc]),(true,[.sc,.sc,.sc,.sc,.sc,.sc,.sc,.sc,.sc,.fz false])],[(false,[(.sc,.sc),(.ow 99,.ow 99)])],[]⟩
def Nbi:Sig:=⟨102,[(true,[.sc,.fz false])],[],[(false,[.sc])]⟩
def Nbh:Sig:=⟨158,[(true,[.sc,.sc,.sc,.sc,.sc]),(true,[.sc,.sc,.sc,.sc,.sc])],[],[(false,[.sc])]⟩
def Nbg:Sig:=⟨201,[(true,[.sc,.sc,.sc,.sc,.sc])],[],[(false,[.ow 99])]⟩
def Nbf:Sig:=⟨66,[(false,[.fz false]),(false,[.clo 202 [.px 0]])],[(true,[(.sc,.sc),(.sc,.sc),(.sc,.sc),(.sc,.sc),(.sc,.sc)])],[(false,[.sc])]⟩
def Nbe:Sig:=⟨123,[(false,[.fz false]),(false,[.clo 202 [.px 0]])],[(true,[(.sc,.sc),(.sc,.sc),(.sc,.sc),(.sc,.sc),(.sc,.sc)])],[(false,[.sc])]⟩
def Nbd:Sig:=⟨202,[(false,[.sc]),(false,[.px 0])],[(true,[(.sc,.sc),(.sc,.sc),(.sc,.sc),(.sc,.sc),(.sc,.sc)])],[(false,[.sc])]⟩
def Nbc:Sig:=⟨44,[(true,[.fz false,.fz false,.fz false])],[],[(false,[.sc])]⟩
def Nbb:Sig:=⟨92,[(true,[.sc,.fz false])],[],[(false,[.ow 99])]⟩
def Nba:Sig:=⟨159,[(true,[.sc,.fz false])],[],[(false,[.ow 99])]⟩
def Mb9:Sig:=⟨203,[(false,[.ow 99]),(false,[.clo 204 [.px 0]])],[(true,[(.sc,.sc),(.fz false,.fz)])],[(false,[.ow 99])]⟩
def Mb8:Sig:=⟨156,[(false,[.fz false]),(false,[.clo 204 [.px 0]])],[(true,[(.sc,.sc),(.fz false,.fz)])],[(false,[.sc])]⟩
def Mb7:Sig:=⟨204,[(false,[.fz false]),(false,[.px 0])],[(true,[(.sc,.sc),(.fz false,.fz)])],[(false,[.sc])]⟩
def Mb6:Sig:=⟨205,[(true,[.sc,.fz false]),(false,[.fz false])],[],[(false,[.fz])]⟩
def Mb5:Sig:=⟨228,[(true,[.sc,.fz false])],[],[(false,[.ow 99])]⟩
def Mb4:Sig:=⟨69,[(false,[.fz false]),(false,[.fz false])],[],[(false,[.sc])]⟩
def Mb3:Sig:=⟨126,[(false,[.fz false]),(false,[.clo 127 [.px 0]])],[(true,[(.fz false,.fz)])],[(false,[.sc])]⟩
def Mb2:Sig:=⟨156,[(false,[.fz false]),(false,[.clo 127 [.px 0]])],[(true,[(.fz false,.fz)])],[(false,[.sc])]⟩
def Mb1:Sig:=⟨127,[(false,[.fz false]),(false,[.px 0])],[(true,[(.fz false,.fz)])],[(false,[.sc])]⟩
def Mb0:Sig:=⟨70,[(false,[.mu 1]),(false,[.clo 229 []])],[],[]⟩
def Mbz:Sig:=⟨160,[(true,[.sc,.fz false])],[],[(false,[.ow 99]),(false,[.ow 99])]⟩
def Mby:Sig:=⟨161,[(false,[.fz false]),(false,[.fz false])],[],[(false,[.ow 99])]⟩
def Mbx:Sig:=⟨206,[(false,[.fz false])],[],[(false,[.ow 99])]⟩
def Mbw:Sig:=⟨230,[(false,[.fz false]),(false,[.sc])],[],[(false,[.ow 99])]⟩
def Mbv:Sig:=⟨156,[(false,[.fz false]),(false,[.clo 231 [.px 0,.px 1]])],[(true,[(.fz true,.fz)]),(true,[(.fz true,.fz)])],[(false,[.sc])]⟩
def Mbu:Sig:=⟨231,[(false,[.fz false]),(false,[.px 0]),(false,[.px 1])],[(true,[(.fz false,.fz)]),(true,[(.fz false,.fz)])],[(false,[.sc])]⟩
def Mbt:Sig:=⟨66,[(false,[.fz false]),(false,[.clo 232 [.px 0,.px 1]])],[(true,[(.fz false,.fz)]),(true,[(.fz false,.fz)])],[(false,[.sc])]⟩
def Mbs:Sig:=⟨123,[(false,[.fz false]),(false,[.clo 232 [.px 0,.px 1]])],[(true,[(.fz false,.fz)]),(true,[(.fz false,.fz)])],[(false,[.sc])]⟩
def Mbr:Sig:=⟨232,[(false,[.sc]),(false,[.px 0]),(false,[.px 1])],[(true,[(.fz false,.fz)]),(true,[(.fz false,.fz)])],[(false,[.sc])]⟩
def Mbq:Sig:=⟨233,[(false,[.ow 99]),(false,[.sc]),(false,[.sc])],[],[(false,[.ow 99])]⟩
def Mbp:Sig:=⟨207,[(false,[.mu 1]),(false,[.clo 208 [.px 0]])],[(true,[(.fz false,.fz)])],[]⟩
def Mbo:Sig:=⟨91,[(true,[.sc,.fz false]),(false,[.fz false]),(false,[.fz false])],[],[(false,[.sc])]⟩
def Mbn:Sig:=⟨155,[(false,[.fz false]),(false,[.px 0])],[(true,[(.fz false,.fz)])],[(false,[.sc])]⟩
def Mbm:Sig:=⟨156,[(false,[.fz false]),(false,[.clo 157 [.px 0]])],[(true,[(.fz false,.fz)])],[(false,[.sc])]⟩
def Mbl:Sig:=⟨157,[(false,[.fz false]),(false,[.px 0])],[(true,[(.fz false,.fz)])],[(false,[.sc])]⟩
def Mbk:Sig:=⟨13,[(true,[.fz false,.fz false,.fz false]),(true,[.fz false,.fz false,.fz false])],[],[(false,[.sc])]⟩
def Mbj:Sig:=⟨34,[(false,[.fz false]),(false,[.fz false])],[],[(false,[.sc])]⟩
def Mbi:Sig:=⟨73,[(true,[.sc,.sc,.fz false,.fz false]),(true,[.sc,.sc,.fz false,.fz false])],[],[(false,[.sc])]⟩
def Mbh:Sig:=⟨132,[(true,[.sc,.fz false]),(true,[.sc,.fz false])],[],[(false,[.sc])]⟩
def Mbg:Sig:=⟨187,[(false,[.fz false]),(false,[.fz false])],[],[(false,[.sc])]⟩
def Mbf:Sig:=⟨222,[(false,[.fz false]),(false,[.fz false])],[],[(false,[.sc])]⟩
def Mbe:Sig:=⟨240,[(true,[.sc,.sc,.sc,.sc,.sc,.sc,.sc,.sc,.sc,.fz false]),(true,[.sc,.sc,.sc,.sc,.sc,.sc,.sc,.sc,.sc,.fz false])],[],[(false,[.sc])]⟩
def Mbd:Sig:=⟨134,[(true,[.sc,.sc,.sc,.sc,.sc]),(true,[.sc,.sc,.sc,.sc,.sc])],[],[(false,[.sc])]⟩
def Mbc:Sig:=⟨135,[(true,[.sc,.fz false]),(true,[.sc,.fz false])],[],[(false,[.sc])]⟩
def Mbb:Sig:=⟨14,[(false,[.fz false]),(false,[.fz false])],[],[(false,[.sc])]⟩
def Mba:Sig:=⟨133,[(false,[.fz false]),(false,[.fz false])],[],[(false,[.sc])]⟩
def Lb9:Sig:=⟨188,[(true,[.sc,.sc,.sc,.sc,.sc,.sc,.sc,.sc,.sc,.sc,.fz false,.sc,.fz false,.sc,.fz false,.fz false]),(true,[.sc,.sc,.sc,.sc,.sc,.sc,.sc,.sc,.sc,.sc,.fz false,.sc,.fz false,.sc,.fz false,.fz false])],[],[(false,[.sc])]⟩
def Lb8:Sig:=⟨35,[(false,[.fz false]),(false,[.fz false])],[],[(false,[.sc])]⟩
def Lb7:Sig:=⟨74,[(true,[.sc,.sc,.sc,.sc,.sc,.sc,.sc,.sc,.sc,.sc,.sc,.sc,.sc,.sc,.fz false]),(true,[.sc,.sc,.sc,.sc,.sc,.sc,.sc,.sc,.sc,.sc,.sc,.sc,.sc,.sc,.fz false])],[],[(false,[.sc])]⟩
def Lb6:Sig:=⟨36,[(false,[.fz false]),(false,[.fz false])],[],[(false,[.sc])]⟩
def Lb5:Sig:=⟨75,[(true,[.sc,.sc,.sc,.sc,.sc,.sc,.sc]),(true,[.sc,.sc,.sc,.sc,.sc,.sc,.sc])],[],[(false,[.sc])]⟩
def sigs:List (Nat×Sig):=[(0,sg0),(1,sg1),(2,sg2),(3,sg3),(4,sg4),(5,sg5),(6,sg6),(7,sg7),(8,sg8),(9,sg9),(10,Vb8),(11,Vb7),(12,Vb6),(13,Vb5),(14,Vb4),(15,Vb3),(16,Vb2),(17,Vb1),(18,Vb0),(19,Vbz),(20,Vby),(21,Vbx),(22,Vbw),(23,Vbv),(24,Vbu),(25,Vbt),(26,Vbs),(27,Vbr),(28,Vbq),(29,Vbp),(30,Vbo),(31,Vbn),(32,Vbm),(33,Vbl),(34,Vbk),(35,Vbj),(36,Vbi),(37,Vbh),(38,Vbg),(39,Vbf),(40,Vbe),(41,Vbd),(42,Vbc),(43,Vbb),(44,Vba),(45,Ub9),(46,Ub8),(47,Ub7),(48,Ub6),(49,Ub5),(50,Ub4),(51,Ub3),(52,Ub2),(53,Ub1),(54,Ub0),(55,Ubz),(56,Uby),(57,Ubx),(58,Ubw),(59,Ubv),(60,Ubu),(61,Ubt),(62,Ubs),(63,Ubr),(64,Ubq),(65,Ubp),(66,Ubo),(67,Ubn),(68,Ubm),(69,Ubl),(70,Ubk),(71,Ubj),(72,Ubi),(73,Ubh),(74,Ubg),(75,Ubf),(76,Ube),(77,Ubd),(78,Ubc),(79,Ubb),(80,Uba),(81,Tb9),(82,Tb8),(83,Tb7),(84,Tb6),(85,Tb5),(86,Tb4),(87,Tb3),(88,Tb2),(89,Tb1),(90,Tb0),(91,Tbz),(92,Tby),(93,Lb4),(94,Tbx),(95,Tbw),(96,Tbv),(97,Tbu),(98,Tbt),(99,Tbs),(100,Obn),(101,Obm),(102,Obl),(103,Obk),(104,Obi),(105,Obh),(106,Obg),(107,Obf),(108,Obe),(109,Obd),(110,Obc),(111,Obb),(112,Oba),(113,Nb9),(114,Nb8),(115,Nb7),(116,Nb6),(117,Nb5),(118,Nb4),(119,Nb3),(120,Nb2),(121,Nb1),(122,Nb0),(123,Nbz),(124,Nby),(125,Nbx),(126,Nbw),(127,Nbv),(128,Nbu),(129,Nbt),(130,Nbs),(131,Nbr),(132,Nbq),(133,Nbp),(134,Nbo),(135,Nbn),(136,Nbm),(137,Nbl),(138,Nbk),(139,Nbj),(140,Nbi),(141,Nbh),(142,Nbg),(143,Nbf),(144,Nbe),(145,Nbd),(146,Nbc),(147,Nbb),(148,Nba),(149,Mb9),(150,Mb8),(151,Mb7),(152,Mb6),(153,Mb5),(154,Mb4),(155,Mb3),(156,Mb2),(157,Mb1),(158,Mb0),(159,Mbz),(160,Mby),(161,Mbx),(162,Mbw),(163,Mbv),(164,Mbu),(165,Mbt),(166,Mbs),(167,Mbr),(168,Mbq),(169,Mbp),(170,Mbo),(171,Mbn),(172,Mbm),(173,Mbl),(174,Mbk),(175,Mbj),(176,Mbi),(177,Mbh),(178,Mbg),(179,Mbf),(180,Mbe),(181,Mbd),(182,Mbc),(183,Mbb),(184,Mba),(185,Lb9),(186,Lb8),(187,Lb7),(188,Lb6),(189,Lb5)]
abbrev E0:Env:=⟨gT tiL,sigs,0,0,false,false,[],[],[],0⟩
def tm0:Tm Unit :=
(.call none 1 [.v 0,.v 1,.v 2,.c (.int .i64 1048576)] 1 [] <|
(.lt none (.bin .lss) [.v 3,.c (.int .i64 0)] 1 <|
(.ite (.v 4)
(.leaf .ret [.c (.bool true)] ())
(.call none 15 [.v 0,.v 1,.v 2] 3 [] <|
(.call none 31 [.v 5,.v 6,.v 7] 2 [] <|
(.call none 15 [.v 0,.v 1,.v 2] 3 [] <|
(.call none 82 [.v 10,.v 11,.v 12] 2 [] <|
(.lt none (.bin .neq) [.v 13,.v 8] 1 <|
(.lt (some (.v 15,false)) .id [.v 14] 1 <|
(.lt (some (.v 15,false)) .id [.v 9] 1 <|
(.lt (some (.v 15,false)) (.eqb true) [.v 16,.v 17] 1 <|
(.lt none .pick [.v 15,.c (.bool true),.v 18] 1 <|
(.ite (.v 19)
(.leaf .ret [.c (.bool false)] ())
(.call none 15 [.v 0,.v 1,.v 2] 3 [] <|
(.call none 174 [.v 10,.v 11,.v 12,.v 20,.v 21,.v 22] 1 [] <|
(.lt none .not [.v 23] 1 <|
(.ite (.v 24)
(.leaf .ret [.c (.bool false)] ())
(.leaf .ret [.c (.bool true)] ()))))))))))))))))))
def tm1:Tm Unit :=
(.call none 2 [.v 0,.v 3] 1 [] <|
(.lt none (.bin .lss) [.v 4,.c (.int .i64 0)] 1 <|
(.ite (.v 5)
(.leaf .ret [.c (.int .i64 (-1))] ())
(.call none 12 [.v 1,.v 4] 1 [] <|
(.lt none (.bin .lss) [.v 6,.c (.int .i64 0)] 1 <|
(.ite (.v 7)
(.leaf .ret [.c (.int .i64 (-1))] ())
(.call none 14 [.v 2,.v 6] 1 [] <|
(.lt none (.bin .lss) [.v 8,.c (.int .i64 0)] 1 <|
(.ite (.v 9)
(.leaf .ret [.c (.int .i64 (-1))] ())
(.leaf .ret [.v 8] ()))))))))))
def tm2:Tm Unit :=
(.lt none .len [.v 0] 1 <|
(.lt none (.bin .sub) [.v 1,.v 2] 1 <|
(.lt none (.bin .lss) [.v 3,.c (.int .i64 0)] 1 <|
(.ite (.v 4)
(.leaf .ret [.c (.int .i64 (-1))] ())
(.bind 1
(.loop [.v 3,.c (.int .i64 0)]
(.lt none .len [.v 0] 1 <|
(.lt none (.bin .lss) [.v 6,.v 7] 1 <|
(.ite (.v 8)
(.lt none .inb [.v 0,.v 6] 0 <|
(.lt none (.row 4 0 [true,true,false,false]) [.v 0,.v 6] 4 <|
(.call none 3 [.v 9,.v 10,.v 11,.v 12,.v 5] 1 [] <|
(.lt none (.bin .lss) [.v 13,.c (.int .i64 0)] 1 <|
(.ite (.v 14)
(.leaf .ret [.c (.int .i64 (-1))] ())
(.lt none (.bin .add) [.v 6,.c (.int .i64 1)] 1 <|
(.leaf .cont [.v 13,.v 15] ())))))))
(.leaf (.yield 1) [.v 5] ()))))) <|
(.leaf .ret [.v 5] ()))))))
def tm3:Tm Unit :=
(.call none 4 [.v 1,.v 2,.v 4] 1 [] <|
(.lt none (.bin .lss) [.v 5,.c (.int .i64 0)] 1 <|
(.ite (.v 6)
(.leaf .ret [.c (.int .i64 (-1))] ())
(.call none 10 [.v 3,.v 5] 1 [] <|
(.lt none (.bin .lss) [.v 7,.c (.int .i64 0)] 1 <|
(.ite (.v 8)
(.leaf .ret [.c (.int .i64 (-1))] ())
(.leaf .ret [.v 7] ())))))))
def tm4:Tm Unit :=
(.call none 5 [.v 1,.v 2] 1 [] <|
(.lt none (.bin .lss) [.v 3,.c (.int .i64 0)] 1 <|
(.ite (.v 4)
(.leaf .ret [.c (.int .i64 (-1))] ())
(.leaf .ret [.v 3] ()))))
def tm5:Tm Unit :=
(.lt none .len [.v 0] 1 <|
(.lt none (.bin .sub) [.v 1,.v 2] 1 <|
(.lt none (.bin .lss) [.v 3,.c (.int .i64 0)] 1 <|
(.ite (.v 4)
(.leaf .ret [.c (.int .i64 (-1))] ())
(.bind 1
(.loop [.v 3,.c (.int .i64 0)]
(.lt none .len [.v 0] 1 <|
(.lt none (.bin .lss) [.v 6,.v 7] 1 <|
(.ite (.v 8)
(.lt none .inb [.v 0,.v 6] 0 <|
(.lt none (.row 1 0 [false]) [.v 0,.v 6] 1 <|
(.call none 6 [.v 9,.v 5] 1 [] <|
(.lt none (.bin .lss) [.v 10,.c (.int .i64 0)] 1 <|
(.ite (.v 11)
(.leaf .ret [.c (.int .i64 (-1))] ())
(.lt none (.bin .add) [.v 6,.c (.int .i64 1)] 1 <|
(.leaf .cont [.v 10,.v 12] ())))))))
(.leaf (.yield 1) [.v 5] ()))))) <|
(.leaf .ret [.v 5] ()))))))
def tm6:Tm Unit :=
(.lt none .len [.v 0] 1 <|
(.lt none (.bin .sub) [.v 1,.v 2] 1 <|
(.lt none (.bin .lss) [.v 3,.c (.int .i64 0)] 1 <|
(.ite (.v 4)
(.leaf .ret [.c (.int .i64 (-1))] ())
(.bind 1
(.loop [.v 3,.c (.int .i64 0)]
(.lt none .len [.v 0] 1 <|
(.lt none (.bin .lss) [.v 6,.v 7] 1 <|
(.ite (.v 8)
(.lt none .inb [.v 0,.v 6] 0 <|
(.lt none (.row 10 0 [true,true,true,true,true,true,true,true,true,false]) [.v 0,.v 6] 10 <|
(.call none 7 [.v 9,.v 10,.v 11,.v 12,.v 13,.v 14,.v 15,.v 16,.v 17,.v 18,.v 5] 1 [] <|
(.lt none (.bin .lss) [.v 19,.c (.int .i64 0)] 1 <|
(.ite (.v 20)
(.leaf .ret [.c (.int .i64 (-1))] ())
(.lt none (.bin .add) [.v 6,.c (.int .i64 1)] 1 <|
(.leaf .cont [.v 19,.v 21] ())))))))
(.leaf (.yield 1) [.v 5] ()))))) <|
(.leaf .ret [.v 5] ()))))))
def tm7:Tm Unit :=
(.call none 8 [.v 8,.v 9,.v 10] 1 [] <|
(.lt none (.bin .lss) [.v 11,.c (.int .i64 0)] 1 <|
(.ite (.v 12)
(.leaf .ret [.c (.int .i64 (-1))] ())
(.leaf .ret [.v 11] ()))))
def tm8:Tm Unit :=
(.call none 9 [.v 1,.v 2] 1 [] <|
(.lt none (.bin .lss) [.v 3,.c (.int .i64 0)] 1 <|
(.ite (.v 4)
(.leaf .ret [.c (.int .i64 (-1))] ())
(.leaf .ret [.v 3] ()))))
def tm9:Tm Unit :=
(.lt none .len [.v 0] 1 <|
(.lt none (.bin .sub) [.v 1,.v 2] 1 <|
(.lt none (.bin .lss) [.v 3,.c (.int .i64 0)] 1 <|
(.ite (.v 4)
(.leaf .ret [.c (.int .i64 (-1))] ())
(.leaf .ret [.v 3] ())))))
def Rb8:Tm Unit :=
(.lt none .len [.v 0] 1 <|
(.lt none (.bin .sub) [.v 1,.v 2] 1 <|
(.lt none (.bin .lss) [.v 3,.c (.int .i64 0)] 1 <|
(.ite (.v 4)
(.leaf .ret [.c (.int .i64 (-1))] ())
(.bind 1
(.loop [.v 3,.c (.int .i64 0)]
(.lt none .len [.v 0] 1 <|
(.lt none (.bin .lss) [.v 6,.v 7] 1 <|
(.ite (.v 8)
(.lt none .inb [.v 0,.v 6] 0 <|
(.lt none (.row 16 0 [true,true,true,true,true,true,true,true,true,true,false,true,false,true,false,false]) [.v 0,.v 6] 16 <|
(.call none 11 [.v 9,.v 10,.v 11,.v 12,.v 13,.v 14,.v 15,.v 16,.v 17,.v 18,.v 19,.v 20,.v 21,.v 22,.v 23,.v 24,.v 5] 1 [] <|
(.lt none (.bin .lss) [.v 25,.c (.int .i64 0)] 1 <|
(.ite (.v 26)
(.leaf .ret [.c (.int .i64 (-1))] ())
(.lt none (.bin .add) [.v 6,.c (.int .i64 1)] 1 <|
(.leaf .cont [.v 25,.v 27] ())))))))
(.leaf (.yield 1) [.v 5] ()))))) <|
(.leaf .ret [.v 5] ()))))))
def Rb7:Tm Unit :=
(.call none 8 [.v 9,.v 10,.v 16] 1 [] <|
(.lt none (.bin .lss) [.v 17,.c (.int .i64 0)] 1 <|
(.ite (.v 18)
(.leaf .ret [.c (.int .i64 (-1))] ())
(.call none 8 [.v 11,.v 12,.v 17] 1 [] <|
(.lt none (.bin .lss) [.v 19,.c (.int .i64 0)] 1 <|
(.ite (.v 20)
(.leaf .ret [.c (.int .i64 (-1))] ())
(.call none 9 [.v 14,.v 19] 1 [] <|
(.lt none (.bin .lss) [.v 21,.c (.int .i64 0)] 1 <|
(.ite (.v 22)
(.leaf .ret [.c (.int .i64 (-1))] ())
(.call none 6 [.v 15,.v 21] 1 [] <|
(.lt none (.bin .lss) [.v 23,.c (.int .i64 0)] 1 <|
(.ite (.v 24)
(.leaf .ret [.c (.int .i64 (-1))] ())
(.leaf .ret [.v 23] ())))))))))))))
def Rb6:Tm Unit :=
(.lt none .len [.v 0] 1 <|
(.lt none (.bin .sub) [.v 1,.v 2] 1 <|
(.lt none (.bin .lss) [.v 3,.c (.int .i64 0)] 1 <|
(.ite (.v 4)
(.leaf .ret [.c (.int .i64 (-1))] ())
(.bind 1
(.loop [.v 3,.c (.int .i64 0)]
(.lt none .len [.v 0] 1 <|
(.lt none (.bin .lss) [.v 6,.v 7] 1 <|
(.ite (.v 8)
(.lt none .inb [.v 0,.v 6] 0 <|
(.lt none (.row 15 0 [true,true,true,true,true,true,true,true,true,true,true,true,true,true,false]) [.v 0,.v 6] 15 <|
(.call none 13 [.v 9,.v 10,.v 11,.v 12,.v 13,.v 14,.v 15,.v 16,.v 17,.v 18,.v 19,.v 20,.v 21,.v 22,.v 23,.v 5] 1 [] <|
(.lt none (.bin .lss) [.v 24,.c (.int .i64 0)] 1 <|
(.ite (.v 25)
(.leaf .ret [.c (.int .i64 (-1))] ())
(.lt none (.bin .add) [.v 6,.c (.int .i64 1)] 1 <|
(.leaf .cont [.v 24,.v 26] ())))))))
(.leaf (.yield 1) [.v 5] ()))))) <|
(.leaf .ret [.v 5] ()))))))
def Rb5:Tm Unit :=
(.call none 8 [.v 13,.v 14,.v 15] 1 [] <|
(.lt none (.bin .lss) [.v 16,.c (.int .i64 0)] 1 <|
(.ite (.v 17)
(.leaf .ret [.c (.int .i64 (-1))] ())
(.leaf .ret [.v 16] ()))))
def Rb4:Tm Unit :=
(.lt none .len [.v 0] 1 <|
(.lt none (.bin .sub) [.v 1,.v 2] 1 <|
(.lt none (.bin .lss) [.v 3,.c (.int .i64 0)] 1 <|
(.ite (.v 4)
(.leaf .ret [.c (.int .i64 (-1))] ())
(.leaf .ret [.v 3] ())))))
def Rb3:Tm Unit :=
(.call none 16 [.v 0] 1 [] <|
(.call none 27 [.v 1] 1 [] <|
(.call none 29 [.v 2] 1 [] <|
(.leaf .ret [.v 3,.v 4,.v 5] ()))))
def Rb2:Tm Unit :=
(.lt none .len [.v 0] 1 <|
(.lt none (.make 64 [(.int .i64 0),(.int .i64 0),(.rows 1 []),(.rows 16 [])]) [.v 1] 1 <|
(.bind 1
(.loop [.v 2,.c (.int .i64 0)]
(.lt none .len [.v 0] 1 <|
(.lt none (.bin .lss) [.v 4,.v 5] 1 <|
(.ite (.v 6)
(.lt none .inb [.v 0,.v 4] 0 <|
(.lt none (.row 4 0 [true,true,false,false]) [.v 0,.v 4] 4 <|
(.call none 17 [.v 7,.v 8,.v 9,.v 10] 4 [] <|
(.lt none .inb [.v 3,.v 4] 0 <|
(.lt none (.set 4 0 4) [.v 3,.v 4,.v 11,.v 12,.v 13,.v 14] 1 <|
(.lt none (.bin .add) [.v 4,.c (.int .i64 1)] 1 <|
(.leaf .cont [.v 15,.v 16] ())))))))
(.leaf (.yield 1) [.v 3] ()))))) <|
(.leaf .ret [.v 3] ()))))
def Rb1:Tm Unit :=
(.call none 18 [.v 1,.v 2] 2 [] <|
(.call none 25 [.v 3] 1 [] <|
(.leaf .ret [.v 0,.v 4,.v 5,.v 6] ())))
def Rb0:Tm Unit :=
(.call none 19 [.v 1] 1 [] <|
(.leaf .ret [.v 0,.v 2] ()))
def Rbz:Tm Unit :=
(.lt none .len [.v 0] 1 <|
(.lt none (.make 24 [(.rows 10 [])]) [.v 1] 1 <|
(.bind 1
(.loop [.v 2,.c (.int .i64 0)]
(.lt none .len [.v 0] 1 <|
(.lt none (.bin .lss) [.v 4,.v 5] 1 <|
(.ite (.v 6)
(.lt none .inb [.v 0,.v 4] 0 <|
(.lt none (.row 1 0 [false]) [.v 0,.v 4] 1 <|
(.call none 20 [.v 7] 1 [] <|
(.lt none .inb [.v 3,.v 4] 0 <|
(.lt none (.set 1 0 1) [.v 3,.v 4,.v 8] 1 <|
(.lt none (.bin .add) [.v 4,.c (.int .i64 1)] 1 <|
(.leaf .cont [.v 9,.v 10] ())))))))
(.leaf (.yield 1) [.v 3] ()))))) <|
(.leaf .ret [.v 3] ()))))
def Rby:Tm Unit :=
(.lt none .len [.v 0] 1 <|
(.lt none (.make 96 [(.int .i64 0),(.int .i64 0),(.int .i64 0),(.int .i64 0),(.int .i64 0),(.int .i64 0),(.int .i64 0),(.int .i64 0),(.int .i64 0),(.rows 1 [])]) [.v 1] 1 <|
(.bind 1
(.loop [.v 2,.c (.int .i64 0)]
(.lt none .len [.v 0] 1 <|
(.lt none (.bin .lss) [.v 4,.v 5] 1 <|
(.ite (.v 6)
(.lt none .inb [.v 0,.v 4] 0 <|
(.lt none (.row 10 0 [true,true,true,true,true,true,true,true,true,false]) [.v 0,.v 4] 10 <|
(.call none 21 [.v 7,.v 8,.v 9,.v 10,.v 11,.v 12,.v 13,.v 14,.v 15,.v 16] 10 [] <|
(.lt none .inb [.v 3,.v 4] 0 <|
(.lt none (.set 10 0 10) [.v 3,.v 4,.v 17,.v 18,.v 19,.v 20,.v 21,.v 22,.v 23,.v 24,.v 25,.v 26] 1 <|
(.lt none (.bin .add) [.v 4,.c (.int .i64 1)] 1 <|
(.leaf .cont [.v 27,.v 28] ())))))))
(.leaf (.yield 1) [.v 3] ()))))) <|
(.leaf .ret [.v 3] ()))))
def Rbx:Tm Unit :=
(.call none 22 [.v 3,.v 4,.v 5,.v 6,.v 7] 5 [] <|
(.call none 23 [.v 8,.v 9] 2 [] <|
(.leaf .ret [.v 0,.v 1,.v 2,.v 10,.v 11,.v 12,.v 13,.v 14,.v 15,.v 16] ())))
def Rbw:Tm Unit :=
(.leaf .ret [.v 0,.v 1,.v 2,.v 3,.v 4] ())
def Rbv:Tm Unit :=
(.call none 24 [.v 1] 1 [] <|
(.leaf .ret [.v 0,.v 2] ()))
def Rbu:Tm Unit :=
(.lt none .len [.v 0] 1 <|
(.lt none (.make 8 [(.int .i64 0)]) [.v 1] 1 <|
(.bind 1
(.loop [.v 2,.c (.int .i64 0)]
(.lt none .len [.v 0] 1 <|
(.lt none (.bin .lss) [.v 4,.v 5] 1 <|
(.ite (.v 6)
(.lt none .inb [.v 0,.v 4] 0 <|
(.lt none (.row 1 0 [true]) [.v 0,.v 4] 1 <|
(.lt none .inb [.v 3,.v 4] 0 <|
(.lt none (.set 1 0 1) [.v 3,.v 4,.v 7] 1 <|
(.lt none (.bin .add) [.v 4,.c (.int .i64 1)] 1 <|
(.leaf .cont [.v 8,.v 9] ()))))))
(.leaf (.yield 1) [.v 3] ()))))) <|
(.leaf .ret [.v 3] ()))))
def Rbt:Tm Unit :=
(.lt none .len [.v 0] 1 <|
(.lt none (.make 192 [(.int .i64 0),(.int .i64 0),(.int .i64 0),(.int .i64 0),(.int .i64 0),(.int .i64 0),(.int .i64 0),(.int .i64 0),(.int .i64 0),(.int .i64 0),(.rows 1 []),(.int .i64 0),(.rows 1 []),(.bool false),(.rows 1 []),(.rows 10 [])]) [.v 1] 1 <|
(.bind 1
(.loop [.v 2,.c (.int .i64 0)]
(.lt none .len [.v 0] 1 <|
(.lt none (.bin .lss) [.v 4,.v 5] 1 <|
(.ite (.v 6)
(.lt none .inb [.v 0,.v 4] 0 <|
(.lt none (.row 16 0 [true,true,true,true,true,true,true,true,true,true,false,true,false,true,false,false]) [.v 0,.v 4] 16 <|
(.call none 26 [.v 7,.v 8,.v 9,.v 10,.v 11,.v 12,.v 13,.v 14,.v 15,.v 16,.v 17,.v 18,.v 19,.v 20,.v 21,.v 22] 16 [] <|
(.lt none .inb [.v 3,.v 4] 0 <|
(.lt none (.set 16 0 16) [.v 3,.v 4,.v 23,.v 24,.v 25,.v 26,.v 27,.v 28,.v 29,.v 30,.v 31,.v 32,.v 33,.v 34,.v 35,.v 36,.v 37,.v 38] 1 <|
(.lt none (.bin .add) [.v 4,.c (.int .i64 1)] 1 <|
(.leaf .cont [.v 39,.v 40] ())))))))
(.leaf (.yield 1) [.v 3] ()))))) <|
(.leaf .ret [.v 3] ()))))
def Rbs:Tm Unit :=
(.call none 22 [.v 4,.v 5,.v 6,.v 7,.v 8] 5 [] <|
(.call none 23 [.v 9,.v 10] 2 [] <|
(.call none 23 [.v 11,.v 12] 2 [] <|
(.call none 24 [.v 14] 1 [] <|
(.call none 20 [.v 15] 1 [] <|
(.leaf .ret [.v 0,.v 1,.v 2,.v 3,.v 16,.v 17,.v 18,.v 19,.v 20,.v 21,.v 22,.v 23,.v 24,.v 13,.v 25,.v 26] ()))))))
def Rbr:Tm Unit :=
(.lt none .len [.v 0] 1 <|
(.lt none (.make 136 [(.int .i64 0),(.int .i64 0),(.int .i64 0),(.int .i64 0),(.int .i64 0),(.int .i64 0),(.int .i64 0),(.int .i64 0),(.int .i64 0),(.int .i64 0),(.int .i64 0),(.int .i64 0),(.int .i64 0),(.int .i64 0),(.rows 1 [])]) [.v 1] 1 <|
(.bind 1
(.loop [.v 2,.c (.int .i64 0)]
(.lt none .len [.v 0] 1 <|
(.lt none (.bin .lss) [.v 4,.v 5] 1 <|
(.ite (.v 6)
(.lt none .inb [.v 0,.v 4] 0 <|
(.lt none (.row 15 0 [true,true,true,true,true,true,true,true,true,true,true,true,true,true,false]) [.v 0,.v 4] 15 <|
(.call none 28 [.v 7,.v 8,.v 9,.v 10,.v 11,.v 12,.v 13,.v 14,.v 15,.v 16,.v 17,.v 18,.v 19,.v 20,.v 21] 15 [] <|
(.lt none .inb [.v 3,.v 4] 0 <|
(.lt none (.set 15 0 15) [.v 3,.v 4,.v 22,.v 23,.v 24,.v 25,.v 26,.v 27,.v 28,.v 29,.v 30,.v 31,.v 32,.v 33,.v 34,.v 35,.v 36] 1 <|
(.lt none (.bin .add) [.v 4,.c (.int .i64 1)] 1 <|
(.leaf .cont [.v 37,.v 38] ())))))))
(.leaf (.yield 1) [.v 3] ()))))) <|
(.leaf .ret [.v 3] ()))))
def Rbq:Tm Unit :=
(.call none 22 [.v 8,.v 9,.v 10,.v 11,.v 12] 5 [] <|
(.call none 23 [.v 13,.v 14] 2 [] <|
(.leaf .ret [.v 0,.v 1,.v 2,.v 3,.v 4,.v 5,.v 6,.v 7,.v 15,.v 16,.v 17,.v 18,.v 19,.v 20,.v 21] ())))
def Rbp:Tm Unit :=
(.lt none .len [.v 0] 1 <|
(.lt none (.make 56 [(.int .i64 0),(.int .i64 0),(.int .i64 0),(.int .i64 0),(.int .i64 0),(.int .i64 0),(.int .i64 0)]) [.v 1] 1 <|
(.bind 1
(.loop [.v 2,.c (.int .i64 0)]
(.lt none .len [.v 0] 1 <|
(.lt none (.bin .lss) [.v 4,.v 5] 1 <|
(.ite (.v 6)
(.lt none .inb [.v 0,.v 4] 0 <|
(.lt none (.row 7 0 [true,true,true,true,true,true,true]) [.v 0,.v 4] 7 <|
(.call none 30 [.v 7,.v 8,.v 9,.v 10,.v 11,.v 12,.v 13] 7 [] <|
(.lt none .inb [.v 3,.v 4] 0 <|
(.lt none (.set 7 0 7) [.v 3,.v 4,.v 14,.v 15,.v 16,.v 17,.v 18,.v 19,.v 20] 1 <|
(.lt none (.bin .add) [.v 4,.c (.int .i64 1)] 1 <|
(.leaf .cont [.v 21,.v 22] ())))))))
(.leaf (.yield 1) [.v 3] ()))))) <|
(.leaf .ret [.v 3] ()))))
def Rbo:Tm Unit :=
(.call none 22 [.v 2,.v 3,.v 4,.v 5,.v 6] 5 [] <|
(.leaf .ret [.v 0,.v 1,.v 7,.v 8,.v 9,.v 10,.v 11] ()))
def Rbn:Tm Unit :=
(.call none 32 [.v 0,.v 1,.v 2] 1 [] <|
(.lt none .not [.v 3] 1 <|
(.ite (.v 4)
(.leaf .ret [.c (.int .i64 0),.c (.bool false)] ())
(.call none 52 [.v 0,.v 1,.v 2] 1 [] <|
(.lt none .not [.v 5] 1 <|
(.ite (.v 6)
(.leaf .ret [.c (.int .i64 1),.c (.bool true)] ())
(.call none 58 [.v 0,.v 1,.v 2] 1 [] <|
(.lt none .not [.v 7] 1 <|
(.ite (.v 8)
(.leaf .ret [.c (.int .i64 2),.c (.bool true)] ())
(.call none 59 [.v 0,.v 1,.v 2] 2 [] <|
(.call none 63 [.v 9,.v 10] 1 [] <|
(.lt none .not [.v 11] 1 <|
(.ite (.v 12)
(.leaf .ret [.c (.int .i64 3),.c (.bool true)] ())
(.call none 67 [.v 0,.v 1,.v 2] 1 [] <|
(.lt none .not [.v 13] 1 <|
(.ite (.v 14)
(.leaf .ret [.c (.int .i64 4),.c (.bool true)] ())
(.leaf .ret [.c (.int .i64 0),.c (.bool true)] ())))))))))))))))))
def Rbm:Tm Unit :=
(.lt none .len [.v 0] 1 <|
(.call none 33 [.v 3] 1 [] <|
(.lt none .not [.v 4] 1 <|
(.lt (some (.v 5,false)) .len [.v 1] 1 <|
(.lt (some (.v 5,false)) (.bin .gtr) [.v 6,.c (.int .i64 80)] 1 <|
(.lt none .pick [.v 5,.c (.bool true),.v 7] 1 <|
(.lt (some (.v 8,false)) .id [.v 3] 1 <|
(.call (some (.v 8,false)) 34 [.v 9,.v 2] 1 [] <|
(.lt (some (.v 8,false)) .not [.v 10] 1 <|
(.lt none .pick [.v 8,.c (.bool true),.v 11] 1 <|
(.ite (.v 12)
(.leaf .ret [.c (.bool false)] ())
(.lt none .len [.v 0] 1 <|
(.bind 1
(.loop [.c (.int .i64 0)]
(.lt none (.bin .lss) [.v 14,.v 13] 1 <|
(.ite (.v 15)
(.lt none .inb [.v 0,.v 14] 0 <|
(.lt none (.row 4 0 [true,true,false,false]) [.v 0,.v 14] 4 <|
(.call none 40 [.v 16,.v 17,.v 18,.v 19] 1 [] <|
(.lt none .not [.v 20] 1 <|
(.lt (some (.v 21,false)) .id [.v 16] 1 <|
(.lt (some (.v 21,false)) .id [.v 14] 1 <|
(.lt (some (.v 21,false)) (.bin .neq) [.v 22,.v 23] 1 <|
(.lt none .pick [.v 21,.c (.bool true),.v 24] 1 <|
(.lt (some (.v 25,false)) .id [.v 17] 1 <|
(.lt (some (.v 25,false)) .id [.v 3] 1 <|
(.lt (some (.v 25,false)) (.bin .neq) [.v 26,.v 27] 1 <|
(.lt none .pick [.v 25,.c (.bool true),.v 28] 1 <|
(.ite (.v 29)
(.leaf .ret [.c (.bool false)] ())
(.lt none (.bin .add) [.v 14,.c (.int .i64 1)] 1 <|
(.leaf .cont [.v 30] ())))))))))))))))
(.leaf (.yield 1) [] ())))) <|
(.lt none .len [.v 1] 1 <|
(.bind 3
(.loop [.c (.int .i64 0)]
(.lt none (.bin .lss) [.v 15,.v 14] 1 <|
(.ite (.v 16)
(.lt none .inb [.v 1,.v 15] 0 <|
(.lt none (.row 15 0 [true,true,true,true,true,true,true,true,true,true,true,true,true,true,false]) [.v 1,.v 15] 15 <|
(.call none 51 [.v 3,.v 17,.v 18,.v 19,.v 20,.v 21,.v 22,.v 23,.v 24,.v 25,.v 26,.v 27,.v 28,.v 29,.v 30,.v 31] 1 [] <|
(.lt none .not [.v 32] 1 <|
(.ite (.v 33)
(.leaf .ret [.c (.bool false)] ())
(.lt none (.bin .add) [.v 15,.c (.int .i64 1)] 1 <|
(.leaf .cont [.v 34] ())))))))
(.leaf (.yield 3) [] ())))) <|
(.leaf .ret [.c (.bool true)] ()))))))))))))))))
def Rbl:Tm Unit :=
(.lt none (.bin .eql) [.v 0,.c (.int .i64 3)] 1 <|
(.lt (some (.v 1,false)) .id [.v 0] 1 <|
(.lt (some (.v 1,false)) (.bin .eql) [.v 2,.c (.int .i64 5)] 1 <|
(.lt none .pick [.v 1,.c (.bool true),.v 3] 1 <|
(.leaf .ret [.v 4] ())))))
def Rbk:Tm Unit :=
(.lt none .len [.v 1] 1 <|
(.bind 1
(.loop [.c (.int .i64 0)]
(.lt none (.bin .lss) [.v 3,.v 2] 1 <|
(.ite (.v 4)
(.lt none .inb [.v 1,.v 3] 0 <|
(.lt none (.row 7 0 [true,true,true,true,true,true,true]) [.v 1,.v 3] 7 <|
(.call none 35 [.v 0,.v 5,.v 6] 1 [] <|
(.lt none .not [.v 12] 1 <|
(.call (some (.v 13,false)) 37 [.v 7,.v 8,.v 9,.v 10,.v 11] 1 [] <|
(.lt (some (.v 13,false)) .not [.v 14] 1 <|
(.lt none .pick [.v 13,.c (.bool true),.v 15] 1 <|
(.lt (some (.v 16,false)) .id [.v 7] 1 <|
(.lt (some (.v 16,false)) (.bin .eql) [.v 17,.c (.int .i64 0)] 1 <|
(.lt none .pick [.v 16,.c (.bool true),.v 18] 1 <|
(.ite (.v 19)
(.leaf .ret [.c (.bool false)] ())
(.lt none (.sub 7 false) [.v 1,.c (.int .i64 0),.v 3] 1 <|
(.lt none .len [.v 20] 1 <|
(.bind 3
(.loop [.c (.int .i64 0)]
(.lt none (.bin .lss) [.v 22,.v 21] 1 <|
(.ite (.v 23)
(.lt none .inb [.v 20,.v 22] 0 <|
(.lt none (.row 7 0 [true,true,true,true,true,true,true]) [.v 20,.v 22] 7 <|
(.lt none (.bin .eql) [.v 5,.v 24] 1 <|
(.lt (some (.v 31,true)) .id [.v 6] 1 <|
(.lt (some (.v 31,true)) .id [.v 25] 1 <|
(.lt (some (.v 31,true)) (.bin .eql) [.v 32,.v 33] 1 <|
(.lt none .pick [.v 31,.v 34,.c (.bool false)] 1 <|
(.ite (.v 35)
(.leaf .ret [.c (.bool false)] ())
(.lt none (.bin .add) [.v 22,.c (.int .i64 1)] 1 <|
(.leaf .cont [.v 36] ()))))))))))
(.leaf (.yield 3) [] ())))) <|
(.lt none (.bin .add) [.v 3,.c (.int .i64 1)] 1 <|
(.leaf .cont [.v 22] ()))))))))))))))))
(.leaf (.yield 1) [] ())))) <|
(.leaf .ret [.c (.bool true)] ())))
def Rbj:Tm Unit :=
(.lt none (.bin .sub) [.v 0,.c (.int .i64 1)] 1 <|
(.call none 36 [.v 1,.c (.int .i64 0),.v 3] 1 [] <|
(.lt (some (.v 4,true)) .id [.v 2] 1 <|
(.call (some (.v 4,true)) 36 [.v 5,.c (.int .i64 1),.c (.int .i64 6)] 1 [] <|
(.lt none .pick [.v 4,.v 6,.c (.bool false)] 1 <|
(.leaf .ret [.v 7] ()))))))
def Rbi:Tm Unit :=
(.lt none (.bin .geq) [.v 0,.v 1] 1 <|
(.lt (some (.v 3,true)) .id [.v 0] 1 <|
(.lt (some (.v 3,true)) .id [.v 2] 1 <|
(.lt (some (.v 3,true)) (.bin .leq) [.v 4,.v 5] 1 <|
(.lt none .pick [.v 3,.v 6,.c (.bool false)] 1 <|
(.leaf .ret [.v 7] ()))))))
def Rbh:Tm Unit :=
(.lt none (.bin .eql) [.v 0,.c (.int .i64 0)] 1 <|
(.ite (.v 5)
(.lt none (.eqs [0,0,0,0,0]) [.v 0,.v 1,.v 2,.v 3,.v 4,.c (.int .i64 0),.c (.int .i64 0),.c (.int .i64 0),.c (.int .i64 0),.c (.int .i64 0)] 1 <|
(.leaf .ret [.v 6] ()))
(.lt none (.bin .eql) [.v 0,.c (.int .i64 1)] 1 <|
(.ite (.v 6)
(.call none 38 [.v 0,.v 1,.v 2,.v 3,.v 4] 1 [] <|
(.lt none (.bin .eql) [.v 7,.c (.int .i64 0)] 1 <|
(.leaf .ret [.v 8] ())))
(.lt none (.bin .eql) [.v 0,.c (.int .i64 2)] 1 <|
(.ite (.v 7)
(.call none 38 [.v 0,.v 1,.v 2,.v 3,.v 4] 1 [] <|
(.lt none (.bin .eql) [.v 8,.c (.int .i64 0)] 1 <|
(.lt (some (.v 9,true)) .id [.v 3] 1 <|
(.lt (some (.v 9,true)) (.bin .eql) [.v 10,.c (.int .i64 0)] 1 <|
(.lt none .pick [.v 9,.v 11,.c (.bool false)] 1 <|
(.lt (some (.v 12,true)) .id [.v 4] 1 <|
(.lt (some (.v 12,true)) (.bin .eql) [.v 13,.c (.int .i64 0)] 1 <|
(.lt none .pick [.v 12,.v 14,.c (.bool false)] 1 <|
(.leaf .ret [.v 15] ())))))))))
(.leaf .ret [.c (.bool false)] ())))))))
def Rbg:Tm Unit :=
(.lt none (.bin .eql) [.v 0,.c (.int .i64 1)] 1 <|
(.call none 39 [.v 2] 1 [] <|
(.lt none .not [.v 6] 1 <|
(.lt (some (.v 7,false)) .id [.v 5] 1 <|
(.lt (some (.v 7,false)) .id [.v 8] 1 <|
(.lt (some (.v 9,true)) .id [.v 3] 1 <|
(.call (some (.v 9,true)) 39 [.v 10] 1 [] <|
(.lt (some (.v 9,true)) .not [.v 11] 1 <|
(.lt (some (.v 7,false)) .pick [.v 9,.v 12,.c (.bool false)] 1 <|
(.lt none .pick [.v 7,.c (.bool true),.v 13] 1 <|
(.ite (.v 14)
(.leaf .ret [.c (.int .i64 4)] ())
(.lt (some (.v 5,true)) .id [.v 2] 1 <|
(.lt (some (.v 5,true)) .id [.v 3] 1 <|
(.lt (some (.v 5,true)) (.bin .eql) [.v 15,.v 16] 1 <|
(.lt none .pick [.v 5,.v 17,.c (.bool false)] 1 <|
(.ite (.v 18)
(.leaf .ret [.c (.int .i64 5)] ())
(.call none 36 [.v 1,.c (.int .i64 1),.c (.int .i64 999)] 1 [] <|
(.lt none .not [.v 19] 1 <|
(.lt (some (.v 20,false)) .id [.v 5] 1 <|
(.lt (some (.v 20,false)) .id [.v 21] 1 <|
(.lt (some (.v 22,true)) .id [.v 4] 1 <|
(.call (some (.v 22,true)) 36 [.v 23,.c (.int .i64 1),.c (.int .i64 1000)] 1 [] <|
(.lt (some (.v 22,true)) .not [.v 24] 1 <|
(.lt (some (.v 20,false)) .pick [.v 22,.v 25,.c (.bool false)] 1 <|
(.lt none .pick [.v 20,.c (.bool true),.v 26] 1 <|
(.ite (.v 27)
(.leaf .ret [.c (.int .i64 6)] ())
(.leaf .ret [.c (.int .i64 0)] ())))))))))))))))))))))))))))
def Rbf:Tm Unit :=
(.call none 36 [.v 0,.c (.int .i64 0),.c (.int .i64 3)] 1 [] <|
(.leaf .ret [.v 1] ()))
def Rbe:Tm Unit :=
(.call none 41 [.v 1,.v 2] 1 [] <|
(.lt none .not [.v 4] 1 <|
(.lt (some (.v 5,false)) .id [.v 0] 1 <|
(.lt (some (.v 5,false)) .id [.v 1] 1 <|
(.lt (some (.v 5,false)) (.bin .sub) [.v 7,.c (.int .i64 1)] 1 <|
(.call (some (.v 5,false)) 36 [.v 6,.c (.int .i64 0),.v 8] 1 [] <|
(.lt (some (.v 5,false)) .not [.v 9] 1 <|
(.lt none .pick [.v 5,.c (.bool true),.v 10] 1 <|
(.ite (.v 11)
(.leaf .ret [.c (.bool false)] ())
(.lt none .len [.v 3] 1 <|
(.bind 1
(.loop [.c (.int .i64 0)]
(.lt none (.bin .lss) [.v 13,.v 12] 1 <|
(.ite (.v 14)
(.bind 0
(.lt none .inb [.v 3,.v 13] 0 <|
(.lt none (.row 16 0 [true,true,true,true,true,true,true,true,true,true,false,true,false,true,false,false]) [.v 3,.v 13] 16 <|
(.call none 48 [.v 1,.v 0,.v 15,.v 16,.v 17,.v 18,.v 19,.v 20,.v 21,.v 22,.v 23,.v 24,.v 25,.v 26,.v 27,.v 28,.v 29,.v 30] 1 [] <|
(.lt none .not [.v 31] 1 <|
(.ite (.v 32)
(.leaf .ret [.c (.bool false)] ())
(.lt none (.bin .gtr) [.v 13,.c (.int .i64 0)] 1 <|
(.ite (.v 33)
(.lt none (.bin .sub) [.v 13,.c (.int .i64 1)] 1 <|
(.lt none .inb [.v 3,.v 34] 0 <|
(.lt none (.row 16 0 [true,true,true,true,true,true,true,true,true,true,false,true,false,true,false,false]) [.v 3,.v 34] 16 <|
(.lt none (.bin .gtr) [.v 35,.v 15] 1 <|
(.lt (some (.v 51,false)) .id [.v 35] 1 <|
(.lt (some (.v 51,false)) .id [.v 15] 1 <|
(.lt (some (.v 51,false)) (.bin .eql) [.v 52,.v 53] 1 <|
(.lt (some (.v 51,false)) .id [.v 54] 1 <|
(.lt (some (.v 55,true)) .id [.v 36] 1 <|
(.lt (some (.v 55,true)) .id [.v 16] 1 <|
(.lt (some (.v 55,true)) (.bin .geq) [.v 56,.v 57] 1 <|
(.lt (some (.v 51,false)) .pick [.v 55,.v 58,.c (.bool false)] 1 <|
(.lt none .pick [.v 51,.c (.bool true),.v 59] 1 <|
(.ite (.v 60)
(.leaf .ret [.c (.bool false)] ())
(.leaf (.yield 0) [] ())))))))))))))))
(.leaf (.yield 0) [] ())))))))) <|
(.lt none (.bin .add) [.v 13,.c (.int .i64 1)] 1 <|
(.leaf .cont [.v 15] ())))
(.leaf (.yield 1) [] ())))) <|
(.leaf .ret [.c (.bool true)] ()))))))))))))
def Rbd:Tm Unit :=
(.call none 33 [.v 0] 1 [] <|
(.lt none .not [.v 2] 1 <|
(.lt (some (.v 3,false)) .len [.v 1] 1 <|
(.lt (some (.v 3,false)) .id [.v 0] 1 <|
(.lt (some (.v 3,false)) (.bin .neq) [.v 4,.v 5] 1 <|
(.lt none .pick [.v 3,.c (.bool true),.v 6] 1 <|
(.ite (.v 7)
(.leaf .ret [.c (.bool false)] ())
(.lt none .len [.v 1] 1 <|
(.bind 1
(.loop [.c (.int .i64 0)]
(.lt none (.bin .lss) [.v 9,.v 8] 1 <|
(.ite (.v 10)
(.lt none .inb [.v 1,.v 9] 0 <|
(.lt none (.row 1 0 [false]) [.v 1,.v 9] 1 <|
(.lt none .len [.v 11] 1 <|
(.bind 3
(.loop [.c (.int .i64 0)]
(.lt none (.bin .lss) [.v 13,.v 12] 1 <|
(.ite (.v 14)
(.lt none .inb [.v 11,.v 13] 0 <|
(.lt none (.row 10 0 [true,true,true,true,true,true,true,true,true,false]) [.v 11,.v 13] 10 <|
(.call none 42 [.v 0,.v 15,.v 16,.v 17,.v 18,.v 19,.v 20,.v 21,.v 22,.v 23,.v 24] 1 [] <|
(.lt none .not [.v 25] 1 <|
(.ite (.v 26)
(.leaf .ret [.c (.bool false)] ())
(.lt none (.bin .add) [.v 13,.c (.int .i64 1)] 1 <|
(.leaf .cont [.v 27] ())))))))
(.leaf (.yield 3) [] ())))) <|
(.lt none .len [.v 11] 1 <|
(.lt none (.bin .gtr) [.v 13,.c (.int .i64 6)] 1 <|
(.ite (.v 14)
(.leaf .ret [.c (.bool false)] ())
(.lt none (.bin .add) [.v 9,.c (.int .i64 1)] 1 <|
(.leaf .cont [.v 15] ())))))))))
(.leaf (.yield 1) [] ())))) <|
(.leaf .ret [.c (.bool true)] ()))))))))))
def Rbc:Tm Unit :=
(.call none 36 [.v 1,.c (.int .i64 0),.c (.int .i64 9999)] 1 [] <|
(.lt none .not [.v 11] 1 <|
(.lt (some (.v 12,false)) .id [.v 2] 1 <|
(.lt (some (.v 12,false)) .id [.v 1] 1 <|
(.call (some (.v 12,false)) 36 [.v 13,.c (.int .i64 0),.v 14] 1 [] <|
(.lt (some (.v 12,false)) .not [.v 15] 1 <|
(.lt none .pick [.v 12,.c (.bool true),.v 16] 1 <|
(.lt (some (.v 17,false)) .id [.v 3] 1 <|
(.call (some (.v 17,false)) 36 [.v 18,.c (.int .i64 0),.c (.int .i64 3)] 1 [] <|
(.lt (some (.v 17,false)) .not [.v 19] 1 <|
(.lt none .pick [.v 17,.c (.bool true),.v 20] 1 <|
(.ite (.v 21)
(.leaf .ret [.c (.bool false)] ())
(.lt none (.bin .eql) [.v 3,.c (.int .i64 0)] 1 <|
(.ite (.v 22)
(.lt none (.bin .eql) [.v 2,.c (.int .i64 0)] 1 <|
(.lt (some (.v 23,true)) (.eqs [0,0,0,0,0]) [.v 4,.v 5,.v 6,.v 7,.v 8,.c (.int .i64 0),.c (.int .i64 0),.c (.int .i64 0),.c (.int .i64 0),.c (.int .i64 0)] 1 <|
(.lt none .pick [.v 23,.v 24,.c (.bool false)] 1 <|
(.lt (some (.v 25,true)) .id [.v 0] 1 <|
(.call (some (.v 25,true)) 43 [.v 26] 2 [] <|
(.call (some (.v 25,true)) 44 [.v 9,.v 10,.v 27,.v 28] 1 [] <|
(.lt none .pick [.v 25,.v 29,.c (.bool false)] 1 <|
(.leaf .ret [.v 30] ()))))))))
(.call none 37 [.v 4,.v 5,.v 6,.v 7,.v 8] 1 [] <|
(.lt (some (.v 23,true)) .id [.v 0] 1 <|
(.call (some (.v 23,true)) 46 [.v 24,.v 9,.v 10] 1 [] <|
(.lt none .pick [.v 23,.v 25,.c (.bool false)] 1 <|
(.leaf .ret [.v 26] ())))))))))))))))))))
def Rbb:Tm Unit :=
(.lt none (.make 8 [(.int .i64 0)]) [.v 0] 1 <|
(.leaf .ret [.c (.int .i64 0),.v 1] ()))
def Rba:Tm Unit :=
(.lt none (.bin .eql) [.v 0,.v 2] 1 <|
(.call (some (.v 4,true)) 45 [.v 1,.v 3] 1 [] <|
(.lt none .pick [.v 4,.v 5,.c (.bool false)] 1 <|
(.leaf .ret [.v 6] ()))))
def Qb9:Tm Unit :=
(.lt none .len [.v 0] 1 <|
(.lt none .len [.v 1] 1 <|
(.lt none (.bin .neq) [.v 2,.v 3] 1 <|
(.ite (.v 4)
(.leaf .ret [.c (.bool false)] ())
(.lt none .len [.v 0] 1 <|
(.bind 1
(.loop [.c (.int .i64 0)]
(.lt none (.bin .lss) [.v 6,.v 5] 1 <|
(.ite (.v 7)
(.lt none .inb [.v 0,.v 6] 0 <|
(.lt none (.row 1 0 [true]) [.v 0,.v 6] 1 <|
(.lt none .inb [.v 1,.v 6] 0 <|
(.lt none (.row 1 0 [true]) [.v 1,.v 6] 1 <|
(.lt none (.bin .neq) [.v 8,.v 9] 1 <|
(.ite (.v 10)
(.leaf .ret [.c (.bool false)] ())
(.lt none (.bin .add) [.v 6,.c (.int .i64 1)] 1 <|
(.leaf .cont [.v 11] ()))))))))
(.leaf (.yield 1) [] ())))) <|
(.leaf .ret [.c (.bool true)] ())))))))
def Qb8:Tm Unit :=
(.call none 36 [.v 1,.c (.int .i64 0),.c (.int .i64 999)] 1 [] <|
(.lt (some (.v 3,true)) .len [.v 2] 1 <|
(.lt (some (.v 3,true)) .id [.v 0] 1 <|
(.lt (some (.v 3,true)) (.bin .eql) [.v 4,.v 5] 1 <|
(.lt none .pick [.v 3,.v 6,.c (.bool false)] 1 <|
(.call (some (.v 7,true)) 47 [.v 2,.c (.int .i64 0),.c (.int .i64 6)] 1 [] <|
(.lt none .pick [.v 7,.v 8,.c (.bool false)] 1 <|
(.leaf .ret [.v 9] ()))))))))
def Qb7:Tm Unit :=
(.lt none .len [.v 0] 1 <|
(.bind 1
(.loop [.c (.int .i64 0)]
(.lt none (.bin .lss) [.v 4,.v 3] 1 <|
(.ite (.v 5)
(.lt none .inb [.v 0,.v 4] 0 <|
(.lt none (.row 1 0 [true]) [.v 0,.v 4] 1 <|
(.call none 36 [.v 6,.v 1,.v 2] 1 [] <|
(.lt none .not [.v 7] 1 <|
(.ite (.v 8)
(.leaf .ret [.c (.bool false)] ())
(.lt none (.bin .add) [.v 4,.c (.int .i64 1)] 1 <|
(.leaf .cont [.v 9] ())))))))
(.leaf (.yield 1) [] ())))) <|
(.leaf .ret [.c (.bool true)] ())))
def Qb6:Tm Unit :=
(.call none 35 [.v 0,.v 2,.v 3] 1 [] <|
(.lt none .not [.v 18] 1 <|
(.lt (some (.v 19,false)) .id [.v 4] 1 <|
(.call (some (.v 19,false)) 36 [.v 20,.c (.int .i64 0),.c (.int .i64 9999)] 1 [] <|
(.lt (some (.v 19,false)) .not [.v 21] 1 <|
(.lt none .pick [.v 19,.c (.bool true),.v 22] 1 <|
(.lt (some (.v 23,false)) .id [.v 0] 1 <|
(.lt (some (.v 23,false)) (.bin .sub) [.v 24,.c (.int .i64 1)] 1 <|
(.call (some (.v 23,false)) 49 [.v 16,.c (.int .i64 0),.v 25] 1 [] <|
(.lt (some (.v 23,false)) .not [.v 26] 1 <|
(.lt none .pick [.v 23,.c (.bool true),.v 27] 1 <|
(.lt (some (.v 28,false)) .id [.v 1] 1 <|
(.call (some (.v 28,false)) 50 [.v 16,.v 29] 1 [] <|
(.lt (some (.v 28,false)) .not [.v 30] 1 <|
(.lt none .pick [.v 28,.c (.bool true),.v 31] 1 <|
(.lt (some (.v 32,false)) .id [.v 0] 1 <|
(.call (some (.v 32,false)) 46 [.v 33,.v 11,.v 12] 1 [] <|
(.lt (some (.v 32,false)) .not [.v 34] 1 <|
(.lt none .pick [.v 32,.c (.bool true),.v 35] 1 <|
(.lt (some (.v 36,false)) .id [.v 0] 1 <|
(.call (some (.v 36,false)) 46 [.v 37,.v 13,.v 14] 1 [] <|
(.lt (some (.v 36,false)) .not [.v 38] 1 <|
(.lt none .pick [.v 36,.c (.bool true),.v 39] 1 <|
(.ite (.v 40)
(.leaf .ret [.c (.bool false)] ())
(.lt none .len [.v 17] 1 <|
(.bind 1
(.loop [.c (.int .i64 0)]
(.lt none (.bin .lss) [.v 42,.v 41] 1 <|
(.ite (.v 43)
(.lt none .inb [.v 17,.v 42] 0 <|
(.lt none (.row 10 0 [true,true,true,true,true,true,true,true,true,false]) [.v 17,.v 42] 10 <|
(.call none 42 [.v 0,.v 44,.v 45,.v 46,.v 47,.v 48,.v 49,.v 50,.v 51,.v 52,.v 53] 1 [] <|
(.lt none .not [.v 54] 1 <|
(.lt (some (.v 55,false)) .id [.v 46] 1 <|
(.lt (some (.v 55,false)) (.bin .eql) [.v 56,.c (.int .i64 3)] 1 <|
(.lt none .pick [.v 55,.c (.bool true),.v 57] 1 <|
(.ite (.v 58)
(.leaf .ret [.c (.bool false)] ())
(.lt none (.bin .add) [.v 42,.c (.int .i64 1)] 1 <|
(.leaf .cont [.v 59] ()))))))))))
(.leaf (.yield 1) [] ())))) <|
(.lt none (.bin .eql) [.v 5,.c (.int .i64 1)] 1 <|
(.ite (.v 42)
(.call none 37 [.v 6,.v 7,.v 8,.v 9,.v 10] 1 [] <|
(.lt (some (.v 43,true)) .len [.v 17] 1 <|
(.lt (some (.v 43,true)) (.bin .eql) [.v 44,.c (.int .i64 0)] 1 <|
(.lt none .pick [.v 43,.v 45,.c (.bool false)] 1 <|
(.leaf .ret [.v 46] ())))))
(.lt none (.bin .eql) [.v 5,.c (.int .i64 2)] 1 <|
(.ite (.v 43)
(.call none 37 [.v 6,.v 7,.v 8,.v 9,.v 10] 1 [] <|
(.lt (some (.v 44,true)) .len [.v 17] 1 <|
(.lt (some (.v 44,true)) (.bin .eql) [.v 45,.c (.int .i64 0)] 1 <|
(.lt none .pick [.v 44,.v 46,.c (.bool false)] 1 <|
(.lt (some (.v 47,true)) .id [.v 15] 1 <|
(.lt (some (.v 47,true)) .not [.v 48] 1 <|
(.lt none .pick [.v 47,.v 49,.c (.bool false)] 1 <|
(.call (some (.v 50,true)) 44 [.v 11,.v 12,.v 13,.v 14] 1 [] <|
(.lt none .pick [.v 50,.v 51,.c (.bool false)] 1 <|
(.leaf .ret [.v 52] ()))))))))))
(.lt none (.bin .eql) [.v 5,.c (.int .i64 3)] 1 <|
(.ite (.v 44)
(.call none 43 [.v 0] 2 [] <|
(.lt none (.eqs [0,0,0,0,0]) [.v 6,.v 7,.v 8,.v 9,.v 10,.c (.int .i64 0),.c (.int .i64 0),.c (.int .i64 0),.c (.int .i64 0),.c (.int .i64 0)] 1 <|
(.call (some (.v 47,true)) 44 [.v 11,.v 12,.v 45,.v 46] 1 [] <|
(.lt none .pick [.v 47,.v 48,.c (.bool false)] 1 <|
(.call (some (.v 49,true)) 44 [.v 13,.v 14,.v 45,.v 46] 1 [] <|
(.lt none .pick [.v 49,.v 50,.c (.bool false)] 1 <|
(.lt (some (.v 51,true)) .id [.v 15] 1 <|
(.lt (some (.v 51,true)) .not [.v 52] 1 <|
(.lt none .pick [.v 51,.v 53,.c (.bool false)] 1 <|
(.lt (some (.v 54,true)) .len [.v 17] 1 <|
(.lt (some (.v 54,true)) .len [.v 16] 1 <|
(.lt (some (.v 54,true)) (.bin .eql) [.v 55,.v 56] 1 <|
(.lt none .pick [.v 54,.v 57,.c (.bool false)] 1 <|
(.leaf .ret [.v 58] ()))))))))))))))
(.leaf .ret [.c (.bool false)] ())))))))))))))))))))))))))))))))))
def Qb5:Tm Unit :=
(.lt none .len [.v 0] 1 <|
(.bind 1
(.loop [.c (.int .i64 0)]
(.lt none (.bin .lss) [.v 4,.v 3] 1 <|
(.ite (.v 5)
(.lt none .inb [.v 0,.v 4] 0 <|
(.lt none (.row 1 0 [true]) [.v 0,.v 4] 1 <|
(.call none 36 [.v 6,.v 1,.v 2] 1 [] <|
(.lt none .not [.v 7] 1 <|
(.lt (some (.v 8,false)) .id [.v 4] 1 <|
(.lt (some (.v 8,false)) (.bin .gtr) [.v 9,.c (.int .i64 0)] 1 <|
(.lt (some (.v 8,false)) .id [.v 10] 1 <|
(.lt (some (.v 11,true)) .id [.v 4] 1 <|
(.lt (some (.v 11,true)) (.bin .sub) [.v 12,.c (.int .i64 1)] 1 <|
(.lt (some (.v 11,true)) .inb [.v 0,.v 13] 0 <|
(.lt (some (.v 11,true)) (.row 1 0 [true]) [.v 0,.v 13] 1 <|
(.lt (some (.v 11,true)) .id [.v 6] 1 <|
(.lt (some (.v 11,true)) (.bin .geq) [.v 14,.v 15] 1 <|
(.lt (some (.v 8,false)) .pick [.v 11,.v 16,.c (.bool false)] 1 <|
(.lt none .pick [.v 8,.c (.bool true),.v 17] 1 <|
(.ite (.v 18)
(.leaf .ret [.c (.bool false)] ())
(.lt none (.bin .add) [.v 4,.c (.int .i64 1)] 1 <|
(.leaf .cont [.v 19] ()))))))))))))))))))
(.leaf (.yield 1) [] ())))) <|
(.leaf .ret [.c (.bool true)] ())))
def Qb4:Tm Unit :=
(.lt none .len [.v 0] 1 <|
(.bind 1
(.loop [.c (.int .i64 0)]
(.lt none (.bin .lss) [.v 3,.v 2] 1 <|
(.ite (.v 4)
(.lt none .inb [.v 0,.v 3] 0 <|
(.lt none (.row 1 0 [true]) [.v 0,.v 3] 1 <|
(.lt none (.bin .eql) [.v 5,.v 1] 1 <|
(.ite (.v 6)
(.leaf .ret [.c (.bool true)] ())
(.lt none (.bin .add) [.v 3,.c (.int .i64 1)] 1 <|
(.leaf .cont [.v 7] ()))))))
(.leaf (.yield 1) [] ())))) <|
(.leaf .ret [.c (.bool false)] ())))
def Qb3:Tm Unit :=
(.call none 33 [.v 0] 1 [] <|
(.lt none .not [.v 16] 1 <|
(.lt (some (.v 17,false)) .id [.v 1] 1 <|
(.call (some (.v 17,false)) 36 [.v 18,.c (.int .i64 1),.c (.int .i64 7)] 1 [] <|
(.lt (some (.v 17,false)) .not [.v 19] 1 <|
(.lt none .pick [.v 17,.c (.bool true),.v 20] 1 <|
(.lt (some (.v 21,false)) .id [.v 2] 1 <|
(.lt (some (.v 21,false)) .id [.v 0] 1 <|
(.lt (some (.v 21,false)) (.bin .sub) [.v 23,.c (.int .i64 1)] 1 <|
(.call (some (.v 21,false)) 36 [.v 22,.c (.int .i64 0),.v 24] 1 [] <|
(.lt (some (.v 21,false)) .not [.v 25] 1 <|
(.lt none .pick [.v 21,.c (.bool true),.v 26] 1 <|
(.lt (some (.v 27,false)) .id [.v 3] 1 <|
(.lt (some (.v 27,false)) .id [.v 0] 1 <|
(.lt (some (.v 27,false)) (.bin .sub) [.v 29,.c (.int .i64 1)] 1 <|
(.call (some (.v 27,false)) 36 [.v 28,.c (.int .i64 0),.v 30] 1 [] <|
(.lt (some (.v 27,false)) .not [.v 31] 1 <|
(.lt none .pick [.v 27,.c (.bool true),.v 32] 1 <|
(.lt (some (.v 33,false)) .id [.v 2] 1 <|
(.lt (some (.v 33,false)) .id [.v 3] 1 <|
(.lt (some (.v 33,false)) (.bin .eql) [.v 34,.v 35] 1 <|
(.lt none .pick [.v 33,.c (.bool true),.v 36] 1 <|
(.lt (some (.v 37,false)) .id [.v 0] 1 <|
(.lt (some (.v 37,false)) .id [.v 4] 1 <|
(.lt (some (.v 37,false)) .id [.v 5] 1 <|
(.call (some (.v 37,false)) 35 [.v 38,.v 39,.v 40] 1 [] <|
(.lt (some (.v 37,false)) .not [.v 41] 1 <|
(.lt none .pick [.v 37,.c (.bool true),.v 42] 1 <|
(.lt (some (.v 43,false)) .id [.v 6] 1 <|
(.call (some (.v 43,false)) 36 [.v 44,.c (.int .i64 0),.c (.int .i64 9999)] 1 [] <|
(.lt (some (.v 43,false)) .not [.v 45] 1 <|
(.lt none .pick [.v 43,.c (.bool true),.v 46] 1 <|
(.ite (.v 47)
(.leaf .ret [.c (.bool false)] ())
(.lt none (.bin .eql) [.v 1,.c (.int .i64 7)] 1 <|
(.ite (.v 48)
(.lt none (.bin .neq) [.v 8,.c (.int .i64 3)] 1 <|
(.lt (some (.v 49,true)) .id [.v 0] 1 <|
(.lt (some (.v 49,true)) .id [.v 6] 1 <|
(.lt (some (.v 49,true)) .id [.v 7] 1 <|
(.lt (some (.v 49,true)) .id [.v 8] 1 <|
(.call (some (.v 49,true)) 42 [.v 50,.v 51,.v 52,.v 53,.v 9,.v 10,.v 11,.v 12,.v 13,.v 14,.v 15] 1 [] <|
(.lt none .pick [.v 49,.v 54,.c (.bool false)] 1 <|
(.leaf .ret [.v 55] ()))))))))
(.lt none (.bin .neq) [.v 7,.c (.int .i64 0)] 1 <|
(.lt (some (.v 49,false)) .id [.v 8] 1 <|
(.lt (some (.v 49,false)) (.bin .neq) [.v 50,.c (.int .i64 0)] 1 <|
(.lt none .pick [.v 49,.c (.bool true),.v 51] 1 <|
(.lt (some (.v 52,false)) .id [.v 0] 1 <|
(.call (some (.v 52,false)) 46 [.v 53,.v 14,.v 15] 1 [] <|
(.lt (some (.v 52,false)) .not [.v 54] 1 <|
(.lt none .pick [.v 52,.c (.bool true),.v 55] 1 <|
(.call (some (.v 56,false)) 37 [.v 9,.v 10,.v 11,.v 12,.v 13] 1 [] <|
(.lt (some (.v 56,false)) .not [.v 57] 1 <|
(.lt none .pick [.v 56,.c (.bool true),.v 58] 1 <|
(.lt (some (.v 59,false)) .id [.v 1] 1 <|
(.lt (some (.v 59,false)) (.bin .eql) [.v 60,.c (.int .i64 5)] 1 <|
(.lt (some (.v 59,false)) .id [.v 61] 1 <|
(.lt (some (.v 62,true)) .id [.v 6] 1 <|
(.lt (some (.v 62,true)) (.bin .neq) [.v 63,.c (.int .i64 0)] 1 <|
(.lt (some (.v 59,false)) .pick [.v 62,.v 64,.c (.bool false)] 1 <|
(.lt none .pick [.v 59,.c (.bool true),.v 65] 1 <|
(.ite (.v 66)
(.leaf .ret [.c (.bool false)] ())
(.lt none (.bin .eql) [.v 1,.c (.int .i64 2)] 1 <|
(.ite (.v 67)
(.lt none (.eqs [0,0,0,0,0]) [.v 9,.v 10,.v 11,.v 12,.v 13,.c (.int .i64 0),.c (.int .i64 0),.c (.int .i64 0),.c (.int .i64 0),.c (.int .i64 0)] 1 <|
(.leaf .ret [.v 68] ()))
(.bind 0
(.lt none (.bin .eql) [.v 1,.c (.int .i64 4)] 1 <|
(.ite (.v 68)
(.leaf (.yield 0) [.v 68] ())
(.lt none (.bin .eql) [.v 1,.c (.int .i64 6)] 1 <|
(.leaf (.yield 0) [.v 69] ())))) <|
(.ite (.v 68)
(.lt none (.eqs [0,0,0,0,0]) [.v 9,.v 10,.v 11,.v 12,.v 13,.c (.int .i64 0),.c (.int .i64 0),.c (.int .i64 0),.c (.int .i64 0),.c (.int .i64 0)] 1 <|
(.lt (some (.v 69,true)) .id [.v 0] 1 <|
(.call (some (.v 69,true)) 43 [.v 70] 2 [] <|
(.call (some (.v 69,true)) 44 [.v 14,.v 15,.v 71,.v 72] 1 [] <|
(.lt none .pick [.v 69,.v 73,.c (.bool false)] 1 <|
(.leaf .ret [.v 74] ()))))))
(.leaf .ret [.c (.bool true)] ())))))))))))))))))))))))))))))))))))))))))))))))))))))))))))
def Qb2:Tm Unit :=
(.lt none .len [.v 0] 1 <|
(.bind 1
(.loop [.c (.int .i64 0)]
(.lt none (.bin .lss) [.v 4,.v 3] 1 <|
(.ite (.v 5)
(.lt none .inb [.v 0,.v 4] 0 <|
(.lt none (.row 4 0 [true,true,false,false]) [.v 0,.v 4] 4 <|
(.lt none (.sub 4 false) [.v 0,.c (.int .i64 0),.v 4] 1 <|
(.lt none .len [.v 10] 1 <|
(.bind 3
(.loop [.c (.int .i64 0)]
(.lt none (.bin .lss) [.v 12,.v 11] 1 <|
(.ite (.v 13)
(.lt none .inb [.v 10,.v 12] 0 <|
(.lt none (.row 4 0 [true,true,false,false]) [.v 10,.v 12] 4 <|
(.call none 53 [.v 7,.v 8] 1 [] <|
(.lt none .len [.v 18] 1 <|
(.bind 5
(.loop [.c (.int .i64 0)]
(.lt none (.bin .lss) [.v 20,.v 19] 1 <|
(.ite (.v 21)
(.lt none .inb [.v 18,.v 20] 0 <|
(.lt none (.row 1 0 [false]) [.v 18,.v 20] 1 <|
(.lt none .inb [.v 22,.c (.int .i64 0)] 0 <|
(.lt none (.row 1 0 [true]) [.v 22,.c (.int .i64 0)] 1 <|
(.lt none .inb [.v 22,.c (.int .i64 1)] 0 <|
(.lt none (.row 1 0 [true]) [.v 22,.c (.int .i64 1)] 1 <|
(.call none 54 [.v 7,.v 8,.v 23,.v 24] 10 [] <|
(.lt none .inb [.v 22,.c (.int .i64 0)] 0 <|
(.lt none (.row 1 0 [true]) [.v 22,.c (.int .i64 0)] 1 <|
(.lt none .inb [.v 22,.c (.int .i64 1)] 0 <|
(.lt none (.row 1 0 [true]) [.v 22,.c (.int .i64 1)] 1 <|
(.call none 54 [.v 15,.v 16,.v 35,.v 36] 10 [] <|
(.lt none (.bin .eql) [.v 39,.c (.int .i64 3)] 1 <|
(.lt (some (.v 47,true)) (.eqs [0,0,0,0,0]) [.v 28,.v 29,.v 30,.v 31,.v 32,.v 40,.v 41,.v 42,.v 43,.v 44] 1 <|
(.lt (some (.v 47,true)) .not [.v 48] 1 <|
(.lt (some (.v 47,true)) .id [.v 49] 1 <|
(.call (some (.v 50,false)) 44 [.v 33,.v 34,.v 45,.v 46] 1 [] <|
(.lt (some (.v 50,false)) .not [.v 51] 1 <|
(.lt (some (.v 47,true)) .pick [.v 50,.c (.bool true),.v 52] 1 <|
(.lt none .pick [.v 47,.v 53,.c (.bool false)] 1 <|
(.ite (.v 54)
(.leaf .ret [.c (.bool false)] ())
(.lt none (.bin .add) [.v 20,.c (.int .i64 1)] 1 <|
(.leaf .cont [.v 55] ())))))))))))))))))))))))
(.leaf (.yield 5) [] ())))) <|
(.lt none (.bin .add) [.v 12,.c (.int .i64 1)] 1 <|
(.leaf .cont [.v 20] ())))))))
(.leaf (.yield 3) [] ())))) <|
(.lt none (.bin .add) [.v 4,.c (.int .i64 1)] 1 <|
(.leaf .cont [.v 12] ())))))))
(.leaf (.yield 1) [] ())))) <|
(.leaf .ret [.c (.bool true)] ())))
def Qb1:Tm Unit :=
(.lt none .len [.v 1] 1 <|
(.bind 1
(.loop [.c (.rows 1 []),.c (.int .i64 0)]
(.lt none (.bin .lss) [.v 4,.v 2] 1 <|
(.ite (.v 5)
(.lt none .inb [.v 1,.v 4] 0 <|
(.lt none (.row 1 0 [false]) [.v 1,.v 4] 1 <|
(.lt none .len [.v 6] 1 <|
(.bind 3
(.loop [.v 3,.c (.int .i64 0)]
(.lt none (.bin .lss) [.v 9,.v 7] 1 <|
(.ite (.v 10)
(.bind 0
(.lt none .inb [.v 6,.v 9] 0 <|
(.lt none (.row 10 0 [true,true,true,true,true,true,true,true,true,false]) [.v 6,.v 9] 10 <|
(.lt none (.bin .eql) [.v 13,.c (.int .i64 3)] 1 <|
(.ite (.v 21)
(.lt none (.bin .add) [.v 9,.c (.int .i64 1)] 1 <|
(.lt none (.mk 1 2) [.v 4,.v 22] 1 <|
(.lt none (.mk 1 1) [.v 23] 1 <|
(.lt none (.app 1 24 false) [.v 8,.v 24] 1 <|
(.leaf (.yield 0) [.v 25] ())))))
(.leaf (.yield 0) [.v 8] ()))))) <|
(.lt none (.bin .add) [.v 9,.c (.int .i64 1)] 1 <|
(.leaf .cont [.v 11,.v 12] ())))
(.leaf (.yield 3) [.v 8] ())))) <|
(.lt none (.bin .add) [.v 4,.c (.int .i64 1)] 1 <|
(.leaf .cont [.v 8,.v 9] ()))))))
(.leaf (.yield 1) [.v 3] ())))) <|
(.leaf .ret [.v 3] ())))
def Qb0:Tm Unit :=
(.lt none .inb [.v 1,.v 2] 0 <|
(.lt none (.row 1 0 [false]) [.v 1,.v 2] 1 <|
(.lt none .len [.v 4] 1 <|
(.lt none (.bin .gtr) [.v 3,.v 5] 1 <|
(.ite (.v 6)
(.call none 43 [.v 0] 2 [] <|
(.leaf .ret [.c (.int .i64 0),.c (.int .i64 0),.c (.int .i64 0),.c (.int .i64 0),.c (.int .i64 0),.c (.int .i64 0),.c (.int .i64 0),.c (.int .i64 0),.v 7,.v 8] ()))
(.lt none .inb [.v 1,.v 2] 0 <|
(.lt none (.row 1 0 [false]) [.v 1,.v 2] 1 <|
(.lt none (.bin .sub) [.v 3,.c (.int .i64 1)] 1 <|
(.lt none .inb [.v 7,.v 8] 0 <|
(.lt none (.row 10 0 [true,true,true,true,true,true,true,true,true,false]) [.v 7,.v 8] 10 <|
(.call none 55 [.v 9,.v 10,.v 11,.v 12,.v 13,.v 14,.v 15,.v 16,.v 17,.v 18] 10 [] <|
(.leaf .ret [.v 19,.v 20,.v 21,.v 22,.v 23,.v 24,.v 25,.v 26,.v 27,.v 28] ()))))))))))))
def Qbz:Tm Unit :=
(.call none 56 [.v 8,.v 9] 2 [] <|
(.leaf .ret [.v 0,.v 1,.v 2,.v 3,.v 4,.v 5,.v 6,.v 7,.v 10,.v 11] ()))
def Qby:Tm Unit :=
(.call none 57 [.v 1] 1 [] <|
(.leaf .ret [.v 0,.v 2] ()))
def Qbx:Tm Unit :=
(.lt none (.mk 1 0) [] 1 <|
(.lt none (.app 1 8 true) [.v 1,.v 0] 1 <|
(.leaf .ret [.v 2] ())))
def Qbw:Tm Unit :=
(.lt none .len [.v 0] 1 <|
(.bind 1
(.loop [.c (.int .i64 0)]
(.lt none (.bin .lss) [.v 4,.v 3] 1 <|
(.ite (.v 5)
(.lt none .inb [.v 0,.v 4] 0 <|
(.lt none (.row 4 0 [true,true,false,false]) [.v 0,.v 4] 4 <|
(.call none 53 [.v 7,.v 8] 1 [] <|
(.lt none .len [.v 10] 1 <|
(.bind 3
(.loop [.c (.int .i64 0)]
(.lt none (.bin .lss) [.v 12,.v 11] 1 <|
(.ite (.v 13)
(.lt none .inb [.v 10,.v 12] 0 <|
(.lt none (.row 1 0 [false]) [.v 10,.v 12] 1 <|
(.lt none .inb [.v 14,.c (.int .i64 0)] 0 <|
(.lt none (.row 1 0 [true]) [.v 14,.c (.int .i64 0)] 1 <|
(.lt none .inb [.v 14,.c (.int .i64 1)] 0 <|
(.lt none (.row 1 0 [true]) [.v 14,.c (.int .i64 1)] 1 <|
(.call none 54 [.v 7,.v 8,.v 15,.v 16] 10 [] <|
(.lt none (.bin .eql) [.v 20,.c (.int .i64 0)] 1 <|
(.lt none .len [.v 2] 1 <|
(.bind 5
(.loop [.v 27,.c (.int .i64 0)]
(.lt none (.bin .lss) [.v 30,.v 28] 1 <|
(.ite (.v 31)
(.lt none .inb [.v 2,.v 30] 0 <|
(.lt none (.row 7 0 [true,true,true,true,true,true,true]) [.v 2,.v 30] 7 <|
(.lt (some (.v 29,false)) .id [.v 32] 1 <|
(.lt (some (.v 29,false)) .inb [.v 14,.c (.int .i64 0)] 0 <|
(.lt (some (.v 29,false)) (.row 1 0 [true]) [.v 14,.c (.int .i64 0)] 1 <|
(.lt (some (.v 29,false)) (.bin .eql) [.v 39,.v 40] 1 <|
(.lt (some (.v 29,false)) .id [.v 41] 1 <|
(.lt (some (.v 42,true)) .id [.v 33] 1 <|
(.lt (some (.v 42,true)) .inb [.v 14,.c (.int .i64 1)] 0 <|
(.lt (some (.v 42,true)) (.row 1 0 [true]) [.v 14,.c (.int .i64 1)] 1 <|
(.lt (some (.v 42,true)) (.bin .eql) [.v 43,.v 44] 1 <|
(.lt (some (.v 29,false)) .pick [.v 42,.v 45,.c (.bool false)] 1 <|
(.lt (some (.v 29,false)) .id [.v 46] 1 <|
(.lt (some (.v 47,true)) (.eqs [0,0,0,0,0]) [.v 34,.v 35,.v 36,.v 37,.v 38,.v 20,.v 21,.v 22,.v 23,.v 24] 1 <|
(.lt (some (.v 29,false)) .pick [.v 47,.v 48,.c (.bool false)] 1 <|
(.lt none .pick [.v 29,.c (.bool true),.v 49] 1 <|
(.lt none (.bin .add) [.v 30,.c (.int .i64 1)] 1 <|
(.leaf .cont [.v 50,.v 51] ()))))))))))))))))))
(.leaf (.yield 5) [.v 29] ())))) <|
(.lt none .not [.v 29] 1 <|
(.ite (.v 30)
(.leaf .ret [.c (.bool false)] ())
(.lt none (.bin .add) [.v 12,.c (.int .i64 1)] 1 <|
(.leaf .cont [.v 31] ()))))))))))))))
(.leaf (.yield 3) [] ())))) <|
(.lt none (.bin .add) [.v 4,.c (.int .i64 1)] 1 <|
(.leaf .cont [.v 12] ())))))))
(.leaf (.yield 1) [] ())))) <|
(.leaf .ret [.c (.bool true)] ())))
def Qbv:Tm Unit :=
(.lt none .len [.v 0] 1 <|
(.call none 60 [.v 3] 2 [] <|
(.lt none .len [.v 0] 1 <|
(.bind 1
(.loop [.c (.int .i64 0),.v 4,.v 5]
(.lt none (.bin .lss) [.v 7,.v 6] 1 <|
(.ite (.v 10)
(.lt none .inb [.v 0,.v 7] 0 <|
(.lt none (.row 4 0 [true,true,false,false]) [.v 0,.v 7] 4 <|
(.call none 53 [.v 12,.v 13] 1 [] <|
(.lt none .len [.v 15] 1 <|
(.bind 3
(.loop [.c (.int .i64 0),.v 8,.v 9]
(.lt none (.bin .lss) [.v 17,.v 16] 1 <|
(.ite (.v 20)
(.lt none .inb [.v 15,.v 17] 0 <|
(.lt none (.row 1 0 [false]) [.v 15,.v 17] 1 <|
(.lt none .inb [.v 21,.c (.int .i64 0)] 0 <|
(.lt none (.row 1 0 [true]) [.v 21,.c (.int .i64 0)] 1 <|
(.lt none .inb [.v 21,.c (.int .i64 1)] 0 <|
(.lt none (.row 1 0 [true]) [.v 21,.c (.int .i64 1)] 1 <|
(.call none 54 [.v 12,.v 13,.v 22,.v 23] 10 [] <|
(.lt none .inb [.v 21,.c (.int .i64 0)] 0 <|
(.lt none (.row 1 0 [true]) [.v 21,.c (.int .i64 0)] 1 <|
(.lt none .inb [.v 21,.c (.int .i64 1)] 0 <|
(.lt none (.row 1 0 [true]) [.v 21,.c (.int .i64 1)] 1 <|
(.call none 61 [.v 18,.v 19,.v 34,.v 35,.c (.int .i64 0),.c (.int .i64 0),.v 26,.v 27,.v 28,.v 29,.v 30,.v 31,.v 32,.v 33] 2 [] <|
(.lt none (.dep 99) [.v 37] 0 <|
(.lt none (.bin .add) [.v 17,.c (.int .i64 1)] 1 <|
(.leaf .cont [.v 38,.v 36,.v 37] ())))))))))))))))
(.leaf (.yield 3) [.v 18,.v 19] ())))) <|
(.lt none (.bin .add) [.v 7,.c (.int .i64 1)] 1 <|
(.leaf .cont [.v 19,.v 17,.v 18] ())))))))
(.leaf (.yield 1) [.v 8,.v 9] ())))) <|
(.leaf .ret [.v 7,.v 8] ())))))
def Qbu:Tm Unit :=
(.lt none (.make 24 [(.rows 10 [])]) [.v 0] 1 <|
(.leaf .ret [.v 0,.v 1] ()))
def Qbt:Tm Unit :=
(.call none 62 [.v 0,.v 1] 2 [] <|
(.bind 1
(.loop [.v 15]
(.lt none .inb [.v 16,.v 2] 0 <|
(.lt none (.row 1 0 [false]) [.v 16,.v 2] 1 <|
(.lt none .len [.v 17] 1 <|
(.lt none (.bin .lss) [.v 18,.v 3] 1 <|
(.ite (.v 19)
(.lt none .inb [.v 16,.v 2] 0 <|
(.lt none (.row 1 0 [false]) [.v 16,.v 2] 1 <|
(.call none 43 [.v 0] 2 [] <|
(.lt none (.mk 10 1) [.c (.int .i64 0),.c (.int .i64 0),.c (.int .i64 0),.c (.int .i64 0),.c (.int .i64 0),.c (.int .i64 0),.c (.int .i64 0),.c (.int .i64 0),.v 21,.v 22] 1 <|
(.lt none (.set 1 0 1) [.v 16,.v 2,.c .hole] 1 <|
(.lt none (.app 10 96 false) [.v 20,.v 23] 1 <|
(.lt none .inb [.v 24,.v 2] 0 <|
(.lt none (.set 1 0 1) [.v 24,.v 2,.v 25] 1 <|
(.leaf .cont [.v 26] ())))))))))
(.leaf (.yield 1) [.v 16] ()))))))) <|
(.lt none .inb [.v 16,.v 2] 0 <|
(.lt none (.row 1 0 [false]) [.v 16,.v 2] 1 <|
(.lt none (.bin .sub) [.v 3,.c (.int .i64 1)] 1 <|
(.call none 55 [.v 4,.v 5,.v 6,.v 7,.v 8,.v 9,.v 10,.v 11,.v 12,.v 13] 10 [] <|
(.lt none .inb [.v 17,.v 18] 0 <|
(.lt none (.set 10 0 10) [.v 17,.v 18,.v 19,.v 20,.v 21,.v 22,.v 23,.v 24,.v 25,.v 26,.v 27,.v 28] 1 <|
(.lt none (.set 1 0 1) [.v 16,.v 2,.v 29] 1 <|
(.leaf .ret [.v 14,.v 30] ()))))))))))
def Qbs:Tm Unit :=
(.call none 60 [.v 0] 2 [] <|
(.lt none .len [.v 1] 1 <|
(.bind 1
(.loop [.c (.int .i64 0),.v 3]
(.lt none (.bin .lss) [.v 5,.v 4] 1 <|
(.ite (.v 7)
(.lt none .inb [.v 1,.v 5] 0 <|
(.lt none (.row 1 0 [false]) [.v 1,.v 5] 1 <|
(.lt none .len [.v 8] 1 <|
(.bind 3
(.loop [.c (.int .i64 0),.v 6]
(.lt none (.bin .lss) [.v 10,.v 9] 1 <|
(.ite (.v 12)
(.lt none .inb [.v 8,.v 10] 0 <|
(.lt none (.row 10 0 [true,true,true,true,true,true,true,true,true,false]) [.v 8,.v 10] 10 <|
(.lt none .inb [.v 11,.v 5] 0 <|
(.lt none (.row 1 0 [false]) [.v 11,.v 5] 1 <|
(.call none 55 [.v 13,.v 14,.v 15,.v 16,.v 17,.v 18,.v 19,.v 20,.v 21,.v 22] 10 [] <|
(.lt none (.mk 10 1) [.v 24,.v 25,.v 26,.v 27,.v 28,.v 29,.v 30,.v 31,.v 32,.v 33] 1 <|
(.lt none (.set 1 0 1) [.v 11,.v 5,.c .hole] 1 <|
(.lt none (.app 10 96 false) [.v 23,.v 34] 1 <|
(.lt none .inb [.v 35,.v 5] 0 <|
(.lt none (.set 1 0 1) [.v 35,.v 5,.v 36] 1 <|
(.lt none (.bin .add) [.v 10,.c (.int .i64 1)] 1 <|
(.leaf .cont [.v 38,.v 37] ()))))))))))))
(.leaf (.yield 3) [.v 11] ())))) <|
(.lt none (.bin .add) [.v 5,.c (.int .i64 1)] 1 <|
(.leaf .cont [.v 11,.v 10] ()))))))
(.leaf (.yield 1) [.v 6] ())))) <|
(.leaf .ret [.v 2,.v 5] ()))))
def Qbr:Tm Unit :=
(.call none 53 [.v 0,.v 1] 1 [] <|
(.lt none .len [.v 2] 1 <|
(.bind 1
(.loop [.c (.int .i64 0)]
(.lt none (.bin .lss) [.v 4,.v 3] 1 <|
(.ite (.v 5)
(.lt none .inb [.v 2,.v 4] 0 <|
(.lt none (.row 1 0 [false]) [.v 2,.v 4] 1 <|
(.lt none (.sub 1 false) [.v 2,.c (.int .i64 0),.v 4] 1 <|
(.lt none .len [.v 7] 1 <|
(.bind 3
(.loop [.c (.int .i64 0)]
(.lt none (.bin .lss) [.v 9,.v 8] 1 <|
(.ite (.v 10)
(.lt none .inb [.v 7,.v 9] 0 <|
(.lt none (.row 1 0 [false]) [.v 7,.v 9] 1 <|
(.lt none .inb [.v 11,.c (.int .i64 0)] 0 <|
(.lt none (.row 1 0 [true]) [.v 11,.c (.int .i64 0)] 1 <|
(.lt none .inb [.v 11,.c (.int .i64 1)] 0 <|
(.lt none (.row 1 0 [true]) [.v 11,.c (.int .i64 1)] 1 <|
(.call none 54 [.v 0,.v 1,.v 12,.v 13] 10 [] <|
(.lt none .inb [.v 6,.c (.int .i64 0)] 0 <|
(.lt none (.row 1 0 [true]) [.v 6,.c (.int .i64 0)] 1 <|
(.lt none .inb [.v 6,.c (.int .i64 1)] 0 <|
(.lt none (.row 1 0 [true]) [.v 6,.c (.int .i64 1)] 1 <|
(.call none 54 [.v 0,.v 1,.v 24,.v 25] 10 [] <|
(.call none 64 [.v 17,.v 18,.v 19,.v 20,.v 21,.v 29,.v 30,.v 31,.v 32,.v 33] 1 [] <|
(.lt (some (.v 36,true)) .inb [.v 6,.c (.int .i64 1)] 0 <|
(.lt (some (.v 36,true)) (.row 1 0 [true]) [.v 6,.c (.int .i64 1)] 1 <|
(.lt (some (.v 36,true)) .inb [.v 6,.c (.int .i64 0)] 0 <|
(.lt (some (.v 36,true)) (.row 1 0 [true]) [.v 6,.c (.int .i64 0)] 1 <|
(.lt (some (.v 36,true)) .inb [.v 23,.v 38] 0 <|
(.lt (some (.v 36,true)) (.row 1 0 [true]) [.v 23,.v 38] 1 <|
(.lt (some (.v 36,true)) (.bin .gtr) [.v 37,.v 39] 1 <|
(.lt none .pick [.v 36,.v 40,.c (.bool false)] 1 <|
(.lt (some (.v 41,true)) .inb [.v 11,.c (.int .i64 1)] 0 <|
(.lt (some (.v 41,true)) (.row 1 0 [true]) [.v 11,.c (.int .i64 1)] 1 <|
(.lt (some (.v 41,true)) .inb [.v 11,.c (.int .i64 0)] 0 <|
(.lt (some (.v 41,true)) (.row 1 0 [true]) [.v 11,.c (.int .i64 0)] 1 <|
(.lt (some (.v 41,true)) .inb [.v 35,.v 43] 0 <|
(.lt (some (.v 41,true)) (.row 1 0 [true]) [.v 35,.v 43] 1 <|
(.lt (some (.v 41,true)) (.bin .gtr) [.v 42,.v 44] 1 <|
(.lt none .pick [.v 41,.v 45,.c (.bool false)] 1 <|
(.ite (.v 46)
(.leaf .ret [.c (.bool false)] ())
(.lt none (.bin .add) [.v 9,.c (.int .i64 1)] 1 <|
(.leaf .cont [.v 47] ()))))))))))))))))))))))))))))))))
(.leaf (.yield 3) [] ())))) <|
(.lt none (.bin .add) [.v 4,.c (.int .i64 1)] 1 <|
(.leaf .cont [.v 9] ())))))))
(.leaf (.yield 1) [] ())))) <|
(.leaf .ret [.c (.bool true)] ()))))
def Qbq:Tm Unit :=
(.call none 65 [.v 0,.v 1,.v 2,.v 3,.v 4] 1 [] <|
(.lt none .len [.v 10] 1 <|
(.bind 1
(.loop [.c (.int .i64 0)]
(.lt none (.bin .lss) [.v 12,.v 11] 1 <|
(.ite (.v 13)
(.lt none .inb [.v 10,.v 12] 0 <|
(.lt none (.row 1 0 [true]) [.v 10,.v 12] 1 <|
(.call none 65 [.v 5,.v 6,.v 7,.v 8,.v 9] 1 [] <|
(.call none 50 [.v 15,.v 14] 1 [] <|
(.ite (.v 16)
(.leaf .ret [.c (.bool true)] ())
(.lt none (.bin .add) [.v 12,.c (.int .i64 1)] 1 <|
(.leaf .cont [.v 17] ())))))))
(.leaf (.yield 1) [] ())))) <|
(.leaf .ret [.c (.bool false)] ()))))
def Qbp:Tm Unit :=
(.lt none (.bin .eql) [.v 0,.c (.int .i64 1)] 1 <|
(.ite (.v 5)
(.lt none (.mk 1 1) [.v 2] 1 <|
(.call none 66 [.v 6,.v 3] 1 [] <|
(.leaf .ret [.v 7] ())))
(.lt none (.bin .eql) [.v 0,.c (.int .i64 2)] 1 <|
(.ite (.v 6)
(.lt none (.mk 1 1) [.v 2] 1 <|
(.leaf .ret [.v 7] ()))
(.leaf .ret [.c (.rows 1 [])] ())))))
def Qbo:Tm Unit :=
(.bind 1
(.loop [.c (.int .i64 0)]
(.lt none .len [.v 0] 1 <|
(.lt none (.bin .lss) [.v 2,.v 3] 1 <|
(.lt (some (.v 4,true)) .id [.v 2] 1 <|
(.lt (some (.v 4,true)) .inb [.v 0,.v 5] 0 <|
(.lt (some (.v 4,true)) (.row 1 0 [true]) [.v 0,.v 5] 1 <|
(.lt (some (.v 4,true)) .id [.v 1] 1 <|
(.lt (some (.v 4,true)) (.bin .lss) [.v 6,.v 7] 1 <|
(.lt none .pick [.v 4,.v 8,.c (.bool false)] 1 <|
(.ite (.v 9)
(.lt none (.bin .add) [.v 2,.c (.int .i64 1)] 1 <|
(.leaf .cont [.v 10] ()))
(.leaf (.yield 1) [.v 2] ()))))))))))) <|
(.lt none .len [.v 0] 1 <|
(.lt none (.bin .lss) [.v 2,.v 3] 1 <|
(.lt (some (.v 4,true)) .id [.v 2] 1 <|
(.lt (some (.v 4,true)) .inb [.v 0,.v 5] 0 <|
(.lt (some (.v 4,true)) (.row 1 0 [true]) [.v 0,.v 5] 1 <|
(.lt (some (.v 4,true)) .id [.v 1] 1 <|
(.lt (some (.v 4,true)) (.bin .eql) [.v 6,.v 7] 1 <|
(.lt none .pick [.v 4,.v 8,.c (.bool false)] 1 <|
(.ite (.v 9)
(.leaf .ret [.v 0] ())
(.lt none (.mk 1 0) [] 1 <|
(.lt none (.sub 1 false) [.v 0,.c (.int .i64 0),.v 2] 1 <|
(.lt none (.app 1 8 true) [.v 10,.v 11] 1 <|
(.lt none (.mk 1 1) [.v 1] 1 <|
(.lt none (.app 1 8 true) [.v 12,.v 13] 1 <|
(.lt none .len [.v 0] 1 <|
(.lt none (.sub 1 false) [.v 0,.v 2,.v 15] 1 <|
(.lt none (.app 1 8 true) [.v 14,.v 16] 1 <|
(.leaf .ret [.v 17] ())))))))))))))))))))
def Qbn:Tm Unit :=
(.call none 59 [.v 0,.v 1,.v 2] 2 [] <|
(.lt none .len [.v 0] 1 <|
(.bind 1
(.loop [.c (.int .i64 0)]
(.lt none (.bin .lss) [.v 6,.v 5] 1 <|
(.ite (.v 7)
(.lt none .inb [.v 0,.v 6] 0 <|
(.lt none (.row 4 0 [true,true,false,false]) [.v 0,.v 6] 4 <|
(.lt none (.sub 4 false) [.v 0,.c (.int .i64 0),.v 6] 1 <|
(.lt none .len [.v 12] 1 <|
(.bind 3
(.loop [.c (.int .i64 0)]
(.lt none (.bin .lss) [.v 14,.v 13] 1 <|
(.ite (.v 15)
(.lt none .inb [.v 12,.v 14] 0 <|
(.lt none (.row 4 0 [true,true,false,false]) [.v 12,.v 14] 4 <|
(.call none 68 [.v 9,.v 10] 1 [] <|
(.call none 68 [.v 17,.v 18] 1 [] <|
(.call none 80 [.v 20,.v 21,.v 3,.v 4] 2 [] <|
(.lt none .not [.v 22] 1 <|
(.lt (some (.v 24,false)) .id [.v 23] 1 <|
(.lt (some (.v 24,false)) .not [.v 25] 1 <|
(.lt none .pick [.v 24,.c (.bool true),.v 26] 1 <|
(.ite (.v 27)
(.leaf .ret [.c (.bool false)] ())
(.lt none (.bin .add) [.v 14,.c (.int .i64 1)] 1 <|
(.leaf .cont [.v 28] ()))))))))))))
(.leaf (.yield 3) [] ())))) <|
(.lt none (.bin .add) [.v 6,.c (.int .i64 1)] 1 <|
(.leaf .cont [.v 14] ())))))))
(.leaf (.yield 1) [] ())))) <|
(.leaf .ret [.c (.bool true)] ()))))
def Qbm:Tm Unit :=
(.call none 69 [.v 0,.v 1] 1 [] <|
(.call none 62 [.v 0,.v 1] 2 [] <|
(.lt none .len [.v 4] 1 <|
(.bind 1
(.loop [.c (.int .i64 0),.v 4]
(.lt none (.bin .lss) [.v 6,.v 5] 1 <|
(.ite (.v 8)
(.lt none .inb [.v 7,.v 6] 0 <|
(.lt none (.row 1 0 [false]) [.v 7,.v 6] 1 <|
(.lt none .len [.v 9] 1 <|
(.bind 3
(.loop [.c (.int .i64 0),.v 7]
(.lt none (.bin .lss) [.v 11,.v 10] 1 <|
(.ite (.v 13)
(.bind 0
(.lt none (.bin .add) [.v 11,.c (.int .i64 1)] 1 <|
(.lt none (.mk 1 2) [.v 6,.v 14] 1 <|
(.call none 72 [.v 2,.v 15] 1 [] <|
(.lt none (.bin .lss) [.v 16,.c (.int .i64 0)] 1 <|
(.ite (.v 17)
(.lt none .inb [.v 12,.v 6] 0 <|
(.lt none (.row 1 0 [false]) [.v 12,.v 6] 1 <|
(.call none 43 [.v 0] 2 [] <|
(.lt none .inb [.v 18,.v 11] 0 <|
(.lt none (.set 10 0 10) [.v 18,.v 11,.c (.int .i64 0),.c (.int .i64 0),.c (.int .i64 0),.c (.int .i64 0),.c (.int .i64 0),.c (.int .i64 0),.c (.int .i64 0),.c (.int .i64 0),.v 19,.v 20] 1 <|
(.lt none (.set 1 0 1) [.v 12,.v 6,.v 21] 1 <|
(.leaf (.yield 0) [.v 22] ())))))))
(.leaf (.yield 0) [.v 12] ())))))) <|
(.lt none (.bin .add) [.v 11,.c (.int .i64 1)] 1 <|
(.leaf .cont [.v 15,.v 14] ())))
(.leaf (.yield 3) [.v 12] ())))) <|
(.lt none (.bin .add) [.v 6,.c (.int .i64 1)] 1 <|
(.leaf .cont [.v 12,.v 11] ()))))))
(.leaf (.yield 1) [.v 7] ())))) <|
(.call none 74 [.v 3,.v 6] 2 [] <|
(.lt none (.dep 99) [.v 7] 0 <|
(.lt none .len [.v 7] 1 <|
(.bind 5
(.loop [.c (.rows 1 []),.c (.int .i64 0)]
(.lt none (.bin .lss) [.v 11,.v 9] 1 <|
(.ite (.v 12)
(.lt none .inb [.v 7,.v 11] 0 <|
(.lt none (.row 1 0 [false]) [.v 7,.v 11] 1 <|
(.lt none .inb [.v 13,.c (.int .i64 0)] 0 <|
(.lt none (.row 1 0 [true]) [.v 13,.c (.int .i64 0)] 1 <|
(.lt none .inb [.v 13,.c (.int .i64 1)] 0 <|
(.lt none (.row 1 0 [true]) [.v 13,.c (.int .i64 1)] 1 <|
(.call none 54 [.v 0,.v 1,.v 14,.v 15] 10 [] <|
(.lt none (.bin .mul) [.c (.int .i64 100),.v 24] 1 <|
(.lt none .inb [.v 13,.c (.int .i64 0)] 0 <|
(.lt none (.row 1 0 [true]) [.v 13,.c (.int .i64 0)] 1 <|
(.lt none (.bin .mul) [.c (.int .i64 10),.v 27] 1 <|
(.lt none (.bin .add) [.v 26,.v 28] 1 <|
(.lt none .inb [.v 13,.c (.int .i64 1)] 0 <|
(.lt none (.row 1 0 [true]) [.v 13,.c (.int .i64 1)] 1 <|
(.lt none (.bin .add) [.v 29,.v 30] 1 <|
(.lt none (.mk 1 1) [.v 31] 1 <|
(.lt none (.app 1 8 true) [.v 10,.v 32] 1 <|
(.lt none (.bin .add) [.v 11,.c (.int .i64 1)] 1 <|
(.leaf .cont [.v 33,.v 34] ())))))))))))))))))))
(.leaf (.yield 5) [.v 10] ())))) <|
(.call none 75 [.v 8,.v 10] 1 [] <|
(.lt none (.dep 99) [.v 11] 0 <|
(.lt none .len [.v 11] 1 <|
(.bind 7
(.loop [.v 7,.c (.rows 1 []),.c (.int .i64 0)]
(.lt none (.bin .lss) [.v 15,.v 12] 1 <|
(.ite (.v 16)
(.lt none .inb [.v 11,.v 15] 0 <|
(.lt none (.row 1 0 [true]) [.v 11,.v 15] 1 <|
(.lt none .inb [.v 13,.v 17] 0 <|
(.lt none (.row 1 0 [false]) [.v 13,.v 17] 1 <|
(.lt none (.mk 1 1) [.v 18] 1 <|
(.lt none (.app 1 24 false) [.v 14,.v 19] 1 <|
(.lt none (.bin .add) [.v 15,.c (.int .i64 1)] 1 <|
(.leaf .cont [.v 13,.v 20,.v 21] ()))))))))
(.leaf (.yield 7) [.v 14] ())))) <|
(.leaf .ret [.v 13] ())))))))))))))
def Qbl:Tm Unit :=
(.call none 53 [.v 0,.v 1] 1 [] <|
(.lt none .len [.v 2] 1 <|
(.bind 1
(.loop [.c (.rows 1 []),.v 2,.c (.int .i64 0)]
(.lt none (.bin .lss) [.v 6,.v 3] 1 <|
(.ite (.v 7)
(.bind 0
(.lt none .inb [.v 5,.v 6] 0 <|
(.lt none (.row 1 0 [false]) [.v 5,.v 6] 1 <|
(.lt none .inb [.v 8,.c (.int .i64 0)] 0 <|
(.lt none (.row 1 0 [true]) [.v 8,.c (.int .i64 0)] 1 <|
(.lt none .inb [.v 8,.c (.int .i64 1)] 0 <|
(.lt none (.row 1 0 [true]) [.v 8,.c (.int .i64 1)] 1 <|
(.call none 70 [.v 0,.v 1,.v 9,.v 10] 1 [] <|
(.lt none .len [.v 11] 1 <|
(.lt none (.bin .eql) [.v 12,.c (.int .i64 0)] 1 <|
(.ite (.v 13)
(.lt none (.mk 1 1) [.v 8] 1 <|
(.lt none (.app 1 24 false) [.v 4,.v 14] 1 <|
(.leaf (.yield 0) [.v 15] ())))
(.leaf (.yield 0) [.v 4] ()))))))))))) <|
(.lt none (.bin .add) [.v 6,.c (.int .i64 1)] 1 <|
(.leaf .cont [.v 8,.v 5,.v 9] ())))
(.leaf (.yield 1) [.v 4] ())))) <|
(.leaf .ret [.v 4] ()))))
def Qbk:Tm Unit :=
(.lt none (.mk 1 2) [.v 2,.v 3] 1 <|
(.lt none (.mk 1 1) [.v 4] 1 <|
(.bind 1
(.loop [.v 5,.c (.rows 1 []),.c (.int .i64 0)]
(.lt none .len [.v 6] 1 <|
(.lt none (.bin .lss) [.v 8,.v 9] 1 <|
(.ite (.v 10)
(.lt none .inb [.v 6,.v 8] 0 <|
(.lt none (.row 1 0 [false]) [.v 6,.v 8] 1 <|
(.lt none .inb [.v 11,.c (.int .i64 0)] 0 <|
(.lt none (.row 1 0 [true]) [.v 11,.c (.int .i64 0)] 1 <|
(.lt none .inb [.v 6,.v 8] 0 <|
(.lt none (.row 1 0 [false]) [.v 6,.v 8] 1 <|
(.lt none .inb [.v 13,.c (.int .i64 1)] 0 <|
(.lt none (.row 1 0 [true]) [.v 13,.c (.int .i64 1)] 1 <|
(.call none 71 [.v 0,.v 1,.v 12,.v 14] 1 [] <|
(.lt none .len [.v 15] 1 <|
(.bind 3
(.loop [.v 6,.v 7,.v 15,.c (.int .i64 0)]
(.lt none (.bin .lss) [.v 20,.v 16] 1 <|
(.ite (.v 21)
(.bind 4
(.lt none .inb [.v 19,.v 20] 0 <|
(.lt none (.row 1 0 [false]) [.v 19,.v 20] 1 <|
(.call none 72 [.v 17,.v 22] 1 [] <|
(.lt none (.bin .geq) [.v 23,.c (.int .i64 0)] 1 <|
(.call (some (.v 24,false)) 72 [.v 18,.v 22] 1 [] <|
(.lt (some (.v 24,false)) (.bin .geq) [.v 25,.c (.int .i64 0)] 1 <|
(.lt none .pick [.v 24,.c (.bool true),.v 26] 1 <|
(.ite (.v 27)
(.leaf (.yield 4) [.v 17,.v 18,.c .undef,.c .undef] ())
(.lt none .inb [.v 22,.c (.int .i64 0)] 0 <|
(.lt none (.row 1 0 [true]) [.v 22,.c (.int .i64 0)] 1 <|
(.lt none .inb [.v 22,.c (.int .i64 1)] 0 <|
(.lt none (.row 1 0 [true]) [.v 22,.c (.int .i64 1)] 1 <|
(.call none 54 [.v 0,.v 1,.v 28,.v 29] 10 [] <|
(.lt none (.bin .eql) [.v 32,.c (.int .i64 3)] 1 <|
(.ite (.v 40)
(.lt none (.mk 1 1) [.v 22] 1 <|
(.lt none (.app 1 24 false) [.v 17,.v 41] 1 <|
(.leaf (.yield 4) [.v 42,.v 18,.c .undef,.c .undef] ())))
(.call none 73 [.v 18,.v 22] 1 [] <|
(.leaf (.yield 4) [.v 17,.v 41,.c .undef,.c .undef] ()))))))))))))))))) <|
(.lt none (.bin .add) [.v 20,.c (.int .i64 1)] 1 <|
(.leaf .cont [.v 22,.v 23,.v 19,.v 26] ())))
(.leaf (.yield 3) [.v 17,.v 18] ())))) <|
(.lt none (.bin .add) [.v 8,.c (.int .i64 1)] 1 <|
(.leaf .cont [.v 17,.v 18,.v 19] ())))))))))))))
(.leaf (.yield 1) [.v 7] ()))))) <|
(.leaf .ret [.v 6] ()))))
def Qbj:Tm Unit :=
(.call none 54 [.v 0,.v 1,.v 2,.v 3] 10 [] <|
(.lt none .len [.v 13] 1 <|
(.bind 1
(.loop [.c (.rows 1 []),.c (.int .i64 0)]
(.lt none (.bin .lss) [.v 16,.v 14] 1 <|
(.ite (.v 17)
(.lt none .inb [.v 13,.v 16] 0 <|
(.lt none (.row 1 0 [true]) [.v 13,.v 16] 1 <|
(.bind 3
(.loop [.v 15,.c (.int .i64 1)]
(.lt none (.bin .leq) [.v 20,.v 18] 1 <|
(.ite (.v 21)
(.bind 0
(.lt none (.bin .neq) [.v 16,.v 2] 1 <|
(.lt (some (.v 22,false)) .id [.v 20] 1 <|
(.lt (some (.v 22,false)) .id [.v 3] 1 <|
(.lt (some (.v 22,false)) (.bin .neq) [.v 23,.v 24] 1 <|
(.lt none .pick [.v 22,.c (.bool true),.v 25] 1 <|
(.ite (.v 26)
(.lt none (.mk 1 2) [.v 16,.v 20] 1 <|
(.lt none (.mk 1 1) [.v 27] 1 <|
(.lt none (.app 1 24 false) [.v 19,.v 28] 1 <|
(.leaf (.yield 0) [.v 29,.c .undef,.c .undef,.c .undef] ()))))
(.leaf (.yield 0) [.v 19,.c .undef,.c .undef,.c .undef] ()))))))) <|
(.lt none (.bin .add) [.v 20,.c (.int .i64 1)] 1 <|
(.leaf .cont [.v 22,.v 26] ())))
(.leaf (.yield 3) [.v 19] ())))) <|
(.lt none (.bin .add) [.v 16,.c (.int .i64 1)] 1 <|
(.leaf .cont [.v 19,.v 20] ())))))
(.leaf (.yield 1) [.v 15] ())))) <|
(.leaf .ret [.v 15] ()))))
def Qbi:Tm Unit :=
(.lt none .len [.v 0] 1 <|
(.bind 1
(.loop [.c (.int .i64 0)]
(.lt none (.bin .lss) [.v 3,.v 2] 1 <|
(.ite (.v 4)
(.lt none .inb [.v 0,.v 3] 0 <|
(.lt none (.row 1 0 [false]) [.v 0,.v 3] 1 <|
(.call none 45 [.v 1,.v 5] 1 [] <|
(.ite (.v 6)
(.leaf .ret [.v 3] ())
(.lt none (.bin .add) [.v 3,.c (.int .i64 1)] 1 <|
(.leaf .cont [.v 7] ()))))))
(.leaf (.yield 1) [] ())))) <|
(.leaf .ret [.c (.int .i64 (-1))] ())))
def Qbh:Tm Unit :=
(.lt none .len [.v 0] 1 <|
(.bind 1
(.loop [.v 2]
(.lt none (.bin .gtr) [.v 3,.c (.int .i64 0)] 1 <|
(.lt (some (.v 4,true)) .id [.v 3] 1 <|
(.lt (some (.v 4,true)) (.bin .sub) [.v 5,.c (.int .i64 1)] 1 <|
(.lt (some (.v 4,true)) .inb [.v 0,.v 6] 0 <|
(.lt (some (.v 4,true)) (.row 1 0 [false]) [.v 0,.v 6] 1 <|
(.lt (some (.v 4,true)) .inb [.v 7,.c (.int .i64 0)] 0 <|
(.lt (some (.v 4,true)) (.row 1 0 [true]) [.v 7,.c (.int .i64 0)] 1 <|
(.lt (some (.v 4,true)) .inb [.v 1,.c (.int .i64 0)] 0 <|
(.lt (some (.v 4,true)) (.row 1 0 [true]) [.v 1,.c (.int .i64 0)] 1 <|
(.lt (some (.v 4,true)) (.bin .gtr) [.v 8,.v 9] 1 <|
(.lt (some (.v 4,true)) .id [.v 10] 1 <|
(.lt (some (.v 11,false)) .id [.v 3] 1 <|
(.lt (some (.v 11,false)) (.bin .sub) [.v 12,.c (.int .i64 1)] 1 <|
(.lt (some (.v 11,false)) .inb [.v 0,.v 13] 0 <|
(.lt (some (.v 11,false)) (.row 1 0 [false]) [.v 0,.v 13] 1 <|
(.lt (some (.v 11,false)) .inb [.v 14,.c (.int .i64 0)] 0 <|
(.lt (some (.v 11,false)) (.row 1 0 [true]) [.v 14,.c (.int .i64 0)] 1 <|
(.lt (some (.v 11,false)) .inb [.v 1,.c (.int .i64 0)] 0 <|
(.lt (some (.v 11,false)) (.row 1 0 [true]) [.v 1,.c (.int .i64 0)] 1 <|
(.lt (some (.v 11,false)) (.bin .eql) [.v 15,.v 16] 1 <|
(.lt (some (.v 11,false)) .id [.v 17] 1 <|
(.lt (some (.v 18,true)) .id [.v 3] 1 <|
(.lt (some (.v 18,true)) (.bin .sub) [.v 19,.c (.int .i64 1)] 1 <|
(.lt (some (.v 18,true)) .inb [.v 0,.v 20] 0 <|
(.lt (some (.v 18,true)) (.row 1 0 [false]) [.v 0,.v 20] 1 <|
(.lt (some (.v 18,true)) .inb [.v 21,.c (.int .i64 1)] 0 <|
(.lt (some (.v 18,true)) (.row 1 0 [true]) [.v 21,.c (.int .i64 1)] 1 <|
(.lt (some (.v 18,true)) .inb [.v 1,.c (.int .i64 1)] 0 <|
(.lt (some (.v 18,true)) (.row 1 0 [true]) [.v 1,.c (.int .i64 1)] 1 <|
(.lt (some (.v 18,true)) (.bin .gtr) [.v 22,.v 23] 1 <|
(.lt (some (.v 11,false)) .pick [.v 18,.v 24,.c (.bool false)] 1 <|
(.lt (some (.v 4,true)) .pick [.v 11,.c (.bool true),.v 25] 1 <|
(.lt none .pick [.v 4,.v 26,.c (.bool false)] 1 <|
(.ite (.v 27)
(.lt none (.bin .sub) [.v 3,.c (.int .i64 1)] 1 <|
(.leaf .cont [.v 28] ()))
(.leaf (.yield 1) [.v 3] ())))))))))))))))))))))))))))))))))))) <|
(.lt none (.mk 1 0) [] 1 <|
(.lt none .len [.v 0] 1 <|
(.lt none (.sub 1 false) [.v 0,.v 3,.v 5] 1 <|
(.lt none (.app 1 24 false) [.v 4,.v 6] 1 <|
(.lt none (.mk 1 0) [] 1 <|
(.lt none (.sub 1 false) [.v 0,.c (.int .i64 0),.v 3] 1 <|
(.lt none (.app 1 24 false) [.v 8,.v 9] 1 <|
(.lt none (.mk 1 1) [.v 1] 1 <|
(.lt none (.app 1 24 false) [.v 10,.v 11] 1 <|
(.lt none (.app 1 24 false) [.v 12,.v 7] 1 <|
(.leaf .ret [.v 13] ())))))))))))))
def Qbg:Tm Unit :=
(.call none 53 [.v 0,.v 1] 1 [] <|
(.lt none .len [.v 2] 1 <|
(.bind 1
(.loop [.c (.rows 1 []),.c (.int .i64 0)]
(.lt none (.bin .lss) [.v 5,.v 3] 1 <|
(.ite (.v 6)
(.lt none .inb [.v 2,.v 5] 0 <|
(.lt none (.row 1 0 [false]) [.v 2,.v 5] 1 <|
(.lt none .inb [.v 7,.c (.int .i64 0)] 0 <|
(.lt none (.row 1 0 [true]) [.v 7,.c (.int .i64 0)] 1 <|
(.lt none .inb [.v 7,.c (.int .i64 1)] 0 <|
(.lt none (.row 1 0 [true]) [.v 7,.c (.int .i64 1)] 1 <|
(.call none 71 [.v 0,.v 1,.v 8,.v 9] 1 [] <|
(.lt none .len [.v 10] 1 <|
(.bind 3
(.loop [.c (.rows 1 []),.c (.int .i64 0)]
(.lt none (.bin .lss) [.v 13,.v 11] 1 <|
(.ite (.v 14)
(.bind 0
(.lt none .inb [.v 10,.v 13] 0 <|
(.lt none (.row 1 0 [false]) [.v 10,.v 13] 1 <|
(.call none 72 [.v 2,.v 15] 1 [] <|
(.lt none (.bin .geq) [.v 16,.c (.int .i64 0)] 1 <|
(.ite (.v 17)
(.call none 66 [.v 12,.v 16] 1 [] <|
(.leaf (.yield 0) [.v 18] ()))
(.leaf (.yield 0) [.v 12] ())))))) <|
(.lt none (.bin .add) [.v 13,.c (.int .i64 1)] 1 <|
(.leaf .cont [.v 15,.v 16] ())))
(.leaf (.yield 3) [.v 12] ())))) <|
(.lt none (.mk 1 1) [.v 12] 1 <|
(.lt none (.app 1 24 false) [.v 4,.v 13] 1 <|
(.lt none (.bin .add) [.v 5,.c (.int .i64 1)] 1 <|
(.leaf .cont [.v 14,.v 15] ())))))))))))))
(.leaf (.yield 1) [.v 4] ())))) <|
(.leaf .ret [.v 2,.v 4] ()))))
def Qbf:Tm Unit :=
(.call none 76 [.v 0] 1 [] <|
(.lt none .len [.v 2] 1 <|
(.bind 1
(.loop [.c (.rows 1 []),.c (.int .i64 0)]
(.lt none (.bin .lss) [.v 5,.v 3] 1 <|
(.ite (.v 6)
(.lt none .inb [.v 2,.v 5] 0 <|
(.lt none (.row 1 0 [false]) [.v 2,.v 5] 1 <|
(.call none 79 [.v 7,.v 1] 1 [] <|
(.lt none (.app 1 8 true) [.v 4,.v 8] 1 <|
(.lt none (.bin .add) [.v 5,.c (.int .i64 1)] 1 <|
(.leaf .cont [.v 9,.v 10] ()))))))
(.leaf (.yield 1) [.v 4] ())))) <|
(.leaf .ret [.v 4] ()))))
def Qbe:Tm Unit :=
(.call none 77 [.v 0] 1 [] <|
(.bind 1
(.loop [.v 1,.c (.rows 1 [])]
(.lt none .len [.v 2] 1 <|
(.lt none (.bin .gtr) [.v 4,.c (.int .i64 0)] 1 <|
(.ite (.v 5)
(.lt none .len [.v 2] 1 <|
(.bind 3
(.loop [.c (.int .i64 0)]
(.lt none (.bin .lss) [.v 7,.v 6] 1 <|
(.ite (.v 8)
(.lt none .inb [.v 2,.v 7] 0 <|
(.lt none (.row 1 0 [false]) [.v 2,.v 7] 1 <|
(.lt none .len [.v 9] 1 <|
(.bind 5
(.loop [.c (.bool true),.c (.int .i64 0)]
(.lt none (.bin .lss) [.v 12,.v 10] 1 <|
(.ite (.v 13)
(.lt none .inb [.v 9,.v 12] 0 <|
(.lt none (.row 1 0 [true]) [.v 9,.v 12] 1 <|
(.lt none .len [.v 2] 1 <|
(.bind 7
(.loop [.v 11,.c (.int .i64 0)]
(.lt none (.bin .lss) [.v 17,.v 15] 1 <|
(.ite (.v 18)
(.lt none .inb [.v 2,.v 17] 0 <|
(.lt none (.row 1 0 [false]) [.v 2,.v 17] 1 <|
(.lt none .len [.v 19] 1 <|
(.bind 9
(.loop [.v 16,.c (.int .i64 0)]
(.lt none (.bin .lss) [.v 22,.v 20] 1 <|
(.ite (.v 23)
(.lt none .inb [.v 19,.v 22] 0 <|
(.lt none (.row 1 0 [true]) [.v 19,.v 22] 1 <|
(.lt (some (.v 21,true)) .id [.v 17] 1 <|
(.lt (some (.v 21,true)) .id [.v 7] 1 <|
(.lt (some (.v 21,true)) (.bin .eql) [.v 25,.v 26] 1 <|
(.lt (some (.v 21,true)) .id [.v 27] 1 <|
(.lt (some (.v 28,false)) .id [.v 14] 1 <|
(.lt (some (.v 28,false)) .inb [.v 0,.v 29] 0 <|
(.lt (some (.v 28,false)) (.row 1 0 [false]) [.v 0,.v 29] 1 <|
(.lt (some (.v 28,false)) .id [.v 24] 1 <|
(.call (some (.v 28,false)) 50 [.v 30,.v 31] 1 [] <|
(.lt (some (.v 28,false)) .not [.v 32] 1 <|
(.lt (some (.v 21,true)) .pick [.v 28,.c (.bool true),.v 33] 1 <|
(.lt none .pick [.v 21,.v 34,.c (.bool false)] 1 <|
(.lt none (.bin .add) [.v 22,.c (.int .i64 1)] 1 <|
(.leaf .cont [.v 35,.v 36] ()))))))))))))))))
(.leaf (.yield 9) [.v 21] ())))) <|
(.lt none (.bin .add) [.v 17,.c (.int .i64 1)] 1 <|
(.leaf .cont [.v 21,.v 22] ()))))))
(.leaf (.yield 7) [.v 16] ())))) <|
(.lt none (.bin .add) [.v 12,.c (.int .i64 1)] 1 <|
(.leaf .cont [.v 16,.v 17] ()))))))
(.leaf (.yield 5) [.v 11] ())))) <|
(.ite (.v 11)
(.lt none (.mk 1 1) [.v 9] 1 <|
(.lt none (.app 1 24 false) [.v 3,.v 12] 1 <|
(.lt none (.mk 1 0) [] 1 <|
(.lt none (.sub 1 false) [.v 2,.c (.int .i64 0),.v 7] 1 <|
(.lt none (.app 1 24 false) [.v 14,.v 15] 1 <|
(.lt none (.bin .add) [.v 7,.c (.int .i64 1)] 1 <|
(.lt none .len [.v 2] 1 <|
(.lt none (.sub 1 false) [.v 2,.v 17,.v 18] 1 <|
(.lt none (.app 1 24 false) [.v 16,.v 19] 1 <|
(.leaf (.yield 3) [.v 20,.v 13] ()))))))))))
(.lt none (.bin .add) [.v 7,.c (.int .i64 1)] 1 <|
(.leaf .cont [.v 12] ())))))))
(.leaf (.yield 3) [.v 2,.v 3] ())))) <|
(.leaf .cont [.v 7,.v 8] ())))
(.leaf (.yield 1) [.v 3] ()))))) <|
(.leaf .ret [.v 2] ())))
def Qbd:Tm Unit :=
(.lt none .len [.v 0] 1 <|
(.bind 1
(.loop [.c (.rows 1 []),.c (.int .i64 0)]
(.lt none (.bin .lss) [.v 3,.v 1] 1 <|
(.ite (.v 4)
(.call none 78 [.v 0,.v 3] 1 [] <|
(.lt none (.mk 1 1) [.v 5] 1 <|
(.lt none (.app 1 24 false) [.v 2,.v 6] 1 <|
(.lt none (.bin .add) [.v 3,.c (.int .i64 1)] 1 <|
(.leaf .cont [.v 7,.v 8] ())))))
(.leaf (.yield 1) [.v 2] ())))) <|
(.lt none .len [.v 0] 1 <|
(.bind 3
(.loop [.c (.rows 1 []),.c (.int .i64 0)]
(.lt none (.bin .lss) [.v 5,.v 3] 1 <|
(.ite (.v 6)
(.bind 0
(.lt none .inb [.v 2,.v 5] 0 <|
(.lt none (.row 1 0 [false]) [.v 2,.v 5] 1 <|
(.lt none .len [.v 7] 1 <|
(.bind 5
(.loop [.c (.rows 1 []),.c (.int .i64 0)]
(.lt none (.bin .lss) [.v 10,.v 8] 1 <|
(.ite (.v 11)
(.bind 0
(.lt none .inb [.v 7,.v 10] 0 <|
(.lt none (.row 1 0 [true]) [.v 7,.v 10] 1 <|
(.lt none .inb [.v 2,.v 12] 0 <|
(.lt none (.row 1 0 [false]) [.v 2,.v 12] 1 <|
(.call none 50 [.v 13,.v 5] 1 [] <|
(.ite (.v 14)
(.lt none (.mk 1 1) [.v 12] 1 <|
(.lt none (.app 1 8 true) [.v 9,.v 15] 1 <|
(.leaf (.yield 0) [.v 16] ())))
(.leaf (.yield 0) [.v 9] ()))))))) <|
(.lt none (.bin .add) [.v 10,.c (.int .i64 1)] 1 <|
(.leaf .cont [.v 12,.v 13] ())))
(.leaf (.yield 5) [.v 9] ())))) <|
(.lt none .inb [.v 9,.c (.int .i64 0)] 0 <|
(.lt none (.row 1 0 [true]) [.v 9,.c (.int .i64 0)] 1 <|
(.lt none (.bin .eql) [.v 10,.v 5] 1 <|
(.ite (.v 11)
(.lt none (.mk 1 1) [.v 9] 1 <|
(.lt none (.app 1 24 false) [.v 4,.v 12] 1 <|
(.leaf (.yield 0) [.v 13] ())))
(.leaf (.yield 0) [.v 4] ()))))))))) <|
(.lt none (.bin .add) [.v 5,.c (.int .i64 1)] 1 <|
(.leaf .cont [.v 7,.v 8] ())))
(.leaf (.yield 3) [.v 4] ())))) <|
(.leaf .ret [.v 4] ())))))
def Qbc:Tm Unit :=
(.lt none (.mk 1 1) [.v 1] 1 <|
(.lt none (.mk 1 1) [.v 1] 1 <|
(.bind 1
(.loop [.v 2,.v 3,.c (.int .i64 0)]
(.lt none .len [.v 5] 1 <|
(.lt none (.bin .lss) [.v 6,.v 7] 1 <|
(.ite (.v 8)
(.lt none .inb [.v 5,.v 6] 0 <|
(.lt none (.row 1 0 [true]) [.v 5,.v 6] 1 <|
(.lt none .inb [.v 0,.v 9] 0 <|
(.lt none (.row 1 0 [false]) [.v 0,.v 9] 1 <|
(.lt none .len [.v 10] 1 <|
(.bind 3
(.loop [.v 4,.v 5,.c (.int .i64 0)]
(.lt none (.bin .lss) [.v 14,.v 11] 1 <|
(.ite (.v 15)
(.bind 0
(.lt none .inb [.v 10,.v 14] 0 <|
(.lt none (.row 1 0 [true]) [.v 10,.v 14] 1 <|
(.call none 50 [.v 13,.v 16] 1 [] <|
(.lt none .not [.v 17] 1 <|
(.ite (.v 18)
(.lt none (.mk 1 1) [.v 16] 1 <|
(.lt none (.app 1 8 true) [.v 13,.v 19] 1 <|
(.call none 66 [.v 12,.v 16] 1 [] <|
(.leaf (.yield 0) [.v 21,.v 20] ()))))
(.leaf (.yield 0) [.v 12,.v 13] ())))))) <|
(.lt none (.bin .add) [.v 14,.c (.int .i64 1)] 1 <|
(.leaf .cont [.v 16,.v 17,.v 18] ())))
(.leaf (.yield 3) [.v 12,.v 13] ())))) <|
(.lt none (.bin .add) [.v 6,.c (.int .i64 1)] 1 <|
(.leaf .cont [.v 12,.v 13,.v 14] ()))))))))
(.leaf (.yield 1) [.v 4] ()))))) <|
(.leaf .ret [.v 4] ()))))
def Qbb:Tm Unit :=
(.lt none .len [.v 0] 1 <|
(.bind 1
(.loop [.c (.rows 1 []),.c (.int .i64 0)]
(.lt none (.bin .lss) [.v 4,.v 2] 1 <|
(.ite (.v 5)
(.lt none .inb [.v 0,.v 4] 0 <|
(.lt none (.row 1 0 [true]) [.v 0,.v 4] 1 <|
(.lt none .len [.v 3] 1 <|
(.bind 3
(.loop [.v 7]
(.lt none (.bin .gtr) [.v 8,.c (.int .i64 0)] 1 <|
(.lt (some (.v 9,true)) .id [.v 8] 1 <|
(.lt (some (.v 9,true)) (.bin .sub) [.v 10,.c (.int .i64 1)] 1 <|
(.lt (some (.v 9,true)) .inb [.v 3,.v 11] 0 <|
(.lt (some (.v 9,true)) (.row 1 0 [true]) [.v 3,.v 11] 1 <|
(.lt (some (.v 9,true)) .inb [.v 1,.v 12] 0 <|
(.lt (some (.v 9,true)) (.row 1 0 [true]) [.v 1,.v 12] 1 <|
(.lt (some (.v 9,true)) .id [.v 6] 1 <|
(.lt (some (.v 9,true)) .inb [.v 1,.v 14] 0 <|
(.lt (some (.v 9,true)) (.row 1 0 [true]) [.v 1,.v 14] 1 <|
(.lt (some (.v 9,true)) (.bin .gtr) [.v 13,.v 15] 1 <|
(.lt none .pick [.v 9,.v 16,.c (.bool false)] 1 <|
(.ite (.v 17)
(.lt none (.bin .sub) [.v 8,.c (.int .i64 1)] 1 <|
(.leaf .cont [.v 18] ()))
(.leaf (.yield 3) [.v 8,.c .undef,.c .undef,.c .undef,.c .undef,.c .undef,.c .undef,.c .undef] ()))))))))))))))) <|
(.lt none .len [.v 3] 1 <|
(.lt none (.sub 1 true) [.v 3,.v 8,.v 16] 1 <|
(.call none 57 [.v 17] 1 [] <|
(.lt none (.dep 99) [.v 18] 0 <|
(.lt none (.sub 1 false) [.v 3,.c (.int .i64 0),.v 8] 1 <|
(.lt none (.mk 1 1) [.v 6] 1 <|
(.lt none (.app 1 8 true) [.v 19,.v 20] 1 <|
(.lt none (.app 1 8 true) [.v 21,.v 18] 1 <|
(.lt none (.bin .add) [.v 4,.c (.int .i64 1)] 1 <|
(.leaf .cont [.v 22,.v 23] ()))))))))))))))
(.leaf (.yield 1) [.v 3] ())))) <|
(.leaf .ret [.v 3] ())))
def Qba:Tm Unit :=
(.call none 41 [.v 2,.v 3] 1 [] <|
(.lt none .not [.v 4] 1 <|
(.call (some (.v 5,false)) 81 [.v 2,.v 3,.v 0] 1 [] <|
(.lt (some (.v 5,false)) .not [.v 6] 1 <|
(.lt none .pick [.v 5,.c (.bool true),.v 7] 1 <|
(.call (some (.v 8,false)) 81 [.v 2,.v 3,.v 1] 1 [] <|
(.lt (some (.v 8,false)) .not [.v 9] 1 <|
(.lt none .pick [.v 8,.c (.bool true),.v 10] 1 <|
(.ite (.v 11)
(.leaf .ret [.c (.bool false),.c (.bool false)] ())
(.lt none .len [.v 0] 1 <|
(.bind 1
(.loop [.c (.int .i64 0)]
(.lt none (.bin .lss) [.v 13,.v 12] 1 <|
(.ite (.v 14)
(.lt none .inb [.v 0,.v 13] 0 <|
(.lt none (.row 1 0 [false]) [.v 0,.v 13] 1 <|
(.lt none (.sub 1 false) [.v 0,.c (.int .i64 0),.v 13] 1 <|
(.lt none .len [.v 16] 1 <|
(.bind 3
(.loop [.c (.int .i64 0)]
(.lt none (.bin .lss) [.v 18,.v 17] 1 <|
(.ite (.v 19)
(.lt none .inb [.v 16,.v 18] 0 <|
(.lt none (.row 1 0 [false]) [.v 16,.v 18] 1 <|
(.call none 72 [.v 1,.v 20] 1 [] <|
(.call none 72 [.v 1,.v 15] 1 [] <|
(.lt none (.bin .geq) [.v 21,.c (.int .i64 0)] 1 <|
(.lt (some (.v 23,true)) .id [.v 22] 1 <|
(.lt (some (.v 23,true)) (.bin .geq) [.v 24,.c (.int .i64 0)] 1 <|
(.lt none .pick [.v 23,.v 25,.c (.bool false)] 1 <|
(.lt (some (.v 26,true)) .id [.v 21] 1 <|
(.lt (some (.v 26,true)) .id [.v 22] 1 <|
(.lt (some (.v 26,true)) (.bin .gtr) [.v 27,.v 28] 1 <|
(.lt none .pick [.v 26,.v 29,.c (.bool false)] 1 <|
(.lt (some (.v 30,true)) .inb [.v 20,.c (.int .i64 0)] 0 <|
(.lt (some (.v 30,true)) (.row 1 0 [true]) [.v 20,.c (.int .i64 0)] 1 <|
(.lt (some (.v 30,true)) .inb [.v 20,.c (.int .i64 1)] 0 <|
(.lt (some (.v 30,true)) (.row 1 0 [true]) [.v 20,.c (.int .i64 1)] 1 <|
(.call (some (.v 30,true)) 54 [.v 2,.v 3,.v 31,.v 32] 10 [] <|
(.lt (some (.v 30,true)) .inb [.v 15,.c (.int .i64 0)] 0 <|
(.lt (some (.v 30,true)) (.row 1 0 [true]) [.v 15,.c (.int .i64 0)] 1 <|
(.lt (some (.v 30,true)) .inb [.v 15,.c (.int .i64 1)] 0 <|
(.lt (some (.v 30,true)) (.row 1 0 [true]) [.v 15,.c (.int .i64 1)] 1 <|
(.call (some (.v 30,true)) 54 [.v 2,.v 3,.v 43,.v 44] 10 [] <|
(.call (some (.v 30,true)) 64 [.v 36,.v 37,.v 38,.v 39,.v 40,.v 48,.v 49,.v 50,.v 51,.v 52] 1 [] <|
(.lt none .pick [.v 30,.v 55,.c (.bool false)] 1 <|
(.ite (.v 56)
(.leaf .ret [.c (.bool false),.c (.bool true)] ())
(.lt none (.bin .add) [.v 18,.c (.int .i64 1)] 1 <|
(.leaf .cont [.v 57] ())))))))))))))))))))))))))))
(.leaf (.yield 3) [] ())))) <|
(.lt none (.bin .add) [.v 13,.c (.int .i64 1)] 1 <|
(.leaf .cont [.v 18] ())))))))
(.leaf (.yield 1) [] ())))) <|
(.leaf .ret [.c (.bool true),.c (.bool true)] ()))))))))))))
def Pb9:Tm Unit :=
(.lt none .len [.v 2] 1 <|
(.bind 1
(.loop [.c (.int .i64 0)]
(.lt none (.bin .lss) [.v 4,.v 3] 1 <|
(.ite (.v 5)
(.lt none .inb [.v 2,.v 4] 0 <|
(.lt none (.row 1 0 [false]) [.v 2,.v 4] 1 <|
(.lt none .len [.v 6] 1 <|
(.lt none (.bin .neq) [.v 7,.c (.int .i64 2)] 1 <|
(.lt (some (.v 8,false)) .id [.v 0] 1 <|
(.lt (some (.v 8,false)) .inb [.v 6,.c (.int .i64 0)] 0 <|
(.lt (some (.v 8,false)) (.row 1 0 [true]) [.v 6,.c (.int .i64 0)] 1 <|
(.lt (some (.v 8,false)) .inb [.v 6,.c (.int .i64 1)] 0 <|
(.lt (some (.v 8,false)) (.row 1 0 [true]) [.v 6,.c (.int .i64 1)] 1 <|
(.call (some (.v 8,false)) 35 [.v 9,.v 10,.v 11] 1 [] <|
(.lt (some (.v 8,false)) .not [.v 12] 1 <|
(.lt none .pick [.v 8,.c (.bool true),.v 13] 1 <|
(.lt (some (.v 14,false)) .id [.v 4] 1 <|
(.lt (some (.v 14,false)) (.sub 1 false) [.v 2,.c (.int .i64 0),.v 15] 1 <|
(.call (some (.v 14,false)) 72 [.v 16,.v 6] 1 [] <|
(.lt (some (.v 14,false)) (.bin .geq) [.v 17,.c (.int .i64 0)] 1 <|
(.lt none .pick [.v 14,.c (.bool true),.v 18] 1 <|
(.ite (.v 19)
(.leaf .ret [.c (.bool false)] ())
(.lt none (.bin .add) [.v 4,.c (.int .i64 1)] 1 <|
(.leaf .cont [.v 20] ()))))))))))))))))))))
(.leaf (.yield 1) [] ())))) <|
(.leaf .ret [.c (.bool true)] ())))
def Pb8:Tm Unit :=
(.call none 83 [.v 0,.v 1,.v 2] 1 [] <|
(.lt none .not [.v 3] 1 <|
(.ite (.v 4)
(.leaf .ret [.c (.int .i64 0),.c (.bool false)] ())
(.call none 129 [.v 0,.v 1,.v 2] 1 [] <|
(.leaf .ret [.v 5,.c (.bool true)] ())))))
def Pb7:Tm Unit :=
(.lt none .len [.v 0] 1 <|
(.call none 84 [.v 3] 1 [] <|
(.lt none .not [.v 4] 1 <|
(.lt (some (.v 5,false)) .len [.v 1] 1 <|
(.lt (some (.v 5,false)) (.bin .gtr) [.v 6,.c (.int .i64 80)] 1 <|
(.lt none .pick [.v 5,.c (.bool true),.v 7] 1 <|
(.call (some (.v 8,false)) 85 [.v 1,.v 3] 1 [] <|
(.lt none .pick [.v 8,.c (.bool true),.v 9] 1 <|
(.ite (.v 10)
(.leaf .ret [.c (.bool false)] ())
(.lt none .len [.v 0] 1 <|
(.bind 1
(.loop [.c (.int .i64 0)]
(.lt none (.bin .lss) [.v 12,.v 11] 1 <|
(.ite (.v 13)
(.lt none .inb [.v 0,.v 12] 0 <|
(.lt none (.row 4 0 [true,true,false,false]) [.v 0,.v 12] 4 <|
(.lt none (.bin .neq) [.v 14,.v 12] 1 <|
(.lt (some (.v 18,false)) .id [.v 15] 1 <|
(.lt (some (.v 18,false)) .id [.v 3] 1 <|
(.lt (some (.v 18,false)) (.bin .neq) [.v 19,.v 20] 1 <|
(.lt none .pick [.v 18,.c (.bool true),.v 21] 1 <|
(.call (some (.v 22,false)) 104 [.v 14,.v 15,.v 16,.v 17] 1 [] <|
(.lt (some (.v 22,false)) .not [.v 23] 1 <|
(.lt none .pick [.v 22,.c (.bool true),.v 24] 1 <|
(.ite (.v 25)
(.leaf .ret [.c (.bool false)] ())
(.lt none (.bin .add) [.v 12,.c (.int .i64 1)] 1 <|
(.leaf .cont [.v 26] ())))))))))))))
(.leaf (.yield 1) [] ())))) <|
(.lt none .len [.v 2] 1 <|
(.bind 3
(.loop [.c (.int .i64 0)]
(.lt none (.bin .lss) [.v 13,.v 12] 1 <|
(.ite (.v 14)
(.lt none .inb [.v 2,.v 13] 0 <|
(.lt none (.row 7 0 [true,true,true,true,true,true,true]) [.v 2,.v 13] 7 <|
(.call none 90 [.v 3,.v 15,.v 16] 1 [] <|
(.lt none .not [.v 22] 1 <|
(.call (some (.v 23,false)) 95 [.v 17,.v 18,.v 19,.v 20,.v 21] 1 [] <|
(.lt (some (.v 23,false)) .not [.v 24] 1 <|
(.lt none .pick [.v 23,.c (.bool true),.v 25] 1 <|
(.lt (some (.v 26,false)) .id [.v 17] 1 <|
(.lt (some (.v 26,false)) (.bin .eql) [.v 27,.c (.int .i64 0)] 1 <|
(.lt none .pick [.v 26,.c (.bool true),.v 28] 1 <|
(.lt (some (.v 29,false)) .id [.v 13] 1 <|
(.lt (some (.v 29,false)) .id [.v 15] 1 <|
(.lt (some (.v 29,false)) .id [.v 16] 1 <|
(.call (some (.v 29,false)) 126 [.v 0,.v 1,.v 2,.v 30,.v 31,.v 32] 1 [] <|
(.lt (some (.v 29,false)) (.bin .geq) [.v 33,.c (.int .i64 0)] 1 <|
(.lt none .pick [.v 29,.c (.bool true),.v 34] 1 <|
(.ite (.v 35)
(.leaf .ret [.c (.bool false)] ())
(.lt none (.bin .add) [.v 13,.c (.int .i64 1)] 1 <|
(.leaf .cont [.v 36] ())))))))))))))))))))
(.leaf (.yield 3) [] ())))) <|
(.leaf .ret [.c (.bool true)] ()))))))))))))))
def Pb6:Tm Unit :=
(.lt none (.bin .eql) [.v 0,.c (.int .i64 3)] 1 <|
(.lt (some (.v 1,false)) .id [.v 0] 1 <|
(.lt (some (.v 1,false)) (.bin .eql) [.v 2,.c (.int .i64 5)] 1 <|
(.lt none .pick [.v 1,.c (.bool true),.v 3] 1 <|
(.leaf .ret [.v 4] ())))))
def Pb5:Tm Unit :=
(.call none 86 [.v 0,.v 1] 1 [] <|
(.lt none (.bin .geq) [.v 2,.c (.int .i64 0)] 1 <|
(.leaf .ret [.v 3] ())))
def Pb4:Tm Unit :=
(.lt none .len [.v 0] 1 <|
(.bind 1
(.loop [.c (.int .i64 0)]
(.lt none (.bin .lss) [.v 3,.v 2] 1 <|
(.ite (.v 4)
(.lt none .inb [.v 0,.v 3] 0 <|
(.lt none (.row 15 0 [true,true,true,true,true,true,true,true,true,true,true,true,true,true,false]) [.v 0,.v 3] 15 <|
(.call none 87 [.v 5,.v 6,.v 7,.v 8,.v 9,.v 10,.v 11,.v 12,.v 13,.v 14,.v 15,.v 16,.v 17,.v 18,.v 19,.v 1] 1 [] <|
(.ite (.v 20)
(.leaf .ret [.v 3] ())
(.lt none (.bin .add) [.v 3,.c (.int .i64 1)] 1 <|
(.leaf .cont [.v 21] ()))))))
(.leaf (.yield 1) [] ())))) <|
(.leaf .ret [.c (.int .i64 (-1))] ())))
def Pb3:Tm Unit :=
(.call none 88 [.v 15,.v 0,.v 1,.v 2,.v 3,.v 4,.v 5,.v 6,.v 7,.v 8,.v 9,.v 10,.v 11,.v 12,.v 13,.v 14] 1 [] <|
(.lt none .not [.v 16] 1 <|
(.leaf .ret [.v 17] ())))
def Pb2:Tm Unit :=
(.call none 89 [.v 1,.c (.int .i64 1),.c (.int .i64 7)] 1 [] <|
(.lt none .not [.v 16] 1 <|
(.lt (some (.v 17,false)) .id [.v 0] 1 <|
(.lt (some (.v 17,false)) .id [.v 4] 1 <|
(.lt (some (.v 17,false)) .id [.v 5] 1 <|
(.call (some (.v 17,false)) 90 [.v 18,.v 19,.v 20] 1 [] <|
(.lt (some (.v 17,false)) .not [.v 21] 1 <|
(.lt none .pick [.v 17,.c (.bool true),.v 22] 1 <|
(.lt (some (.v 23,false)) .id [.v 2] 1 <|
(.lt (some (.v 23,false)) .id [.v 0] 1 <|
(.lt (some (.v 23,false)) (.bin .sub) [.v 25,.c (.int .i64 1)] 1 <|
(.call (some (.v 23,false)) 89 [.v 24,.c (.int .i64 0),.v 26] 1 [] <|
(.lt (some (.v 23,false)) .not [.v 27] 1 <|
(.lt none .pick [.v 23,.c (.bool true),.v 28] 1 <|
(.lt (some (.v 29,false)) .id [.v 3] 1 <|
(.lt (some (.v 29,false)) .id [.v 0] 1 <|
(.lt (some (.v 29,false)) (.bin .sub) [.v 31,.c (.int .i64 1)] 1 <|
(.call (some (.v 29,false)) 89 [.v 30,.c (.int .i64 0),.v 32] 1 [] <|
(.lt (some (.v 29,false)) .not [.v 33] 1 <|
(.lt none .pick [.v 29,.c (.bool true),.v 34] 1 <|
(.lt (some (.v 35,false)) .id [.v 2] 1 <|
(.lt (some (.v 35,false)) .id [.v 3] 1 <|
(.lt (some (.v 35,false)) (.bin .eql) [.v 36,.v 37] 1 <|
(.lt none .pick [.v 35,.c (.bool true),.v 38] 1 <|
(.lt (some (.v 39,false)) .id [.v 6] 1 <|
(.call (some (.v 39,false)) 89 [.v 40,.c (.int .i64 0),.c (.int .i64 9999)] 1 [] <|
(.lt (some (.v 39,false)) .not [.v 41] 1 <|
(.lt none .pick [.v 39,.c (.bool true),.v 42] 1 <|
(.lt (some (.v 43,false)) .id [.v 1] 1 <|
(.lt (some (.v 43,false)) (.bin .eql) [.v 44,.c (.int .i64 5)] 1 <|
(.lt (some (.v 43,false)) .id [.v 45] 1 <|
(.lt (some (.v 46,true)) .id [.v 6] 1 <|
(.lt (some (.v 46,true)) (.bin .neq) [.v 47,.c (.int .i64 0)] 1 <|
(.lt (some (.v 43,false)) .pick [.v 46,.v 48,.c (.bool false)] 1 <|
(.lt none .pick [.v 43,.c (.bool true),.v 49] 1 <|
(.ite (.v 50)
(.leaf .ret [.c (.bool false)] ())
(.lt none (.bin .eql) [.v 1,.c (.int .i64 7)] 1 <|
(.ite (.v 51)
(.lt none (.bin .neq) [.v 8,.c (.int .i64 3)] 1 <|
(.lt (some (.v 52,true)) .id [.v 0] 1 <|
(.call (some (.v 52,true)) 91 [.v 1,.v 2,.v 3,.v 4,.v 5,.v 6,.v 7,.v 8,.v 9,.v 10,.v 11,.v 12,.v 13,.v 14,.v 15] 10 [] <|
(.call (some (.v 52,true)) 94 [.v 53,.v 54,.v 55,.v 56,.v 57,.v 58,.v 59,.v 60,.v 61,.v 62,.v 63] 1 [] <|
(.lt none .pick [.v 52,.v 64,.c (.bool false)] 1 <|
(.leaf .ret [.v 65] ()))))))
(.lt none (.bin .eql) [.v 1,.c (.int .i64 1)] 1 <|
(.lt (some (.v 52,false)) .id [.v 1] 1 <|
(.lt (some (.v 52,false)) (.bin .eql) [.v 53,.c (.int .i64 3)] 1 <|
(.lt none .pick [.v 52,.c (.bool true),.v 54] 1 <|
(.lt (some (.v 55,false)) .id [.v 1] 1 <|
(.lt (some (.v 55,false)) (.bin .eql) [.v 56,.c (.int .i64 5)] 1 <|
(.lt none .pick [.v 55,.c (.bool true),.v 57] 1 <|
(.bind 0
(.lt none (.bin .neq) [.v 7,.c (.int .i64 0)] 1 <|
(.lt (some (.v 59,false)) .id [.v 8] 1 <|
(.lt (some (.v 59,false)) (.bin .neq) [.v 60,.c (.int .i64 0)] 1 <|
(.lt none .pick [.v 59,.c (.bool true),.v 61] 1 <|
(.call (some (.v 62,false)) 95 [.v 9,.v 10,.v 11,.v 12,.v 13] 1 [] <|
(.lt (some (.v 62,false)) .not [.v 63] 1 <|
(.lt none .pick [.v 62,.c (.bool true),.v 64] 1 <|
(.lt (some (.v 65,false)) .id [.v 0] 1 <|
(.call (some (.v 65,false)) 97 [.v 66,.v 14,.v 15] 1 [] <|
(.lt (some (.v 65,false)) .not [.v 67] 1 <|
(.lt none .pick [.v 65,.c (.bool true),.v 68] 1 <|
(.ite (.v 69)
(.leaf (.yield 0) [.v 69] ())
(.lt none .not [.v 58] 1 <|
(.lt (some (.v 70,true)) (.eqs [0,0,0,0,0]) [.v 9,.v 10,.v 11,.v 12,.v 13,.c (.int .i64 0),.c (.int .i64 0),.c (.int .i64 0),.c (.int .i64 0),.c (.int .i64 0)] 1 <|
(.lt (some (.v 70,true)) .not [.v 71] 1 <|
(.lt none .pick [.v 70,.v 72,.c (.bool false)] 1 <|
(.leaf (.yield 0) [.v 73] ()))))))))))))))))) <|
(.ite (.v 59)
(.leaf .ret [.c (.bool false)] ())
(.lt (some (.v 58,false)) .id [.v 1] 1 <|
(.lt (some (.v 58,false)) (.bin .eql) [.v 60,.c (.int .i64 2)] 1 <|
(.lt none .pick [.v 58,.c (.bool true),.v 61] 1 <|
(.lt (some (.v 62,false)) .id [.v 0] 1 <|
(.call (some (.v 62,false)) 101 [.v 63] 2 [] <|
(.call (some (.v 62,false)) 102 [.v 14,.v 15,.v 64,.v 65] 1 [] <|
(.lt none .pick [.v 62,.c (.bool true),.v 66] 1 <|
(.leaf .ret [.v 67] ())))))))))))))))))))))))))))))))))))))))))))))))))))))))
def Pb1:Tm Unit :=
(.lt none (.bin .leq) [.v 1,.v 0] 1 <|
(.lt (some (.v 3,true)) .id [.v 0] 1 <|
(.lt (some (.v 3,true)) .id [.v 2] 1 <|
(.lt (some (.v 3,true)) (.bin .leq) [.v 4,.v 5] 1 <|
(.lt none .pick [.v 3,.v 6,.c (.bool false)] 1 <|
(.leaf .ret [.v 7] ()))))))
def Pb0:Tm Unit :=
(.call none 84 [.v 0] 1 [] <|
(.lt (some (.v 3,true)) .id [.v 1] 1 <|
(.lt (some (.v 3,true)) .id [.v 0] 1 <|
(.lt (some (.v 3,true)) (.bin .sub) [.v 5,.c (.int .i64 1)] 1 <|
(.call (some (.v 3,true)) 89 [.v 4,.c (.int .i64 0),.v 6] 1 [] <|
(.lt none .pick [.v 3,.v 7,.c (.bool false)] 1 <|
(.lt (some (.v 8,true)) .id [.v 2] 1 <|
(.call (some (.v 8,true)) 89 [.v 9,.c (.int .i64 1),.c (.int .i64 6)] 1 [] <|
(.lt none .pick [.v 8,.v 10,.c (.bool false)] 1 <|
(.leaf .ret [.v 11] ()))))))))))
def Pbz:Tm Unit :=
(.call none 92 [.v 13,.v 14] 2 [] <|
(.leaf .ret [.v 5,.v 6,.v 7,.v 8,.v 9,.v 10,.v 11,.v 12,.v 15,.v 16] ()))
def Pby:Tm Unit :=
(.call none 93 [.v 1] 1 [] <|
(.leaf .ret [.v 0,.v 2] ()))
def Lbp:Tm Unit :=
(.lt none .ne [.v 0] 0 <|
(.lt none .emp [.v 0] 1 <|
(.ite (.v 1)
(.leaf .ret [.c (.rows 1 [])] ())
(.lt none (.mk 1 0) [] 1 <|
(.lt none (.app 1 8 true) [.v 2,.v 0] 1 <|
(.leaf .ret [.v 3] ()))))))
def Pbx:Tm Unit :=
(.call none 89 [.v 1,.c (.int .i64 0),.c (.int .i64 9999)] 1 [] <|
(.lt none .not [.v 11] 1 <|
(.lt (some (.v 12,false)) .id [.v 2] 1 <|
(.lt (some (.v 12,false)) .id [.v 1] 1 <|
(.call (some (.v 12,false)) 89 [.v 13,.c (.int .i64 0),.v 14] 1 [] <|
(.lt (some (.v 12,false)) .not [.v 15] 1 <|
(.lt none .pick [.v 12,.c (.bool true),.v 16] 1 <|
(.lt (some (.v 17,false)) .id [.v 3] 1 <|
(.call (some (.v 17,false)) 89 [.v 18,.c (.int .i64 0),.c (.int .i64 3)] 1 [] <|
(.lt (some (.v 17,false)) .not [.v 19] 1 <|
(.lt none .pick [.v 17,.c (.bool true),.v 20] 1 <|
(.call (some (.v 21,false)) 95 [.v 4,.v 5,.v 6,.v 7,.v 8] 1 [] <|
(.lt (some (.v 21,false)) .not [.v 22] 1 <|
(.lt none .pick [.v 21,.c (.bool true),.v 23] 1 <|
(.lt (some (.v 24,false)) .id [.v 0] 1 <|
(.call (some (.v 24,false)) 97 [.v 25,.v 9,.v 10] 1 [] <|
(.lt (some (.v 24,false)) .not [.v 26] 1 <|
(.lt none .pick [.v 24,.c (.bool true),.v 27] 1 <|
(.ite (.v 28)
(.leaf .ret [.c (.bool false)] ())
(.lt none (.bin .neq) [.v 3,.c (.int .i64 0)] 1 <|
(.lt (some (.v 29,false)) .id [.v 2] 1 <|
(.lt (some (.v 29,false)) (.bin .eql) [.v 30,.c (.int .i64 0)] 1 <|
(.lt (some (.v 29,false)) .id [.v 31] 1 <|
(.lt (some (.v 32,true)) (.eqs [0,0,0,0,0]) [.v 4,.v 5,.v 6,.v 7,.v 8,.c (.int .i64 0),.c (.int .i64 0),.c (.int .i64 0),.c (.int .i64 0),.c (.int .i64 0)] 1 <|
(.lt (some (.v 29,false)) .pick [.v 32,.v 33,.c (.bool false)] 1 <|
(.lt (some (.v 29,false)) .id [.v 34] 1 <|
(.lt (some (.v 35,true)) .id [.v 0] 1 <|
(.call (some (.v 35,true)) 101 [.v 36] 2 [] <|
(.call (some (.v 35,true)) 102 [.v 9,.v 10,.v 37,.v 38] 1 [] <|
(.lt (some (.v 29,false)) .pick [.v 35,.v 39,.c (.bool false)] 1 <|
(.lt none .pick [.v 29,.c (.bool true),.v 40] 1 <|
(.leaf .ret [.v 41] ()))))))))))))))))))))))))))))))))
def Pbw:Tm Unit :=
(.lt none (.bin .eql) [.v 0,.c (.int .i64 0)] 1 <|
(.ite (.v 5)
(.lt none (.eqs [0,0,0,0,0]) [.v 0,.v 1,.v 2,.v 3,.v 4,.c (.int .i64 0),.c (.int .i64 0),.c (.int .i64 0),.c (.int .i64 0),.c (.int .i64 0)] 1 <|
(.leaf .ret [.v 6] ()))
(.lt none (.bin .eql) [.v 0,.c (.int .i64 1)] 1 <|
(.ite (.v 6)
(.call none 89 [.v 1,.c (.int .i64 1),.c (.int .i64 999)] 1 [] <|
(.lt (some (.v 7,true)) .id [.v 2] 1 <|
(.call (some (.v 7,true)) 96 [.v 8] 1 [] <|
(.lt none .pick [.v 7,.v 9,.c (.bool false)] 1 <|
(.lt (some (.v 10,true)) .id [.v 3] 1 <|
(.call (some (.v 10,true)) 96 [.v 11] 1 [] <|
(.lt none .pick [.v 10,.v 12,.c (.bool false)] 1 <|
(.lt (some (.v 13,true)) .id [.v 2] 1 <|
(.lt (some (.v 13,true)) .id [.v 3] 1 <|
(.lt (some (.v 13,true)) (.bin .neq) [.v 14,.v 15] 1 <|
(.lt none .pick [.v 13,.v 16,.c (.bool false)] 1 <|
(.lt (some (.v 17,true)) .id [.v 4] 1 <|
(.call (some (.v 17,true)) 89 [.v 18,.c (.int .i64 1),.c (.int .i64 1000)] 1 [] <|
(.lt none .pick [.v 17,.v 19,.c (.bool false)] 1 <|
(.leaf .ret [.v 20] ())))))))))))))))
(.lt none (.bin .eql) [.v 0,.c (.int .i64 2)] 1 <|
(.lt (some (.v 7,true)) .id [.v 1] 1 <|
(.call (some (.v 7,true)) 89 [.v 8,.c (.int .i64 1),.c (.int .i64 999)] 1 [] <|
(.lt none .pick [.v 7,.v 9,.c (.bool false)] 1 <|
(.lt (some (.v 10,true)) .id [.v 2] 1 <|
(.call (some (.v 10,true)) 96 [.v 11] 1 [] <|
(.lt none .pick [.v 10,.v 12,.c (.bool false)] 1 <|
(.lt (some (.v 13,true)) .id [.v 3] 1 <|
(.lt (some (.v 13,true)) (.bin .eql) [.v 14,.c (.int .i64 0)] 1 <|
(.lt none .pick [.v 13,.v 15,.c (.bool false)] 1 <|
(.lt (some (.v 16,true)) .id [.v 4] 1 <|
(.lt (some (.v 16,true)) (.bin .eql) [.v 17,.c (.int .i64 0)] 1 <|
(.lt none .pick [.v 16,.v 18,.c (.bool false)] 1 <|
(.leaf .ret [.v 19] ()))))))))))))))))))
def Pbv:Tm Unit :=
(.call none 89 [.v 0,.c (.int .i64 0),.c (.int .i64 3)] 1 [] <|
(.leaf .ret [.v 1] ()))
def Pbu:Tm Unit :=
(.call none 84 [.v 0] 1 [] <|
(.lt (some (.v 3,true)) .id [.v 1] 1 <|
(.call (some (.v 3,true)) 89 [.v 4,.c (.int .i64 0),.c (.int .i64 999)] 1 [] <|
(.lt none .pick [.v 3,.v 5,.c (.bool false)] 1 <|
(.lt (some (.v 6,true)) .len [.v 2] 1 <|
(.lt (some (.v 6,true)) .id [.v 0] 1 <|
(.lt (some (.v 6,true)) (.bin .eql) [.v 7,.v 8] 1 <|
(.lt none .pick [.v 6,.v 9,.c (.bool false)] 1 <|
(.call (some (.v 10,true)) 98 [.v 2] 1 [] <|
(.lt (some (.v 10,true)) .not [.v 11] 1 <|
(.lt none .pick [.v 10,.v 12,.c (.bool false)] 1 <|
(.leaf .ret [.v 13] ()))))))))))))
def Pbt:Tm Unit :=
(.call none 99 [.v 0] 1 [] <|
(.lt none (.bin .geq) [.v 1,.c (.int .i64 0)] 1 <|
(.leaf .ret [.v 2] ())))
def Pbs:Tm Unit :=
(.lt none .len [.v 0] 1 <|
(.bind 1
(.loop [.c (.int .i64 0)]
(.lt none (.bin .lss) [.v 2,.v 1] 1 <|
(.ite (.v 3)
(.lt none .inb [.v 0,.v 2] 0 <|
(.lt none (.row 1 0 [true]) [.v 0,.v 2] 1 <|
(.call none 100 [.v 4] 1 [] <|
(.ite (.v 5)
(.leaf .ret [.v 2] ())
(.lt none (.bin .add) [.v 2,.c (.int .i64 1)] 1 <|
(.leaf .cont [.v 6] ()))))))
(.leaf (.yield 1) [] ())))) <|
(.leaf .ret [.c (.int .i64 (-1))] ())))
def Fbu:Tm Unit :=
(.call none 89 [.v 0,.c (.int .i64 0),.c (.int .i64 6)] 1 [] <|
(.lt none .not [.v 1] 1 <|
(.leaf .ret [.v 2] ())))
def Fbt:Tm Unit :=
(.lt none (.make 8 [(.int .i64 0)]) [.v 0] 1 <|
(.leaf .ret [.c (.int .i64 0),.v 1] ()))
def Fbs:Tm Unit :=
(.lt none (.bin .eql) [.v 0,.v 2] 1 <|
(.call (some (.v 4,true)) 103 [.v 1,.v 3] 1 [] <|
(.lt none .pick [.v 4,.v 5,.c (.bool false)] 1 <|
(.leaf .ret [.v 6] ()))))
def Fbr:Tm Unit :=
(.lt none .len [.v 0] 1 <|
(.lt none .len [.v 1] 1 <|
(.lt none (.bin .neq) [.v 2,.v 3] 1 <|
(.ite (.v 4)
(.leaf .ret [.c (.bool false)] ())
(.lt none .len [.v 0] 1 <|
(.bind 1
(.loop [.c (.int .i64 0)]
(.lt none (.bin .lss) [.v 6,.v 5] 1 <|
(.ite (.v 7)
(.lt none .inb [.v 0,.v 6] 0 <|
(.lt none (.row 1 0 [true]) [.v 0,.v 6] 1 <|
(.lt none .inb [.v 1,.v 6] 0 <|
(.lt none (.row 1 0 [true]) [.v 1,.v 6] 1 <|
(.lt none (.bin .neq) [.v 8,.v 9] 1 <|
(.ite (.v 10)
(.leaf .ret [.c (.bool false)] ())
(.lt none (.bin .add) [.v 6,.c (.int .i64 1)] 1 <|
(.leaf .cont [.v 11] ()))))))))
(.leaf (.yield 1) [] ())))) <|
(.leaf .ret [.c (.bool true)] ())))))))
def Fbq:Tm Unit :=
(.call none 105 [.v 1,.v 2] 1 [] <|
(.lt none .not [.v 4] 1 <|
(.lt (some (.v 5,false)) .id [.v 0] 1 <|
(.lt (some (.v 5,false)) .id [.v 1] 1 <|
(.lt (some (.v 5,false)) (.bin .sub) [.v 7,.c (.int .i64 1)] 1 <|
(.call (some (.v 5,false)) 89 [.v 6,.c (.int .i64 0),.v 8] 1 [] <|
(.lt (some (.v 5,false)) .not [.v 9] 1 <|
(.lt none .pick [.v 5,.c (.bool true),.v 10] 1 <|
(.ite (.v 11)
(.leaf .ret [.c (.bool false)] ())
(.lt none .len [.v 3] 1 <|
(.bind 1
(.loop [.c (.int .i64 0)]
(.lt none (.bin .lss) [.v 13,.v 12] 1 <|
(.ite (.v 14)
(.lt none .inb [.v 3,.v 13] 0 <|
(.lt none (.row 16 0 [true,true,true,true,true,true,true,true,true,true,false,true,false,true,false,false]) [.v 3,.v 13] 16 <|
(.call none 112 [.v 1,.v 0,.v 15,.v 16,.v 17,.v 18,.v 19,.v 20,.v 21,.v 22,.v 23,.v 24,.v 25,.v 26,.v 27,.v 28,.v 29,.v 30] 1 [] <|
(.lt none .not [.v 31] 1 <|
(.lt (some (.v 32,false)) .id [.v 13] 1 <|
(.lt (some (.v 32,false)) (.bin .gtr) [.v 33,.c (.int .i64 0)] 1 <|
(.lt (some (.v 32,false)) .id [.v 34] 1 <|
(.lt (some (.v 35,true)) .id [.v 15] 1 <|
(.lt (some (.v 35,true)) .id [.v 16] 1 <|
(.lt (some (.v 35,true)) (.mk 1 2) [.v 36,.v 37] 1 <|
(.lt (some (.v 35,true)) .id [.v 13] 1 <|
(.lt (some (.v 35,true)) (.bin .sub) [.v 39,.c (.int .i64 1)] 1 <|
(.lt (some (.v 35,true)) .inb [.v 3,.v 40] 0 <|
(.lt (some (.v 35,true)) (.row 16 0 [true]) [.v 3,.v 40] 1 <|
(.lt (some (.v 35,true)) .id [.v 13] 1 <|
(.lt (some (.v 35,true)) (.bin .sub) [.v 42,.c (.int .i64 1)] 1 <|
(.lt (some (.v 35,true)) .inb [.v 3,.v 43] 0 <|
(.lt (some (.v 35,true)) (.row 16 1 [true]) [.v 3,.v 43] 1 <|
(.lt (some (.v 35,true)) (.mk 1 2) [.v 41,.v 44] 1 <|
(.call (some (.v 35,true)) 123 [.v 38,.v 45] 1 [] <|
(.lt (some (.v 35,true)) (.bin .leq) [.v 46,.c (.int .i64 0)] 1 <|
(.lt (some (.v 32,false)) .pick [.v 35,.v 47,.c (.bool false)] 1 <|
(.lt none .pick [.v 32,.c (.bool true),.v 48] 1 <|
(.ite (.v 49)
(.leaf .ret [.c (.bool false)] ())
(.lt none (.bin .add) [.v 13,.c (.int .i64 1)] 1 <|
(.leaf .cont [.v 50] ()))))))))))))))))))))))))))
(.leaf (.yield 1) [] ())))) <|
(.leaf .ret [.c (.bool true)] ()))))))))))))
def Fbp:Tm Unit :=
(.call none 84 [.v 0] 1 [] <|
(.lt (some (.v 2,true)) .len [.v 1] 1 <|
(.lt (some (.v 2,true)) .id [.v 0] 1 <|
(.lt (some (.v 2,true)) (.bin .eql) [.v 3,.v 4] 1 <|
(.lt none .pick [.v 2,.v 5,.c (.bool false)] 1 <|
(.call (some (.v 6,true)) 106 [.v 1,.v 0,.v 1] 1 [] <|
(.lt (some (.v 6,true)) .not [.v 7] 1 <|
(.lt none .pick [.v 6,.v 8,.c (.bool false)] 1 <|
(.leaf .ret [.v 9] ())))))))))
def Fbo:Tm Unit :=
(.call none 107 [.v 0,.v 1,.v 2] 1 [] <|
(.lt none (.bin .geq) [.v 3,.c (.int .i64 0)] 1 <|
(.leaf .ret [.v 4] ())))
def Fbn:Tm Unit :=
(.lt none .len [.v 0] 1 <|
(.bind 1
(.loop [.c (.int .i64 0)]
(.lt none (.bin .lss) [.v 4,.v 3] 1 <|
(.ite (.v 5)
(.lt none .inb [.v 0,.v 4] 0 <|
(.lt none (.row 1 0 [false]) [.v 0,.v 4] 1 <|
(.call none 108 [.v 6,.v 1,.v 2] 1 [] <|
(.ite (.v 7)
(.leaf .ret [.v 4] ())
(.lt none (.bin .add) [.v 4,.c (.int .i64 1)] 1 <|
(.leaf .cont [.v 8] ()))))))
(.leaf (.yield 1) [] ())))) <|
(.leaf .ret [.c (.int .i64 (-1))] ())))
def Fbm:Tm Unit :=
(.lt none .len [.v 0] 1 <|
(.lt none (.bin .gtr) [.v 3,.c (.int .i64 6)] 1 <|
(.call (some (.v 4,false)) 109 [.v 0,.v 1,.v 2] 1 [] <|
(.lt none .pick [.v 4,.c (.bool true),.v 5] 1 <|
(.leaf .ret [.v 6] ())))))
def Fbl:Tm Unit :=
(.call none 110 [.v 0,.v 1,.v 2] 1 [] <|
(.lt none (.bin .geq) [.v 3,.c (.int .i64 0)] 1 <|
(.leaf .ret [.v 4] ())))
def Fbk:Tm Unit :=
(.lt none .len [.v 0] 1 <|
(.bind 1
(.loop [.c (.int .i64 0)]
(.lt none (.bin .lss) [.v 4,.v 3] 1 <|
(.ite (.v 5)
(.lt none .inb [.v 0,.v 4] 0 <|
(.lt none (.row 10 0 [true,true,true,true,true,true,true,true,true,false]) [.v 0,.v 4] 10 <|
(.call none 111 [.v 6,.v 7,.v 8,.v 9,.v 10,.v 11,.v 12,.v 13,.v 14,.v 15,.v 1,.v 2] 1 [] <|
(.ite (.v 16)
(.leaf .ret [.v 4] ())
(.lt none (.bin .add) [.v 4,.c (.int .i64 1)] 1 <|
(.leaf .cont [.v 17] ()))))))
(.leaf (.yield 1) [] ())))) <|
(.leaf .ret [.c (.int .i64 (-1))] ())))
def Fbj:Tm Unit :=
(.call none 94 [.v 10,.v 0,.v 1,.v 2,.v 3,.v 4,.v 5,.v 6,.v 7,.v 8,.v 9] 1 [] <|
(.lt none .not [.v 12] 1 <|
(.leaf .ret [.v 13] ())))
def Fbi:Tm Unit :=
(.call none 90 [.v 0,.v 2,.v 3] 1 [] <|
(.lt none .not [.v 18] 1 <|
(.lt (some (.v 19,false)) .id [.v 4] 1 <|
(.call (some (.v 19,false)) 89 [.v 20,.c (.int .i64 0),.c (.int .i64 9999)] 1 [] <|
(.lt (some (.v 19,false)) .not [.v 21] 1 <|
(.lt none .pick [.v 19,.c (.bool true),.v 22] 1 <|
(.lt (some (.v 23,false)) .id [.v 0] 1 <|
(.call (some (.v 23,false)) 113 [.v 24,.v 16] 1 [] <|
(.lt (some (.v 23,false)) .not [.v 25] 1 <|
(.lt none .pick [.v 23,.c (.bool true),.v 26] 1 <|
(.lt (some (.v 27,false)) .id [.v 1] 1 <|
(.call (some (.v 27,false)) 118 [.v 16,.v 28] 1 [] <|
(.lt (some (.v 27,false)) .not [.v 29] 1 <|
(.lt none .pick [.v 27,.c (.bool true),.v 30] 1 <|
(.lt (some (.v 31,false)) .id [.v 0] 1 <|
(.call (some (.v 31,false)) 97 [.v 32,.v 11,.v 12] 1 [] <|
(.lt (some (.v 31,false)) .not [.v 33] 1 <|
(.lt none .pick [.v 31,.c (.bool true),.v 34] 1 <|
(.lt (some (.v 35,false)) .id [.v 0] 1 <|
(.call (some (.v 35,false)) 97 [.v 36,.v 13,.v 14] 1 [] <|
(.lt (some (.v 35,false)) .not [.v 37] 1 <|
(.lt none .pick [.v 35,.c (.bool true),.v 38] 1 <|
(.ite (.v 39)
(.leaf .ret [.c (.bool false)] ())
(.lt none (.bin .eql) [.v 5,.c (.int .i64 1)] 1 <|
(.ite (.v 40)
(.call none 95 [.v 6,.v 7,.v 8,.v 9,.v 10] 1 [] <|
(.lt (some (.v 41,true)) .len [.v 17] 1 <|
(.lt (some (.v 41,true)) (.bin .eql) [.v 42,.c (.int .i64 0)] 1 <|
(.lt none .pick [.v 41,.v 43,.c (.bool false)] 1 <|
(.leaf .ret [.v 44] ())))))
(.lt none (.bin .eql) [.v 5,.c (.int .i64 2)] 1 <|
(.ite (.v 41)
(.call none 95 [.v 6,.v 7,.v 8,.v 9,.v 10] 1 [] <|
(.lt (some (.v 42,true)) .len [.v 17] 1 <|
(.lt (some (.v 42,true)) (.bin .eql) [.v 43,.c (.int .i64 0)] 1 <|
(.lt none .pick [.v 42,.v 44,.c (.bool false)] 1 <|
(.call (some (.v 45,true)) 102 [.v 11,.v 12,.v 13,.v 14] 1 [] <|
(.lt none .pick [.v 45,.v 46,.c (.bool false)] 1 <|
(.lt (some (.v 47,true)) .id [.v 15] 1 <|
(.lt (some (.v 47,true)) .not [.v 48] 1 <|
(.lt none .pick [.v 47,.v 49,.c (.bool false)] 1 <|
(.leaf .ret [.v 50] ()))))))))))
(.lt none (.bin .eql) [.v 5,.c (.int .i64 3)] 1 <|
(.ite (.v 42)
(.call none 101 [.v 0] 2 [] <|
(.lt none (.eqs [0,0,0,0,0]) [.v 6,.v 7,.v 8,.v 9,.v 10,.c (.int .i64 0),.c (.int .i64 0),.c (.int .i64 0),.c (.int .i64 0),.c (.int .i64 0)] 1 <|
(.call (some (.v 45,true)) 102 [.v 11,.v 12,.v 43,.v 44] 1 [] <|
(.lt none .pick [.v 45,.v 46,.c (.bool false)] 1 <|
(.call (some (.v 47,true)) 102 [.v 13,.v 14,.v 43,.v 44] 1 [] <|
(.lt none .pick [.v 47,.v 48,.c (.bool false)] 1 <|
(.lt (some (.v 49,true)) .id [.v 15] 1 <|
(.lt (some (.v 49,true)) .not [.v 50] 1 <|
(.lt none .pick [.v 49,.v 51,.c (.bool false)] 1 <|
(.lt (some (.v 52,true)) .len [.v 17] 1 <|
(.lt (some (.v 52,true)) .len [.v 16] 1 <|
(.lt (some (.v 52,true)) (.bin .eql) [.v 53,.v 54] 1 <|
(.lt none .pick [.v 52,.v 55,.c (.bool false)] 1 <|
(.call (some (.v 56,true)) 120 [.v 17,.v 0] 1 [] <|
(.lt (some (.v 56,true)) .not [.v 57] 1 <|
(.lt none .pick [.v 56,.v 58,.c (.bool false)] 1 <|
(.leaf .ret [.v 59] ())))))))))))))))))
(.leaf .ret [.c (.bool false)] ()))))))))))))))))))))))))))))))
def Fbh:Tm Unit :=
(.call none 114 [.v 1] 1 [] <|
(.call (some (.v 2,true)) 115 [.v 1,.v 0] 1 [] <|
(.lt (some (.v 2,true)) .not [.v 3] 1 <|
(.lt none .pick [.v 2,.v 4,.c (.bool false)] 1 <|
(.leaf .ret [.v 5] ())))))
def Fbg:Tm Unit :=
(.bind 1
(.loop [.c (.int .i64 1)]
(.lt none .len [.v 0] 1 <|
(.lt none (.bin .lss) [.v 1,.v 2] 1 <|
(.ite (.v 3)
(.lt none .inb [.v 0,.v 1] 0 <|
(.lt none (.row 1 0 [true]) [.v 0,.v 1] 1 <|
(.lt none (.bin .sub) [.v 1,.c (.int .i64 1)] 1 <|
(.lt none .inb [.v 0,.v 5] 0 <|
(.lt none (.row 1 0 [true]) [.v 0,.v 5] 1 <|
(.lt none (.bin .leq) [.v 4,.v 6] 1 <|
(.ite (.v 7)
(.leaf .ret [.c (.bool false)] ())
(.lt none (.bin .add) [.v 1,.c (.int .i64 1)] 1 <|
(.leaf .cont [.v 8] ())))))))))
(.leaf (.yield 1) [] ()))))) <|
(.leaf .ret [.c (.bool true)] ()))
def Fbf:Tm Unit :=
(.call none 116 [.v 0,.v 1] 1 [] <|
(.lt none (.bin .geq) [.v 2,.c (.int .i64 0)] 1 <|
(.leaf .ret [.v 3] ())))
def Fbe:Tm Unit :=
(.lt none .len [.v 0] 1 <|
(.bind 1
(.loop [.c (.int .i64 0)]
(.lt none (.bin .lss) [.v 3,.v 2] 1 <|
(.ite (.v 4)
(.lt none .inb [.v 0,.v 3] 0 <|
(.lt none (.row 1 0 [true]) [.v 0,.v 3] 1 <|
(.call none 117 [.v 5,.v 1] 1 [] <|
(.ite (.v 6)
(.leaf .ret [.v 3] ())
(.lt none (.bin .add) [.v 3,.c (.int .i64 1)] 1 <|
(.leaf .cont [.v 7] ()))))))
(.leaf (.yield 1) [] ())))) <|
(.leaf .ret [.c (.int .i64 (-1))] ())))
def Fbd:Tm Unit :=
(.lt none (.bin .sub) [.v 1,.c (.int .i64 1)] 1 <|
(.call none 89 [.v 0,.c (.int .i64 0),.v 2] 1 [] <|
(.lt none .not [.v 3] 1 <|
(.leaf .ret [.v 4] ()))))
def Fbc:Tm Unit :=
(.call none 119 [.v 0,.v 1] 1 [] <|
(.lt none (.bin .geq) [.v 2,.c (.int .i64 0)] 1 <|
(.leaf .ret [.v 3] ())))
def Fbb:Tm Unit :=
(.lt none .len [.v 0] 1 <|
(.bind 1
(.loop [.c (.int .i64 0)]
(.lt none (.bin .lss) [.v 3,.v 2] 1 <|
(.ite (.v 4)
(.lt none .inb [.v 0,.v 3] 0 <|
(.lt none (.row 1 0 [true]) [.v 0,.v 3] 1 <|
(.lt none (.bin .eql) [.v 1,.v 5] 1 <|
(.ite (.v 6)
(.leaf .ret [.v 3] ())
(.lt none (.bin .add) [.v 3,.c (.int .i64 1)] 1 <|
(.leaf .cont [.v 7] ()))))))
(.leaf (.yield 1) [] ())))) <|
(.leaf .ret [.c (.int .i64 (-1))] ())))
def Fba:Tm Unit :=
(.call none 121 [.v 0,.v 1] 1 [] <|
(.lt none (.bin .geq) [.v 2,.c (.int .i64 0)] 1 <|
(.leaf .ret [.v 3] ())))
def Eb9:Tm Unit :=
(.lt none .len [.v 0] 1 <|
(.bind 1
(.loop [.c (.int .i64 0)]
(.lt none (.bin .lss) [.v 3,.v 2] 1 <|
(.ite (.v 4)
(.lt none .inb [.v 0,.v 3] 0 <|
(.lt none (.row 10 0 [true,true,true,true,true,true,true,true,true,false]) [.v 0,.v 3] 10 <|
(.call none 122 [.v 5,.v 6,.v 7,.v 8,.v 9,.v 10,.v 11,.v 12,.v 13,.v 14,.v 1] 1 [] <|
(.ite (.v 15)
(.leaf .ret [.v 3] ())
(.lt none (.bin .add) [.v 3,.c (.int .i64 1)] 1 <|
(.leaf .cont [.v 16] ()))))))
(.leaf (.yield 1) [] ())))) <|
(.leaf .ret [.c (.int .i64 (-1))] ())))
def Eb8:Tm Unit :=
(.call none 94 [.v 10,.v 0,.v 1,.v 2,.v 3,.v 4,.v 5,.v 6,.v 7,.v 8,.v 9] 1 [] <|
(.lt none .not [.v 11] 1 <|
(.lt (some (.v 12,false)) .id [.v 2] 1 <|
(.lt (some (.v 12,false)) (.bin .eql) [.v 13,.c (.int .i64 3)] 1 <|
(.lt none .pick [.v 12,.c (.bool true),.v 14] 1 <|
(.leaf .ret [.v 15] ()))))))
def Eb7:Tm Unit :=
(.lt none .len [.v 0] 1 <|
(.bind 1
(.loop [.c (.int .i64 0)]
(.lt none (.bin .lss) [.v 3,.v 2] 1 <|
(.ite (.v 4)
(.lt none .inb [.v 0,.v 3] 0 <|
(.lt none (.row 1 0 [true]) [.v 0,.v 3] 1 <|
(.lt none .len [.v 1] 1 <|
(.lt none (.bin .geq) [.v 3,.v 6] 1 <|
(.ite (.v 7)
(.leaf .ret [.c (.int .i64 1)] ())
(.lt none .inb [.v 1,.v 3] 0 <|
(.lt none (.row 1 0 [true]) [.v 1,.v 3] 1 <|
(.call none 124 [.v 5,.v 8] 1 [] <|
(.lt none (.bin .neq) [.v 9,.c (.int .i64 0)] 1 <|
(.ite (.v 10)
(.leaf .ret [.v 9] ())
(.lt none (.bin .add) [.v 3,.c (.int .i64 1)] 1 <|
(.leaf .cont [.v 11] ()))))))))))))
(.leaf (.yield 1) [] ())))) <|
(.lt none .len [.v 0] 1 <|
(.lt none .len [.v 1] 1 <|
(.lt none (.bin .lss) [.v 3,.v 4] 1 <|
(.ite (.v 5)
(.leaf .ret [.c (.int .i64 (-1))] ())
(.leaf .ret [.c (.int .i64 0)] ())))))))
def Eb6:Tm Unit :=
(.call none 125 [.v 0] 1 [] <|
(.call none 125 [.v 1] 1 [] <|
(.ite (.v 2)
(.ite (.v 3)
(.leaf .ret [.c (.int .i64 0)] ())
(.leaf .ret [.c (.int .i64 (-1))] ()))
(.ite (.v 3)
(.leaf .ret [.c (.int .i64 1)] ())
(.lt none (.bin .lss) [.v 0,.v 1] 1 <|
(.ite (.v 4)
(.leaf .ret [.c (.int .i64 (-1))] ())
(.lt none (.bin .gtr) [.v 0,.v 1] 1 <|
(.ite (.v 5)
(.leaf .ret [.c (.int .i64 1)] ())
(.leaf .ret [.c (.int .i64 0)] ())))))))))
def Eb5:Tm Unit :=
(.lt none (.bin .neq) [.v 0,.v 0] 1 <|
(.leaf .ret [.v 1] ()))
def Eb4:Tm Unit :=
(.lt none (.sub 7 false) [.v 2,.c (.int .i64 0),.v 3] 1 <|
(.call none 127 [.v 6,.v 4,.v 5] 1 [] <|
(.leaf .ret [.v 7] ())))
def Eb3:Tm Unit :=
(.lt none .len [.v 0] 1 <|
(.bind 1
(.loop [.c (.int .i64 0)]
(.lt none (.bin .lss) [.v 4,.v 3] 1 <|
(.ite (.v 5)
(.lt none .inb [.v 0,.v 4] 0 <|
(.lt none (.row 7 0 [true,true,true,true,true,true,true]) [.v 0,.v 4] 7 <|
(.call none 128 [.v 6,.v 7,.v 8,.v 9,.v 10,.v 11,.v 12,.v 1,.v 2] 1 [] <|
(.ite (.v 13)
(.leaf .ret [.v 4] ())
(.lt none (.bin .add) [.v 4,.c (.int .i64 1)] 1 <|
(.leaf .cont [.v 14] ()))))))
(.leaf (.yield 1) [] ())))) <|
(.leaf .ret [.c (.int .i64 (-1))] ())))
def Eb2:Tm Unit :=
(.lt none (.bin .eql) [.v 0,.v 7] 1 <|
(.lt (some (.v 9,true)) .id [.v 1] 1 <|
(.lt (some (.v 9,true)) .id [.v 8] 1 <|
(.lt (some (.v 9,true)) (.bin .eql) [.v 10,.v 11] 1 <|
(.lt none .pick [.v 9,.v 12,.c (.bool false)] 1 <|
(.leaf .ret [.v 13] ()))))))
def Eb1:Tm Unit :=
(.call none 130 [.v 0,.v 1,.v 2] 1 [] <|
(.lt none .not [.v 3] 1 <|
(.ite (.v 4)
(.leaf .ret [.c (.int .i64 1)] ())
(.call none 136 [.v 0,.v 1,.v 2] 1 [] <|
(.lt none .not [.v 5] 1 <|
(.ite (.v 6)
(.leaf .ret [.c (.int .i64 2)] ())
(.call none 137 [.v 0,.v 1,.v 2] 2 [] <|
(.call none 140 [.v 7,.v 8] 1 [] <|
(.lt none .not [.v 9] 1 <|
(.ite (.v 10)
(.leaf .ret [.c (.int .i64 3)] ())
(.call none 146 [.v 0,.v 1,.v 2] 1 [] <|
(.lt none .not [.v 11] 1 <|
(.ite (.v 12)
(.leaf .ret [.c (.int .i64 4)] ())
(.leaf .ret [.c (.int .i64 0)] ()))))))))))))))
def Eb0:Tm Unit :=
(.lt none .len [.v 0] 1 <|
(.bind 1
(.loop [.c (.int .i64 0)]
(.lt none (.bin .lss) [.v 4,.v 3] 1 <|
(.ite (.v 5)
(.lt none .inb [.v 0,.v 4] 0 <|
(.lt none (.row 4 0 [true,true,false,false]) [.v 0,.v 4] 4 <|
(.call none 131 [.v 7,.v 8] 1 [] <|
(.lt none .len [.v 10] 1 <|
(.bind 3
(.loop [.c (.int .i64 0)]
(.lt none (.bin .lss) [.v 12,.v 11] 1 <|
(.ite (.v 13)
(.lt none .inb [.v 10,.v 12] 0 <|
(.lt none (.row 1 0 [false]) [.v 10,.v 12] 1 <|
(.lt none .inb [.v 14,.c (.int .i64 0)] 0 <|
(.lt none (.row 1 0 [true]) [.v 14,.c (.int .i64 0)] 1 <|
(.lt none .inb [.v 14,.c (.int .i64 1)] 0 <|
(.lt none (.row 1 0 [true]) [.v 14,.c (.int .i64 1)] 1 <|
(.call none 134 [.v 7,.v 8,.v 15,.v 16] 10 [] <|
(.lt none (.sub 4 false) [.v 0,.c (.int .i64 0),.v 4] 1 <|
(.lt none .len [.v 27] 1 <|
(.bind 5
(.loop [.c (.int .i64 0)]
(.lt none (.bin .lss) [.v 29,.v 28] 1 <|
(.ite (.v 30)
(.lt none .inb [.v 27,.v 29] 0 <|
(.lt none (.row 4 0 [true,true,false,false]) [.v 27,.v 29] 4 <|
(.lt none .inb [.v 14,.c (.int .i64 0)] 0 <|
(.lt none (.row 1 0 [true]) [.v 14,.c (.int .i64 0)] 1 <|
(.lt none .inb [.v 14,.c (.int .i64 1)] 0 <|
(.lt none (.row 1 0 [true]) [.v 14,.c (.int .i64 1)] 1 <|
(.call none 134 [.v 32,.v 33,.v 35,.v 36] 10 [] <|
(.lt none (.bin .eql) [.v 39,.c (.int .i64 3)] 1 <|
(.lt (some (.v 47,true)) (.eqs [0,0,0,0,0]) [.v 20,.v 21,.v 22,.v 23,.v 24,.v 40,.v 41,.v 42,.v 43,.v 44] 1 <|
(.lt (some (.v 47,true)) .not [.v 48] 1 <|
(.lt (some (.v 47,true)) .id [.v 49] 1 <|
(.call (some (.v 50,false)) 102 [.v 25,.v 26,.v 45,.v 46] 1 [] <|
(.lt (some (.v 50,false)) .not [.v 51] 1 <|
(.lt (some (.v 47,true)) .pick [.v 50,.c (.bool true),.v 52] 1 <|
(.lt none .pick [.v 47,.v 53,.c (.bool false)] 1 <|
(.ite (.v 54)
(.leaf .ret [.c (.bool false)] ())
(.lt none (.bin .add) [.v 29,.c (.int .i64 1)] 1 <|
(.leaf .cont [.v 55] ()))))))))))))))))))
(.leaf (.yield 5) [] ())))) <|
(.lt none (.bin .add) [.v 12,.c (.int .i64 1)] 1 <|
(.leaf .cont [.v 29] ()))))))))))))
(.leaf (.yield 3) [] ())))) <|
(.lt none (.bin .add) [.v 4,.c (.int .i64 1)] 1 <|
(.leaf .cont [.v 12] ())))))))
(.leaf (.yield 1) [] ())))) <|
(.leaf .ret [.c (.bool true)] ())))
def Ebz:Tm Unit :=
(.lt none (.mk 1 0) [] 1 <|
(.call none 132 [.v 0,.v 1,.v 2] 1 [] <|
(.leaf .ret [.v 3] ())))
def Eby:Tm Unit :=
(.lt none .len [.v 1] 1 <|
(.bind 1
(.loop [.c (.int .i64 0),.v 2]
(.lt none (.bin .lss) [.v 4,.v 3] 1 <|
(.ite (.v 6)
(.lt none .inb [.v 1,.v 4] 0 <|
(.lt none (.row 1 0 [false]) [.v 1,.v 4] 1 <|
(.lt none .len [.v 7] 1 <|
(.bind 3
(.loop [.c (.int .i64 0),.v 5]
(.lt none (.bin .lss) [.v 9,.v 8] 1 <|
(.ite (.v 11)
(.lt none .inb [.v 7,.v 9] 0 <|
(.lt none (.row 10 0 [true,true,true,true,true,true,true,true,true,false]) [.v 7,.v 9] 10 <|
(.lt none (.bin .add) [.v 9,.c (.int .i64 1)] 1 <|
(.call none 133 [.v 4,.v 22,.v 12,.v 13,.v 14,.v 15,.v 16,.v 17,.v 18,.v 19,.v 20,.v 21,.v 10] 1 [] <|
(.lt none (.bin .add) [.v 9,.c (.int .i64 1)] 1 <|
(.leaf .cont [.v 24,.v 23] ()))))))
(.leaf (.yield 3) [.v 10] ())))) <|
(.lt none (.bin .add) [.v 4,.c (.int .i64 1)] 1 <|
(.leaf .cont [.v 10,.v 9] ()))))))
(.leaf (.yield 1) [.v 5] ())))) <|
(.leaf .ret [.v 4] ())))
def Ebx:Tm Unit :=
(.lt none (.bin .eql) [.v 4,.c (.int .i64 3)] 1 <|
(.ite (.v 13)
(.lt none (.mk 1 2) [.v 0,.v 1] 1 <|
(.lt none (.mk 1 1) [.v 14] 1 <|
(.lt none (.app 1 24 false) [.v 12,.v 15] 1 <|
(.leaf .ret [.v 16] ()))))
(.leaf .ret [.v 12] ())))
def Ebw:Tm Unit :=
(.lt none .inb [.v 1,.v 2] 0 <|
(.lt none (.row 1 0 [false]) [.v 1,.v 2] 1 <|
(.lt none .len [.v 4] 1 <|
(.lt none (.bin .leq) [.v 3,.v 5] 1 <|
(.ite (.v 6)
(.lt none .inb [.v 1,.v 2] 0 <|
(.lt none (.row 1 0 [false]) [.v 1,.v 2] 1 <|
(.lt none (.bin .sub) [.v 3,.c (.int .i64 1)] 1 <|
(.lt none .inb [.v 7,.v 8] 0 <|
(.lt none (.row 10 0 [true,true,true,true,true,true,true,true,true,false]) [.v 7,.v 8] 10 <|
(.call none 135 [.v 9,.v 10,.v 11,.v 12,.v 13,.v 14,.v 15,.v 16,.v 17,.v 18] 10 [] <|
(.leaf .ret [.v 19,.v 20,.v 21,.v 22,.v 23,.v 24,.v 25,.v 26,.v 27,.v 28] ())))))))
(.call none 101 [.v 0] 2 [] <|
(.leaf .ret [.c (.int .i64 0),.c (.int .i64 0),.c (.int .i64 0),.c (.int .i64 0),.c (.int .i64 0),.c (.int .i64 0),.c (.int .i64 0),.c (.int .i64 0),.v 7,.v 8] ())))))))
def Ebv:Tm Unit :=
(.call none 92 [.v 8,.v 9] 2 [] <|
(.leaf .ret [.v 0,.v 1,.v 2,.v 3,.v 4,.v 5,.v 6,.v 7,.v 10,.v 11] ()))
def Ebu:Tm Unit :=
(.lt none .len [.v 0] 1 <|
(.bind 1
(.loop [.c (.int .i64 0)]
(.lt none (.bin .lss) [.v 4,.v 3] 1 <|
(.ite (.v 5)
(.lt none .inb [.v 0,.v 4] 0 <|
(.lt none (.row 4 0 [true,true,false,false]) [.v 0,.v 4] 4 <|
(.call none 131 [.v 7,.v 8] 1 [] <|
(.lt none .len [.v 10] 1 <|
(.bind 3
(.loop [.c (.int .i64 0)]
(.lt none (.bin .lss) [.v 12,.v 11] 1 <|
(.ite (.v 13)
(.lt none .inb [.v 10,.v 12] 0 <|
(.lt none (.row 1 0 [false]) [.v 10,.v 12] 1 <|
(.lt none .inb [.v 14,.c (.int .i64 0)] 0 <|
(.lt none (.row 1 0 [true]) [.v 14,.c (.int .i64 0)] 1 <|
(.lt none .inb [.v 14,.c (.int .i64 1)] 0 <|
(.lt none (.row 1 0 [true]) [.v 14,.c (.int .i64 1)] 1 <|
(.call none 134 [.v 7,.v 8,.v 15,.v 16] 10 [] <|
(.lt none .len [.v 2] 1 <|
(.lt none .inb [.v 14,.c (.int .i64 0)] 0 <|
(.lt none (.row 1 0 [true]) [.v 14,.c (.int .i64 0)] 1 <|
(.lt none .inb [.v 14,.c (.int .i64 1)] 0 <|
(.lt none (.row 1 0 [true]) [.v 14,.c (.int .i64 1)] 1 <|
(.call none 126 [.v 0,.v 1,.v 2,.v 27,.v 28,.v 29] 1 [] <|
(.lt none (.bin .neq) [.v 20,.c (.int .i64 0)] 1 <|
(.lt (some (.v 31,true)) .id [.v 30] 1 <|
(.lt (some (.v 31,true)) (.bin .lss) [.v 32,.c (.int .i64 0)] 1 <|
(.lt (some (.v 31,true)) .id [.v 33] 1 <|
(.lt (some (.v 34,false)) .id [.v 30] 1 <|
(.lt (some (.v 34,false)) .inb [.v 2,.v 35] 0 <|
(.lt (some (.v 34,false)) (.row 7 2 [true,true,true,true,true]) [.v 2,.v 35] 5 <|
(.lt (some (.v 34,false)) (.eqs [0,0,0,0,0]) [.v 36,.v 37,.v 38,.v 39,.v 40,.v 20,.v 21,.v 22,.v 23,.v 24] 1 <|
(.lt (some (.v 34,false)) .not [.v 41] 1 <|
(.lt (some (.v 31,true)) .pick [.v 34,.c (.bool true),.v 42] 1 <|
(.lt none .pick [.v 31,.v 43,.c (.bool false)] 1 <|
(.ite (.v 44)
(.leaf .ret [.c (.bool false)] ())
(.lt none (.bin .add) [.v 12,.c (.int .i64 1)] 1 <|
(.leaf .cont [.v 45] ())))))))))))))))))))))))))))
(.leaf (.yield 3) [] ())))) <|
(.lt none (.bin .add) [.v 4,.c (.int .i64 1)] 1 <|
(.leaf .cont [.v 12] ())))))))
(.leaf (.yield 1) [] ())))) <|
(.leaf .ret [.c (.bool true)] ())))
def Ebt:Tm Unit :=
(.lt none .len [.v 0] 1 <|
(.call none 138 [.v 3] 2 [] <|
(.lt none .len [.v 0] 1 <|
(.bind 1
(.loop [.c (.int .i64 0),.v 4,.v 5]
(.lt none (.bin .lss) [.v 7,.v 6] 1 <|
(.ite (.v 10)
(.lt none .inb [.v 0,.v 7] 0 <|
(.lt none (.row 4 0 [true,true,false,false]) [.v 0,.v 7] 4 <|
(.call none 131 [.v 12,.v 13] 1 [] <|
(.lt none .len [.v 15] 1 <|
(.bind 3
(.loop [.c (.int .i64 0),.v 8,.v 9]
(.lt none (.bin .lss) [.v 17,.v 16] 1 <|
(.ite (.v 20)
(.lt none .inb [.v 15,.v 17] 0 <|
(.lt none (.row 1 0 [false]) [.v 15,.v 17] 1 <|
(.lt none .inb [.v 21,.c (.int .i64 0)] 0 <|
(.lt none (.row 1 0 [true]) [.v 21,.c (.int .i64 0)] 1 <|
(.lt none .inb [.v 21,.c (.int .i64 1)] 0 <|
(.lt none (.row 1 0 [true]) [.v 21,.c (.int .i64 1)] 1 <|
(.call none 134 [.v 12,.v 13,.v 22,.v 23] 10 [] <|
(.lt none .inb [.v 21,.c (.int .i64 0)] 0 <|
(.lt none (.row 1 0 [true]) [.v 21,.c (.int .i64 0)] 1 <|
(.lt none .inb [.v 21,.c (.int .i64 1)] 0 <|
(.lt none (.row 1 0 [true]) [.v 21,.c (.int .i64 1)] 1 <|
(.call none 139 [.v 34,.v 35,.c (.int .i64 0),.c (.int .i64 0),.v 26,.v 27,.v 28,.v 29,.v 30,.v 31,.v 32,.v 33,.v 18,.v 19] 2 [] <|
(.lt none (.dep 99) [.v 37] 0 <|
(.lt none (.bin .add) [.v 17,.c (.int .i64 1)] 1 <|
(.leaf .cont [.v 38,.v 36,.v 37] ())))))))))))))))
(.leaf (.yield 3) [.v 18,.v 19] ())))) <|
(.lt none (.bin .add) [.v 7,.c (.int .i64 1)] 1 <|
(.leaf .cont [.v 19,.v 17,.v 18] ())))))))
(.leaf (.yield 1) [.v 8,.v 9] ())))) <|
(.leaf .ret [.v 7,.v 8] ())))))
def Ebs:Tm Unit :=
(.lt none (.make 24 [(.rows 10 [])]) [.v 0] 1 <|
(.leaf .ret [.v 0,.v 1] ()))
def Ebr:Tm Unit :=
(.bind 1
(.loop [.v 13]
(.lt none .inb [.v 14,.v 0] 0 <|
(.lt none (.row 1 0 [false]) [.v 14,.v 0] 1 <|
(.lt none .len [.v 15] 1 <|
(.lt none (.bin .lss) [.v 16,.v 1] 1 <|
(.ite (.v 17)
(.lt none .inb [.v 14,.v 0] 0 <|
(.lt none (.row 1 0 [false]) [.v 14,.v 0] 1 <|
(.call none 101 [.v 12] 2 [] <|
(.lt none (.mk 10 1) [.c (.int .i64 0),.c (.int .i64 0),.c (.int .i64 0),.c (.int .i64 0),.c (.int .i64 0),.c (.int .i64 0),.c (.int .i64 0),.c (.int .i64 0),.v 19,.v 20] 1 <|
(.lt none (.set 1 0 1) [.v 14,.v 0,.c .hole] 1 <|
(.lt none (.app 10 96 false) [.v 18,.v 21] 1 <|
(.lt none .inb [.v 22,.v 0] 0 <|
(.lt none (.set 1 0 1) [.v 22,.v 0,.v 23] 1 <|
(.leaf .cont [.v 24] ())))))))))
(.leaf (.yield 1) [.v 14] ()))))))) <|
(.lt none .inb [.v 14,.v 0] 0 <|
(.lt none (.row 1 0 [false]) [.v 14,.v 0] 1 <|
(.lt none (.bin .sub) [.v 1,.c (.int .i64 1)] 1 <|
(.call none 135 [.v 2,.v 3,.v 4,.v 5,.v 6,.v 7,.v 8,.v 9,.v 10,.v 11] 10 [] <|
(.lt none .inb [.v 15,.v 16] 0 <|
(.lt none (.set 10 0 10) [.v 15,.v 16,.v 17,.v 18,.v 19,.v 20,.v 21,.v 22,.v 23,.v 24,.v 25,.v 26] 1 <|
(.lt none (.set 1 0 1) [.v 14,.v 0,.v 27] 1 <|
(.leaf .ret [.v 12,.v 28] ())))))))))
def Ebq:Tm Unit :=
(.call none 131 [.v 0,.v 1] 1 [] <|
(.lt none .len [.v 2] 1 <|
(.bind 1
(.loop [.c (.int .i64 0)]
(.lt none (.bin .lss) [.v 4,.v 3] 1 <|
(.ite (.v 5)
(.lt none .inb [.v 2,.v 4] 0 <|
(.lt none (.row 1 0 [false]) [.v 2,.v 4] 1 <|
(.lt none (.sub 1 false) [.v 2,.c (.int .i64 0),.v 4] 1 <|
(.lt none .len [.v 7] 1 <|
(.bind 3
(.loop [.c (.int .i64 0)]
(.lt none (.bin .lss) [.v 9,.v 8] 1 <|
(.ite (.v 10)
(.lt none .inb [.v 7,.v 9] 0 <|
(.lt none (.row 1 0 [false]) [.v 7,.v 9] 1 <|
(.lt none .inb [.v 6,.c (.int .i64 0)] 0 <|
(.lt none (.row 1 0 [true]) [.v 6,.c (.int .i64 0)] 1 <|
(.lt none .inb [.v 6,.c (.int .i64 1)] 0 <|
(.lt none (.row 1 0 [true]) [.v 6,.c (.int .i64 1)] 1 <|
(.call none 134 [.v 0,.v 1,.v 12,.v 13] 10 [] <|
(.lt none .inb [.v 11,.c (.int .i64 0)] 0 <|
(.lt none (.row 1 0 [true]) [.v 11,.c (.int .i64 0)] 1 <|
(.lt none .inb [.v 11,.c (.int .i64 1)] 0 <|
(.lt none (.row 1 0 [true]) [.v 11,.c (.int .i64 1)] 1 <|
(.call none 134 [.v 0,.v 1,.v 24,.v 25] 10 [] <|
(.call none 141 [.v 17,.v 18,.v 19,.v 20,.v 21,.v 29,.v 30,.v 31,.v 32,.v 33] 1 [] <|
(.lt (some (.v 36,true)) .inb [.v 11,.c (.int .i64 1)] 0 <|
(.lt (some (.v 36,true)) (.row 1 0 [true]) [.v 11,.c (.int .i64 1)] 1 <|
(.lt (some (.v 36,true)) .inb [.v 11,.c (.int .i64 0)] 0 <|
(.lt (some (.v 36,true)) (.row 1 0 [true]) [.v 11,.c (.int .i64 0)] 1 <|
(.lt (some (.v 36,true)) .inb [.v 23,.v 38] 0 <|
(.lt (some (.v 36,true)) (.row 1 0 [true]) [.v 23,.v 38] 1 <|
(.lt (some (.v 36,true)) (.bin .gtr) [.v 37,.v 39] 1 <|
(.lt none .pick [.v 36,.v 40,.c (.bool false)] 1 <|
(.lt (some (.v 41,true)) .inb [.v 6,.c (.int .i64 1)] 0 <|
(.lt (some (.v 41,true)) (.row 1 0 [true]) [.v 6,.c (.int .i64 1)] 1 <|
(.lt (some (.v 41,true)) .inb [.v 6,.c (.int .i64 0)] 0 <|
(.lt (some (.v 41,true)) (.row 1 0 [true]) [.v 6,.c (.int .i64 0)] 1 <|
(.lt (some (.v 41,true)) .inb [.v 35,.v 43] 0 <|
(.lt (some (.v 41,true)) (.row 1 0 [true]) [.v 35,.v 43] 1 <|
(.lt (some (.v 41,true)) (.bin .gtr) [.v 42,.v 44] 1 <|
(.lt none .pick [.v 41,.v 45,.c (.bool false)] 1 <|
(.ite (.v 46)
(.leaf .ret [.c (.bool false)] ())
(.lt none (.bin .add) [.v 9,.c (.int .i64 1)] 1 <|
(.leaf .cont [.v 47] ()))))))))))))))))))))))))))))))))
(.leaf (.yield 3) [] ())))) <|
(.lt none (.bin .add) [.v 4,.c (.int .i64 1)] 1 <|
(.leaf .cont [.v 9] ())))))))
(.leaf (.yield 1) [] ())))) <|
(.leaf .ret [.c (.bool true)] ()))))
def Ebp:Tm Unit :=
(.call none 142 [.v 0,.v 1,.v 2,.v 3,.v 4] 1 [] <|
(.call none 143 [.v 10,.v 5,.v 6,.v 7,.v 8,.v 9] 1 [] <|
(.leaf .ret [.v 11] ())))
def Ebo:Tm Unit :=
(.lt none (.bin .eql) [.v 0,.c (.int .i64 1)] 1 <|
(.ite (.v 5)
(.lt none .min [.v 2,.v 3] 1 <|
(.lt none .max [.v 2,.v 3] 1 <|
(.lt none (.mk 1 2) [.v 6,.v 7] 1 <|
(.leaf .ret [.v 8] ()))))
(.lt none (.bin .eql) [.v 0,.c (.int .i64 2)] 1 <|
(.ite (.v 6)
(.lt none (.mk 1 1) [.v 2] 1 <|
(.leaf .ret [.v 7] ()))
(.lt none (.mk 1 0) [] 1 <|
(.leaf .ret [.v 7] ()))))))
def Ebn:Tm Unit :=
(.call none 144 [.v 0,.v 1,.v 2,.v 3,.v 4,.v 5] 1 [] <|
(.lt none (.bin .geq) [.v 6,.c (.int .i64 0)] 1 <|
(.leaf .ret [.v 7] ())))
def Ebm:Tm Unit :=
(.lt none .len [.v 0] 1 <|
(.bind 1
(.loop [.c (.int .i64 0)]
(.lt none (.bin .lss) [.v 7,.v 6] 1 <|
(.ite (.v 8)
(.lt none .inb [.v 0,.v 7] 0 <|
(.lt none (.row 1 0 [true]) [.v 0,.v 7] 1 <|
(.call none 145 [.v 9,.v 1,.v 2,.v 3,.v 4,.v 5] 1 [] <|
(.ite (.v 10)
(.leaf .ret [.v 7] ())
(.lt none (.bin .add) [.v 7,.c (.int .i64 1)] 1 <|
(.leaf .cont [.v 11] ()))))))
(.leaf (.yield 1) [] ())))) <|
(.leaf .ret [.c (.int .i64 (-1))] ())))
def Ebl:Tm Unit :=
(.call none 142 [.v 1,.v 2,.v 3,.v 4,.v 5] 1 [] <|
(.call none 118 [.v 6,.v 0] 1 [] <|
(.leaf .ret [.v 7] ())))
def Ebk:Tm Unit :=
(.call none 137 [.v 0,.v 1,.v 2] 2 [] <|
(.lt none .len [.v 0] 1 <|
(.bind 1
(.loop [.c (.int .i64 0)]
(.lt none (.bin .lss) [.v 6,.v 5] 1 <|
(.ite (.v 7)
(.lt none .inb [.v 0,.v 6] 0 <|
(.lt none (.row 4 0 [true,true,false,false]) [.v 0,.v 6] 4 <|
(.lt none (.sub 4 false) [.v 0,.c (.int .i64 0),.v 6] 1 <|
(.lt none .len [.v 12] 1 <|
(.bind 3
(.loop [.c (.int .i64 0)]
(.lt none (.bin .lss) [.v 14,.v 13] 1 <|
(.ite (.v 15)
(.lt none .inb [.v 12,.v 14] 0 <|
(.lt none (.row 4 0 [true,true,false,false]) [.v 12,.v 14] 4 <|
(.call none 147 [.v 9,.v 10] 1 [] <|
(.call none 147 [.v 17,.v 18] 1 [] <|
(.call none 170 [.v 3,.v 4,.v 20,.v 21] 1 [] <|
(.lt none .not [.v 22] 1 <|
(.ite (.v 23)
(.leaf .ret [.c (.bool false)] ())
(.lt none (.bin .add) [.v 14,.c (.int .i64 1)] 1 <|
(.leaf .cont [.v 24] ())))))))))
(.leaf (.yield 3) [] ())))) <|
(.lt none (.bin .add) [.v 6,.c (.int .i64 1)] 1 <|
(.leaf .cont [.v 14] ())))))))
(.leaf (.yield 1) [] ())))) <|
(.leaf .ret [.c (.bool true)] ()))))
def Ebj:Tm Unit :=
(.call none 138 [.v 0] 2 [] <|
(.call none 148 [.v 0,.v 1] 1 [] <|
(.lt none .len [.v 4] 1 <|
(.bind 1
(.loop [.c (.int .i64 0),.v 2,.v 3]
(.lt none (.bin .lss) [.v 6,.v 5] 1 <|
(.ite (.v 9)
(.lt none .inb [.v 4,.v 6] 0 <|
(.lt none (.row 1 0 [false]) [.v 4,.v 6] 1 <|
(.lt none .inb [.v 10,.c (.int .i64 0)] 0 <|
(.lt none (.row 1 0 [true]) [.v 10,.c (.int .i64 0)] 1 <|
(.lt none .inb [.v 10,.c (.int .i64 1)] 0 <|
(.lt none (.row 1 0 [true]) [.v 10,.c (.int .i64 1)] 1 <|
(.lt none .inb [.v 10,.c (.int .i64 0)] 0 <|
(.lt none (.row 1 0 [true]) [.v 10,.c (.int .i64 0)] 1 <|
(.lt none .inb [.v 10,.c (.int .i64 1)] 0 <|
(.lt none (.row 1 0 [true]) [.v 10,.c (.int .i64 1)] 1 <|
(.call none 134 [.v 0,.v 1,.v 13,.v 14] 10 [] <|
(.call none 139 [.v 11,.v 12,.v 15,.v 16,.v 17,.v 18,.v 19,.v 20,.v 21,.v 22,.v 23,.v 24,.v 7,.v 8] 2 [] <|
(.lt none (.dep 99) [.v 26] 0 <|
(.lt none (.bin .add) [.v 6,.c (.int .i64 1)] 1 <|
(.leaf .cont [.v 27,.v 25,.v 26] ())))))))))))))))
(.leaf (.yield 1) [.v 7,.v 8] ())))) <|
(.call none 159 [.v 6,.v 7] 2 [] <|
(.lt none (.dep 99) [.v 8] 0 <|
(.lt none (.dep 99) [.v 9] 0 <|
(.lt none (.mk 1 0) [] 1 <|
(.lt none .len [.v 8] 1 <|
(.bind 3
(.loop [.v 10,.c (.int .i64 0)]
(.lt none (.bin .lss) [.v 13,.v 11] 1 <|
(.ite (.v 14)
(.lt none .inb [.v 8,.v 13] 0 <|
(.lt none (.row 1 0 [false]) [.v 8,.v 13] 1 <|
(.lt none .inb [.v 15,.c (.int .i64 0)] 0 <|
(.lt none (.row 1 0 [true]) [.v 15,.c (.int .i64 0)] 1 <|
(.lt none .inb [.v 15,.c (.int .i64 1)] 0 <|
(.lt none (.row 1 0 [true]) [.v 15,.c (.int .i64 1)] 1 <|
(.call none 134 [.v 6,.v 7,.v 16,.v 17] 10 [] <|
(.lt none (.dep 99) [.v 27] 0 <|
(.lt none (.bin .mul) [.c (.int .i64 100),.v 26] 1 <|
(.lt none .inb [.v 15,.c (.int .i64 0)] 0 <|
(.lt none (.row 1 0 [true]) [.v 15,.c (.int .i64 0)] 1 <|
(.lt none (.bin .mul) [.c (.int .i64 10),.v 29] 1 <|
(.lt none (.bin .add) [.v 28,.v 30] 1 <|
(.lt none .inb [.v 15,.c (.int .i64 1)] 0 <|
(.lt none (.row 1 0 [true]) [.v 15,.c (.int .i64 1)] 1 <|
(.lt none (.bin .add) [.v 31,.v 32] 1 <|
(.lt none (.mk 1 1) [.v 33] 1 <|
(.lt none (.app 1 8 true) [.v 12,.v 34] 1 <|
(.lt none (.bin .add) [.v 13,.c (.int .i64 1)] 1 <|
(.leaf .cont [.v 35,.v 36] ()))))))))))))))))))))
(.leaf (.yield 3) [.v 12] ())))) <|
(.lt none (.mk 1 0) [] 1 <|
(.call none 160 [.v 9,.v 12] 1 [] <|
(.lt none (.dep 99) [.v 14] 0 <|
(.lt none .len [.v 14] 1 <|
(.bind 5
(.loop [.v 8,.v 13,.c (.int .i64 0)]
(.lt none (.bin .lss) [.v 18,.v 15] 1 <|
(.ite (.v 19)
(.lt none .inb [.v 14,.v 18] 0 <|
(.lt none (.row 1 0 [true]) [.v 14,.v 18] 1 <|
(.lt none .inb [.v 16,.v 20] 0 <|
(.lt none (.row 1 0 [false]) [.v 16,.v 20] 1 <|
(.lt none (.set 1 0 1) [.v 16,.v 20,.c .hole] 1 <|
(.lt none (.mk 1 1) [.v 21] 1 <|
(.lt none (.app 1 24 false) [.v 17,.v 23] 1 <|
(.lt none (.bin .add) [.v 18,.c (.int .i64 1)] 1 <|
(.leaf .cont [.v 22,.v 24,.v 25] ())))))))))
(.leaf (.yield 5) [.v 17] ())))) <|
(.leaf .ret [.v 16] ()))))))))))))))))
def Ebi:Tm Unit :=
(.call none 131 [.v 0,.v 1] 1 [] <|
(.call none 149 [.v 2,.v 0,.v 1] 1 [] <|
(.leaf .ret [.v 3] ())))
def Ebh:Tm Unit :=
(.call none 150 [.v 0,.v 1,.v 2] 1 [] <|
(.lt none (.bin .eql) [.v 3,.c (.int .i64 (-1))] 1 <|
(.ite (.v 4)
(.leaf .ret [.v 0] ())
(.lt none (.bin .add) [.v 3,.c (.int .i64 1)] 1 <|
(.bind 1
(.loop [.v 0,.v 3,.v 5]
(.lt none .len [.v 6] 1 <|
(.lt none (.bin .lss) [.v 8,.v 9] 1 <|
(.ite (.v 10)
(.bind 0
(.lt none .inb [.v 6,.v 8] 0 <|
(.lt none (.row 1 0 [false]) [.v 6,.v 8] 1 <|
(.call none 151 [.v 11,.v 1,.v 2] 1 [] <|
(.lt none .not [.v 12] 1 <|
(.ite (.v 13)
(.lt none .inb [.v 6,.v 7] 0 <|
(.lt none (.set 1 0 1) [.v 6,.v 8,.c .hole] 1 <|
(.lt none (.set 1 0 1) [.v 14,.v 7,.v 11] 1 <|
(.lt none (.bin .add) [.v 7,.c (.int .i64 1)] 1 <|
(.leaf (.yield 0) [.v 15,.v 16] ())))))
(.leaf (.yield 0) [.v 6,.v 7] ())))))) <|
(.lt none (.bin .add) [.v 8,.c (.int .i64 1)] 1 <|
(.leaf .cont [.v 11,.v 12,.v 13] ())))
(.leaf (.yield 1) [.v 6,.v 7] ()))))) <|
(.lt none .len [.v 6] 1 <|
(.lt none (.sub 1 false) [.v 6,.v 7,.v 8] 1 <|
(.lt none (.clr 1) [.v 6,.v 7] 1 <|
(.lt none (.sub 1 false) [.v 10,.c (.int .i64 0),.v 7] 1 <|
(.leaf .ret [.v 11] ()))))))))))
def Ebg:Tm Unit :=
(.lt none .len [.v 0] 1 <|
(.bind 1
(.loop [.c (.int .i64 0)]
(.lt none (.bin .lss) [.v 4,.v 3] 1 <|
(.ite (.v 5)
(.lt none .inb [.v 0,.v 4] 0 <|
(.lt none (.row 1 0 [false]) [.v 0,.v 4] 1 <|
(.call none 151 [.v 6,.v 1,.v 2] 1 [] <|
(.ite (.v 7)
(.leaf .ret [.v 4] ())
(.lt none (.bin .add) [.v 4,.c (.int .i64 1)] 1 <|
(.leaf .cont [.v 8] ()))))))
(.leaf (.yield 1) [] ())))) <|
(.leaf .ret [.c (.int .i64 (-1))] ())))
def Ebf:Tm Unit :=
(.call none 152 [.v 1,.v 2,.v 0] 1 [] <|
(.lt none .len [.v 3] 1 <|
(.lt none (.bin .gtr) [.v 4,.c (.int .i64 0)] 1 <|
(.leaf .ret [.v 5] ()))))
def Ebe:Tm Unit :=
(.lt none (.mk 1 1) [.v 2] 1 <|
(.lt none (.mk 1 0) [] 1 <|
(.lt none (.mk 1 1) [.v 2] 1 <|
(.bind 1
(.loop [.v 3,.v 4,.v 5]
(.lt none .len [.v 8] 1 <|
(.lt none (.bin .gtr) [.v 9,.c (.int .i64 0)] 1 <|
(.ite (.v 10)
(.lt none .inb [.v 8,.c (.int .i64 0)] 0 <|
(.lt none (.row 1 0 [false]) [.v 8,.c (.int .i64 0)] 1 <|
(.lt none .inb [.v 11,.c (.int .i64 0)] 0 <|
(.lt none (.row 1 0 [true]) [.v 11,.c (.int .i64 0)] 1 <|
(.lt none .inb [.v 8,.c (.int .i64 0)] 0 <|
(.lt none (.row 1 0 [false]) [.v 8,.c (.int .i64 0)] 1 <|
(.lt none .inb [.v 13,.c (.int .i64 1)] 0 <|
(.lt none (.row 1 0 [true]) [.v 13,.c (.int .i64 1)] 1 <|
(.call none 134 [.v 0,.v 1,.v 12,.v 14] 10 [] <|
(.call none 153 [.v 23,.v 24] 1 [] <|
(.lt none (.dep 99) [.v 25] 0 <|
(.lt none .len [.v 25] 1 <|
(.bind 3
(.loop [.v 6,.v 7,.v 8,.v 25,.c (.int .i64 0)]
(.lt none (.bin .lss) [.v 31,.v 26] 1 <|
(.ite (.v 32)
(.bind 4
(.lt none .inb [.v 30,.v 31] 0 <|
(.lt none (.row 1 0 [false]) [.v 30,.v 31] 1 <|
(.call none 154 [.v 27,.v 33] 1 [] <|
(.ite (.v 34)
(.leaf (.yield 4) [.v 27,.v 28,.v 29] ())
(.lt none (.mk 1 1) [.v 33] 1 <|
(.lt none (.app 1 24 false) [.v 27,.v 35] 1 <|
(.lt none .inb [.v 33,.c (.int .i64 0)] 0 <|
(.lt none (.row 1 0 [true]) [.v 33,.c (.int .i64 0)] 1 <|
(.lt none .inb [.v 33,.c (.int .i64 1)] 0 <|
(.lt none (.row 1 0 [true]) [.v 33,.c (.int .i64 1)] 1 <|
(.call none 134 [.v 0,.v 1,.v 37,.v 38] 10 [] <|
(.lt none (.bin .eql) [.v 41,.c (.int .i64 3)] 1 <|
(.ite (.v 49)
(.lt none (.mk 1 1) [.v 33] 1 <|
(.lt none (.app 1 24 false) [.v 29,.v 50] 1 <|
(.leaf (.yield 4) [.v 36,.v 28,.v 51] ())))
(.lt none (.mk 1 1) [.v 33] 1 <|
(.lt none (.app 1 24 false) [.v 28,.v 50] 1 <|
(.leaf (.yield 4) [.v 36,.v 51,.v 29] ())))))))))))))))) <|
(.lt none (.bin .add) [.v 31,.c (.int .i64 1)] 1 <|
(.leaf .cont [.v 33,.v 34,.v 35,.v 30,.v 36] ())))
(.leaf (.yield 3) [.v 27,.v 28,.v 29] ())))) <|
(.lt none .len [.v 29] 1 <|
(.lt none (.sub 1 false) [.v 29,.c (.int .i64 1),.v 30] 1 <|
(.leaf .cont [.v 27,.v 28,.v 31] ()))))))))))))))))
(.leaf (.yield 1) [.v 7] ()))))) <|
(.call none 158 [.v 6] 1 [] <|
(.leaf .ret [.v 7] ()))))))
def Ebd:Tm Unit :=
(.lt none (.mk 1 0) [] 1 <|
(.lt none .len [.v 1] 1 <|
(.bind 1
(.loop [.v 2,.c (.int .i64 0)]
(.lt none (.bin .lss) [.v 5,.v 3] 1 <|
(.ite (.v 6)
(.lt none .inb [.v 1,.v 5] 0 <|
(.lt none (.row 1 0 [true]) [.v 1,.v 5] 1 <|
(.bind 3
(.loop [.v 4,.c (.int .i64 1)]
(.lt none (.bin .leq) [.v 9,.v 7] 1 <|
(.ite (.v 10)
(.lt none (.mk 1 2) [.v 5,.v 9] 1 <|
(.lt none (.mk 1 1) [.v 11] 1 <|
(.lt none (.app 1 24 false) [.v 8,.v 12] 1 <|
(.lt none (.bin .add) [.v 9,.c (.int .i64 1)] 1 <|
(.leaf .cont [.v 13,.v 14] ())))))
(.leaf (.yield 3) [.v 8] ())))) <|
(.lt none (.bin .add) [.v 5,.c (.int .i64 1)] 1 <|
(.leaf .cont [.v 8,.v 9] ())))))
(.leaf (.yield 1) [.v 4] ())))) <|
(.leaf .ret [.v 4] ()))))
def Ebc:Tm Unit :=
(.call none 155 [.v 0,.v 1] 1 [] <|
(.leaf .ret [.v 2] ()))
def Ebb:Tm Unit :=
(.call none 156 [.v 0,.v 1] 1 [] <|
(.lt none (.bin .geq) [.v 2,.c (.int .i64 0)] 1 <|
(.leaf .ret [.v 3] ())))
def Eba:Tm Unit :=
(.lt none .len [.v 0] 1 <|
(.bind 1
(.loop [.c (.int .i64 0)]
(.lt none (.bin .lss) [.v 3,.v 2] 1 <|
(.ite (.v 4)
(.lt none .inb [.v 0,.v 3] 0 <|
(.lt none (.row 1 0 [false]) [.v 0,.v 3] 1 <|
(.call none 157 [.v 5,.v 1] 1 [] <|
(.ite (.v 6)
(.leaf .ret [.v 3] ())
(.lt none (.bin .add) [.v 3,.c (.int .i64 1)] 1 <|
(.leaf .cont [.v 7] ()))))))
(.leaf (.yield 1) [] ())))) <|
(.leaf .ret [.c (.int .i64 (-1))] ())))
def Db9:Tm Unit :=
(.call none 103 [.v 1,.v 0] 1 [] <|
(.leaf .ret [.v 2] ()))
def Wbm:Tm Unit:=.stuck
def Db8:Tm Unit :=
(.call none 131 [.v 0,.v 1] 1 [] <|
(.lt none (.mk 1 0) [] 1 <|
(.lt none .len [.v 2] 1 <|
(.bind 1
(.loop [.v 3,.c (.int .i64 0)]
(.lt none (.bin .lss) [.v 6,.v 4] 1 <|
(.ite (.v 7)
(.lt none .inb [.v 2,.v 6] 0 <|
(.lt none (.row 1 0 [false]) [.v 2,.v 6] 1 <|
(.lt none .inb [.v 8,.c (.int .i64 0)] 0 <|
(.lt none (.row 1 0 [true]) [.v 8,.c (.int .i64 0)] 1 <|
(.lt none .inb [.v 8,.c (.int .i64 1)] 0 <|
(.lt none (.row 1 0 [true]) [.v 8,.c (.int .i64 1)] 1 <|
(.call none 134 [.v 0,.v 1,.v 9,.v 10] 10 [] <|
(.lt none (.mk 1 0) [] 1 <|
(.lt none .len [.v 2] 1 <|
(.bind 3
(.loop [.v 21,.c (.int .i64 0)]
(.lt none (.bin .lss) [.v 24,.v 22] 1 <|
(.ite (.v 25)
(.bind 0
(.lt none .inb [.v 2,.v 24] 0 <|
(.lt none (.row 1 0 [false]) [.v 2,.v 24] 1 <|
(.call none 103 [.v 8,.v 26] 1 [] <|
(.lt none .not [.v 27] 1 <|
(.lt (some (.v 28,true)) .inb [.v 26,.c (.int .i64 1)] 0 <|
(.lt (some (.v 28,true)) (.row 1 0 [true]) [.v 26,.c (.int .i64 1)] 1 <|
(.lt (some (.v 28,true)) .inb [.v 26,.c (.int .i64 0)] 0 <|
(.lt (some (.v 28,true)) (.row 1 0 [true]) [.v 26,.c (.int .i64 0)] 1 <|
(.lt (some (.v 28,true)) .inb [.v 20,.v 30] 0 <|
(.lt (some (.v 28,true)) (.row 1 0 [true]) [.v 20,.v 30] 1 <|
(.lt (some (.v 28,true)) (.bin .leq) [.v 29,.v 31] 1 <|
(.lt none .pick [.v 28,.v 32,.c (.bool false)] 1 <|
(.ite (.v 33)
(.lt none (.mk 1 1) [.v 24] 1 <|
(.lt none (.app 1 8 true) [.v 23,.v 34] 1 <|
(.leaf (.yield 0) [.v 35,.c .undef,.c .undef,.c .undef,.c .undef] ())))
(.leaf (.yield 0) [.v 23,.c .undef,.c .undef,.c .undef,.c .undef] ())))))))))))))) <|
(.lt none (.bin .add) [.v 24,.c (.int .i64 1)] 1 <|
(.leaf .cont [.v 26,.v 31] ())))
(.leaf (.yield 3) [.v 23] ())))) <|
(.lt none (.mk 1 1) [.v 23] 1 <|
(.lt none (.app 1 24 false) [.v 5,.v 24] 1 <|
(.lt none (.bin .add) [.v 6,.c (.int .i64 1)] 1 <|
(.leaf .cont [.v 25,.v 26] ()))))))))))))))
(.leaf (.yield 1) [.v 5] ())))) <|
(.leaf .ret [.v 2,.v 5] ())))))
def Db7:Tm Unit :=
(.lt none (.mk 1 0) [] 1 <|
(.call none 161 [.v 0] 1 [] <|
(.lt none .len [.v 3] 1 <|
(.bind 1
(.loop [.v 2,.v 3,.c (.int .i64 0)]
(.lt none (.bin .lss) [.v 7,.v 4] 1 <|
(.ite (.v 8)
(.lt none .inb [.v 6,.v 7] 0 <|
(.lt none (.row 1 0 [false]) [.v 6,.v 7] 1 <|
(.lt none (.set 1 0 1) [.v 6,.v 7,.c .hole] 1 <|
(.call none 169 [.v 9,.v 1] 1 [] <|
(.lt none (.dep 1) [.v 11] 0 <|
(.lt none (.app 1 8 true) [.v 5,.v 11] 1 <|
(.lt none (.bin .add) [.v 7,.c (.int .i64 1)] 1 <|
(.leaf .cont [.v 12,.v 10,.v 13] ()))))))))
(.leaf (.yield 1) [.v 5] ())))) <|
(.leaf .ret [.v 5] ())))))
def Db6:Tm Unit :=
(.lt none (.mk 1 0) [] 1 <|
(.lt none .len [.v 0] 1 <|
(.bind 1
(.loop [.c (.int .i64 0),.v 1]
(.lt none (.bin .lss) [.v 3,.v 2] 1 <|
(.ite (.v 5)
(.call none 162 [.v 0,.v 3] 1 [] <|
(.lt none (.mk 1 1) [.v 6] 1 <|
(.lt none (.app 1 24 false) [.v 4,.v 7] 1 <|
(.lt none (.bin .add) [.v 3,.c (.int .i64 1)] 1 <|
(.leaf .cont [.v 9,.v 8] ())))))
(.leaf (.yield 1) [.v 4] ())))) <|
(.lt none (.mk 1 0) [] 1 <|
(.lt none .len [.v 0] 1 <|
(.lt none (.make 1 [(.bool false)]) [.v 5] 1 <|
(.lt none .len [.v 0] 1 <|
(.bind 3
(.loop [.v 4,.c (.int .i64 0)]
(.lt none (.bin .lss) [.v 9,.v 7] 1 <|
(.ite (.v 10)
(.bind 0
(.lt none (.mk 1 0) [] 1 <|
(.lt none .len [.v 0] 1 <|
(.bind 5
(.loop [.v 11,.c (.int .i64 0)]
(.lt none (.bin .lss) [.v 14,.v 12] 1 <|
(.ite (.v 15)
(.bind 0
(.lt none .inb [.v 3,.v 9] 0 <|
(.lt none (.row 1 0 [false]) [.v 3,.v 9] 1 <|
(.call none 118 [.v 16,.v 14] 1 [] <|
(.lt (some (.v 17,true)) .id [.v 14] 1 <|
(.lt (some (.v 17,true)) .inb [.v 3,.v 18] 0 <|
(.lt (some (.v 17,true)) (.row 1 0 [false]) [.v 3,.v 18] 1 <|
(.lt (some (.v 17,true)) .id [.v 9] 1 <|
(.call (some (.v 17,true)) 118 [.v 19,.v 20] 1 [] <|
(.lt none .pick [.v 17,.v 21,.c (.bool false)] 1 <|
(.ite (.v 22)
(.lt none (.mk 1 1) [.v 14] 1 <|
(.lt none (.app 1 8 true) [.v 13,.v 23] 1 <|
(.leaf (.yield 0) [.v 24,.c .undef,.c .undef,.c .undef] ())))
(.leaf (.yield 0) [.v 13,.c .undef,.c .undef,.c .undef] ()))))))))))) <|
(.lt none (.bin .add) [.v 14,.c (.int .i64 1)] 1 <|
(.leaf .cont [.v 16,.v 20] ())))
(.leaf (.yield 5) [.v 13] ())))) <|
(.lt none .inb [.v 13,.c (.int .i64 0)] 0 <|
(.lt none (.row 1 0 [true]) [.v 13,.c (.int .i64 0)] 1 <|
(.lt none (.bin .eql) [.v 14,.v 9] 1 <|
(.ite (.v 15)
(.lt none (.mk 1 1) [.v 13] 1 <|
(.lt none (.app 1 24 false) [.v 8,.v 16] 1 <|
(.leaf (.yield 0) [.v 17] ())))
(.leaf (.yield 0) [.v 8] ())))))))) <|
(.lt none (.bin .add) [.v 9,.c (.int .i64 1)] 1 <|
(.leaf .cont [.v 11,.v 12] ())))
(.leaf (.yield 3) [.v 8] ())))) <|
(.lt none (.mk 1 0) [] 1 <|
(.bind 7
(.loop [.v 8,.v 9,.v 6]
(.lt none .len [.v 10] 1 <|
(.lt none (.bin .gtr) [.v 13,.c (.int .i64 0)] 1 <|
(.ite (.v 14)
(.lt none .ne [.v 3] 0 <|
(.lt none .ne [.v 12] 0 <|
(.call none 163 [.v 10,.v 3,.v 12] 1 [] <|
(.lt none .inb [.v 10,.v 15] 0 <|
(.lt none (.row 1 0 [false]) [.v 10,.v 15] 1 <|
(.lt none .len [.v 16] 1 <|
(.bind 9
(.loop [.c (.int .i64 0),.v 12]
(.lt none (.bin .lss) [.v 18,.v 17] 1 <|
(.ite (.v 20)
(.lt none .inb [.v 16,.v 18] 0 <|
(.lt none (.row 1 0 [true]) [.v 16,.v 18] 1 <|
(.lt none .inb [.v 19,.v 21] 0 <|
(.lt none (.set 1 0 1) [.v 19,.v 21,.c (.bool true)] 1 <|
(.lt none (.bin .add) [.v 18,.c (.int .i64 1)] 1 <|
(.leaf .cont [.v 23,.v 22] ()))))))
(.leaf (.yield 9) [.v 19] ())))) <|
(.lt none .inb [.v 10,.v 15] 0 <|
(.lt none (.row 1 0 [false]) [.v 10,.v 15] 1 <|
(.lt none (.set 1 0 1) [.v 10,.v 15,.c .hole] 1 <|
(.lt none (.mk 1 1) [.v 19] 1 <|
(.lt none (.app 1 24 false) [.v 11,.v 21] 1 <|
(.lt none (.bin .add) [.v 15,.c (.int .i64 1)] 1 <|
(.call none 168 [.v 20,.v 15,.v 23] 1 [] <|
(.leaf .cont [.v 24,.v 22,.v 18] ())))))))))))))))
(.leaf (.yield 7) [.v 11,.v 12] ()))))) <|
(.leaf .ret [.v 10] ())))))))))))
def Db5:Tm Unit :=
(.lt none .len [.v 0] 1 <|
(.lt none (.make 1 [(.bool false)]) [.v 2] 1 <|
(.lt none .inb [.v 3,.v 1] 0 <|
(.lt none (.set 1 0 1) [.v 3,.v 1,.c (.bool true)] 1 <|
(.lt none (.mk 1 1) [.v 1] 1 <|
(.bind 1
(.loop [.v 4,.v 5]
(.lt none .len [.v 7] 1 <|
(.lt none (.bin .gtr) [.v 8,.c (.int .i64 0)] 1 <|
(.ite (.v 9)
(.lt none .inb [.v 7,.c (.int .i64 0)] 0 <|
(.lt none (.row 1 0 [true]) [.v 7,.c (.int .i64 0)] 1 <|
(.lt none .inb [.v 0,.v 10] 0 <|
(.lt none (.row 1 0 [false]) [.v 0,.v 10] 1 <|
(.lt none .len [.v 11] 1 <|
(.bind 3
(.loop [.v 6,.v 7,.c (.int .i64 0)]
(.lt none (.bin .lss) [.v 15,.v 12] 1 <|
(.ite (.v 16)
(.bind 0
(.lt none .inb [.v 11,.v 15] 0 <|
(.lt none (.row 1 0 [true]) [.v 11,.v 15] 1 <|
(.lt none .inb [.v 13,.v 17] 0 <|
(.lt none (.row 1 0 [true]) [.v 13,.v 17] 1 <|
(.lt none .not [.v 18] 1 <|
(.ite (.v 19)
(.lt none .inb [.v 13,.v 17] 0 <|
(.lt none (.set 1 0 1) [.v 13,.v 17,.c (.bool true)] 1 <|
(.lt none (.mk 1 1) [.v 17] 1 <|
(.lt none (.app 1 8 true) [.v 14,.v 21] 1 <|
(.leaf (.yield 0) [.v 20,.v 22] ())))))
(.leaf (.yield 0) [.v 13,.v 14] ()))))))) <|
(.lt none (.bin .add) [.v 15,.c (.int .i64 1)] 1 <|
(.leaf .cont [.v 17,.v 18,.v 19] ())))
(.leaf (.yield 3) [.v 13,.v 14] ())))) <|
(.lt none .len [.v 14] 1 <|
(.lt none (.sub 1 true) [.v 14,.c (.int .i64 1),.v 15] 1 <|
(.leaf .cont [.v 13,.v 16] ())))))))))
(.leaf (.yield 1) [.v 6] ()))))) <|
(.lt none (.mk 1 0) [] 1 <|
(.lt none .len [.v 6] 1 <|
(.bind 5
(.loop [.v 7,.c (.int .i64 0)]
(.lt none (.bin .lss) [.v 10,.v 8] 1 <|
(.ite (.v 11)
(.bind 0
(.lt none .inb [.v 6,.v 10] 0 <|
(.lt none (.row 1 0 [true]) [.v 6,.v 10] 1 <|
(.ite (.v 12)
(.lt none (.mk 1 1) [.v 10] 1 <|
(.lt none (.app 1 8 true) [.v 9,.v 13] 1 <|
(.leaf (.yield 0) [.v 14] ())))
(.leaf (.yield 0) [.v 9] ())))) <|
(.lt none (.bin .add) [.v 10,.c (.int .i64 1)] 1 <|
(.leaf .cont [.v 12,.v 13] ())))
(.leaf (.yield 5) [.v 9] ())))) <|
(.leaf .ret [.v 9] ()))))))))))
def Db4:Tm Unit :=
(.lt none .len [.v 0] 1 <|
(.bind 1
(.loop [.c (.int .i64 0)]
(.lt none (.bin .lss) [.v 4,.v 3] 1 <|
(.ite (.v 5)
(.lt none .inb [.v 0,.v 4] 0 <|
(.lt none (.row 1 0 [false]) [.v 0,.v 4] 1 <|
(.call none 164 [.v 6,.v 1,.v 2] 1 [] <|
(.ite (.v 7)
(.leaf .ret [.v 4] ())
(.lt none (.bin .add) [.v 4,.c (.int .i64 1)] 1 <|
(.leaf .cont [.v 8] ()))))))
(.leaf (.yield 1) [] ())))) <|
(.leaf .ret [.c (.int .i64 (-1))] ())))
def Db3:Tm Unit :=
(.lt none .inb [.v 0,.c (.int .i64 0)] 0 <|
(.lt none (.row 1 0 [true]) [.v 0,.c (.int .i64 0)] 1 <|
(.lt none .inb [.v 1,.v 3] 0 <|
(.lt none (.row 1 0 [false]) [.v 1,.v 3] 1 <|
(.call none 165 [.v 4,.v 2,.v 0] 1 [] <|
(.lt none .not [.v 5] 1 <|
(.leaf .ret [.v 6] ())))))))
def Db2:Tm Unit :=
(.call none 166 [.v 0,.v 1,.v 2] 1 [] <|
(.lt none (.bin .geq) [.v 3,.c (.int .i64 0)] 1 <|
(.leaf .ret [.v 4] ())))
def Db1:Tm Unit :=
(.lt none .len [.v 0] 1 <|
(.bind 1
(.loop [.c (.int .i64 0)]
(.lt none (.bin .lss) [.v 4,.v 3] 1 <|
(.ite (.v 5)
(.lt none .inb [.v 0,.v 4] 0 <|
(.lt none (.row 1 0 [true]) [.v 0,.v 4] 1 <|
(.call none 167 [.v 6,.v 1,.v 2] 1 [] <|
(.ite (.v 7)
(.leaf .ret [.v 4] ())
(.lt none (.bin .add) [.v 4,.c (.int .i64 1)] 1 <|
(.leaf .cont [.v 8] ()))))))
(.leaf (.yield 1) [] ())))) <|
(.leaf .ret [.c (.int .i64 (-1))] ())))
def Db0:Tm Unit :=
(.lt none .inb [.v 1,.v 0] 0 <|
(.lt none (.row 1 0 [true]) [.v 1,.v 0] 1 <|
(.lt none .not [.v 3] 1 <|
(.lt (some (.v 4,true)) .id [.v 0] 1 <|
(.call (some (.v 4,true)) 118 [.v 2,.v 5] 1 [] <|
(.lt (some (.v 4,true)) .not [.v 6] 1 <|
(.lt none .pick [.v 4,.v 7,.c (.bool false)] 1 <|
(.leaf .ret [.v 8] ()))))))))
def Wbl:Tm Unit:=.stuck
def Wbk:Tm Unit:=.stuck
def Dbz:Tm Unit :=
(.lt none .len [.v 2] 1 <|
(.bind 1
(.loop [.c (.int .i64 0)]
(.lt none (.bin .lss) [.v 5,.v 4] 1 <|
(.ite (.v 6)
(.lt none .inb [.v 2,.v 5] 0 <|
(.lt none (.row 1 0 [false]) [.v 2,.v 5] 1 <|
(.lt none (.sub 1 false) [.v 2,.c (.int .i64 0),.v 5] 1 <|
(.lt none .len [.v 8] 1 <|
(.bind 3
(.loop [.c (.int .i64 0)]
(.lt none (.bin .lss) [.v 10,.v 9] 1 <|
(.ite (.v 11)
(.lt none .inb [.v 8,.v 10] 0 <|
(.lt none (.row 1 0 [false]) [.v 8,.v 10] 1 <|
(.lt none .inb [.v 7,.c (.int .i64 0)] 0 <|
(.lt none (.row 1 0 [true]) [.v 7,.c (.int .i64 0)] 1 <|
(.lt none .inb [.v 7,.c (.int .i64 1)] 0 <|
(.lt none (.row 1 0 [true]) [.v 7,.c (.int .i64 1)] 1 <|
(.call none 134 [.v 0,.v 1,.v 13,.v 14] 10 [] <|
(.lt none .inb [.v 12,.c (.int .i64 0)] 0 <|
(.lt none (.row 1 0 [true]) [.v 12,.c (.int .i64 0)] 1 <|
(.lt none .inb [.v 12,.c (.int .i64 1)] 0 <|
(.lt none (.row 1 0 [true]) [.v 12,.c (.int .i64 1)] 1 <|
(.call none 134 [.v 0,.v 1,.v 25,.v 26] 10 [] <|
(.call none 141 [.v 18,.v 19,.v 20,.v 21,.v 22,.v 30,.v 31,.v 32,.v 33,.v 34] 1 [] <|
(.call (some (.v 37,true)) 171 [.v 7,.v 3] 1 [] <|
(.lt (some (.v 37,true)) (.bin .geq) [.v 38,.c (.int .i64 0)] 1 <|
(.lt none .pick [.v 37,.v 39,.c (.bool false)] 1 <|
(.call (some (.v 40,true)) 171 [.v 12,.v 3] 1 [] <|
(.lt (some (.v 40,true)) (.bin .geq) [.v 41,.c (.int .i64 0)] 1 <|
(.lt none .pick [.v 40,.v 42,.c (.bool false)] 1 <|
(.call (some (.v 43,true)) 171 [.v 7,.v 3] 1 [] <|
(.call (some (.v 43,true)) 171 [.v 12,.v 3] 1 [] <|
(.lt (some (.v 43,true)) (.bin .lss) [.v 44,.v 45] 1 <|
(.lt none .pick [.v 43,.v 46,.c (.bool false)] 1 <|
(.ite (.v 47)
(.leaf .ret [.c (.bool false)] ())
(.lt none (.bin .add) [.v 10,.c (.int .i64 1)] 1 <|
(.leaf .cont [.v 48] ()))))))))))))))))))))))))))
(.leaf (.yield 3) [] ())))) <|
(.lt none (.bin .add) [.v 5,.c (.int .i64 1)] 1 <|
(.leaf .cont [.v 10] ())))))))
(.leaf (.yield 1) [] ())))) <|
(.leaf .ret [.c (.bool true)] ())))
def Dby:Tm Unit :=
(.call none 172 [.v 1,.v 0] 1 [] <|
(.leaf .ret [.v 2] ()))
def Dbx:Tm Unit :=
(.lt none .len [.v 0] 1 <|
(.bind 1
(.loop [.c (.int .i64 0)]
(.lt none (.bin .lss) [.v 3,.v 2] 1 <|
(.ite (.v 4)
(.lt none .inb [.v 0,.v 3] 0 <|
(.lt none (.row 1 0 [false]) [.v 0,.v 3] 1 <|
(.call none 173 [.v 5,.v 1] 1 [] <|
(.ite (.v 6)
(.leaf .ret [.v 3] ())
(.lt none (.bin .add) [.v 3,.c (.int .i64 1)] 1 <|
(.leaf .cont [.v 7] ()))))))
(.leaf (.yield 1) [] ())))) <|
(.leaf .ret [.c (.int .i64 (-1))] ())))
def Dbw:Tm Unit :=
(.call none 103 [.v 1,.v 0] 1 [] <|
(.leaf .ret [.v 2] ()))
def Dbv:Tm Unit :=
(.call none 175 [.v 0,.v 3] 1 [] <|
(.lt none .not [.v 6] 1 <|
(.ite (.v 7)
(.leaf .ret [.c (.bool false)] ())
(.call none 186 [.v 1,.v 4] 1 [] <|
(.lt none .not [.v 8] 1 <|
(.ite (.v 9)
(.leaf .ret [.c (.bool false)] ())
(.call none 188 [.v 2,.v 5] 1 [] <|
(.lt none .not [.v 10] 1 <|
(.ite (.v 11)
(.leaf .ret [.c (.bool false)] ())
(.leaf .ret [.c (.bool true)] ()))))))))))
def Dbu:Tm Unit :=
(.lt none .len [.v 0] 1 <|
(.lt none .len [.v 1] 1 <|
(.lt none (.bin .neq) [.v 2,.v 3] 1 <|
(.ite (.v 4)
(.leaf .ret [.c (.bool false)] ())
(.bind 1
(.loop [.c (.int .i64 0)]
(.lt none .len [.v 0] 1 <|
(.lt none (.bin .lss) [.v 5,.v 6] 1 <|
(.ite (.v 7)
(.lt none .inb [.v 0,.v 5] 0 <|
(.lt none (.row 4 0 [true,true,false,false]) [.v 0,.v 5] 4 <|
(.lt none .inb [.v 1,.v 5] 0 <|
(.lt none (.row 4 0 [true,true,false,false]) [.v 1,.v 5] 4 <|
(.call none 176 [.v 8,.v 9,.v 10,.v 11,.v 12,.v 13,.v 14,.v 15] 1 [] <|
(.lt none .not [.v 16] 1 <|
(.ite (.v 17)
(.leaf .ret [.c (.bool false)] ())
(.lt none (.bin .add) [.v 5,.c (.int .i64 1)] 1 <|
(.leaf .cont [.v 18] ())))))))))
(.leaf (.yield 1) [] ()))))) <|
(.leaf .ret [.c (.bool true)] ()))))))
def Dbt:Tm Unit :=
(.lt none (.bin .neq) [.v 0,.v 4] 1 <|
(.ite (.v 8)
(.leaf .ret [.c (.bool false)] ())
(.call none 177 [.v 1,.v 2,.v 5,.v 6] 1 [] <|
(.lt none .not [.v 9] 1 <|
(.ite (.v 10)
(.leaf .ret [.c (.bool false)] ())
(.call none 184 [.v 3,.v 7] 1 [] <|
(.lt none .not [.v 11] 1 <|
(.ite (.v 12)
(.leaf .ret [.c (.bool false)] ())
(.leaf .ret [.c (.bool true)] ())))))))))
def Dbs:Tm Unit :=
(.lt none (.bin .neq) [.v 0,.v 2] 1 <|
(.ite (.v 4)
(.leaf .ret [.c (.bool false)] ())
(.call none 178 [.v 1,.v 3] 1 [] <|
(.lt none .not [.v 5] 1 <|
(.ite (.v 6)
(.leaf .ret [.c (.bool false)] ())
(.leaf .ret [.c (.bool true)] ()))))))
def Dbr:Tm Unit :=
(.lt none .len [.v 0] 1 <|
(.lt none .len [.v 1] 1 <|
(.lt none (.bin .neq) [.v 2,.v 3] 1 <|
(.ite (.v 4)
(.leaf .ret [.c (.bool false)] ())
(.bind 1
(.loop [.c (.int .i64 0)]
(.lt none .len [.v 0] 1 <|
(.lt none (.bin .lss) [.v 5,.v 6] 1 <|
(.ite (.v 7)
(.lt none .inb [.v 0,.v 5] 0 <|
(.lt none (.row 1 0 [false]) [.v 0,.v 5] 1 <|
(.lt none .inb [.v 1,.v 5] 0 <|
(.lt none (.row 1 0 [false]) [.v 1,.v 5] 1 <|
(.call none 179 [.v 8,.v 9] 1 [] <|
(.lt none .not [.v 10] 1 <|
(.ite (.v 11)
(.leaf .ret [.c (.bool false)] ())
(.lt none (.bin .add) [.v 5,.c (.int .i64 1)] 1 <|
(.leaf .cont [.v 12] ())))))))))
(.leaf (.yield 1) [] ()))))) <|
(.leaf .ret [.c (.bool true)] ()))))))
def Dbq:Tm Unit :=
(.lt none .len [.v 0] 1 <|
(.lt none .len [.v 1] 1 <|
(.lt none (.bin .neq) [.v 2,.v 3] 1 <|
(.ite (.v 4)
(.leaf .ret [.c (.bool false)] ())
(.bind 1
(.loop [.c (.int .i64 0)]
(.lt none .len [.v 0] 1 <|
(.lt none (.bin .lss) [.v 5,.v 6] 1 <|
(.ite (.v 7)
(.lt none .inb [.v 0,.v 5] 0 <|
(.lt none (.row 10 0 [true,true,true,true,true,true,true,true,true,false]) [.v 0,.v 5] 10 <|
(.lt none .inb [.v 1,.v 5] 0 <|
(.lt none (.row 10 0 [true,true,true,true,true,true,true,true,true,false]) [.v 1,.v 5] 10 <|
(.call none 180 [.v 8,.v 9,.v 10,.v 11,.v 12,.v 13,.v 14,.v 15,.v 16,.v 17,.v 18,.v 19,.v 20,.v 21,.v 22,.v 23,.v 24,.v 25,.v 26,.v 27] 1 [] <|
(.lt none .not [.v 28] 1 <|
(.ite (.v 29)
(.leaf .ret [.c (.bool false)] ())
(.lt none (.bin .add) [.v 5,.c (.int .i64 1)] 1 <|
(.leaf .cont [.v 30] ())))))))))
(.leaf (.yield 1) [] ()))))) <|
(.leaf .ret [.c (.bool true)] ()))))))
def Dbp:Tm Unit :=
(.lt none (.bin .neq) [.v 0,.v 10] 1 <|
(.ite (.v 20)
(.leaf .ret [.c (.bool false)] ())
(.lt none (.bin .neq) [.v 1,.v 11] 1 <|
(.ite (.v 21)
(.leaf .ret [.c (.bool false)] ())
(.lt none (.bin .neq) [.v 2,.v 12] 1 <|
(.ite (.v 22)
(.leaf .ret [.c (.bool false)] ())
(.call none 181 [.v 3,.v 4,.v 5,.v 6,.v 7,.v 13,.v 14,.v 15,.v 16,.v 17] 1 [] <|
(.lt none .not [.v 23] 1 <|
(.ite (.v 24)
(.leaf .ret [.c (.bool false)] ())
(.call none 182 [.v 8,.v 9,.v 18,.v 19] 1 [] <|
(.lt none .not [.v 25] 1 <|
(.ite (.v 26)
(.leaf .ret [.c (.bool false)] ())
(.leaf .ret [.c (.bool true)] ())))))))))))))
def Dbo:Tm Unit :=
(.lt none (.bin .neq) [.v 0,.v 5] 1 <|
(.ite (.v 10)
(.leaf .ret [.c (.bool false)] ())
(.lt none (.bin .neq) [.v 1,.v 6] 1 <|
(.ite (.v 11)
(.leaf .ret [.c (.bool false)] ())
(.lt none (.bin .neq) [.v 2,.v 7] 1 <|
(.ite (.v 12)
(.leaf .ret [.c (.bool false)] ())
(.lt none (.bin .neq) [.v 3,.v 8] 1 <|
(.ite (.v 13)
(.leaf .ret [.c (.bool false)] ())
(.lt none (.bin .neq) [.v 4,.v 9] 1 <|
(.ite (.v 14)
(.leaf .ret [.c (.bool false)] ())
(.leaf .ret [.c (.bool true)] ())))))))))))
def Dbn:Tm Unit :=
(.lt none (.bin .neq) [.v 0,.v 2] 1 <|
(.ite (.v 4)
(.leaf .ret [.c (.bool false)] ())
(.call none 183 [.v 1,.v 3] 1 [] <|
(.lt none .not [.v 5] 1 <|
(.ite (.v 6)
(.leaf .ret [.c (.bool false)] ())
(.leaf .ret [.c (.bool true)] ()))))))
def Dbm:Tm Unit :=
(.lt none .len [.v 0] 1 <|
(.lt none .len [.v 1] 1 <|
(.lt none (.bin .neq) [.v 2,.v 3] 1 <|
(.ite (.v 4)
(.leaf .ret [.c (.bool false)] ())
(.bind 1
(.loop [.c (.int .i64 0)]
(.lt none .len [.v 0] 1 <|
(.lt none (.bin .lss) [.v 5,.v 6] 1 <|
(.ite (.v 7)
(.lt none .inb [.v 0,.v 5] 0 <|
(.lt none (.row 1 0 [true]) [.v 0,.v 5] 1 <|
(.lt none .inb [.v 1,.v 5] 0 <|
(.lt none (.row 1 0 [true]) [.v 1,.v 5] 1 <|
(.lt none (.bin .neq) [.v 8,.v 9] 1 <|
(.ite (.v 10)
(.leaf .ret [.c (.bool false)] ())
(.lt none (.bin .add) [.v 5,.c (.int .i64 1)] 1 <|
(.leaf .cont [.v 11] ()))))))))
(.leaf (.yield 1) [] ()))))) <|
(.leaf .ret [.c (.bool true)] ()))))))
def Dbl:Tm Unit :=
(.lt none .len [.v 0] 1 <|
(.lt none .len [.v 1] 1 <|
(.lt none (.bin .neq) [.v 2,.v 3] 1 <|
(.ite (.v 4)
(.leaf .ret [.c (.bool false)] ())
(.bind 1
(.loop [.c (.int .i64 0)]
(.lt none .len [.v 0] 1 <|
(.lt none (.bin .lss) [.v 5,.v 6] 1 <|
(.ite (.v 7)
(.lt none .inb [.v 0,.v 5] 0 <|
(.lt none (.row 16 0 [true,true,true,true,true,true,true,true,true,true,false,true,false,true,false,false]) [.v 0,.v 5] 16 <|
(.lt none .inb [.v 1,.v 5] 0 <|
(.lt none (.row 16 0 [true,true,true,true,true,true,true,true,true,true,false,true,false,true,false,false]) [.v 1,.v 5] 16 <|
(.call none 185 [.v 8,.v 9,.v 10,.v 11,.v 12,.v 13,.v 14,.v 15,.v 16,.v 17,.v 18,.v 19,.v 20,.v 21,.v 22,.v 23,.v 24,.v 25,.v 26,.v 27,.v 28,.v 29,.v 30,.v 31,.v 32,.v 33,.v 34,.v 35,.v 36,.v 37,.v 38,.v 39] 1 [] <|
(.lt none .not [.v 40] 1 <|
(.ite (.v 41)
(.leaf .ret [.c (.bool false)] ())
(.lt none (.bin .add) [.v 5,.c (.int .i64 1)] 1 <|
(.leaf .cont [.v 42] ())))))))))
(.leaf (.yield 1) [] ()))))) <|
(.leaf .ret [.c (.bool true)] ()))))))
def Dbk:Tm Unit :=
(.lt none (.bin .neq) [.v 0,.v 16] 1 <|
(.ite (.v 32)
(.leaf .ret [.c (.bool false)] ())
(.lt none (.bin .neq) [.v 1,.v 17] 1 <|
(.ite (.v 33)
(.leaf .ret [.c (.bool false)] ())
(.lt none (.bin .neq) [.v 2,.v 18] 1 <|
(.ite (.v 34)
(.leaf .ret [.c (.bool false)] ())
(.lt none (.bin .neq) [.v 3,.v 19] 1 <|
(.ite (.v 35)
(.leaf .ret [.c (.bool false)] ())
(.call none 181 [.v 4,.v 5,.v 6,.v 7,.v 8,.v 20,.v 21,.v 22,.v 23,.v 24] 1 [] <|
(.lt none .not [.v 36] 1 <|
(.ite (.v 37)
(.leaf .ret [.c (.bool false)] ())
(.call none 182 [.v 9,.v 10,.v 25,.v 26] 1 [] <|
(.lt none .not [.v 38] 1 <|
(.ite (.v 39)
(.leaf .ret [.c (.bool false)] ())
(.call none 182 [.v 11,.v 12,.v 27,.v 28] 1 [] <|
(.lt none .not [.v 40] 1 <|
(.ite (.v 41)
(.leaf .ret [.c (.bool false)] ())
(.lt none (.eqb true) [.v 13,.v 29] 1 <|
(.ite (.v 42)
(.leaf .ret [.c (.bool false)] ())
(.call none 183 [.v 14,.v 30] 1 [] <|
(.lt none .not [.v 43] 1 <|
(.ite (.v 44)
(.leaf .ret [.c (.bool false)] ())
(.call none 179 [.v 15,.v 31] 1 [] <|
(.lt none .not [.v 45] 1 <|
(.ite (.v 46)
(.leaf .ret [.c (.bool false)] ())
(.leaf .ret [.c (.bool true)] ()))))))))))))))))))))))))))
def Dbj:Tm Unit :=
(.lt none .len [.v 0] 1 <|
(.lt none .len [.v 1] 1 <|
(.lt none (.bin .neq) [.v 2,.v 3] 1 <|
(.ite (.v 4)
(.leaf .ret [.c (.bool false)] ())
(.bind 1
(.loop [.c (.int .i64 0)]
(.lt none .len [.v 0] 1 <|
(.lt none (.bin .lss) [.v 5,.v 6] 1 <|
(.ite (.v 7)
(.lt none .inb [.v 0,.v 5] 0 <|
(.lt none (.row 15 0 [true,true,true,true,true,true,true,true,true,true,true,true,true,true,false]) [.v 0,.v 5] 15 <|
(.lt none .inb [.v 1,.v 5] 0 <|
(.lt none (.row 15 0 [true,true,true,true,true,true,true,true,true,true,true,true,true,true,false]) [.v 1,.v 5] 15 <|
(.call none 187 [.v 8,.v 9,.v 10,.v 11,.v 12,.v 13,.v 14,.v 15,.v 16,.v 17,.v 18,.v 19,.v 20,.v 21,.v 22,.v 23,.v 24,.v 25,.v 26,.v 27,.v 28,.v 29,.v 30,.v 31,.v 32,.v 33,.v 34,.v 35,.v 36,.v 37] 1 [] <|
(.lt none .not [.v 38] 1 <|
(.ite (.v 39)
(.leaf .ret [.c (.bool false)] ())
(.lt none (.bin .add) [.v 5,.c (.int .i64 1)] 1 <|
(.leaf .cont [.v 40] ())))))))))
(.leaf (.yield 1) [] ()))))) <|
(.leaf .ret [.c (.bool true)] ()))))))
def Dbi:Tm Unit :=
(.lt none (.bin .neq) [.v 0,.v 15] 1 <|
(.ite (.v 30)
(.leaf .ret [.c (.bool false)] ())
(.lt none (.bin .neq) [.v 1,.v 16] 1 <|
(.ite (.v 31)
(.leaf .ret [.c (.bool false)] ())
(.lt none (.bin .neq) [.v 2,.v 17] 1 <|
(.ite (.v 32)
(.leaf .ret [.c (.bool false)] ())
(.lt none (.bin .neq) [.v 3,.v 18] 1 <|
(.ite (.v 33)
(.leaf .ret [.c (.bool false)] ())
(.lt none (.bin .neq) [.v 4,.v 19] 1 <|
(.ite (.v 34)
(.leaf .ret [.c (.bool false)] ())
(.lt none (.bin .neq) [.v 5,.v 20] 1 <|
(.ite (.v 35)
(.leaf .ret [.c (.bool false)] ())
(.lt none (.bin .neq) [.v 6,.v 21] 1 <|
(.ite (.v 36)
(.leaf .ret [.c (.bool false)] ())
(.lt none (.bin .neq) [.v 7,.v 22] 1 <|
(.ite (.v 37)
(.leaf .ret [.c (.bool false)] ())
(.call none 181 [.v 8,.v 9,.v 10,.v 11,.v 12,.v 23,.v 24,.v 25,.v 26,.v 27] 1 [] <|
(.lt none .not [.v 38] 1 <|
(.ite (.v 39)
(.leaf .ret [.c (.bool false)] ())
(.call none 182 [.v 13,.v 14,.v 28,.v 29] 1 [] <|
(.lt none .not [.v 40] 1 <|
(.ite (.v 41)
(.leaf .ret [.c (.bool false)] ())
(.leaf .ret [.c (.bool true)] ())))))))))))))))))))))))
def Dbh:Tm Unit :=
(.lt none .len [.v 0] 1 <|
(.lt none .len [.v 1] 1 <|
(.lt none (.bin .neq) [.v 2,.v 3] 1 <|
(.ite (.v 4)
(.leaf .ret [.c (.bool false)] ())
(.bind 1
(.loop [.c (.int .i64 0)]
(.lt none .len [.v 0] 1 <|
(.lt none (.bin .lss) [.v 5,.v 6] 1 <|
(.ite (.v 7)
(.lt none .inb [.v 0,.v 5] 0 <|
(.lt none (.row 7 0 [true,true,true,true,true,true,true]) [.v 0,.v 5] 7 <|
(.lt none .inb [.v 1,.v 5] 0 <|
(.lt none (.row 7 0 [true,true,true,true,true,true,true]) [.v 1,.v 5] 7 <|
(.call none 189 [.v 8,.v 9,.v 10,.v 11,.v 12,.v 13,.v 14,.v 15,.v 16,.v 17,.v 18,.v 19,.v 20,.v 21] 1 [] <|
(.lt none .not [.v 22] 1 <|
(.ite (.v 23)
(.leaf .ret [.c (.bool false)] ())
(.lt none (.bin .add) [.v 5,.c (.int .i64 1)] 1 <|
(.leaf .cont [.v 24] ())))))))))
(.leaf (.yield 1) [] ()))))) <|
(.leaf .ret [.c (.bool true)] ()))))))
def Dbg:Tm Unit :=
(.lt none (.bin .neq) [.v 0,.v 7] 1 <|
(.ite (.v 14)
(.leaf .ret [.c (.bool false)] ())
(.lt none (.bin .neq) [.v 1,.v 8] 1 <|
(.ite (.v 15)
(.leaf .ret [.c (.bool false)] ())
(.call none 181 [.v 2,.v 3,.v 4,.v 5,.v 6,.v 9,.v 10,.v 11,.v 12,.v 13] 1 [] <|
(.lt none .not [.v 16] 1 <|
(.ite (.v 17)
(.leaf .ret [.c (.bool false)] ())
(.leaf .ret [.c (.bool true)] ()))))))))
theorem Zb1:∀ n,vG Tryz.prog (Raq [(93,.tm Lbp)]) n 93 Lb4:=fun n=>contracts Ibj (by kernel_rfl) (Waa (List.forall_mem_cons.2 ⟨Bbs (E:=⟨gT tiL,[(93,Lb4)],0,0,false,false,[],[],[],0⟩) Tryz.func216 (by kernel_rfl) (tm:=Lbp) (by kernel_rfl) (by kernel_rfl),List.forall_mem_nil _⟩)) n 93 Lb4 (by simp)
def Sby:Go.Shelf.Ren:=⟨fun|41=>216|n=>n,fun|4=>4|22=>27|23=>3|n=>n,fun n=>n⟩
theorem Ob0:Go.Proofs.SlLaysE0.n41 Tryz.prog Sby:={ mixed:=by kernel_rfl,f41:=⟨Tryz.f216.name,by kernel_rfl,Tryz.func216.trans (congrArg some (by kernel_rfl))⟩,t4:=Tryz.underlying4,a4:=Tryz.isAgg4,z4:=Tryz.sizeOf4,v4:=Tryz.zeroValue4,t22:=Tryz.underlying27,a22:=Tryz.isAgg27,z22:=Tryz.sizeOf27,v22:=Tryz.zeroValue27 }
noncomputable def Wbg:List D → Option (List D):=Ib2 1 (Raq [(93,.tm Lbp)]) 93
noncomputable def T:Nat → Ent:=Raq [(0,.tm tm0),(1,.tm tm1),(2,.tm tm2),(3,.tm tm3),(4,.tm tm4),(5,.tm tm5),(6,.tm tm6),(7,.tm tm7),(8,.tm tm8),(9,.tm tm9),(10,.tm Rb8),(11,.tm Rb7),(12,.tm Rb6),(13,.tm Rb5),(14,.tm Rb4),(15,.tm Rb3),(16,.tm Rb2),(17,.tm Rb1),(18,.tm Rb0),(19,.tm Rbz),(20,.tm Rby),(21,.tm Rbx),(22,.tm Rbw),(23,.tm Rbv),(24,.tm Rbu),(25,.tm Rbt),(26,.tm Rbs),(27,.tm Rbr),(28,.tm Rbq),(29,.tm Rbp),(30,.tm Rbo),(31,.tm Rbn),(32,.tm Rbm),(33,.tm Rbl),(34,.tm Rbk),(35,.tm Rbj),(36,.tm Rbi),(37,.tm Rbh),(38,.tm Rbg),(39,.tm Rbf),(40,.tm Rbe),(41,.tm Rbd),(42,.tm Rbc),(43,.tm Rbb),(44,.tm Rba),(45,.tm Qb9),(46,.tm Qb8),(47,.tm Qb7),(48,.tm Qb6),(49,.tm Qb5),(50,.tm Qb4),(51,.tm Qb3),(52,.tm Qb2),(53,.tm Qb1),(54,.tm Qb0),(55,.tm Qbz),(56,.tm Qby),(57,.tm Qbx),(58,.tm Qbw),(59,.tm Qbv),(60,.tm Qbu),(61,.tm Qbt),(62,.tm Qbs),(63,.tm Qbr),(64,.tm Qbq),(65,.tm Qbp),(66,.tm Qbo),(67,.tm Qbn),(68,.tm Qbm),(69,.tm Qbl),(70,.tm Qbk),(71,.tm Qbj),(72,.tm Qbi),(73,.tm Qbh),(74,.tm Qbg),(75,.tm Qbf),(76,.tm Qbe),(77,.tm Qbd),(78,.tm Qbc),(79,.tm Qbb),(80,.tm Qba),(81,.tm Pb9),(82,.tm Pb8),(83,.tm Pb7),(84,.tm Pb6),(85,.tm Pb5),(86,.tm Pb4),(87,.tm Pb3),(88,.tm Pb2),(89,.tm Pb1),(90,.tm Pb0),(91,.tm Pbz),(92,.tm Pby),(93,.ext Wbg),(94,.tm Pbx),(95,.tm Pbw),(96,.tm Pbv),(97,.tm Pbu),(98,.tm Pbt),(99,.tm Pbs),(100,.tm Fbu),(101,.tm Fbt),(102,.tm Fbs),(103,.tm Fbr),(104,.tm Fbq),(105,.tm Fbp),(106,.tm Fbo),(107,.tm Fbn),(108,.tm Fbm),(109,.tm Fbl),(110,.tm Fbk),(111,.tm Fbj),(112,.tm Fbi),(113,.tm Fbh),(114,.tm Fbg),(115,.tm Fbf),(116,.tm Fbe),(117,.tm Fbd),(118,.tm Fbc),(119,.tm Fbb),(120,.tm Fba),(121,.tm Eb9),(122,.tm Eb8),(123,.tm Eb7),(124,.tm Eb6),(125,.tm Eb5),(126,.tm Eb4),(127,.tm Eb3),(128,.tm Eb2),(129,.tm Eb1),(130,.tm Eb0),(131,.tm Ebz),(132,.tm Eby),(133,.tm Ebx),(134,.tm Ebw),(135,.tm Ebv),(136,.tm Ebu),(137,.tm Ebt),(138,.tm Ebs),(139,.tm Ebr),(140,.tm Ebq),(141,.tm Ebp),(142,.tm Ebo),(143,.tm Ebn),(144,.tm Ebm),(145,.tm Ebl),(146,.tm Ebk),(147,.tm Ebj),(148,.tm Ebi),(149,.tm Ebh),(150,.tm Ebg),(151,.tm Ebf),(152,.tm Ebe),(153,.tm Ebd),(154,.tm Ebc),(155,.tm Ebb),(156,.tm Eba),(157,.tm Db9),(158,.ext Ha5),(159,.tm Db8),(160,.tm Db7),(161,.tm Db6),(162,.tm Db5),(163,.tm Db4),(164,.tm Db3),(165,.tm Db2),(166,.tm Db1),(167,.tm Db0),(168,.ext (Kbv 1)),(169,.ext Lak),(170,.tm Dbz),(171,.tm Dby),(172,.tm Dbx),(173,.tm Dbw),(174,.tm Dbv),(175,.tm Dbu),(176,.tm Dbt),(177,.tm Dbs),(178,.tm Dbr),(179,.tm Dbq),(180,.tm Dbp),(181,.tm Dbo),(182,.tm Dbn),(183,.tm Dbm),(184,.tm Dbl),(185,.tm Dbk),(186,.tm Dbj),(187,.tm Dbi),(188,.tm Dbh),(189,.tm Dbg)]
abbrev K:=Waw Tryz.prog T (gT tiL) sigs
theorem o93:Waw Tryz.prog T (gT tiL) sigs 93 Lb4:=Cbo (m:=98) Ob0 rfl (by kernel_rfl) Tryz.sizeOf3 Zb1 rfl
def Tryz.laysF70_ren:Go.Shelf.Ren:=⟨fun|6=>70|15=>130|14=>129|28=>184|29=>185|20=>176|21=>177|22=>178|23=>179|24=>180|25=>181|26=>182|27=>183|46=>217|47=>218|48=>219|49=>220|50=>221|57=>239|n=>n,fun|22=>52|24=>27|25=>123|3=>3|39=>166|0=>0|53=>208|55=>210|4=>4|46=>202|45=>201|50=>45|5=>5|9=>9|66=>229|70=>233|76=>252|77=>253|n=>n,fun|n=>n⟩
theorem Tryz.laysF70:Go.Proofs.SlLaysF.n6 Tryz.prog Tryz.laysF70_ren:={
  mixed:=by kernel_rfl
  f6:=⟨Tryz.f70.name,by decide,Tryz.func70.trans (congrArg some (by kernel_rfl))⟩
  f14:=⟨Tryz.f129.name,by decide,Tryz.func129.trans (congrArg some (by kernel_rfl))⟩
  f15:=Tryz.func130.trans (congrArg some (by kernel_rfl))
  f20:=⟨Tryz.f176.name,by decide,Tryz.func176.trans (congrArg some (by kernel_rfl))⟩
  f21:=⟨Tryz.f177.name,by decide,Tryz.func177.trans (congrArg some (by kernel_rfl))⟩
  f22:=⟨Tryz.f178.name,by decide,Tryz.func178.trans (congrArg some (by kernel_rfl))⟩
  f23:=⟨Tryz.f179.name,by decide,Tryz.func179.trans (congrArg some (by kernel_rfl))⟩
  f24:=⟨Tryz.f180.name,by decide,Tryz.func180.trans (congrArg some (by kernel_rfl))⟩
  f25:=⟨Tryz.f181.name,by decide,Tryz.func181.trans (congrArg some (by kernel_rfl))⟩
  f26:=⟨Tryz.f182.name,by decide,Tryz.func182.trans (congrArg some (by kernel_rfl))⟩
  f27:=⟨Tryz.f183.name,by decide,Tryz.func183.trans (congrArg some (by kernel_rfl))⟩
  f28:=Tryz.func184.trans (congrArg some (by kernel_rfl))
  f29:=Tryz.func185.trans (congrArg some (by kernel_rfl))
  f46:=⟨Tryz.f217.name,by decide,Tryz.func217.trans (congrArg some (by kernel_rfl))⟩
  f47:=Tryz.func218.trans (congrArg some (by kernel_rfl))
  f48:=Tryz.func219.trans (congrArg some (by kernel_rfl))
  f49:=⟨Tryz.f220.name,by decide,Tryz.func220.trans (congrArg some (by kernel_rfl))⟩
  f50:=⟨Tryz.f221.name,by decide,Tryz.func221.trans (congrArg some (by kernel_rfl))⟩
  f57:=⟨Tryz.f239.name,by decide,Tryz.func239.trans (congrArg some (by kernel_rfl))⟩
  t0:=Tryz.underlying0
  a0:=Tryz.isAgg0
  z0:=Tryz.sizeOf0
  v0:=Tryz.zeroValue0
  t3:=Tryz.underlying3
  a3:=Tryz.isAgg3
  z3:=Tryz.sizeOf3
  v3:=Tryz.zeroValue3
  t4:=Tryz.underlying4
  a4:=Tryz.isAgg4
  z4:=Tryz.sizeOf4
  v4:=Tryz.zeroValue4
  t5:=Tryz.underlying5
  a5:=Tryz.isAgg5
  z5:=Tryz.sizeOf5
  v5:=Tryz.zeroValue5
  t9:=Tryz.underlying9
  a9:=Tryz.isAgg9
  z9:=Tryz.sizeOf9
  v9:=Tryz.zeroValue9
  t22:=Tryz.underlying52
  a22:=Tryz.isAgg52
  z22:=Tryz.sizeOf52
  v22:=Tryz.zeroValue52
  a24:=Tryz.isAgg27
  z24:=Tryz.sizeOf27
  t25:=Tryz.underlying123
  a25:=Tryz.isAgg123
  z25:=Tryz.sizeOf123
  v25:=Tryz.zeroValue123
  t39:=Tryz.underlying166
  a39:=Tryz.isAgg166
  z39:=Tryz.sizeOf166
  v39:=Tryz.zeroValue166
  t45:=Tryz.underlying201
  a45:=Tryz.isAgg201
  z45:=Tryz.sizeOf201
  v45:=Tryz.zeroValue201
  t46:=Tryz.underlying202
  a46:=Tryz.isAgg202
  z46:=Tryz.sizeOf202
  v46:=Tryz.zeroValue202
  t50:=Tryz.underlying45
  a50:=Tryz.isAgg45
  z50:=Tryz.sizeOf45
  v50:=Tryz.zeroValue45
  t53:=Tryz.underlying208
  a53:=Tryz.isAgg208
  z53:=Tryz.sizeOf208
  v53:=Tryz.zeroValue208
  t55:=Tryz.underlying210
  a55:=Tryz.isAgg210
  z55:=Tryz.sizeOf210
  v55:=Tryz.zeroValue210
  t66:=Tryz.underlying229
  a66:=Tryz.isAgg229
  z66:=Tryz.sizeOf229
  v66:=Tryz.zeroValue229
  t70:=Tryz.underlying233
  a70:=Tryz.isAgg233
  z70:=Tryz.sizeOf233
  v70:=Tryz.zeroValue233
  t76:=Tryz.underlying252
  a76:=Tryz.isAgg252
  z76:=Tryz.sizeOf252
  v76:=Tryz.zeroValue252
  t77:=Tryz.underlying253
  a77:=Tryz.isAgg253
  z77:=Tryz.sizeOf253
  v77:=Tryz.zeroValue253 }
def Tryz.laysF207_ren:Go.Shelf.Ren:=⟨fun|6=>207|15=>130|14=>234|28=>184|29=>185|20=>242|21=>243|22=>244|23=>245|24=>246|25=>247|26=>248|27=>249|46=>250|47=>218|48=>219|49=>251|50=>252|57=>253|n=>n,fun|22=>27|24=>3|25=>106|3=>3|39=>166|0=>0|53=>208|55=>210|4=>4|46=>202|45=>201|50=>45|5=>5|9=>9|66=>229|70=>233|76=>252|77=>253|n=>n,fun|n=>n⟩
theorem Tryz.laysF207:Go.Proofs.SlLaysF.n6 Tryz.prog Tryz.laysF207_ren:={
  mixed:=by kernel_rfl
  f6:=⟨Tryz.f207.name,by decide,Tryz.func207.trans (congrArg some (by kernel_rfl))⟩
  f14:=⟨Tryz.f234.name,by decide,Tryz.func234.trans (congrArg some (by kernel_rfl))⟩
  f15:=Tryz.func130.trans (congrArg some (by kernel_rfl))
  f20:=⟨Tryz.f242.name,by decide,Tryz.func242.trans (congrArg some (by kernel_rfl))⟩
  f21:=⟨Tryz.f243.name,by decide,Tryz.func243.trans (congrArg some (by kernel_rfl))⟩
  f22:=⟨Tryz.f244.name,by decide,Tryz.func244.trans (congrArg some (by kernel_rfl))⟩
  f23:=⟨Tryz.f245.name,by decide,Tryz.func245.trans (congrArg some (by kernel_rfl))⟩
  f24:=⟨Tryz.f246.name,by decide,Tryz.func246.trans (congrArg some (by kernel_rfl))⟩
  f25:=⟨Tryz.f247.name,by decide,Tryz.func247.trans (congrArg some (by kernel_rfl))⟩
  f26:=⟨Tryz.f248.name,by decide,Tryz.func248.trans (congrArg some (by kernel_rfl))⟩
  f27:=⟨Tryz.f249.name,by decide,Tryz.func249.trans (congrArg some (by kernel_rfl))⟩
  f28:=Tryz.func184.trans (congrArg some (by kernel_rfl))
  f29:=Tryz.func185.trans (congrArg some (by kernel_rfl))
  f46:=⟨Tryz.f250.name,by decide,Tryz.func250.trans (congrArg some (by kernel_rfl))⟩
  f47:=Tryz.func218.trans (congrArg some (by kernel_rfl))
  f48:=Tryz.func219.trans (congrArg some (by kernel_rfl))
  f49:=⟨Tryz.f251.name,by decide,Tryz.func251.trans (congrArg some (by kernel_rfl))⟩
  f50:=⟨Tryz.f252.name,by decide,Tryz.func252.trans (congrArg some (by kernel_rfl))⟩
  f57:=⟨Tryz.f253.name,by decide,Tryz.func253.trans (congrArg some (by kernel_rfl))⟩
  t0:=Tryz.underlying0
  a0:=Tryz.isAgg0
  z0:=Tryz.sizeOf0
  v0:=Tryz.zeroValue0
  t3:=Tryz.underlying3
  a3:=Tryz.isAgg3
  z3:=Tryz.sizeOf3
  v3:=Tryz.zeroValue3
  t4:=Tryz.underlying4
  a4:=Tryz.isAgg4
  z4:=Tryz.sizeOf4
  v4:=Tryz.zeroValue4
  t5:=Tryz.underlying5
  a5:=Tryz.isAgg5
  z5:=Tryz.sizeOf5
  v5:=Tryz.zeroValue5
  t9:=Tryz.underlying9
  a9:=Tryz.isAgg9
  z9:=Tryz.sizeOf9
  v9:=Tryz.zeroValue9
  t22:=Tryz.underlying27
  a22:=Tryz.isAgg27
  z22:=Tryz.sizeOf27
  v22:=Tryz.zeroValue27
  a24:=Tryz.isAgg3
  z24:=Tryz.sizeOf3
  t25:=Tryz.underlying106
  a25:=Tryz.isAgg106
  z25:=Tryz.sizeOf106
  v25:=Tryz.zeroValue106
  t39:=Tryz.underlying166
  a39:=Tryz.isAgg166
  z39:=Tryz.sizeOf166
  v39:=Tryz.zeroValue166
  t45:=Tryz.underlying201
  a45:=Tryz.isAgg201
  z45:=Tryz.sizeOf201
  v45:=Tryz.zeroValue201
  t46:=Tryz.underlying202
  a46:=Tryz.isAgg202
  z46:=Tryz.sizeOf202
  v46:=Tryz.zeroValue202
  t50:=Tryz.underlying45
  a50:=Tryz.isAgg45
  z50:=Tryz.sizeOf45
  v50:=Tryz.zeroValue45
  t53:=Tryz.underlying208
  a53:=Tryz.isAgg208
  z53:=Tryz.sizeOf208
  v53:=Tryz.zeroValue208
  t55:=Tryz.underlying210
  a55:=Tryz.isAgg210
  z55:=Tryz.sizeOf210
  v55:=Tryz.zeroValue210
  t66:=Tryz.underlying229
  a66:=Tryz.isAgg229
  z66:=Tryz.sizeOf229
  v66:=Tryz.zeroValue229
  t70:=Tryz.underlying233
  a70:=Tryz.isAgg233
  z70:=Tryz.sizeOf233
  v70:=Tryz.zeroValue233
  t76:=Tryz.underlying252
  a76:=Tryz.isAgg252
  z76:=Tryz.sizeOf252
  v76:=Tryz.zeroValue252
  t77:=Tryz.underlying253
  a77:=Tryz.isAgg253
  z77:=Tryz.sizeOf253
  v77:=Tryz.zeroValue253 }
def Tryz.laysD233_ren:Go.Shelf.Ren:=⟨fun|45=>233|n=>n,fun|22=>52|23=>27|3=>3|4=>4|0=>0|n=>n,fun|n=>n⟩
theorem Tryz.laysD233:Go.Proofs.SlLaysE0.n45 Tryz.prog Tryz.laysD233_ren:={
  mixed:=by kernel_rfl
  f45:=⟨Tryz.f233.name,by decide,Tryz.func233.trans (congrArg some (by kernel_rfl))⟩
  t0:=Tryz.underlying0
  a0:=Tryz.isAgg0
  z0:=Tryz.sizeOf0
  v0:=Tryz.zeroValue0
  t3:=Tryz.underlying3
  a3:=Tryz.isAgg3
  z3:=Tryz.sizeOf3
  v3:=Tryz.zeroValue3
  t4:=Tryz.underlying4
  a4:=Tryz.isAgg4
  z4:=Tryz.sizeOf4
  v4:=Tryz.zeroValue4
  t22:=Tryz.underlying52
  a22:=Tryz.isAgg52
  z22:=Tryz.sizeOf52
  v22:=Tryz.zeroValue52 }
open Go.RowKit in
set_option maxHeartbeats 2000000 in
theorem Sb4 (x:Int)(w:World):Calls Tryz.prog 186 #[.int .i64 x] w fun e w'=>e=.returned (.bool false) ∧ w'=w:=by
  go_enter Tryz.func186,Tryz.ntmps186
  go_wp2
  go_ret
  exact⟨by simp,rfl⟩
open Go.RowKit in
set_option maxHeartbeats 2000000 in
theorem Lbr (x y:Int)(w:World):Calls Tryz.prog 131 #[.int .i64 x,.int .i64 y] w fun e w'=>e=.returned (.int .i64 (if x<y then -1 else if y<x then 1 else 0)) ∧ w'=w:=by
  rcases Int.lt_trichotomy x y with h|h|h
  · go_enter Tryz.func131,Tryz.ntmps131
    go_wp2_with (go_at_call 186;refine (Sb4 _ _).mono ?_;rintro e w' ⟨rfl,hw⟩;rw[hw])
    go_ret
    exact⟨by simp[h],rfl⟩
  · subst h
    go_enter Tryz.func131,Tryz.ntmps131
    go_wp2_with (go_at_call 186;refine (Sb4 _ _).mono ?_;rintro e w' ⟨rfl,hw⟩;rw[hw])
    go_ret
    exact⟨by simp,rfl⟩
  · have h2:¬ x<y:=by omega
    go_enter Tryz.func131,Tryz.ntmps131
    go_wp2_with (go_at_call 186;refine (Sb4 _ _).mono ?_;rintro e w' ⟨rfl,hw⟩;rw[hw])
    go_ret
    exact⟨by simp[h,h2],rfl⟩
open Go.RowKit in
set_option maxHeartbeats 2000000 in
theorem Obv (a b:Addr)(ca cb:Nat)(x y:Int×Int)(w:World)(h1:w.cell? a=some (.int .i64 x.1))(h2:w.cell? (a.add 1)=some (.int .i64 x.2))(h3:w.cell? b=some (.int .i64 y.1))(h4:w.cell? (b.add 1)=some (.int .i64 y.2)) :
    Calls Tryz.prog 72 #[.slice (some a) 2 ca,.slice (some b) 2 cb] w fun e w'=>e=.returned (.int .i64 (Uae x y)) ∧ w'=w:=by
  obtain⟨x1,x2⟩:=x;obtain⟨y1,y2⟩:=y;replace h2:w.cell? ⟨a.block,a.off+1,none⟩=some (.int .i64 x2):=h2;replace h4:w.cell? ⟨b.block,b.off+1,none⟩=some (.int .i64 y2):=h4;dsimp only at h1 h3
  rcases Int.lt_trichotomy x1 y1 with h|h|h
  · have e0:Uae (x1,x2) (y1,y2)=-1:=by simp[Uae,ltQ,h]
    have hc:=Lbr x1 y1;rw[if_pos h]at hc
    go_enter Tryz.func72,Tryz.ntmps72
    go_wp2
    refine wp_loop_rounds 1 ?_;rw[rounds_succ]
    go_wp2_with (go_at_call 131;refine (hc _).mono ?_;rintro e w' ⟨rfl,hw⟩;rw[hw])
    go_ret
    exact⟨by rw[e0];rfl,rfl⟩
  · subst h
    have hc:=Lbr x1 x1;rw[if_neg (by omega),if_neg (by omega)]at hc
    rcases Int.lt_trichotomy x2 y2 with h|h|h
    · have e0:Uae (x1,x2) (x1,y2)=-1:=by simp[Uae,ltQ,h]
      have hd:=Lbr x2 y2;rw[if_pos h]at hd
      go_enter Tryz.func72,Tryz.ntmps72
      go_wp2
      refine wp_loop_rounds 2 ?_;rw[rounds_succ]
      go_wp2_with (go_at_call 131;refine (hc _).mono ?_;rintro e w' ⟨rfl,hw⟩;rw[hw])
      rw[rounds_succ]
      go_wp2_with (go_at_call 131;refine (hd _).mono ?_;rintro e w' ⟨rfl,hw⟩;rw[hw])
      go_ret
      exact⟨by rw[e0];rfl,rfl⟩
    · subst h
      have e0:Uae (x1,x2) (x1,x2)=0:=by simp[Uae,ltQ]
      have hd:=Lbr x2 x2;rw[if_neg (by omega),if_neg (by omega)]at hd
      go_enter Tryz.func72,Tryz.ntmps72
      go_wp2
      refine wp_loop_rounds 3 ?_;rw[rounds_succ]
      go_wp2_with (go_at_call 131;refine (hc _).mono ?_;rintro e w' ⟨rfl,hw⟩;rw[hw])
      rw[rounds_succ]
      go_wp2_with (go_at_call 131;refine (hd _).mono ?_;rintro e w' ⟨rfl,hw⟩;rw[hw])
      rw[rounds_succ]
      go_wp2
      go_ret
      exact⟨by rw[e0];rfl,rfl⟩
    · have e0:Uae (x1,x2) (x1,y2)=1:=by simp[Uae,ltQ,h];omega
      have hd:=Lbr x2 y2;rw[if_neg (by omega),if_pos h]at hd
      go_enter Tryz.func72,Tryz.ntmps72
      go_wp2
      refine wp_loop_rounds 2 ?_;rw[rounds_succ]
      go_wp2_with (go_at_call 131;refine (hc _).mono ?_;rintro e w' ⟨rfl,hw⟩;rw[hw])
      rw[rounds_succ]
      go_wp2_with (go_at_call 131;refine (hd _).mono ?_;rintro e w' ⟨rfl,hw⟩;rw[hw])
      go_ret
      exact⟨by rw[e0];rfl,rfl⟩
  · have e0:Uae (x1,x2) (y1,y2)=1:=by simp[Uae,ltQ,h];omega
    have hc:=Lbr x1 y1;rw[if_neg (by omega),if_pos h]at hc
    go_enter Tryz.func72,Tryz.ntmps72
    go_wp2
    refine wp_loop_rounds 1 ?_;rw[rounds_succ]
    go_wp2_with (go_at_call 131;refine (hc _).mono ?_;rintro e w' ⟨rfl,hw⟩;rw[hw])
    go_ret
    exact⟨by rw[e0];rfl,rfl⟩
open Go.RowKit in
set_option maxHeartbeats 2000000 in
theorem Gbd:Oat Tryz.prog 229:=by
  intro a b ca cb x y w h1 h2 h3 h4;have hc:=fun W=>Obv a b ca cb x y W
  go_enter Tryz.func229,Tryz.ntmps229
  go_wp2_with (go_at_call 72;refine (hc _ h1 h2 h3 h4).mono ?_;rintro e w' ⟨rfl,hw⟩;rw[hw])
  go_ret
  exact⟨rfl,0,#[],by rw[Go.Sort.grow_empty];rfl⟩
open Go.RowKit in
set_option maxHeartbeats 2000000 in
theorem Kbd:Uam Tryz.prog 208:=by
  intro p ad n c x y kx ky w h1 h2 h3 h4 h5 h6 h7;have e1:((x.toNat:Nat):Int)=x:=by omega
  have e2:((y.toNat:Nat):Int)=y:=by omega
  generalize x.toNat=X at *;generalize y.toNat=Y at *;subst e1 e2;have h8:(X:Int)<n:=by omega
  have h9:(Y:Int)<n:=by omega
  go_enter Tryz.func208,Tryz.ntmps208
  go_wp2
  go_region
  go_wp2
  go_ret
  have e3:IntKind.i64.wrap (kx-ky)=Go.RowKit.wrap64 (kx-ky):=IntWalk.i64_left _;rw[e3];exact⟨rfl,1,#[],by rw[Go.Sort.grow_empty];rfl⟩
theorem Xb8:K 158 Mb0:=Zan Tryz.laysF70 rfl Tryz.func229 (by kernel_rfl) rfl Gbd rfl
theorem Xbx:K 169 Mbp:=Zao Tryz.laysF207 rfl Tryz.func208 (by kernel_rfl) rfl Kbd rfl
theorem Xby:K 168 Mbq:=Yas (m:=98) Tryz.laysD233 rfl (by kernel_rfl) Tryz.sizeOf27 (by kernel_rfl) rfl
theorem o0:K 0 sg0:=fnK (E:=E0) (tm:=tm0) Tryz.func7 (by kernel_rfl)
theorem o1:K 1 sg1:=fnK (E:=E0) (tm:=tm1) Tryz.func8 (by kernel_rfl)
theorem o2:K 2 sg2:=fnK (E:=E0) (tm:=tm2) Tryz.func23 (by kernel_rfl)
theorem o3:K 3 sg3:=fnK (E:=E0) (tm:=tm3) Tryz.func52 (by kernel_rfl)
theorem o4:K 4 sg4:=fnK (E:=E0) (tm:=tm4) Tryz.func103 (by kernel_rfl)
theorem o5:K 5 sg5:=fnK (E:=E0) (tm:=tm5) Tryz.func167 (by kernel_rfl)
theorem o6:K 6 sg6:=fnK (E:=E0) (tm:=tm6) Tryz.func212 (by kernel_rfl)
theorem o7:K 7 sg7:=fnK (E:=E0) (tm:=tm7) Tryz.func237 (by kernel_rfl)
theorem o8:K 8 sg8:=fnK (E:=E0) (tm:=tm8) Tryz.func105 (by kernel_rfl)
theorem o9:K 9 sg9:=fnK (E:=E0) (tm:=tm9) Tryz.func169 (by kernel_rfl)
theorem o10:K 10 Vb8:=fnK (E:=E0) (tm:=Rb8) Tryz.func104 (by kernel_rfl)
theorem o11:K 11 Vb7:=fnK (E:=E0) (tm:=Rb7) Tryz.func168 (by kernel_rfl)
theorem o12:K 12 Vb6:=fnK (E:=E0) (tm:=Rb6) Tryz.func24 (by kernel_rfl)
theorem o13:K 13 Vb5:=fnK (E:=E0) (tm:=Rb5) Tryz.func53 (by kernel_rfl)
theorem o14:K 14 Vb4:=fnK (E:=E0) (tm:=Rb4) Tryz.func25 (by kernel_rfl)
theorem o15:K 15 Vb3:=fnK (E:=E0) (tm:=Rb3) Tryz.func10 (by kernel_rfl)
theorem o16:K 16 Vb2:=fnK (E:=E0) (tm:=Rb2) Tryz.func29 (by kernel_rfl)
theorem o17:K 17 Vb1:=fnK (E:=E0) (tm:=Rb1) Tryz.func61 (by kernel_rfl)
theorem o18:K 18 Vb0:=fnK (E:=E0) (tm:=Rb0) Tryz.func114 (by kernel_rfl)
theorem o19:K 19 Vbz:=fnK (E:=E0) (tm:=Rbz) Tryz.func173 (by kernel_rfl)
theorem o20:K 20 Vby:=fnK (E:=E0) (tm:=Rby) Tryz.func215 (by kernel_rfl)
theorem o21:K 21 Vbx:=fnK (E:=E0) (tm:=Rbx) Tryz.func238 (by kernel_rfl)
theorem o22:K 22 Vbw:=fnK (E:=E0) (tm:=Rbw) Tryz.func116 (by kernel_rfl)
theorem o23:K 23 Vbv:=fnK (E:=E0) (tm:=Rbv) Tryz.func117 (by kernel_rfl)
theorem o24:K 24 Vbu:=fnK (E:=E0) (tm:=Rbu) Tryz.func11 (by kernel_rfl)
theorem o25:K 25 Vbt:=fnK (E:=E0) (tm:=Rbt) Tryz.func115 (by kernel_rfl)
theorem o26:K 26 Vbs:=fnK (E:=E0) (tm:=Rbs) Tryz.func174 (by kernel_rfl)
theorem o27:K 27 Vbr:=fnK (E:=E0) (tm:=Rbr) Tryz.func30 (by kernel_rfl)
theorem o28:K 28 Vbq:=fnK (E:=E0) (tm:=Rbq) Tryz.func62 (by kernel_rfl)
theorem o29:K 29 Vbp:=fnK (E:=E0) (tm:=Rbp) Tryz.func31 (by kernel_rfl)
theorem o30:K 30 Vbo:=fnK (E:=E0) (tm:=Rbo) Tryz.func63 (by kernel_rfl)
theorem o31:K 31 Vbn:=fnK (E:=E0) (tm:=Rbn) Tryz.func21 (by kernel_rfl)
theorem o32:K 32 Vbm:=fnK (E:=E0) (tm:=Rbm) Tryz.func26 (by kernel_rfl)
theorem o33:K 33 Vbl:=fnK (E:=E0) (tm:=Rbl) Tryz.func54 (by kernel_rfl)
theorem o34:K 34 Vbk:=fnK (E:=⟨gT tiL,sigs,0,0,false,false,[],[(7,[(117,0,0,0)],[0,3,18,27,30,33,78,81,96,99,111,114,117,25],0,[]),(2,[(33,0,0,0)],[0,3,27,30,33],1,[])],[],0⟩) (tm:=Rbk) Tryz.func55 (by kernel_rfl)
theorem o35:K 35 Vbj:=fnK (E:=E0) (tm:=Rbj) Tryz.func106 (by kernel_rfl)
theorem o36:K 36 Vbi:=fnK (E:=E0) (tm:=Rbi) Tryz.func58 (by kernel_rfl)
theorem o37:K 37 Vbh:=fnK (E:=E0) (tm:=Rbh) Tryz.func107 (by kernel_rfl)
theorem o38:K 38 Vbg:=fnK (E:=E0) (tm:=Rbg) Tryz.func170 (by kernel_rfl)
theorem o39:K 39 Vbf:=fnK (E:=E0) (tm:=Rbf) Tryz.func213 (by kernel_rfl)
theorem o40:K 40 Vbe:=fnK (E:=E0) (tm:=Rbe) Tryz.func56 (by kernel_rfl)
theorem o41:K 41 Vbd:=fnK (E:=⟨gT tiL,sigs,0,0,false,false,[],[(7,[(84,0,0,0)],[3,12,60,63,66,78,81,84,1],0,[]),(4,[(66,0,0,0)],[3,60,63,66,1],1,[])],[],0⟩) (tm:=Rbd) Tryz.func108 (by kernel_rfl)
theorem o42:K 42 Vbc:=fnK (E:=E0) (tm:=Rbc) Tryz.func110 (by kernel_rfl)
theorem o43:K 43 Vbb:=fnK (E:=E0) (tm:=Rbb) Tryz.func112 (by kernel_rfl)
theorem o44:K 44 Vba:=fnK (E:=E0) (tm:=Rba) Tryz.func77 (by kernel_rfl)
theorem o45:K 45 Ub9:=fnK (E:=E0) (tm:=Qb9) Tryz.func136 (by kernel_rfl)
theorem o46:K 46 Ub8:=fnK (E:=E0) (tm:=Qb8) Tryz.func111 (by kernel_rfl)
theorem o47:K 47 Ub7:=fnK (E:=E0) (tm:=Qb7) Tryz.func171 (by kernel_rfl)
theorem o48:K 48 Ub6:=fnK (E:=⟨gT tiL,sigs,0,0,false,false,[],[(4,[(165,0,0,0)],[0,15,159,162,165,1],0,[])],[],0⟩) (tm:=Qb6) Tryz.func109 (by kernel_rfl)
theorem o49:K 49 Ub5:=fnK (E:=E0) (tm:=Qb5) Tryz.func27 (by kernel_rfl)
theorem o50:K 50 Ub4:=fnK (E:=E0) (tm:=Qb4) Tryz.func166 (by kernel_rfl)
theorem o51:K 51 Ub3:=fnK (E:=E0) (tm:=Qb3) Tryz.func57 (by kernel_rfl)
theorem o52:K 52 Ub2:=fnK (E:=⟨gT tiL,sigs,0,0,false,false,[],[(8,[(96,0,0,0)],[3,12,18,36,39,42,66,69,72,90,93,96,1,31,67],258,[1570]),(5,[(72,0,0,0)],[3,12,36,39,42,66,69,72,1,31],260,[]),(2,[(42,0,0,0)],[3,36,39,42,1],261,[])],[],0⟩) (tm:=Qb2) Tryz.func40 (by kernel_rfl)
theorem o53:K 53 Ub1:=fnK (E:=⟨gT tiL,sigs,0,0,false,false,[],[(6,[(9,0,2,99),(54,0,0,0)],[9,12,27,30,33,48,51,54,1],4,[21]),(3,[(9,0,2,99),(33,0,0,0)],[9,27,30,33,1],7,[])],[],0⟩) (tm:=Qb1) Tryz.func76 (by kernel_rfl)
theorem o54:K 54 Ub0:=fnK (E:=E0) (tm:=Qb0) Tryz.func60 (by kernel_rfl)
theorem o55:K 55 Ubz:=fnK (E:=E0) (tm:=Qbz) Tryz.func113 (by kernel_rfl)
theorem o56:K 56 Uby:=fnK (E:=E0) (tm:=Qby) Tryz.func172 (by kernel_rfl)
theorem o57:K 57 Ubx:=fnK (E:=E0) (tm:=Qbx) Tryz.func214 (by kernel_rfl)
theorem o58:K 58 Ubw:=fnK (E:=⟨gT tiL,sigs,0,0,false,false,[],[(10,[(24,0,0,0),(126,0,0,0)],[3,12,18,21,24,36,39,42,60,63,66,120,123,126,1,28,91],0,[406,1192]),(5,[(66,0,0,0)],[3,12,36,39,42,60,63,66,1,28],132,[406]),(2,[(42,0,0,0)],[3,36,39,42,1],134,[])],[],0⟩) (tm:=Qbw) Tryz.func48 (by kernel_rfl)
theorem o59:K 59 Ubv:=fnK (E:=⟨gT tiL,sigs,0,0,false,false,[],[(6,[(72,0,0,0),(19,0,0,0),(19,1,2,99)],[6,9,15,42,45,48,66,69,72,1,4,19,46],258,[801,805]),(3,[(48,0,0,0),(19,0,0,0),(19,1,2,99)],[6,9,42,45,48,1,4,19],264,[0])],[],0⟩) (tm:=Qbv) Tryz.func50 (by kernel_rfl)
theorem o60:K 60 Ubu:=fnK (E:=E0) (tm:=Qbu) Tryz.func99 (by kernel_rfl)
theorem o61:K 61 Ubt:=fnK (E:=E0) (tm:=Qbt) Tryz.func100 (by kernel_rfl)
theorem o62:K 62 Ubs:=fnK (E:=⟨gT tiL,sigs,0,0,false,false,[],[(6,[(63,0,0,0),(16,1,2,99)],[6,9,12,36,39,42,57,60,63,1,4,16],177,[546]),(3,[(42,0,0,0),(16,1,2,99)],[6,9,36,39,42,1,4,16],180,[0])],[],0⟩) (tm:=Qbs) Tryz.func140 (by kernel_rfl)
theorem o63:K 63 Ubr:=fnK (E:=⟨gT tiL,sigs,0,0,false,false,[],[(6,[(69,0,0,0)],[3,9,15,36,39,42,63,66,69,1],226,[1]),(3,[(42,0,0,0)],[3,9,36,39,42,1],227,[1])],[],0⟩) (tm:=Qbr) Tryz.func49 (by kernel_rfl)
theorem o64:K 64 Ubq:=fnK (E:=E0) (tm:=Qbq) Tryz.func98 (by kernel_rfl)
theorem o65:K 65 Ubp:=fnK (E:=E0) (tm:=Qbp) Tryz.func165 (by kernel_rfl)
theorem o66:K 66 Ubo:=fnK (E:=E0) (tm:=Qbo) Tryz.func191 (by kernel_rfl)
theorem o67:K 67 Ubn:=fnK (E:=⟨gT tiL,sigs,0,0,false,false,[],[(6,[(75,0,0,0)],[3,9,15,39,42,45,69,72,75,1,13,43],0,[1]),(3,[(45,0,0,0)],[3,9,39,42,45,1,13],1,[1])],[],0⟩) (tm:=Qbn) Tryz.func41 (by kernel_rfl)
theorem o68:K 68 Ubm:=fnK (E:=⟨gT tiL,sigs,0,0,false,false,[],[(7,[(93,0,0,0),(22,1,2,99)],[3,9,12,15,63,66,90,93,1,22],131,[408]),(4,[(66,0,0,0),(22,1,2,99)],[3,9,12,63,66,1,22],134,[0]),(16,[(27,0,2,99),(183,0,0,0)],[3,21,24,27,177,180,183,1,22],353,[412,415]),(22,[(21,0,3,0),(36,0,2,1),(279,0,0,0)],[21,36,273,276,279,1,22],2,[412,416,1483,1486])],[],0⟩) (tm:=Qbm) Tryz.func79 (by kernel_rfl)
theorem o69:K 69 Ubl:=fnK (E:=E0) (tm:=Qbl) Tryz.func139 (by kernel_rfl)
theorem o70:K 70 Ubk:=fnK (E:=⟨gT tiL,sigs,0,0,false,false,[],[(7,[(21,0,2,1),(24,0,3,0),(105,0,3,0),(111,0,0,0)],[9,21,24,27,105,108,111,1],120,[1011,1646]),(4,[(21,0,2,1),(24,0,3,0),(27,0,0,0)],[9,21,24,27,1],335,[3])],[],0⟩) (tm:=Qbk) Tryz.func189 (by kernel_rfl)
theorem o71:K 71 Ubj:=fnK (E:=⟨gT tiL,sigs,0,0,false,false,[],[(7,[(24,0,2,99),(33,0,0,0)],[3,6,24,27,30,33,54,57,60,1,22],7,[1,33]),(4,[(24,0,2,99),(60,0,0,0)],[3,6,24,54,57,60,1,22],10,[1])],[],0⟩) (tm:=Qbj) Tryz.func190 (by kernel_rfl)
theorem o72:K 72 Ubi:=fnK (E:=E0) (tm:=Qbi) Tryz.func138 (by kernel_rfl)
theorem o73:K 73 Ubh:=fnK (E:=E0) (tm:=Qbh) Tryz.func223 (by kernel_rfl)
theorem o74:K 74 Ubg:=fnK (E:=⟨gT tiL,sigs,0,0,false,false,[],[(8,[(24,0,3,0),(87,0,0,0)],[3,12,15,24,42,45,48,81,84,87,1],1,[1,361,703]),(4,[(15,0,2,1),(48,0,0,0)],[3,12,15,42,45,48,1],119,[1])],[],0⟩) (tm:=Qbg) Tryz.func141 (by kernel_rfl)
theorem o75:K 75 Ubf:=fnK (E:=E0) (tm:=Qbf) Tryz.func142 (by kernel_rfl)
theorem o76:K 76 Ube:=fnK (E:=⟨gT tiL,sigs,0,0,false,false,[],[(15,[(21,0,0,0),(126,0,0,0)],[0,9,12,15,18,21,27,30,60,63,66,81,84,87,99,102,105,120,123,126],0,[82,85]),(12,[(21,0,0,0),(105,0,0,0)],[0,9,12,15,18,21,27,60,63,66,81,84,87,99,102,105],3,[82,85]),(9,[(21,0,0,0),(87,0,0,0)],[0,9,12,15,18,21,60,63,66,81,84,87],6,[82,85]),(5,[(66,0,0,0)],[0,9,12,60,63,66],9,[82,85]),(3,[(9,0,2,1),(12,0,2,1)],[0,9,12],26,[0])],[],0⟩) (tm:=Qbe) Tryz.func192 (by kernel_rfl)
theorem o77:K 77 Ubd:=fnK (E:=⟨gT tiL,sigs,0,0,false,false,[],[(3,[(9,0,2,1),(36,0,0,0)],[0,9,33,36],2,[]),(13,[(21,0,2,99),(96,0,0,0)],[9,15,18,21,69,72,90,93,96],3,[13,43]),(9,[(15,0,2,99),(72,0,0,0)],[9,15,69,72],9,[13])],[],0⟩) (tm:=Qbd) Tryz.func224 (by kernel_rfl)
theorem o78:K 78 Ubc:=fnK (E:=⟨gT tiL,sigs,0,0,false,false,[],[(7,[(15,0,3,0),(18,0,2,99),(84,0,0,0)],[0,15,18,21,78,81,84],4,[1,36]),(4,[(15,0,3,0),(18,0,2,99),(21,0,0,0)],[0,15,18,21],9,[2,3])],[],0⟩) (tm:=Qbc) Tryz.func241 (by kernel_rfl)
theorem o79:K 79 Ubb:=fnK (E:=⟨gT tiL,sigs,0,0,false,false,[],[(6,[(24,0,0,0)],[3,15,21,24,30,33,36],0,[40]),(3,[(15,0,2,99),(36,0,0,0)],[3,15,30,33,36],13,[])],[],0⟩) (tm:=Qbb) Tryz.func193 (by kernel_rfl)
theorem o80:K 80 Uba:=fnK (E:=⟨gT tiL,sigs,0,0,false,false,[],[(7,[(120,0,0,0)],[0,3,15,27,87,90,93,114,117,120,1],0,[]),(4,[(93,0,0,0)],[0,3,15,87,90,93,1],1,[])],[],0⟩) (tm:=Qba) Tryz.func78 (by kernel_rfl)
theorem o81:K 81 Tb9:=fnK (E:=E0) (tm:=Pb9) Tryz.func137 (by kernel_rfl)
theorem o82:K 82 Tb8:=fnK (E:=E0) (tm:=Pb8) Tryz.func22 (by kernel_rfl)
theorem o83:K 83 Tb7:=fnK (E:=E0) (tm:=Pb7) Tryz.func42 (by kernel_rfl)
theorem o84:K 84 Tb6:=fnK (E:=E0) (tm:=Pb6) Tryz.func80 (by kernel_rfl)
theorem o85:K 85 Tb5:=fnK (E:=E0) (tm:=Pb5) Tryz.func81 (by kernel_rfl)
theorem o86:K 86 Tb4:=fnK (E:=E0) (tm:=Pb4) Tryz.func143 (by kernel_rfl)
theorem o87:K 87 Tb3:=fnK (E:=E0) (tm:=Pb3) Tryz.func82 (by kernel_rfl)
theorem o88:K 88 Tb2:=fnK (E:=E0) (tm:=Pb2) Tryz.func83 (by kernel_rfl)
theorem o89:K 89 Tb1:=fnK (E:=E0) (tm:=Pb1) Tryz.func120 (by kernel_rfl)
theorem o90:K 90 Tb0:=fnK (E:=E0) (tm:=Pb0) Tryz.func85 (by kernel_rfl)
theorem o91:K 91 Tbz:=fnK (E:=E0) (tm:=Pbz) Tryz.func145 (by kernel_rfl)
theorem o92:K 92 Tby:=fnK (E:=E0) (tm:=Pby) Tryz.func175 (by kernel_rfl)
theorem o94:K 94 Tbx:=fnK (E:=E0) (tm:=Pbx) Tryz.func144 (by kernel_rfl)
theorem o95:K 95 Tbw:=fnK (E:=E0) (tm:=Pbw) Tryz.func86 (by kernel_rfl)
theorem o96:K 96 Tbv:=fnK (E:=E0) (tm:=Pbv) Tryz.func149 (by kernel_rfl)
theorem o97:K 97 Tbu:=fnK (E:=E0) (tm:=Pbu) Tryz.func146 (by kernel_rfl)
theorem o98:K 98 Tbt:=fnK (E:=E0) (tm:=Pbt) Tryz.func66 (by kernel_rfl)
theorem o99:K 99 Tbs:=fnK (E:=E0) (tm:=Pbs) Tryz.func123 (by kernel_rfl)
theorem Zbt:K 100 Obn:=fnK (E:=E0) (tm:=Fbu) Tryz.func194 (by kernel_rfl)
theorem Zbs:K 101 Obm:=fnK (E:=E0) (tm:=Fbt) Tryz.func125 (by kernel_rfl)
theorem Zbr:K 102 Obl:=fnK (E:=E0) (tm:=Fbs) Tryz.func89 (by kernel_rfl)
theorem Zbq:K 103 Obk:=fnK (E:=E0) (tm:=Fbr) Tryz.func128 (by kernel_rfl)
theorem Zbp:K 104 Obi:=fnK (E:=E0) (tm:=Fbq) Tryz.func84 (by kernel_rfl)
theorem Zbo:K 105 Obh:=fnK (E:=E0) (tm:=Fbp) Tryz.func147 (by kernel_rfl)
theorem Zbn:K 106 Obg:=fnK (E:=E0) (tm:=Fbo) Tryz.func195 (by kernel_rfl)
theorem Zbm:K 107 Obf:=fnK (E:=E0) (tm:=Fbn) Tryz.func225 (by kernel_rfl)
theorem Zbl:K 108 Obe:=fnK (E:=E0) (tm:=Fbm) Tryz.func196 (by kernel_rfl)
theorem Zbk:K 109 Obd:=fnK (E:=E0) (tm:=Fbl) Tryz.func197 (by kernel_rfl)
theorem Zbj:K 110 Obc:=fnK (E:=E0) (tm:=Fbk) Tryz.func226 (by kernel_rfl)
theorem o111:K 111 Obb:=fnK (E:=E0) (tm:=Fbj) Tryz.func198 (by kernel_rfl)
theorem Zbi:K 112 Oba:=fnK (E:=E0) (tm:=Fbi) Tryz.func148 (by kernel_rfl)
theorem Zbh:K 113 Nb9:=fnK (E:=E0) (tm:=Fbh) Tryz.func64 (by kernel_rfl)
theorem Zbg:K 114 Nb8:=fnK (E:=E0) (tm:=Fbg) Tryz.func118 (by kernel_rfl)
theorem Zbf:K 115 Nb7:=fnK (E:=E0) (tm:=Fbf) Tryz.func66 (by kernel_rfl)
theorem Zbe:K 116 Nb6:=fnK (E:=E0) (tm:=Fbe) Tryz.func123 (by kernel_rfl)
theorem Zbd:K 117 Nb5:=fnK (E:=E0) (tm:=Fbd) Tryz.func119 (by kernel_rfl)
theorem Zbc:K 118 Nb4:=fnK (E:=E0) (tm:=Fbc) Tryz.func199 (by kernel_rfl)
theorem Zbb:K 119 Nb3:=fnK (E:=E0) (tm:=Fbb) Tryz.func227 (by kernel_rfl)
theorem Zba:K 120 Nb2:=fnK (E:=E0) (tm:=Fba) Tryz.func197 (by kernel_rfl)
theorem Yb9:K 121 Nb1:=fnK (E:=E0) (tm:=Eb9) Tryz.func226 (by kernel_rfl)
theorem Yb8:K 122 Nb0:=fnK (E:=E0) (tm:=Eb8) Tryz.func200 (by kernel_rfl)
theorem Yb7:K 123 Nbz:=fnK (E:=E0) (tm:=Eb7) Tryz.func72 (by kernel_rfl)
theorem Yb6:K 124 Nby:=fnK (E:=E0) (tm:=Eb6) Tryz.func131 (by kernel_rfl)
theorem Yb5:K 125 Nbx:=fnK (E:=E0) (tm:=Eb5) Tryz.func186 (by kernel_rfl)
theorem Yb4:K 126 Nbw:=fnK (E:=E0) (tm:=Eb4) Tryz.func87 (by kernel_rfl)
theorem Yb3:K 127 Nbv:=fnK (E:=E0) (tm:=Eb3) Tryz.func150 (by kernel_rfl)
theorem Yb2:K 128 Nbu:=fnK (E:=E0) (tm:=Eb2) Tryz.func151 (by kernel_rfl)
theorem Yb1:K 129 Nbt:=fnK (E:=E0) (tm:=Eb1) Tryz.func51 (by kernel_rfl)
theorem Yb0:K 130 Nbs:=fnK (E:=⟨gT tiL,sigs,0,0,false,false,[],[(9,[(123,0,0,0)],[3,9,12,18,21,36,39,42,63,66,69,117,120,123,1,31,94],129,[787,1954]),(5,[(69,0,0,0)],[3,9,12,36,39,42,63,66,69,1,31],259,[787]),(2,[(42,0,0,0)],[3,36,39,42,1],261,[])],[],0⟩) (tm:=Eb0) Tryz.func43 (by kernel_rfl)
theorem Ybz:K 131 Nbr:=fnK (E:=E0) (tm:=Ebz) Tryz.func88 (by kernel_rfl)
theorem Yby:K 132 Nbq:=fnK (E:=⟨gT tiL,sigs,0,0,false,false,[],[(5,[(54,0,0,0),(1,0,2,99)],[93,3,12,27,30,33,48,51,54,1,4],1,[18]),(2,[(33,0,0,0),(1,0,2,99)],[93,3,27,30,33,1,4],4,[0])],[],0⟩) (tm:=Eby) Tryz.func121 (by kernel_rfl)
theorem Ybx:K 133 Nbp:=fnK (E:=E0) (tm:=Ebx) Tryz.func152 (by kernel_rfl)
theorem Ybw:K 134 Nbo:=fnK (E:=E0) (tm:=Ebw) Tryz.func68 (by kernel_rfl)
theorem Ybv:K 135 Nbn:=fnK (E:=E0) (tm:=Ebv) Tryz.func124 (by kernel_rfl)
theorem Ybu:K 136 Nbm:=fnK (E:=⟨gT tiL,sigs,0,0,false,false,[],[(5,[(60,0,0,0)],[3,12,30,33,36,54,57,60,1,28],129,[397]),(2,[(36,0,0,0)],[3,30,33,36,1],131,[])],[],0⟩) (tm:=Ebu) Tryz.func101 (by kernel_rfl)
theorem Ybt:K 137 Nbl:=fnK (E:=⟨gT tiL,sigs,0,0,false,false,[],[(6,[(72,0,0,0),(19,0,0,0),(19,1,2,99)],[6,9,15,42,45,48,66,69,72,1,4,19,46],242,[753,757]),(3,[(48,0,0,0),(19,0,0,0),(19,1,2,99)],[6,9,42,45,48,1,4,19],248,[0])],[],0⟩) (tm:=Ebt) Tryz.func90 (by kernel_rfl)
theorem Ybs:K 138 Nbk:=fnK (E:=E0) (tm:=Ebs) Tryz.func153 (by kernel_rfl)
theorem Ybr:K 139 Nbj:=fnK (E:=E0) (tm:=Ebr) Tryz.func154 (by kernel_rfl)
theorem Ybq:K 140 Nbi:=fnK (E:=⟨gT tiL,sigs,0,0,false,false,[],[(6,[(69,0,0,0)],[3,9,15,36,39,42,63,66,69,1],241,[1]),(3,[(42,0,0,0)],[3,9,36,39,42,1],242,[1])],[],0⟩) (tm:=Ebq) Tryz.func102 (by kernel_rfl)
theorem Ybp:K 141 Nbh:=fnK (E:=E0) (tm:=Ebp) Tryz.func158 (by kernel_rfl)
theorem Ybo:K 142 Nbg:=fnK (E:=E0) (tm:=Ebo) Tryz.func201 (by kernel_rfl)
theorem Ybn:K 143 Nbf:=fnK (E:=E0) (tm:=Ebn) Tryz.func66 (by kernel_rfl)
theorem Ybm:K 144 Nbe:=fnK (E:=E0) (tm:=Ebm) Tryz.func123 (by kernel_rfl)
theorem Ybl:K 145 Nbd:=fnK (E:=E0) (tm:=Ebl) Tryz.func202 (by kernel_rfl)
theorem Ybk:K 146 Nbc:=fnK (E:=⟨gT tiL,sigs,0,0,false,false,[],[(6,[(69,0,0,0)],[3,9,15,33,36,39,63,66,69,1,13,43],97,[1]),(3,[(39,0,0,0)],[3,9,33,36,39,1,13],98,[1])],[],0⟩) (tm:=Ebk) Tryz.func44 (by kernel_rfl)
theorem Ybj:K 147 Nbb:=fnK (E:=⟨gT tiL,sigs,0,0,false,true,[],[(3,[(60,0,0,0),(16,0,0,0),(16,1,2,99)],[3,9,54,57,60,1,16],225,[0,4]),(10,[(24,0,2,99),(144,0,0,0)],[9,18,21,24,138,141,144,1,16],353,[4,694,697,700,702]),(16,[(18,0,2,99),(33,0,2,99),(243,0,0,0)],[18,33,237,240,243,1,16],3,[4,694,696,700,1771,1773,1777])],[],0⟩) (tm:=Ebj) Tryz.func92 (by kernel_rfl)
theorem Ybi:K 148 Nba:=fnK (E:=E0) (tm:=Ebi) Tryz.func159 (by kernel_rfl)
theorem Ybh:K 149 Mb9:=fnK (E:=⟨gT tiL,sigs,0,0,false,true,[],[],[],0⟩) (tm:=Ebh) Tryz.func203 (by kernel_rfl)
theorem Ybg:K 150 Mb8:=fnK (E:=E0) (tm:=Ebg) Tryz.func156 (by kernel_rfl)
theorem Ybf:K 151 Mb7:=fnK (E:=E0) (tm:=Ebf) Tryz.func204 (by kernel_rfl)
theorem Ybe:K 152 Mb6:=fnK (E:=⟨gT tiL,sigs,0,0,false,false,[],[(6,[(15,0,2,1),(18,0,2,1),(21,0,2,1),(99,0,3,0),(105,0,0,0)],[6,15,18,21,99,102,105,1],121,[1023,1026,1029,1561,1658]),(3,[(15,0,2,1),(18,0,2,1),(21,0,2,1)],[6,15,18,21,1],338,[0,3,6])],[],0⟩) (tm:=Ebe) Tryz.func205 (by kernel_rfl)
theorem Ybd:K 153 Mb5:=fnK (E:=⟨gT tiL,sigs,0,0,false,false,[],[(6,[(9,0,2,99),(18,0,0,0)],[9,12,15,18,27,30,33,1],3,[21]),(3,[(9,0,2,99),(33,0,0,0)],[9,27,30,33,1],6,[0])],[],0⟩) (tm:=Ebd) Tryz.func228 (by kernel_rfl)
theorem Ybc:K 154 Mb4:=fnK (E:=E0) (tm:=Ebc) Tryz.func69 (by kernel_rfl)
theorem Ybb:K 155 Mb3:=fnK (E:=E0) (tm:=Ebb) Tryz.func126 (by kernel_rfl)
theorem Yba:K 156 Mb2:=fnK (E:=E0) (tm:=Eba) Tryz.func156 (by kernel_rfl)
theorem Xb9:K 157 Mb1:=fnK (E:=E0) (tm:=Db9) Tryz.func127 (by kernel_rfl)
theorem Xb7:K 159 Mbz:=fnK (E:=⟨gT tiL,sigs,0,0,false,false,[],[(7,[(27,0,2,99),(99,0,0,0)],[3,12,15,21,24,27,45,48,51,93,96,99,1,76],7,[1,478,820,915]),(3,[(15,0,2,99),(51,0,0,0)],[3,12,15,45,48,51,1],157,[1,3])],[],0⟩) (tm:=Db8) Tryz.func160 (by kernel_rfl)
theorem Xb6:K 160 Mby:=fnK (E:=⟨gT tiL,sigs,0,0,false,false,[(4,1)],[],[],0⟩) (tm:=Db7) Tryz.func161 (by kernel_rfl)
theorem Xb5:K 161 Mbx:=fnK (E:=⟨gT tiL,sigs,0,0,false,true,[],[(3,[(51,0,0,0),(7,0,2,99)],[0,9,48,51,7],81,[0]),(13,[(24,0,2,99),(117,0,0,0)],[0,9,15,18,21,24,96,99,114,117,7,34],6,[253,400,442,447]),(9,[(15,0,2,99),(99,0,0,0)],[0,9,15,18,96,99,7,34],13,[253,255,400]),(25,[(249,0,0,0),(34,0,2,99)],[9,15,18,30,33,243,246,249,7,34],0,[253,475,478,480]),(22,[(15,0,2,99),(30,0,2,99),(34,0,2,99)],[9,15,18,30,7,34],7,[253,399,447,450])],[],0⟩) (tm:=Db6) Tryz.func206 (by kernel_rfl)
theorem Xb4:K 162 Mbw:=fnK (E:=⟨gT tiL,sigs,0,0,false,false,[],[(7,[(15,0,2,99),(18,0,2,99),(96,0,0,0)],[0,15,18,90,93,96],4,[33,36]),(4,[(15,0,2,99),(18,0,2,99)],[0,15,18],9,[0,3]),(15,[(27,0,2,99),(156,0,0,0)],[27,150,153,156],3,[40,42])],[],0⟩) (tm:=Db5) Tryz.func230 (by kernel_rfl)
theorem Xb3:K 163 Mbv:=fnK (E:=E0) (tm:=Db4) Tryz.func156 (by kernel_rfl)
theorem Xb2:K 164 Mbu:=fnK (E:=E0) (tm:=Db3) Tryz.func231 (by kernel_rfl)
theorem Xb1:K 165 Mbt:=fnK (E:=E0) (tm:=Db2) Tryz.func66 (by kernel_rfl)
theorem Xb0:K 166 Mbs:=fnK (E:=E0) (tm:=Db1) Tryz.func123 (by kernel_rfl)
theorem Xbz:K 167 Mbr:=fnK (E:=E0) (tm:=Db0) Tryz.func232 (by kernel_rfl)
theorem Xbw:K 170 Mbo:=fnK (E:=⟨gT tiL,sigs,0,0,false,false,[],[(6,[(72,0,0,0)],[3,9,21,27,39,42,45,66,69,72,1,4],257,[]),(3,[(45,0,0,0)],[3,9,21,39,42,45,1,4],258,[])],[],0⟩) (tm:=Dbz) Tryz.func91 (by kernel_rfl)
theorem Xbv:K 171 Mbn:=fnK (E:=E0) (tm:=Dby) Tryz.func155 (by kernel_rfl)
theorem Xbu:K 172 Mbm:=fnK (E:=E0) (tm:=Dbx) Tryz.func156 (by kernel_rfl)
theorem Xbt:K 173 Mbl:=fnK (E:=E0) (tm:=Dbw) Tryz.func157 (by kernel_rfl)
theorem Xbs:K 174 Mbk:=fnK (E:=E0) (tm:=Dbv) Tryz.func13 (by kernel_rfl)
theorem Xbr:K 175 Mbj:=fnK (E:=E0) (tm:=Dbu) Tryz.func34 (by kernel_rfl)
theorem Xbq:K 176 Mbi:=fnK (E:=E0) (tm:=Dbt) Tryz.func73 (by kernel_rfl)
theorem Xbp:K 177 Mbh:=fnK (E:=E0) (tm:=Dbs) Tryz.func132 (by kernel_rfl)
theorem Xbo:K 178 Mbg:=fnK (E:=E0) (tm:=Dbr) Tryz.func187 (by kernel_rfl)
theorem Xbn:K 179 Mbf:=fnK (E:=E0) (tm:=Dbq) Tryz.func222 (by kernel_rfl)
theorem Xbm:K 180 Mbe:=fnK (E:=E0) (tm:=Dbp) Tryz.func240 (by kernel_rfl)
theorem Xbl:K 181 Mbd:=fnK (E:=E0) (tm:=Dbo) Tryz.func134 (by kernel_rfl)
theorem Xbk:K 182 Mbc:=fnK (E:=E0) (tm:=Dbn) Tryz.func135 (by kernel_rfl)
theorem Xbj:K 183 Mbb:=fnK (E:=E0) (tm:=Dbm) Tryz.func14 (by kernel_rfl)
theorem Xbi:K 184 Mba:=fnK (E:=E0) (tm:=Dbl) Tryz.func133 (by kernel_rfl)
theorem Xbh:K 185 Lb9:=fnK (E:=E0) (tm:=Dbk) Tryz.func188 (by kernel_rfl)
theorem Xbg:K 186 Lb8:=fnK (E:=E0) (tm:=Dbj) Tryz.func35 (by kernel_rfl)
theorem Xbf:K 187 Lb7:=fnK (E:=E0) (tm:=Dbi) Tryz.func74 (by kernel_rfl)
theorem Xbe:K 188 Lb6:=fnK (E:=E0) (tm:=Dbh) Tryz.func36 (by kernel_rfl)
theorem Xbd:K 189 Lb5:=fnK (E:=E0) (tm:=Dbg) Tryz.func75 (by kernel_rfl)
theorem Ob8:∀ key s,(key,s)∈sigs → Waw Tryz.prog T (gT tiL) sigs key s:=Waa (fc o0 <| fc o1 <| fc o2 <| fc o3 <| fc o4 <| fc o5 <| fc o6 <| fc o7 <| fc o8 <| fc o9 <| fc o10 <| fc o11 <| fc o12 <| fc o13 <| fc o14 <| fc o15 <| fc o16 <| fc o17 <| fc o18 <| fc o19 <| fc o20 <| fc o21 <| fc o22 <| fc o23 <| fc o24 <| fc o25 <| fc o26 <| fc o27 <| fc o28 <| fc o29 <| fc o30 <| fc o31 <| fc o32 <| fc o33 <| fc o34 <| fc o35 <| fc o36 <| fc o37 <| fc o38 <| fc o39 <| fc o40 <| fc o41 <| fc o42 <| fc o43 <| fc o44 <| fc o45 <| fc o46 <| fc o47 <| fc o48 <| fc o49 <| fc o50 <| fc o51 <| fc o52 <| fc o53 <| fc o54 <| fc o55 <| fc o56 <| fc o57 <| fc o58 <| fc o59 <| fc o60 <| fc o61 <| fc o62 <| fc o63 <| fc o64 <| fc o65 <| fc o66 <| fc o67 <| fc o68 <| fc o69 <| fc o70 <| fc o71 <| fc o72 <| fc o73 <| fc o74 <| fc o75 <| fc o76 <| fc o77 <| fc o78 <| fc o79 <| fc o80 <| fc o81 <| fc o82 <| fc o83 <| fc o84 <| fc o85 <| fc o86 <| fc o87 <| fc o88 <| fc o89 <| fc o90 <| fc o91 <| fc o92 <| fc o93 <| fc o94 <| fc o95 <| fc o96 <| fc o97 <| fc o98 <| fc o99 <| fc Zbt <| fc Zbs <| fc Zbr <| fc Zbq <| fc Zbp <| fc Zbo <| fc Zbn <| fc Zbm <| fc Zbl <| fc Zbk <| fc Zbj <| fc o111 <| fc Zbi <| fc Zbh <| fc Zbg <| fc Zbf <| fc Zbe <| fc Zbd <| fc Zbc <| fc Zbb <| fc Zba <| fc Yb9 <| fc Yb8 <| fc Yb7 <| fc Yb6 <| fc Yb5 <| fc Yb4 <| fc Yb3 <| fc Yb2 <| fc Yb1 <| fc Yb0 <| fc Ybz <| fc Yby <| fc Ybx <| fc Ybw <| fc Ybv <| fc Ybu <| fc Ybt <| fc Ybs <| fc Ybr <| fc Ybq <| fc Ybp <| fc Ybo <| fc Ybn <| fc Ybm <| fc Ybl <| fc Ybk <| fc Ybj <| fc Ybi <| fc Ybh <| fc Ybg <| fc Ybf <| fc Ybe <| fc Ybd <| fc Ybc <| fc Ybb <| fc Yba <| fc Xb9 <| fc Xb8 <| fc Xb7 <| fc Xb6 <| fc Xb5 <| fc Xb4 <| fc Xb3 <| fc Xb2 <| fc Xb1 <| fc Xb0 <| fc Xbz <| fc Xby <| fc Xbx <| fc Xbw <| fc Xbv <| fc Xbu <| fc Xbt <| fc Xbs <| fc Xbr <| fc Xbq <| fc Xbp <| fc Xbo <| fc Xbn <| fc Xbm <| fc Xbl <| fc Xbk <| fc Xbj <| fc Xbi <| fc Xbh <| fc Xbg <| fc Xbf <| fc Xbe <| fc Xbd <| fc0)
theorem contract:∀ n,vG Tryz.prog T n 0 sg0:=fun n=>contracts Ibj (by kernel_rfl) Ob8 n 0 sg0 (by simp[sigs])
end FnExactSafeIn
end Go.Proofs.YtcbkmmhkccnamaaGreat
