/- Contracts of Go functions, one theorem each: the call returns just what the plain function says. Printed by a program of this claim. -/
import Derived.Test.YtahofpgjianhdaaGreatDoorGw15
import Derived.Test.YtahofpgjianhdaaGreatDoorV2p
import Derived.Test.YtahofpgjianhdaaGreatDoorProg
set_option linter.unusedVariables false
namespace Go.Proofs.YtahofpgjianhdaaGreatDoor
open Go Gv Gw Pu
set_option maxHeartbeats 4000000
def K_api_Params:Kd T_api_Params:=Kd.co (Kd.pair Kd.u64 (Kd.pair Kd.i64 Kd.i64)) (fun x=>(x.P,x.N,x.T))
def K_api_Deviation:Kd T_api_Deviation:=Kd.co (Kd.pair Kd.i64 (Kd.pair Kd.i64 (Kd.pair Kd.i64 (Kd.pair Kd.i64 (Kd.pair Kd.i64 (Kd.pair Kd.u64 (Kd.pair Kd.i64 Kd.i64))))))) (fun x=>(x.Round,x.From,x.To,x.At,x.Kind,x.K,x.Of,x.SrcIndex))
def K_api_Scenario:Kd T_api_Scenario:=Kd.co (Kd.pair K_api_Params (Kd.pair (Kd.sl Kd.i64) (Kd.pair (Kd.sl K_api_Deviation) (Kd.sl (Kd.sl Kd.u64))))) (fun x=>(x.S,x.Corrupt,x.Deviations,x.Tapes))
def K_privitylaw19_Play:Kd T_privitylaw19_Play:=Kd.co (Kd.pair K_api_Scenario (Kd.sl (Kd.sl (Kd.sl Kd.u64)))) (fun x=>(x.W,x.Q))
def K_api_Event:Kd T_api_Event:=Kd.co (Kd.pair Kd.i64 (Kd.pair Kd.i64 (Kd.sl Kd.u64))) (fun x=>(x.Round,x.From,x.Words))
def K_tape_Tape:Kd T_tape_Tape:=Kd.co (Kd.pair (Kd.sl Kd.u64) Kd.i64) (fun x=>(x.zwords,x.zat))
def K_arr2_3:Kd T_arr2_3:=Kd.co (Kd.pair Kd.i64 Kd.i64) (fun x=>(x.e0,x.e1))
def K_api_Point:Kd T_api_Point:=Kd.co (Kd.pair Kd.u64 Kd.u64) (fun x=>(x.X,x.Y))
def K_privitylaw19_Moved:Kd T_privitylaw19_Moved:=Kd.co (Kd.pair K_privitylaw19_Play (Kd.pair Kd.u8 Kd.u64)) (fun x=>(x.X,x.Dealer,x.D))
abbrev KD:=K_api_Deviation
abbrev KE:=K_api_Event
abbrev rD:=rdV K_api_Deviation
abbrev pP (x:T_api_Params) (l:List Value):List Value:=uN x.P :: iV x.N :: iV x.T :: l
abbrev aP (x:T_api_Params):Value:=.agg #[uN x.P,iV x.N,iV x.T]
def Tb:Tab:=⟨[(24,[0,1,2]),(29,[0,3,4,5]),(32,[0,6]),(45,[0,1]),(48,[0,1,2]),(68,[0,1,2]),(75,[0,1]),(79,[0,7,8]),(98,[0,6,7,8]),(110,[0,1,2,5,6,7]),(119,[0,1,4,5]),(152,[0,1,2,3,4,5,6,7]),(160,[0,1]),(170,[0]),(202,[0,1])],[(3,.i64),(5,.u8),(22,.u64),(206,.u64)],[]⟩
theorem Tb_ok:Tb.ok Tryz.prog=true:=by kernel_rfl
theorem Pp (k:Nat) {n:Nat} {Q:Post} {E:Env} {H:List Asrt} {ops:Reg} {i:Nat} (g:WI Tryz.prog n ops (i+k) Q (runE Tb n ops i k E) H) (h:(runP Tb n ops k (ops.l.drop i) E).isSome=true:=by kernel_rfl):WI Tryz.prog n ops i Q E H:=w_p Tb_ok k h g
theorem tryz_mix:Tryz.prog.follows .mixedOrders=true:=by kernel_rfl
theorem ti_29:tinf Tryz.prog 29=some (true,6,96,.agg #[uN 0,iV 0,iV 0,.slice none 0 0,.slice none 0 0,.slice none 0 0]):=by kernel_rfl
theorem ts_60:tsl Tryz.prog 60=some 22:=by kernel_rfl
theorem ti_22:tinf Tryz.prog 22=some (false,1,8,uN 0):=by kernel_rfl
theorem ts_27:tsl Tryz.prog 27=some 60:=by kernel_rfl
theorem ti_60:tinf Tryz.prog 60=some (false,1,24,.slice none 0 0):=by kernel_rfl
theorem ts_30:tsl Tryz.prog 30=some 27:=by kernel_rfl
theorem ti_27:tinf Tryz.prog 27=some (false,1,24,.slice none 0 0):=by kernel_rfl
theorem fok_42:fnOK Tryz.prog 42=true:=by kernel_rfl
theorem ti_24:tinf Tryz.prog 24=some (true,3,24,.agg #[uN 0,iV 0,iV 0]):=by kernel_rfl
theorem ti_25:tinf Tryz.prog 25=some (false,1,24,.slice none 0 0):=by kernel_rfl
theorem ti_226:tinf Tryz.prog 226=some (true,7,56,.agg #[iV 0,iV 0,iV 0,iV 0,iV 0,iV 0,iV 0]):=by kernel_rfl
theorem ti_3:tinf Tryz.prog 3=some (false,1,8,iV 0):=by kernel_rfl
theorem fok_188:fnOK Tryz.prog 188=true:=by kernel_rfl
theorem fok_178:fnOK Tryz.prog 178=true:=by kernel_rfl
theorem fok_157:fnOK Tryz.prog 157=true:=by kernel_rfl
theorem ts_25:tsl Tryz.prog 25=some 3:=by kernel_rfl
theorem fok_95:fnOK Tryz.prog 95=true:=by kernel_rfl
theorem ti_26:tinf Tryz.prog 26=some (false,1,24,.slice none 0 0):=by kernel_rfl
theorem ts_26:tsl Tryz.prog 26=some 152:=by kernel_rfl
theorem ti_152:tinf Tryz.prog 152=some (true,8,64,.agg #[iV 0,iV 0,iV 0,iV 0,iV 0,uN 0,iV 0,iV 0]):=by kernel_rfl
theorem fok_98:fnOK Tryz.prog 98=true:=by kernel_rfl
theorem fok_97:fnOK Tryz.prog 97=true:=by kernel_rfl
theorem fok_158:fnOK Tryz.prog 158=true:=by kernel_rfl
theorem fok_96:fnOK Tryz.prog 96=true:=by kernel_rfl
theorem fok_102:fnOK Tryz.prog 102=true:=by kernel_rfl
theorem fok_160:fnOK Tryz.prog 160=true:=by kernel_rfl
theorem fok_101:fnOK Tryz.prog 101=true:=by kernel_rfl
theorem fok_100:fnOK Tryz.prog 100=true:=by kernel_rfl
theorem fok_159:fnOK Tryz.prog 159=true:=by kernel_rfl
theorem fok_99:fnOK Tryz.prog 99=true:=by kernel_rfl
theorem fok_48:fnOK Tryz.prog 48=true:=by kernel_rfl
theorem ts_95:tsl Tryz.prog 95=some 65:=by kernel_rfl
theorem ti_65:tinf Tryz.prog 65=some (false,1,24,.slice none 0 0):=by kernel_rfl
theorem ti_96:tinf Tryz.prog 96=some (false,1,24,.slice none 0 0):=by kernel_rfl
theorem fok_49:fnOK Tryz.prog 49=true:=by kernel_rfl
theorem ts_96:tsl Tryz.prog 96=some 99:=by kernel_rfl
theorem ti_99:tinf Tryz.prog 99=some (false,1,8,.pointer none):=by kernel_rfl
theorem fok_13:fnOK Tryz.prog 13=true:=by kernel_rfl
theorem ti_45:tinf Tryz.prog 45=some (true,2,48,.agg #[.slice none 0 0,.slice none 0 0]):=by kernel_rfl
theorem ti_48:tinf Tryz.prog 48=some (true,3,72,.agg #[.slice none 0 0,.slice none 0 0,.slice none 0 0]):=by kernel_rfl
theorem fok_52:fnOK Tryz.prog 52=true:=by kernel_rfl
theorem ts_42:tsl Tryz.prog 42=some 30:=by kernel_rfl
theorem ti_30:tinf Tryz.prog 30=some (false,1,24,.slice none 0 0):=by kernel_rfl
theorem ti_117:tinf Tryz.prog 117=some (false,1,8,.pointer none):=by kernel_rfl
theorem ti_35:tinf Tryz.prog 35=some (false,1,8,.pointer none):=by kernel_rfl
theorem fok_120:fnOK Tryz.prog 120=true:=by kernel_rfl
theorem fok_164:fnOK Tryz.prog 164=true:=by kernel_rfl
theorem fok_121:fnOK Tryz.prog 121=true:=by kernel_rfl
theorem fok_122:fnOK Tryz.prog 122=true:=by kernel_rfl
theorem ti_42:tinf Tryz.prog 42=some (false,1,24,.slice none 0 0):=by kernel_rfl
theorem fok_119:fnOK Tryz.prog 119=true:=by kernel_rfl
theorem fok_118:fnOK Tryz.prog 118=true:=by kernel_rfl
theorem fok_62:fnOK Tryz.prog 62=true:=by kernel_rfl
theorem fok_174:fnOK Tryz.prog 174=true:=by kernel_rfl
theorem fok_187:fnOK Tryz.prog 187=true:=by kernel_rfl
theorem fok_176:fnOK Tryz.prog 176=true:=by kernel_rfl
theorem ext_177:extOK Tryz.prog 177 add64Entry:=⟨_,Tryz.func177,by kernel_rfl,by kernel_rfl,by kernel_rfl,by kernel_rfl⟩
theorem fok_156:fnOK Tryz.prog 156=true:=by kernel_rfl
theorem fok_145:fnOK Tryz.prog 145=true:=by kernel_rfl
theorem fok_92:fnOK Tryz.prog 92=true:=by kernel_rfl
theorem fok_116:fnOK Tryz.prog 116=true:=by kernel_rfl
theorem fok_123:fnOK Tryz.prog 123=true:=by kernel_rfl
theorem fok_117:fnOK Tryz.prog 117=true:=by kernel_rfl
theorem fok_203:fnOK Tryz.prog 203=true:=by kernel_rfl
theorem fok_190:fnOK Tryz.prog 190=true:=by kernel_rfl
theorem fok_180:fnOK Tryz.prog 180=true:=by kernel_rfl
theorem fok_191:fnOK Tryz.prog 191=true:=by kernel_rfl
theorem fok_170:fnOK Tryz.prog 170=true:=by kernel_rfl
theorem fok_192:fnOK Tryz.prog 192=true:=by kernel_rfl
theorem fok_181:fnOK Tryz.prog 181=true:=by kernel_rfl
theorem fok_165:fnOK Tryz.prog 165=true:=by kernel_rfl
theorem ti_95:tinf Tryz.prog 95=some (false,1,24,.slice none 0 0):=by kernel_rfl
theorem ts_65:tsl Tryz.prog 65=some 68:=by kernel_rfl
theorem ti_68:tinf Tryz.prog 68=some (true,3,40,.agg #[iV 0,iV 0,.slice none 0 0]):=by kernel_rfl
theorem fok_162:fnOK Tryz.prog 162=true:=by kernel_rfl
theorem fok_124:fnOK Tryz.prog 124=true:=by kernel_rfl
theorem fok_112:fnOK Tryz.prog 112=true:=by kernel_rfl
theorem fok_125:fnOK Tryz.prog 125=true:=by kernel_rfl
theorem fok_63:fnOK Tryz.prog 63=true:=by kernel_rfl
theorem fok_114:fnOK Tryz.prog 114=true:=by kernel_rfl
theorem fok_130:fnOK Tryz.prog 130=true:=by kernel_rfl
theorem fok_129:fnOK Tryz.prog 129=true:=by kernel_rfl
theorem fok_65:fnOK Tryz.prog 65=true:=by kernel_rfl
theorem fok_127:fnOK Tryz.prog 127=true:=by kernel_rfl
theorem fok_126:fnOK Tryz.prog 126=true:=by kernel_rfl
theorem fok_163:fnOK Tryz.prog 163=true:=by kernel_rfl
theorem fok_109:fnOK Tryz.prog 109=true:=by kernel_rfl
theorem fok_128:fnOK Tryz.prog 128=true:=by kernel_rfl
theorem fok_64:fnOK Tryz.prog 64=true:=by kernel_rfl
theorem fok_16:fnOK Tryz.prog 16=true:=by kernel_rfl
theorem ti_106:tinf Tryz.prog 106=some (false,1,8,.pointer none):=by kernel_rfl
theorem fok_59:fnOK Tryz.prog 59=true:=by kernel_rfl
theorem ts_164:tsl Tryz.prog 164=some 166:=by kernel_rfl
theorem ti_166:tinf Tryz.prog 166=some (true,2,16,.agg #[iV 0,iV 0]):=by kernel_rfl
theorem fok_106:fnOK Tryz.prog 106=true:=by kernel_rfl
theorem fok_108:fnOK Tryz.prog 108=true:=by kernel_rfl
theorem fok_107:fnOK Tryz.prog 107=true:=by kernel_rfl
theorem fok_111:fnOK Tryz.prog 111=true:=by kernel_rfl
theorem fok_110:fnOK Tryz.prog 110=true:=by kernel_rfl
theorem fok_53:fnOK Tryz.prog 53=true:=by kernel_rfl
theorem fok_113:fnOK Tryz.prog 113=true:=by kernel_rfl
theorem fok_115:fnOK Tryz.prog 115=true:=by kernel_rfl
theorem fok_56:fnOK Tryz.prog 56=true:=by kernel_rfl
theorem fok_55:fnOK Tryz.prog 55=true:=by kernel_rfl
theorem ts_108:tsl Tryz.prog 108=some 43:=by kernel_rfl
theorem ti_43:tinf Tryz.prog 43=some (false,1,24,.slice none 0 0):=by kernel_rfl
theorem ts_43:tsl Tryz.prog 43=some 4:=by kernel_rfl
theorem ti_4:tinf Tryz.prog 4=some (false,1,1,.bool false):=by kernel_rfl
theorem fok_54:fnOK Tryz.prog 54=true:=by kernel_rfl
theorem ti_108:tinf Tryz.prog 108=some (false,1,24,.slice none 0 0):=by kernel_rfl
theorem fok_57:fnOK Tryz.prog 57=true:=by kernel_rfl
theorem fok_58:fnOK Tryz.prog 58=true:=by kernel_rfl
theorem fok_60:fnOK Tryz.prog 60=true:=by kernel_rfl
theorem fok_61:fnOK Tryz.prog 61=true:=by kernel_rfl
theorem fok_15:fnOK Tryz.prog 15=true:=by kernel_rfl
theorem fok_43:fnOK Tryz.prog 43=true:=by kernel_rfl
theorem fok_47:fnOK Tryz.prog 47=true:=by kernel_rfl
theorem fok_44:fnOK Tryz.prog 44=true:=by kernel_rfl
theorem ts_70:tsl Tryz.prog 70=some 60:=by kernel_rfl
theorem fok_32:fnOK Tryz.prog 32=true:=by kernel_rfl
theorem fok_24:fnOK Tryz.prog 24=true:=by kernel_rfl
theorem fok_94:fnOK Tryz.prog 94=true:=by kernel_rfl
theorem fok_45:fnOK Tryz.prog 45=true:=by kernel_rfl
theorem fok_20:fnOK Tryz.prog 20=true:=by kernel_rfl
theorem fok_11:fnOK Tryz.prog 11=true:=by kernel_rfl
theorem fok_189:fnOK Tryz.prog 189=true:=by kernel_rfl
theorem fok_179:fnOK Tryz.prog 179=true:=by kernel_rfl
theorem fok_161:fnOK Tryz.prog 161=true:=by kernel_rfl
theorem fok_103:fnOK Tryz.prog 103=true:=by kernel_rfl
theorem fok_104:fnOK Tryz.prog 104=true:=by kernel_rfl
theorem fok_105:fnOK Tryz.prog 105=true:=by kernel_rfl
theorem fok_93:fnOK Tryz.prog 93=true:=by kernel_rfl
theorem fok_50:fnOK Tryz.prog 50=true:=by kernel_rfl
theorem fok_46:fnOK Tryz.prog 46=true:=by kernel_rfl
theorem fok_36:fnOK Tryz.prog 36=true:=by kernel_rfl
theorem fok_12:fnOK Tryz.prog 12=true:=by kernel_rfl
theorem ti_32:tinf Tryz.prog 32=some (true,7,120,.agg #[uN 0,iV 0,iV 0,.slice none 0 0,.slice none 0 0,.slice none 0 0,.slice none 0 0]):=by kernel_rfl
theorem fok_77:fnOK Tryz.prog 77=true:=by kernel_rfl
theorem fok_21:fnOK Tryz.prog 21=true:=by kernel_rfl
theorem fok_78:fnOK Tryz.prog 78=true:=by kernel_rfl
theorem fok_22:fnOK Tryz.prog 22=true:=by kernel_rfl
theorem fok_38:fnOK Tryz.prog 38=true:=by kernel_rfl
theorem fok_37:fnOK Tryz.prog 37=true:=by kernel_rfl
theorem fok_29:fnOK Tryz.prog 29=true:=by kernel_rfl
theorem fok_82:fnOK Tryz.prog 82=true:=by kernel_rfl
theorem ts_73:tsl Tryz.prog 73=some 75:=by kernel_rfl
theorem ti_75:tinf Tryz.prog 75=some (true,2,16,.agg #[uN 0,uN 0]):=by kernel_rfl
theorem tm_186:tmap Tryz.prog 186=some (22,.u64,4):=by kernel_rfl
theorem fok_83:fnOK Tryz.prog 83=true:=by kernel_rfl
theorem fok_185:fnOK Tryz.prog 185=true:=by kernel_rfl
theorem fok_209:fnOK Tryz.prog 209=true:=by kernel_rfl
theorem fok_199:fnOK Tryz.prog 199=true:=by kernel_rfl
theorem fok_193:fnOK Tryz.prog 193=true:=by kernel_rfl
theorem fok_184:fnOK Tryz.prog 184=true:=by kernel_rfl
theorem fok_171:fnOK Tryz.prog 171=true:=by kernel_rfl
theorem fok_172:fnOK Tryz.prog 172=true:=by kernel_rfl
theorem fok_140:fnOK Tryz.prog 140=true:=by kernel_rfl
theorem fok_144:fnOK Tryz.prog 144=true:=by kernel_rfl
theorem fok_173:fnOK Tryz.prog 173=true:=by kernel_rfl
theorem fok_85:fnOK Tryz.prog 85=true:=by kernel_rfl
theorem fok_150:fnOK Tryz.prog 150=true:=by kernel_rfl
theorem fok_143:fnOK Tryz.prog 143=true:=by kernel_rfl
theorem fok_146:fnOK Tryz.prog 146=true:=by kernel_rfl
theorem fok_142:fnOK Tryz.prog 142=true:=by kernel_rfl
theorem fok_141:fnOK Tryz.prog 141=true:=by kernel_rfl
theorem fok_186:fnOK Tryz.prog 186=true:=by kernel_rfl
theorem fok_175:fnOK Tryz.prog 175=true:=by kernel_rfl
theorem fok_149:fnOK Tryz.prog 149=true:=by kernel_rfl
theorem fok_148:fnOK Tryz.prog 148=true:=by kernel_rfl
theorem fok_147:fnOK Tryz.prog 147=true:=by kernel_rfl
theorem fok_84:fnOK Tryz.prog 84=true:=by kernel_rfl
theorem fok_86:fnOK Tryz.prog 86=true:=by kernel_rfl
theorem fok_34:fnOK Tryz.prog 34=true:=by kernel_rfl
theorem ti_5:tinf Tryz.prog 5=some (false,1,1,.int .u8 0):=by kernel_rfl
theorem fok_87:fnOK Tryz.prog 87=true:=by kernel_rfl
theorem fok_151:fnOK Tryz.prog 151=true:=by kernel_rfl
theorem fok_88:fnOK Tryz.prog 88=true:=by kernel_rfl
theorem fok_90:fnOK Tryz.prog 90=true:=by kernel_rfl
theorem fok_89:fnOK Tryz.prog 89=true:=by kernel_rfl
theorem fok_35:fnOK Tryz.prog 35=true:=by kernel_rfl
theorem fok_139:fnOK Tryz.prog 139=true:=by kernel_rfl
theorem fok_81:fnOK Tryz.prog 81=true:=by kernel_rfl
theorem fok_28:fnOK Tryz.prog 28=true:=by kernel_rfl
abbrev I0 a b:=treeV (boxK K_tape_Tape 160) 99 (th a) (tg a) b
abbrev I1 a b c d e f g h:=blkP (bx a) 98 (pP b [c,d,e,iV f,(th g),(th h)])
abbrev I2 a b:=treeV (rowK KE 68) 65 (th a) (tg a) b
abbrev I3 a b:=treeV (rowK (Kd.sl Ks) 27) 30 (th a) (tg a) b
abbrev I4 a b c d e f g h i:=blkP (bx a) 119 [(bx b),uN c,iV d,iV e,f,(th g),(th h),(th i)]
abbrev I5 a b:=rdV (Kd.sl (Kd.sl Ks)) a b
abbrev I6 a b:=treeV (rowK Ks 60) 27 (th a) (tg a) b
abbrev I7 a b c d e f g h i:=blkP (bx a) 110 [(bx b),uN c,d,e,f,g,h,i]
abbrev I8 a b:=rdV (Kd.sl Kd.bool) a b
abbrev I9 a b:=rdV (Kd.sl Ks) a b
abbrev I10 a b:=ownV (Kd.sl (Kd.sl Ks)) 30 a b
abbrev I11 a b:=blkP (bx a) 117 [(bx b)]
abbrev I12 a b:=ownV (Kd.sl Ks) 27 a b
abbrev I13 a b c d e:=blkP (bx a) 29 (pP b [c,d,e])
abbrev I14 a b:=ownV Ku 22 a b
abbrev I15 a b c d e f g h i:=blkP (bx a) 152 [iV b,iV c,iV d,iV e,iV f,uN g,iV h,iV i]
abbrev I16 a:=blkP (bx a) 45 [(.slice none 0 0),(.slice none 0 0)]
abbrev I17 a b c d e f:=blkP (bx a) 32 (pP b [c,d,e,f])
abbrev I18 a b c d e f g h:=blkP (bx a) 79 (pP b [c,d,e,f,.int .u8 g,uN h])
abbrev I19 a b:=ownV Ks 60 a b
abbrev I20 a b:=hdP (th a) b
abbrev I21 a b:=blkP (bx a) 24 (pP b [])
abbrev I22 a b:=blkP (bx a) 106 [(bx b)]
abbrev I23 a b:=treeV (rowK Ku 22) 60 (th a) (tg a) b
abbrev I24 a b:=blkP (bx a) 30 [b]
abbrev I25 a b c:=blkP (bx a) 45 [b,c]
abbrev I26 a b c:=treeV (rowK (Kd.sl Ks) 27) 30 (th (tw a (List.replicate b (.slice none 0 0)))) (tg (tw a (List.replicate b (.slice none 0 0)))) c
abbrev I27 a b c:=treeV (rowK Ks 60) 27 (th (tw a (List.replicate b (.slice none 0 0)))) (tg (tw a (List.replicate b (.slice none 0 0)))) c
abbrev I28 a:=blkP a 45 [(.slice none 0 0),(.slice none 0 0)]
abbrev I29 a b:=blkP (bx a) 30 [(th b)]
abbrev I30 a b:=blkP (bx a) 22 [uN b]
abbrev I31 a:=blkP (bx a) 48 [(.slice none 0 0),(.slice none 0 0),(.slice none 0 0)]
abbrev I32 a b:=ownV Ks 60 a ([b]:List (List Nat))
abbrev I33 a:=blkP a 32 [uN 0,iN 0,iN 0,(.slice none 0 0),(.slice none 0 0),(.slice none 0 0),(.slice none 0 0)]
abbrev I34 a b:=ownV (Kd.sl Ks) 27 a ([b]:List (List (List Nat)))
abbrev I36 a b c:=treeV (rowK (Kd.sl Ks) 27) 30 a (List.replicate b (.slice none 0 0)) c
abbrev I37 a:=rI a ([((1:Nat):Int),((0:Nat):Int),((0:Nat):Int),((0:Nat):Int)]:List Int)
abbrev I38 a:=blkP a 29 [uN 0,iN 0,iN 0,(.slice none 0 0),(.slice none 0 0),(.slice none 0 0)]
abbrev I39 a b c:=treeV (rowK KE 68) 65 a (List.replicate b (.slice none 0 0)) c
abbrev I40 a b c d e f:=blkP a 110 [(bx b),uN c,d,e,f,(.slice none 0 0),(.slice none 0 0),(.slice none 0 0)]
abbrev I41 a b:=treeV (rowK Kd.bool 4) 43 (th a) (tg a) b
abbrev I42 a b c d:=treeV (rowK Ks 60) 27 (th a) ((tg a).set b c) d
abbrev I43 a b:=rdV Kd.bool a b
abbrev I44 a b:=blkP (bx a) 27 [b]
abbrev I45 a b c:=blkP (bx a) 202 [uN b,c]
abbrev I46 a b c d e f g:=blkP (bx a) 110 [(bx b),uN c,d,e,f,g,(.slice none 0 0),(.slice none 0 0)]
abbrev I47 a b c d e f:=blkP (bx a) 110 [(bx b),uN c,d,e,f,(.slice none 0 0),(.slice none 0 0),(.slice none 0 0)]
abbrev I48 a b c:=blkP (bx a) 75 [uN b,uN c]
abbrev I49 a b:=ownV Kd.bool 4 a ([b != (0:Int)]:List Bool)
abbrev I50 a b:=blkP (bx a) 45 [(.slice none 0 0),b]
abbrev I51 a b:=ownV Ki 3 a b
abbrev I52 a b:=ownV Kd.bool 4 a b
abbrev I54 a b:=blkP (bx a) 170 [b]
abbrev I56 a b:=ownV K_arr2_3 166 a b
abbrev I57 a b:=blkP (bx a) 3 [iV b]
abbrev I58 a b c:=blkP (bx a) 160 [b,iV c]
abbrev I59 a b c d e f g h i:=blkP a 152 [iV b,iV c,iV d,iV e,iV f,uN g,iV h,iV i]
abbrev I60 a b c d:=treeV (rowK (Kd.sl Ks) 27) 30 (th a) ((tg a).set b c) d
abbrev I61 a b c:=ownV K_api_Point 75 a ([(⟨b,c⟩:T_api_Point)]:List T_api_Point)
abbrev I62 a b c d:=treeV (rowK Kd.bool 4) 43 (th a) ((tg a).set b c) d
abbrev I63 a b c:=treeV (rowK Ks 60) 27 a (List.replicate b (.slice none 0 0)) c
abbrev I64 a b:=ownV (Kd.sl Kd.bool) 43 a b
abbrev I65 a b:=blkP (bx a) 60 [b]
abbrev I66 a b c d:=ownV KE 68 a ([(⟨b,c,d⟩:T_api_Event)]:List T_api_Event)
abbrev I67 a b c:=blkP (bx a) 166 [iV b,iV c]
abbrev I68 a:=blkP a 30 [(.slice none 0 0)]
abbrev I69 a b c d:=treeV (boxK K_tape_Tape 160) 99 a ((tg b)++([c])) d
abbrev I70 a b:=blkP a 24 (pP b [])
abbrev I71 a b:=rdV K_api_Point a b
abbrev I72 a b c d e:=blkP a 29 (pP b [c,d,e])
abbrev I73 a:=blkP a 27 [(.slice none 0 0)]
theorem c_privitylaw19_plain  {r:T_api_Scenario × (List (List (List Nat)))} (h:privitylaw19_plain=some r):Ct Tryz.prog 42 [] [] (fun v L=>∃ w0_1 w0_2 w0_3 w1:Value,v=.tuple #[.agg #[uN r.1.S.P,iV r.1.S.N,iV r.1.S.T,w0_1,w0_2,w0_3],w1]∧L=[rI w0_1 r.1.Corrupt,rD w0_2 r.1.Deviations,I19 w0_3 r.1.Tapes,I12 w1 r.2]):=by
 refine ct_intro Tryz.func42 rfl kr (fun F=>?_);unfold privitylaw19_plain at h;refine Sg ?_;refine w_al kr ti_29 (fun q1=>?_);refine WI.hd (y:=I38 q1) kr ?_;refine w_opP 0 rfl (fun b1 hb=>?_);subst hb;refine Pp 1 (Eg ?_)
 refine w_bd (v:=.agg #[uN 31,iN 4,iN 1]) (t:=24) (ps0:=[(0,uN 31),(1,iN 4),(2,iN 1)]) (ps:=[(0,uN 31),(1,iN 4),(2,iN 1)]) (scI (scI (scI sc0))) kr (fun w=>by kernel_rfl) ?_
 refine w_lt (kd:=Ku) (t:=60) (len:=1) (ps0:=[(0,uN 7)]) (ps:=[(0,uN 7)]) ([7]:List Nat) _ (rowC (x:=7) (g:=()) (it0 rfl) row0) (scI sc0) kr ts_60 ti_22 kr rfl rfl (fun v1=>?_);refine WI.ent (frzAt 0 rfl) ?_;refine WI.ent (rdNil (kd:=Ku)) ?_;refine WI.ent (rdNil (kd:=Ku)) ?_;refine WI.ent (rdNil (kd:=Ku)) ?_
 refine w_lt (kd:=Ks) (t:=27) (len:=4) (ps0:=[(0,v1),(1,(.slice none 0 0)),(2,(.slice none 0 0)),(3,(.slice none 0 0))]) (ps:=[(0,.agg #[v1]),(1,.agg #[(.slice none 0 0)]),(2,.agg #[(.slice none 0 0)]),(3,.agg #[(.slice none 0 0)])]) ([([7]:List Nat),([]:List Nat),([]:List Nat),([]:List Nat)]:List (List Nat)) _ (rowC (x:=([7]:List Nat)) (g:=v1) (itS 3 rfl) (rowC (x:=([]:List Nat)) (g:=(Value.slice none 0 0)) (itS 2 rfl) (rowC (x:=([]:List Nat)) (g:=(Value.slice none 0 0)) (itS 1 rfl) (rowC (x:=([]:List Nat)) (g:=(Value.slice none 0 0)) (itS 0 rfl) row0)))) (scS (rd_hd 3 rfl) (scS (rd_hd 2 rfl) (scS (rd_hd 1 rfl) (scS (rd_hd 0 rfl) sc0)))) kr ts_27 ti_60 kr rfl rfl (fun v2=>?_)
 refine w_bd (v:=.agg #[uN 31,iN 4,iN 1,(.slice none 0 0),(.slice none 0 0),v2]) (t:=29) (ps0:=[(0,.agg #[uN 31,iN 4,iN 1]),(3,v2)]) (ps:=[(0,.agg #[uN 31,iN 4,iN 1]),(3,.agg #[v2])]) (scI (scS (own_hd 0 rfl) sc0)) kr (fun w=>by kernel_rfl) ?_
 refine w_al kr ti_29 (fun q2=>?_);refine WI.hd (y:=I38 q2) kr ?_;refine w_opP 0 rfl (fun b2 hb=>?_);subst hb
 refine w_stB (v:=.agg #[uN 31,iN 4,iN 1,(.slice none 0 0),(.slice none 0 0),v2]) (off:=0) (cs:=[uN 31,iN 4,iN 1,(.slice none 0 0),(.slice none 0 0),v2]) 0 rfl (cv0 kr) kr ti_29 rfl rfl (oC (fun _ _=>rfl) (oC (fun _ _=>rfl) (oC (fun _ _=>rfl) (oC (fun _ _=>rfl) (oC (fun _ _=>rfl) (oC (sl_one (own_hd 1 rfl)) oN)))))) ?_
 refine WI.hd (y:=blkP (bx b2) 29 [uN 31,iN 4,iN 1,(.slice none 0 0),(.slice none 0 0),v2]) kr ?_;refine Eg (w_ldB 0 0 rfl kr ti_29 rfl rfl ?_)
 refine w_lt (kd:=Ku) (t:=60) (len:=2) (ps0:=[(0,uN 5),(1,uN 3)]) (ps:=[(0,uN 5),(1,uN 3)]) ([5,3]:List Nat) _ (rowC (x:=5) (g:=()) (it0 rfl) (rowC (x:=3) (g:=()) (it0 rfl) row0)) (scI (scI sc0)) kr ts_60 ti_22 kr rfl rfl (fun v3=>?_);refine WI.ent (frzAt 0 rfl) ?_
 refine w_lt (kd:=Ks) (t:=27) (len:=1) (ps0:=[(0,v3)]) (ps:=[(0,.agg #[v3])]) ([([5,3]:List Nat)]:List (List Nat)) _ (rowC (x:=([5,3]:List Nat)) (g:=v3) (itS 0 rfl) row0) (scS (rd_hd 0 rfl) sc0) kr ts_27 ti_60 kr rfl rfl (fun v4=>?_);refine WI.ent (frzAt 0 rfl) ?_;refine WI.ent (rdNil (kd:=Ks)) ?_;refine WI.ent (rdNil (kd:=Ks)) ?_
 refine WI.ent (rdNil (kd:=Ks)) ?_
 refine w_lt (kd:=(Kd.sl Ks)) (t:=30) (len:=4) (ps0:=[(0,v4),(1,(.slice none 0 0)),(2,(.slice none 0 0)),(3,(.slice none 0 0))]) (ps:=[(0,.agg #[v4]),(1,.agg #[(.slice none 0 0)]),(2,.agg #[(.slice none 0 0)]),(3,.agg #[(.slice none 0 0)])]) ([([([5,3]:List Nat)]:List (List Nat)),([]:List (List Nat)),([]:List (List Nat)),([]:List (List Nat))]:List (List (List Nat))) _ (rowC (x:=([([5,3]:List Nat)]:List (List Nat))) (g:=v4) (itS 3 rfl) (rowC (x:=([]:List (List Nat))) (g:=(Value.slice none 0 0)) (itS 2 rfl) (rowC (x:=([]:List (List Nat))) (g:=(Value.slice none 0 0)) (itS 1 rfl) (rowC (x:=([]:List (List Nat))) (g:=(Value.slice none 0 0)) (itS 0 rfl) row0)))) (scS (rd_hd 3 rfl) (scS (rd_hd 2 rfl) (scS (rd_hd 1 rfl) (scS (rd_hd 0 rfl) sc0)))) kr ts_30 ti_27 kr rfl rfl (fun v5=>?_)
 refine w_stB (v:=.agg #[uN 31,iN 4,iN 1,(.slice none 0 0),(.slice none 0 0),v2]) (off:=0) (cs:=[uN 31,iN 4,iN 1,(.slice none 0 0),(.slice none 0 0),v2]) 12 rfl (cv0 kr) kr ti_29 rfl rfl (oC (fun _ _=>rfl) (oC (fun _ _=>rfl) (oC (fun _ _=>rfl) (oC (fun _ _=>rfl) (oC (fun _ _=>rfl) (oC (sl_one (own_hd 7 rfl)) oN)))))) ?_
 refine WI.hd (y:=blkP (bx b1) 29 [uN 31,iN 4,iN 1,(.slice none 0 0),(.slice none 0 0),v2]) kr ?_;refine Pp 1 (Er ?_);refine QH.ent (rdNil (kd:=Ki)) ?_;refine QH.ent (rdNil (kd:=KD)) ?_;have h:=Option.some.inj h;subst h
 exact q_endc (l:=[.agg #[uN 31,iN 4,iN 1,(.slice none 0 0),(.slice none 0 0),v2],v5]) [.blk 2 29 29,.slot] [(1,Y),(0,Y),(10,Z),(3,Z)] 13 ⟨(.slice none 0 0),(.slice none 0 0),v2,v5,rfl,rfl⟩ (.inl rfl) ⟨cellR (p:=(bx b1)) 2 rfl kr ti_29 rfl kr,by kernel_rfl,rfl⟩ kr kr
theorem c_field_Exponent {a:Nat} {r:Int} (h:field_Exponent a=some r):Ct Tryz.prog 188 [uN a] [exF] (fun v L=>v=iV r∧L=[]):=by
 refine ct_intro Tryz.func188 rfl kr (fun F=>?_);unfold field_Exponent at h;refine Sg (Pp 1 (Es (Sg ?_)));refine w_ldF 0 0 rfl kr ti_226 rfl rfl ?_;refine Pp 1 (En ?_);obtain ⟨u1,eu1,h1⟩:=bnd h;have hN1:=ckN_some eu1;obtain ⟨r1,elp1,h2⟩:=bnd h1;refine h_join (X:=Unit × Unit) (fun g=>[]) (fun g=>[exF]++F) (fun g=>r1=.go g.2) ?_ ?_
 ·refine Wb ?_
  refine h_rg (fun (k1:Nat) (st:Unit) (g:Unit)=>[(0,uN a),(5,.agg #[iN 5,iN 7,iN 13,iN 17,iN 19,iN 31,iN 61]),(6,iN k1)]) (fun (k1:Nat) (st:Unit) (g:Unit)=>[exF]++F) () elp1 (Nat.zero_le _) aK (tH [(0,Y)] 1) ?_ ?_
  ·rintro ⟨⟩ ⟨⟩ hr1 j;refine Sg (Pp 1 (Es ?_));refine h_cf (b:=false) rfl kr ?_;refine We (Te (q_rzX (Be ?_)));exact q_join ((),()) hr1 aK (tH [(0,Y)] 1)
  rintro rem k1 ⟨⟩ ⟨⟩ o1 hk1 h3 hn1 j;have h3:field_Exponent_L0 a k1=some o1:=h3;unfold field_Exponent_L0 at h3;refine Sg (Pp 1 (Es (Xt (rgT (k:=k1) (N:=7) hk1) (Ws (Tn (Sq (Wb (Sg ?_))))))));obtain ⟨x1,ex1,h4⟩:=bnd h3;refine w_ixA (xs:=([5,7,13,17,19,31,61]:List Int)) (e:=3) (t:=226) (k:=.i64) (m:=k1) ex1 kr kr ti_3 ?_;refine Pp 1 (Eg (Pp 2 ?_))
  obtain ⟨x2,ex2,h5⟩:=bnd h4;refine w_sh (yk:=.i64) (.inl rfl) (zshl ex2) kr ?_;obtain ⟨x3,ex3,h6⟩:=bnd h5;refine w_bi (esubU ex3) kr (Pp 1 (En ?_));rcases bcase h6 with ⟨t1,h7⟩ | ⟨t1,h7⟩
  ·refine Xt t1 (Sg (Pp 2 (Er (Br (Tr (q_rgR (Br (q_joinR (Tr ?_)))))))));have h7:=Sj h7;subst h7;have hn:=(show _=_ from hn1);subst hn;have h2:=Sj (show some _=some _ from h2);subst h2;exact Ql [iV x1] [] 1
  refine Xs t1 (Bn (Tn (Rg (w_bi (zinc hk1 hN1) kr (Pp 1 (Ei ?_))))));have h7:=Sj h7;subst h7;exact q_rgo () hn1 aK (tH [(0,Y)] 1)
 rintro ⟨⟨⟩,⟨⟩⟩ hc j;subst hc;refine Tn (Sg (Pp 1 (Er ?_)));have h2:=Sj h2;subst h2;exact Ql [iN 0] [] 1
theorem c_field_Supported {a:Nat} {r:Bool} (h:field_Supported a=some r):Ct Tryz.prog 178 [uN a] [exF] (fun v L=>v=.bool r∧L=[]):=by
 refine ct_intro Tryz.func178 rfl kr (fun F=>?_);unfold field_Supported at h;refine Sg (Pp 1 (Eg (Pp 1 ?_)));obtain ⟨r1,er1,h1⟩:=bnd h;refine Fe [(0,Y)] (c_field_Exponent er1) rfl fok_188 ?_;refine Pp 2 (Er ?_);have h1:=Sj h1;subst h1;exact Ql [.bool (r1 != (0:Int))] [] 1
theorem c_params_Valid {a:T_api_Params} {r:Bool} (h:params_Valid a=some r):Ct Tryz.prog 157 [(aP a)] [exF] (fun v L=>v=.bool r∧L=[]):=by
 refine ct_intro Tryz.func157 rfl kr (fun F=>?_);unfold params_Valid at h;refine Sg ?_;refine w_box (t:=24) (v:=(aP a)) (cs:=(pP a [])) (cv0 kr) kr (fun q1=>?_);refine WI.hd (y:=I70 q1 a) kr ?_;refine w_opP 0 rfl (fun b1 hb=>?_);subst hb
 refine Pp 1 (Eg (Pp 1 (w_ldB 0 0 rfl kr ti_22 rfl rfl ?_)));obtain ⟨r1,er1,h1⟩:=bnd h;refine Fe [(1,Y)] (c_field_Supported er1) rfl fok_178 ?_;refine Pp 1 ?_;rcases bcase h1 with ⟨t1,h2⟩ | ⟨t1,h2⟩
 ·refine Kb 6 t1 (Pp 1 (w_ldB 0 1 rfl kr ti_3 rfl rfl (Pp 3 ?_)));rcases bcase h2 with ⟨t2,h3⟩ | ⟨t2,h3⟩
  ·refine Kb 11 t2 (Pp 1 (w_ldB 0 1 rfl kr ti_3 rfl rfl (Pp 3 ?_)));rcases bcase h3 with ⟨t3,h4⟩ | ⟨t3,h4⟩
   ·refine Kb 16 t3 (Pp 1 (w_ldB 0 1 rfl kr ti_3 rfl rfl ?_));obtain ⟨x1,ex1,h5⟩:=bnd h4;refine w_cv Tb_ok (ecU ex1) kr ?_;refine Pp 1 (w_ldB 0 0 rfl kr ti_22 rfl rfl (Pp 3 ?_));rcases bcase h5 with ⟨t4,h6⟩ | ⟨t4,h6⟩
    ·refine Kb 24 t4 (Pp 1 (w_ldB 0 2 rfl kr ti_3 rfl rfl (Pp 3 ?_)));rcases bcase h6 with ⟨t5,h7⟩ | ⟨t5,h7⟩
     ·refine Kb 29 t5 (Pp 1 (w_ldB 0 2 rfl kr ti_3 rfl rfl (Pp 1 (w_ldB 0 1 rfl kr ti_3 rfl rfl (Pp 3 ?_)))));rcases bcase h7 with ⟨t6,h8⟩ | ⟨t6,h8⟩
      ·refine Kb 36 t6 (Pp 1 (w_ldB 0 2 rfl kr ti_3 rfl rfl ?_));obtain ⟨x2,ex2,h9⟩:=bnd h8;refine w_bi (zmulI ex2) kr (Pp 1 (w_ldB 0 1 rfl kr ti_3 rfl rfl (Pp 3 (Er ?_))));have h9:=Sj h9;subst h9;exact Ql [.bool (decide (x2 < a.N))] [] 2
      refine Kb 36 t6 (Pp 8 (Er ?_));have h8:=Sj h8;subst h8;exact Ql [.bool false] [] 2
     refine Kb 29 t5 (Pp 15 (Er ?_));have h7:=Sj h7;subst h7;exact Ql [.bool false] [] 2
    refine Kb 24 t4 (Pp 20 (Er ?_));have h6:=Sj h6;subst h6;exact Ql [.bool false] [] 2
   refine Kb 16 t3 (Pp 28 (Er ?_));have h4:=Sj h4;subst h4;exact Ql [.bool false] [] 2
  refine Kb 11 t2 (Pp 33 (Er ?_));have h3:=Sj h3;subst h3;exact Ql [.bool false] [] 2
 refine Kb 6 t1 (Pp 38 (Er ?_));have h2:=Sj h2;subst h2;exact Ql [.bool false] [] 2
theorem c_params_ValidCoalition {c:T_api_Params} {d:List Int} {a:Value} {r:Bool} (h:params_ValidCoalition c d=some r):Ct Tryz.prog 95 [(aP c),a] [rI a d,exF] (fun v L=>v=.bool r∧L=[]):=by
 refine ct_intro Tryz.func95 rfl kr (fun F=>?_);unfold params_ValidCoalition at h;refine Sg ?_;refine w_box (t:=24) (v:=(aP c)) (cs:=(pP c [])) (cv0 kr) kr (fun q1=>?_);refine WI.hd (y:=I70 q1 c) kr ?_;refine w_opP 0 rfl (fun b1 hb=>?_)
 subst hb;refine Pp 1 (Es (Sq ?_));obtain ⟨x1,ej1,h1⟩:=bnd h;refine h_join (X:=Unit) (fun g=>[(1,a),(2,(bx b1)),(16,.bool x1)]) (fun g=>[rI a d,I21 b1 c,exF]++F) (fun _=>True) ?_ ?_
 ·refine Rg (w_ldB 0 0 rfl kr ti_24 rfl rfl ?_);obtain ⟨r1,er1,h2⟩:=bnd ej1;refine Fe [(2,Y)] (c_params_Valid er1) rfl fok_157 ?_;refine Pp 2 ?_;rcases bcase h2 with ⟨t1,h3⟩ | ⟨t1,h3⟩
  ·refine Kb 10 t1 (Pp 6 (Ei ?_));cases h3;exact q_join () trivial aK (tH [(1,Y),(0,Z),(1,Y)] 2)
  refine Kb 10 t1 (Pp 1 (w_len (rd_hd 1 rfl) kr ts_25 (Pp 1 (w_ldB 0 2 rfl kr ti_3 rfl rfl (Pp 2 (Ei ?_))))));cases h3;exact q_join () trivial aK (tH [(1,Y),(0,Z),(1,Y)] 2)
 rintro ⟨⟩ - j;refine Tn ?_;rcases bcase h1 with ⟨t2,h4⟩ | ⟨t2,h4⟩
 ·refine Xt t2 (Sg (Pp 1 (Er (Tr ?_))));have h4:=Sj h4;subst h4;exact Ql [.bool false] [] 3
 refine Xs t2 (Tn (Sq (Sg (Pp 1 (w_len (rd_hd 0 rfl) kr ts_25 (Pp 1 (En ?_)))))));refine h_lenle (rd_lenle 0 rfl) (fun hN1=>?_);obtain ⟨r2,elp1,h5⟩:=bnd h4;refine h_join (X:=Unit × Unit) (fun g=>[]) (fun g=>[exF]++F) (fun g=>r2=.go g.2) ?_ ?_
 ·refine Wb ?_
  refine h_rg (fun (k1:Nat) (st:Unit) (g:Unit)=>[(1,a),(2,(bx b1)),(17,a),(18,iN d.length),(19,iN k1)]) (fun (k1:Nat) (st:Unit) (g:Unit)=>[rI a d,I21 b1 c,exF]++F) () elp1 (Nat.zero_le _) aK (tH [(0,Y),(1,Z),(1,Y)] 2) ?_ ?_
  ·rintro ⟨⟩ ⟨⟩ hr1 j;refine Sg (Pp 1 (Es (Xf (rgF (N:=d.length)) (We (Te (q_rzX (Be ?_)))))));exact q_join ((),()) hr1 aK (tH [(2,Y)] 3)
  rintro rem k1 ⟨⟩ ⟨⟩ o1 hk1 h6 hn1 j;have h6:params_ValidCoalition_L0 c d k1=some o1:=h6;unfold params_ValidCoalition_L0 at h6;refine Sg (Pp 1 (Es (Xt (rgT (k:=k1) (N:=d.length) hk1) (Ws (Tn (Sq (Wb (Sg (Pp 1 ?_)))))))));obtain ⟨x2,ex2,h7⟩:=bnd h6;refine w_ix (k:=.i64) (rd_hd 0 rfl) (nbd ex2) rfl kr ts_25 ti_3 ?_;refine w_ldR 0 0 rfl ex2 kr ti_3 rfl rfl ?_;rintro _
  refine Pp 2 (Eg (Pp 3 ?_));rcases bcase h7 with ⟨t3,h8⟩ | ⟨t3,h8⟩
  ·refine Kb 26 t3 (Pp 18 (En ?_));refine h_ct (b:=true) rfl kr ?_;refine Sg (Pp 1 (Er (Br (Tr (q_rgR (Br (q_joinR (Tr ?_))))))));have h8:=Sj h8;subst h8;have hn:=(show _=_ from hn1);subst hn;have h5:=Sj (show some _=some _ from h5);subst h5;exact Ql [.bool false] [] 3
  refine Kb 26 t3 (Pp 2 (w_ldB 1 1 rfl kr ti_3 rfl rfl (Pp 3 ?_)));rcases bcase h8 with ⟨t4,h9⟩ | ⟨t4,h9⟩
  ·refine Kb 32 t4 (Pp 12 (En ?_));refine h_ct (b:=true) rfl kr ?_;refine Sg (Pp 1 (Er (Br (Tr (q_rgR (Br (q_joinR (Tr ?_))))))));have h9:=Sj h9;subst h9;have hn:=(show _=_ from hn1);subst hn;have h5:=Sj (show some _=some _ from h5);subst h5;exact Ql [.bool false] [] 3
  refine Kb 32 t4 (Pp 3 ?_);rcases bcase h9 with ⟨t5,h10⟩ | ⟨t5,h10⟩
  ·refine Kb 35 t5 (Pp 2 ?_);obtain ⟨x3,ex3,h11⟩:=bnd h10;refine w_bi (zsubI ex3) kr ?_;obtain ⟨x4,ex4,h12⟩:=bnd h11;refine w_ix (k:=.i64) (rd_hd 0 rfl) (ib ex4) (iz ex4) kr ts_25 ti_3 ?_;refine w_ldR 0 0 rfl (ig ex4) kr ti_3 rfl rfl ?_;rintro _;refine Pp 4 (En ?_);rcases bcase h12 with ⟨t6,h13⟩ | ⟨t6,h13⟩
   ·refine Xt t6 (Sg (Pp 1 (Er (Br (Tr (q_rgR (Br (q_joinR (Tr ?_)))))))));have h13:=Sj h13;subst h13;have hn:=(show _=_ from hn1);subst hn;have h5:=Sj (show some _=some _ from h5);subst h5;exact Ql [.bool false] [] 3
   refine Xs t6 (Bn (Tn (Rg (w_bi (zinc hk1 hN1) kr (Pp 1 (Ei ?_))))));have h13:=Sj h13;subst h13;exact q_rgo () hn1 aK (tH [(0,Y),(1,Z),(1,Y)] 2)
  refine Kb 35 t5 (Pp 9 (En ?_));refine h_cf (b:=false) rfl kr ?_;refine Ws (Bn (Tn (Rg (w_bi (zinc hk1 hN1) kr (Pp 1 (Ei ?_))))));have h10:=Sj h10;subst h10;exact q_rgo () hn1 aK (tH [(0,Y),(1,Z),(1,Y)] 2)
 rintro ⟨⟨⟩,⟨⟩⟩ hc j;subst hc;refine Tn (Sg (Pp 1 (Er ?_)));have h5:=Sj h5;subst h5;exact Ql [.bool true] [] 1
theorem c_params_lie {b:T_api_Params} {a:T_api_Deviation} {r:Bool} (h:params_lie b a=some r):Ct Tryz.prog 98 [(aP b),.agg #[iV a.Round,iV a.From,iV a.To,iV a.At,iV a.Kind,uN a.K,iV a.Of,iV a.SrcIndex]] [] (fun v L=>v=.bool r∧L=[]):=by
 refine ct_intro Tryz.func98 rfl kr (fun F=>?_);unfold params_lie at h;refine Sg ?_;refine w_box (t:=24) (v:=(aP b)) (cs:=(pP b [])) (cv0 kr) kr (fun q1=>?_);refine WI.hd (y:=I70 q1 b) kr ?_;refine w_opP 0 rfl (fun b1 hb=>?_);subst hb
 refine w_box (t:=152) (v:=.agg #[iV a.Round,iV a.From,iV a.To,iV a.At,iV a.Kind,uN a.K,iV a.Of,iV a.SrcIndex]) (cs:=[iV a.Round,iV a.From,iV a.To,iV a.At,iV a.Kind,uN a.K,iV a.Of,iV a.SrcIndex]) (cv0 kr) kr (fun q2=>?_)
 refine WI.hd (y:=I59 q2 a.Round a.From a.To a.At a.Kind a.K a.Of a.SrcIndex) kr ?_;refine w_opP 0 rfl (fun b2 hb=>?_);subst hb;refine Pp 1 (Eg (Pp 1 (Es (Sg (Pp 1 (w_ldB 0 4 rfl kr ti_3 rfl rfl (Pp 1 (En ?_))))))));obtain ⟨x1,ej1,h1⟩:=bnd h
 refine h_join (X:=Unit) (fun g=>[(2,(bx b1)),(3,(bx b2)),(5,iV x1)]) (fun g=>[I21 b1 b,I15 b2 a.Round a.From a.To a.At a.Kind a.K a.Of a.SrcIndex]++F) (fun _=>True) ?_ ?_
 ·rcases bcase ej1 with ⟨t1,h2⟩ | ⟨t1,h2⟩
  ·refine Xt t1 (Rg (Pp 1 (Ei ?_)));cases h2;exact q_join () trivial aK (tH [(1,Z),(0,Z)] 0)
  refine Xs t1 ?_;cases h2;exact q_join () trivial aK (tH [(1,Z),(0,Z)] 0)
 rintro ⟨⟩ - j;refine Tn (Sg (Pp 1 (w_ldB 1 0 rfl kr ti_3 rfl rfl (Pp 2 ?_))));rcases bcase h1 with ⟨t2,h3⟩ | ⟨t2,h3⟩
 ·refine Kb 12 t2 (Pp 1 (w_ldB 1 3 rfl kr ti_3 rfl rfl (Pp 3 ?_)));rcases bcase h3 with ⟨t3,h4⟩ | ⟨t3,h4⟩
  ·refine Kb 17 t3 (Pp 1 (w_ldB 1 7 rfl kr ti_3 rfl rfl (Pp 3 ?_)));rcases bcase h4 with ⟨t4,h5⟩ | ⟨t4,h5⟩
   ·refine Kb 22 t4 (Pp 1 (w_ldB 1 1 rfl kr ti_3 rfl rfl (Pp 3 ?_)));rcases bcase h5 with ⟨t5,h6⟩ | ⟨t5,h6⟩
    ·refine Kb 27 t5 (Pp 1 (w_ldB 1 1 rfl kr ti_3 rfl rfl (Pp 1 (w_ldB 0 1 rfl kr ti_3 rfl rfl (Pp 3 ?_)))));rcases bcase h6 with ⟨t6,h7⟩ | ⟨t6,h7⟩
     ·refine Kb 34 t6 (Pp 1 (w_ldB 1 2 rfl kr ti_3 rfl rfl (Pp 3 ?_)));rcases bcase h7 with ⟨t7,h8⟩ | ⟨t7,h8⟩
      ·refine Kb 39 t7 (Pp 1 (w_ldB 1 2 rfl kr ti_3 rfl rfl (Pp 1 (w_ldB 0 1 rfl kr ti_3 rfl rfl (Pp 3 ?_)))));rcases bcase h8 with ⟨t8,h9⟩ | ⟨t8,h9⟩
       ·refine Kb 46 t8 (Pp 1 (w_ldB 1 4 rfl kr ti_3 rfl rfl (Pp 3 ?_)));rcases bcase h9 with ⟨t9,h10⟩ | ⟨t9,h10⟩
        ·refine Kb 51 t9 (Pp 1 (w_ldB 1 4 rfl kr ti_3 rfl rfl (Pp 3 ?_)));rcases bcase h10 with ⟨t10,h11⟩ | ⟨t10,h11⟩
         ·refine Kb 56 t10 (Pp 1 (w_ldB 1 6 rfl kr ti_3 rfl rfl (Pp 4 ?_)));rcases bcase h11 with ⟨t11,h12⟩ | ⟨t11,h12⟩
          ·refine Kb 62 t11 (Pp 1 (w_ldB 1 6 rfl kr ti_3 rfl rfl (Pp 1 (w_ldB 0 1 rfl kr ti_3 rfl rfl (Pp 3 (Er ?_))))));have h12:=Sj h12;subst h12;exact Ql [.bool (decide (a.Of≤b.N))] [] 2
          refine Kb 62 t11 (Pp 7 (Er ?_));have h12:=Sj h12;subst h12;exact Ql [.bool false] [] 2
         refine Kb 56 t10 (Pp 13 (Er ?_));have h11:=Sj h11;subst h11;exact Ql [.bool false] [] 2
        refine Kb 51 t9 (Pp 18 (Er ?_));have h10:=Sj h10;subst h10;exact Ql [.bool false] [] 2
       refine Kb 46 t8 (Pp 23 (Er ?_));have h9:=Sj h9;subst h9;exact Ql [.bool false] [] 2
      refine Kb 39 t7 (Pp 30 (Er ?_));have h8:=Sj h8;subst h8;exact Ql [.bool false] [] 2
     refine Kb 34 t6 (Pp 35 (Er ?_));have h7:=Sj h7;subst h7;exact Ql [.bool false] [] 2
    refine Kb 27 t5 (Pp 42 (Er ?_));have h6:=Sj h6;subst h6;exact Ql [.bool false] [] 2
   refine Kb 22 t4 (Pp 47 (Er ?_));have h5:=Sj h5;subst h5;exact Ql [.bool false] [] 2
  refine Kb 17 t3 (Pp 52 (Er ?_));have h4:=Sj h4;subst h4;exact Ql [.bool false] [] 2
 refine Kb 12 t2 (Pp 57 (Er ?_));have h3:=Sj h3;subst h3;exact Ql [.bool false] [] 2
theorem c_params_ValidScenario_1 {a:T_api_Deviation} {b:T_api_Scenario} {f:Nat} {c d e:Value} {r:Bool} (h:params_ValidScenario_1 a b=some r):Ct Tryz.prog 97 [.agg #[iV a.Round,iV a.From,iV a.To,iV a.At,iV a.Kind,uN a.K,iV a.Of,iV a.SrcIndex],(bx f)] [I13 f b.S c d e,rI c b.Corrupt,rD d b.Deviations,rS e b.Tapes] (fun v L=>v=.bool r∧L=[I13 f b.S c d e]):=by
 refine ct_intro Tryz.func97 rfl kr (fun F=>?_);unfold params_ValidScenario_1 at h;refine Sg ?_
 refine w_box (t:=152) (v:=.agg #[iV a.Round,iV a.From,iV a.To,iV a.At,iV a.Kind,uN a.K,iV a.Of,iV a.SrcIndex]) (cs:=[iV a.Round,iV a.From,iV a.To,iV a.At,iV a.Kind,uN a.K,iV a.Of,iV a.SrcIndex]) (cv0 kr) kr (fun q1=>?_)
 refine WI.hd (y:=I59 q1 a.Round a.From a.To a.At a.Kind a.K a.Of a.SrcIndex) kr ?_;refine w_opP 0 rfl (fun b1 hb=>?_);subst hb;refine Pp 1 (Eg (Pp 1 (w_ldB 1 0 rfl kr ti_24 rfl rfl (w_ldB 0 0 rfl kr ti_152 rfl rfl ?_))));obtain ⟨r1,er1,h1⟩:=bnd h
 refine Fe [] (c_params_lie er1) rfl fok_98 ?_;refine Pp 2 (Er ?_);have h1:=Sj h1;subst h1;exact Ql [.bool (!r1)] [(1,Z)] 4
theorem c_slices_IndexFunc_Lapi_Deviation_api_Deviation_params_ValidScenario_1 {i:List T_api_Deviation} {a:T_api_Scenario} {f:Value} {e:Nat} {b c d:Value} {r:Int} (h:slices_IndexFunc_Lapi_Deviation_api_Deviation_params_ValidScenario_1 i a=some r):Ct Tryz.prog 158 [f,.func (.func 97) #[] #[(bx e)]] [rD f i,I13 e a.S b c d,rI b a.Corrupt,rD c a.Deviations,rS d a.Tapes] (fun v L=>v=iV r∧L=[I13 e a.S b c d]):=by
 refine ct_intro Tryz.func158 rfl kr (fun F=>?_);unfold slices_IndexFunc_Lapi_Deviation_api_Deviation_params_ValidScenario_1 at h;refine Sg (Pp 1 (Es (Sg (Pp 1 (w_len (rd_hd 0 rfl) kr ts_26 (Pp 1 (En ?_)))))));refine h_lenle (rd_lenle 0 rfl) (fun hN1=>?_);obtain ⟨r1,elp1,h1⟩:=bnd h
 refine h_join (X:=Unit × Unit) (fun g=>[]) (fun g=>[I13 e a.S b c d,rI b a.Corrupt,rD c a.Deviations,rS d a.Tapes]++F) (fun g=>r1=.go g.2) ?_ ?_
 ·refine Wb ?_
  refine h_rg (fun (k1:Nat) (st:Unit) (g:Unit)=>[(0,f),(1,.func (.func 97) #[] #[(bx e)]),(7,iN i.length),(8,iN k1)]) (fun (k1:Nat) (st:Unit) (g:Unit)=>[rD f i,I13 e a.S b c d,rI b a.Corrupt,rD c a.Deviations,rS d a.Tapes]++F) () elp1 (Nat.zero_le _) aK (tH [(0,Y),(1,Z),(1,Y),(2,Y),(3,Y)] 4) ?_ ?_
  ·rintro ⟨⟩ ⟨⟩ hr1 j;refine Sg (Pp 1 (Es (Xf (rgF (N:=i.length)) (We (Te (q_rzX (Be ?_)))))));exact q_join ((),()) hr1 aK (tH [(1,Z),(1,Y),(2,Y),(3,Y)] 4)
  rintro rem k1 ⟨⟩ ⟨⟩ o1 hk1 h2 hn1 j;have h2:slices_IndexFunc_Lapi_Deviation_api_Deviation_params_ValidScenario_1_L0 i a k1=some o1:=h2;unfold slices_IndexFunc_Lapi_Deviation_api_Deviation_params_ValidScenario_1_L0 at h2;refine Sg (Pp 1 (Es (Xt (rgT (k:=k1) (N:=i.length) hk1) (Ws (Tn (Sq (Wb (Sg (Pp 2 (Eg (Pp 3 ?_)))))))))));obtain ⟨x1,ex1,h3⟩:=bnd h2
  refine w_ix (k:=.i64) (rd_hd 0 rfl) (nbd ex1) rfl kr ts_26 ti_152 ?_;refine w_ldR 0 0 rfl ex1 kr ti_152 rfl rfl ?_;rintro ⟨_,_,_,_,_,_,_,_⟩;obtain ⟨r2,er2,h4⟩:=bnd h3;refine Fe [(1,Z),(1,Y),(2,Y),(3,Y)] (c_params_ValidScenario_1 er2) rfl fok_97 ?_;refine En ?_;rcases bcase h4 with ⟨t1,h5⟩ | ⟨t1,h5⟩
  ·refine Xt t1 (Sg (Pp 2 (Er (Br (Tr (q_rgR (Br (q_joinR (Tr ?_)))))))));have h5:=Sj h5;subst h5;have hn:=(show _=_ from hn1);subst hn;have h1:=Sj (show some _=some _ from h1);subst h1;exact Ql [iN k1] [(0,Z)] 4
  refine Xs t1 (Bn (Tn (Rg (w_bi (zinc hk1 hN1) kr (Pp 1 (Ei ?_))))));have h5:=Sj h5;subst h5;exact q_rgo () hn1 aK (tH [(1,Y),(0,Z),(1,Y),(2,Y),(3,Y)] 4)
 rintro ⟨⟨⟩,⟨⟩⟩ hc j;subst hc;refine Tn (Sg (Pp 1 (Er ?_)));have h1:=Sj h1;subst h1;exact Ql [iV (-1)] [(0,Z)] 3
theorem c_slices_ContainsFunc_Lapi_Deviation_api_Deviation_params_ValidScenario_1 {g:List T_api_Deviation} {a:T_api_Scenario} {f:Value} {e:Nat} {b c d:Value} {r:Bool} (h:slices_ContainsFunc_Lapi_Deviation_api_Deviation_params_ValidScenario_1 g a=some r):Ct Tryz.prog 96 [f,.func (.func 97) #[] #[(bx e)]] [rD f g,I13 e a.S b c d,rI b a.Corrupt,rD c a.Deviations,rS d a.Tapes] (fun v L=>v=.bool r∧L=[I13 e a.S b c d]):=by
 refine ct_intro Tryz.func96 rfl kr (fun F=>?_);unfold slices_ContainsFunc_Lapi_Deviation_api_Deviation_params_ValidScenario_1 at h;refine Sg (Pp 1 (Eg (Pp 2 ?_)));obtain ⟨r1,er1,h1⟩:=bnd h;refine Fe [(0,Y),(1,Z),(1,Y),(2,Y),(3,Y)] (c_slices_IndexFunc_Lapi_Deviation_api_Deviation_params_ValidScenario_1 er1) rfl fok_158 ?_;refine Pp 2 (Er ?_)
 have h1:=Sj h1;subst h1;exact Ql [.bool (decide (r1 ≥ (0:Int)))] [(0,Z)] 4
theorem c_params_ValidScenario_2_1 {f:Nat} {a:T_api_Scenario} {e:Nat} {b c d:Value} {r:Bool} (h:params_ValidScenario_2_1 f a=some r):Ct Tryz.prog 102 [uN f,(bx e)] [I13 e a.S b c d,rI b a.Corrupt,rD c a.Deviations,rS d a.Tapes] (fun v L=>v=.bool r∧L=[I13 e a.S b c d]):=by
 refine ct_intro Tryz.func102 rfl kr (fun F=>?_);unfold params_ValidScenario_2_1 at h;refine Sg (Pp 1 (Eg (Pp 3 (w_ldB 0 0 rfl kr ti_22 rfl rfl (Pp 2 (Er ?_))))));have h:=Option.some.inj h;subst h;exact Ql [.bool (decide ((f:Int) ≥ (a.S.P:Int)))] [(0,Z)] 3
theorem c_slices_IndexFunc_Luint64_uint64_params_ValidScenario_2_1 {i:List Nat} {a:T_api_Scenario} {f:Value} {e:Nat} {b c d:Value} {r:Int} (h:slices_IndexFunc_Luint64_uint64_params_ValidScenario_2_1 i a=some r):Ct Tryz.prog 160 [f,.func (.func 102) #[] #[(bx e)]] [rU f i,I13 e a.S b c d,rI b a.Corrupt,rD c a.Deviations,rS d a.Tapes] (fun v L=>v=iV r∧L=[I13 e a.S b c d]):=by
 refine ct_intro Tryz.func160 rfl kr (fun F=>?_);unfold slices_IndexFunc_Luint64_uint64_params_ValidScenario_2_1 at h;refine Sg (Pp 1 (Es (Sg (Pp 1 (w_len (rd_hd 0 rfl) kr ts_60 (Pp 1 (En ?_)))))));refine h_lenle (rd_lenle 0 rfl) (fun hN1=>?_);obtain ⟨r1,elp1,h1⟩:=bnd h
 refine h_join (X:=Unit × Unit) (fun g=>[]) (fun g=>[I13 e a.S b c d,rI b a.Corrupt,rD c a.Deviations,rS d a.Tapes]++F) (fun g=>r1=.go g.2) ?_ ?_
 ·refine Wb ?_
  refine h_rg (fun (k1:Nat) (st:Unit) (g:Unit)=>[(0,f),(1,.func (.func 102) #[] #[(bx e)]),(7,iN i.length),(8,iN k1)]) (fun (k1:Nat) (st:Unit) (g:Unit)=>[rU f i,I13 e a.S b c d,rI b a.Corrupt,rD c a.Deviations,rS d a.Tapes]++F) () elp1 (Nat.zero_le _) aK (tH [(0,Y),(1,Z),(1,Y),(2,Y),(3,Y)] 4) ?_ ?_
  ·rintro ⟨⟩ ⟨⟩ hr1 j;refine Sg (Pp 1 (Es (Xf (rgF (N:=i.length)) (We (Te (q_rzX (Be ?_)))))));exact q_join ((),()) hr1 aK (tH [(1,Z),(1,Y),(2,Y),(3,Y)] 4)
  rintro rem k1 ⟨⟩ ⟨⟩ o1 hk1 h2 hn1 j;have h2:slices_IndexFunc_Luint64_uint64_params_ValidScenario_2_1_L0 i a k1=some o1:=h2;unfold slices_IndexFunc_Luint64_uint64_params_ValidScenario_2_1_L0 at h2;refine Sg (Pp 1 (Es (Xt (rgT (k:=k1) (N:=i.length) hk1) (Ws (Tn (Sq (Wb (Sg (Pp 2 (Eg (Pp 3 ?_)))))))))));obtain ⟨x1,ex1,h3⟩:=bnd h2
  refine w_ix (k:=.i64) (rd_hd 0 rfl) (nbd ex1) rfl kr ts_60 ti_22 ?_;refine w_ldR 0 0 rfl ex1 kr ti_22 rfl rfl ?_;rintro _;obtain ⟨r2,er2,h4⟩:=bnd h3;refine Fe [(1,Z),(1,Y),(2,Y),(3,Y)] (c_params_ValidScenario_2_1 er2) rfl fok_102 ?_;refine En ?_;rcases bcase h4 with ⟨t1,h5⟩ | ⟨t1,h5⟩
  ·refine Xt t1 (Sg (Pp 2 (Er (Br (Tr (q_rgR (Br (q_joinR (Tr ?_)))))))));have h5:=Sj h5;subst h5;have hn:=(show _=_ from hn1);subst hn;have h1:=Sj (show some _=some _ from h1);subst h1;exact Ql [iN k1] [(0,Z)] 4
  refine Xs t1 (Bn (Tn (Rg (w_bi (zinc hk1 hN1) kr (Pp 1 (Ei ?_))))));have h5:=Sj h5;subst h5;exact q_rgo () hn1 aK (tH [(1,Y),(0,Z),(1,Y),(2,Y),(3,Y)] 4)
 rintro ⟨⟨⟩,⟨⟩⟩ hc j;subst hc;refine Tn (Sg (Pp 1 (Er ?_)));have h1:=Sj h1;subst h1;exact Ql [iV (-1)] [(0,Z)] 3
theorem c_slices_ContainsFunc_Luint64_uint64_params_ValidScenario_2_1 {g:List Nat} {a:T_api_Scenario} {f:Value} {e:Nat} {b c d:Value} {r:Bool} (h:slices_ContainsFunc_Luint64_uint64_params_ValidScenario_2_1 g a=some r):Ct Tryz.prog 101 [f,.func (.func 102) #[] #[(bx e)]] [rU f g,I13 e a.S b c d,rI b a.Corrupt,rD c a.Deviations,rS d a.Tapes] (fun v L=>v=.bool r∧L=[I13 e a.S b c d]):=by
 refine ct_intro Tryz.func101 rfl kr (fun F=>?_);unfold slices_ContainsFunc_Luint64_uint64_params_ValidScenario_2_1 at h;refine Sg (Pp 1 (Eg (Pp 2 ?_)));obtain ⟨r1,er1,h1⟩:=bnd h;refine Fe [(0,Y),(1,Z),(1,Y),(2,Y),(3,Y)] (c_slices_IndexFunc_Luint64_uint64_params_ValidScenario_2_1 er1) rfl fok_160 ?_;refine Pp 2 (Er ?_);have h1:=Sj h1;subst h1
 exact Ql [.bool (decide (r1 ≥ (0:Int)))] [(0,Z)] 4
theorem c_params_ValidScenario_2 {g:List Nat} {a:T_api_Scenario} {f:Value} {e:Nat} {b c d:Value} {r:Bool} (h:params_ValidScenario_2 g a=some r):Ct Tryz.prog 100 [f,(bx e)] [rU f g,I13 e a.S b c d,rI b a.Corrupt,rD c a.Deviations,rS d a.Tapes] (fun v L=>v=.bool r∧L=[I13 e a.S b c d]):=by
 refine ct_intro Tryz.func100 rfl kr (fun F=>?_);unfold params_ValidScenario_2 at h;refine Sg (Pp 1 (Eg (Pp 2 ?_)));obtain ⟨r1,er1,h1⟩:=bnd h;refine Fe [(0,Y),(1,Z),(1,Y),(2,Y),(3,Y)] (c_slices_ContainsFunc_Luint64_uint64_params_ValidScenario_2_1 er1) rfl fok_101 ?_;refine Pp 1 (Er ?_);have h1:=Sj h1;subst h1;exact Ql [.bool r1] [(0,Z)] 4
theorem c_slices_IndexFunc_LLuint64_Luint64_params_ValidScenario_2 {i:List (List Nat)} {a:T_api_Scenario} {f:Value} {e:Nat} {b c d:Value} {r:Int} (h:slices_IndexFunc_LLuint64_Luint64_params_ValidScenario_2 i a=some r):Ct Tryz.prog 159 [f,.func (.func 100) #[] #[(bx e)]] [rS f i,I13 e a.S b c d,rI b a.Corrupt,rD c a.Deviations,rS d a.Tapes] (fun v L=>v=iV r∧L=[I13 e a.S b c d]):=by
 refine ct_intro Tryz.func159 rfl kr (fun F=>?_);unfold slices_IndexFunc_LLuint64_Luint64_params_ValidScenario_2 at h;refine Sg (Pp 1 (Es (Sg (Pp 1 (w_len (rd_hd 0 rfl) kr ts_27 (Pp 1 (En ?_)))))));refine h_lenle (rd_lenle 0 rfl) (fun hN1=>?_);obtain ⟨r1,elp1,h1⟩:=bnd h
 refine h_join (X:=Unit × Unit) (fun g=>[]) (fun g=>[I13 e a.S b c d,rI b a.Corrupt,rD c a.Deviations,rS d a.Tapes]++F) (fun g=>r1=.go g.2) ?_ ?_
 ·refine Wb ?_
  refine h_rg (fun (k1:Nat) (st:Unit) (g:Unit)=>[(0,f),(1,.func (.func 100) #[] #[(bx e)]),(7,iN i.length),(8,iN k1)]) (fun (k1:Nat) (st:Unit) (g:Unit)=>[rS f i,I13 e a.S b c d,rI b a.Corrupt,rD c a.Deviations,rS d a.Tapes]++F) () elp1 (Nat.zero_le _) aK (tH [(0,Y),(1,Z),(1,Y),(2,Y),(3,Y)] 4) ?_ ?_
  ·rintro ⟨⟩ ⟨⟩ hr1 j;refine Sg (Pp 1 (Es (Xf (rgF (N:=i.length)) (We (Te (q_rzX (Be ?_)))))));exact q_join ((),()) hr1 aK (tH [(1,Z),(1,Y),(2,Y),(3,Y)] 4)
  rintro rem k1 ⟨⟩ ⟨⟩ o1 hk1 h2 hn1 j;have h2:slices_IndexFunc_LLuint64_Luint64_params_ValidScenario_2_L0 i a k1=some o1:=h2;unfold slices_IndexFunc_LLuint64_Luint64_params_ValidScenario_2_L0 at h2;refine Sg (Pp 1 (Es (Xt (rgT (k:=k1) (N:=i.length) hk1) (Ws (Tn (Sq (Wb (Sg (Pp 2 (Eg (Pp 3 ?_)))))))))));obtain ⟨x1,ex1,h3⟩:=bnd h2
  refine w_ix (k:=.i64) (rd_hd 0 rfl) (nbd ex1) rfl kr ts_27 ti_60 ?_;refine w_ldR 0 0 rfl ex1 kr ti_60 rfl rfl ?_;rintro v1;obtain ⟨r2,er2,h4⟩:=bnd h3;refine Fe [(0,Y),(2,Z),(2,Y),(3,Y),(4,Y)] (c_params_ValidScenario_2 er2) rfl fok_100 ?_;refine En ?_;rcases bcase h4 with ⟨t1,h5⟩ | ⟨t1,h5⟩
  ·refine Xt t1 (Sg (Pp 2 (Er (Br (Tr (q_rgR (Br (q_joinR (Tr ?_)))))))));have h5:=Sj h5;subst h5;have hn:=(show _=_ from hn1);subst hn;have h1:=Sj (show some _=some _ from h1);subst h1;exact Ql [iN k1] [(0,Z)] 5
  refine Xs t1 (Bn (Tn (Rg (w_bi (zinc hk1 hN1) kr (Pp 1 (Ei ?_))))));have h5:=Sj h5;subst h5;exact q_rgo () hn1 aK (tH [(2,Y),(0,Z),(2,Y),(3,Y),(4,Y)] 5)
 rintro ⟨⟨⟩,⟨⟩⟩ hc j;subst hc;refine Tn (Sg (Pp 1 (Er ?_)));have h1:=Sj h1;subst h1;exact Ql [iV (-1)] [(0,Z)] 3
theorem c_slices_ContainsFunc_LLuint64_Luint64_params_ValidScenario_2 {g:List (List Nat)} {a:T_api_Scenario} {f:Value} {e:Nat} {b c d:Value} {r:Bool} (h:slices_ContainsFunc_LLuint64_Luint64_params_ValidScenario_2 g a=some r):Ct Tryz.prog 99 [f,.func (.func 100) #[] #[(bx e)]] [rS f g,I13 e a.S b c d,rI b a.Corrupt,rD c a.Deviations,rS d a.Tapes] (fun v L=>v=.bool r∧L=[I13 e a.S b c d]):=by
 refine ct_intro Tryz.func99 rfl kr (fun F=>?_);unfold slices_ContainsFunc_LLuint64_Luint64_params_ValidScenario_2 at h;refine Sg (Pp 1 (Eg (Pp 2 ?_)));obtain ⟨r1,er1,h1⟩:=bnd h;refine Fe [(0,Y),(1,Z),(1,Y),(2,Y),(3,Y)] (c_slices_IndexFunc_LLuint64_Luint64_params_ValidScenario_2 er1) rfl fok_159 ?_;refine Pp 2 (Er ?_);have h1:=Sj h1;subst h1
 exact Ql [.bool (decide (r1 ≥ (0:Int)))] [(0,Z)] 4
theorem c_params_ValidScenario {a:T_api_Scenario} {c d e:Value} {r:Bool} (h:params_ValidScenario a=some r):Ct Tryz.prog 48 [.agg #[uN a.S.P,iV a.S.N,iV a.S.T,c,d,e]] [rI c a.Corrupt,rD d a.Deviations,rS e a.Tapes,exF] (fun v L=>v=.bool r∧L=[]):=by
 refine ct_intro Tryz.func48 rfl kr (fun F=>?_);unfold params_ValidScenario at h;refine Sg ?_;refine w_box (t:=29) (v:=.agg #[uN a.S.P,iV a.S.N,iV a.S.T,c,d,e]) (cs:=(pP a.S [c,d,e])) (cv0 kr) kr (fun q1=>?_)
 refine WI.hd (y:=I72 q1 a.S c d e) kr ?_;refine w_opP 0 rfl (fun b1 hb=>?_);subst hb;refine Pp 1 (Es (Sg (Pp 1 (w_ldB 0 0 rfl kr ti_24 rfl rfl (Pp 1 (w_ldB 0 3 rfl kr ti_25 rfl rfl ?_))))));obtain ⟨r1,er1,h1⟩:=bnd h;refine Fe [(1,Y),(4,Y)] (c_params_ValidCoalition er1) rfl fok_95 ?_;refine Pp 2 ?_
 rcases bcase h1 with ⟨t1,h2⟩ | ⟨t1,h2⟩
 ·refine Kb 9 t1 (Pp 14 (En ?_));refine h_ct (b:=true) rfl kr ?_;refine Sg (Pp 1 (Er (Tr ?_)));have h2:=Sj h2;subst h2;exact Ql [.bool false] [] 5
 refine Kb 9 t1 (Pp 1 (w_ldB 0 5 rfl kr ti_27 rfl rfl (w_len (rd_hd 3 rfl) kr ts_27 (Pp 2 (w_ldB 0 1 rfl kr ti_3 rfl rfl (Pp 3 ?_))))));rcases bcase h2 with ⟨t2,h3⟩ | ⟨t2,h3⟩
 ·refine Kb 18 t2 (Pp 5 (En ?_));refine h_ct (b:=true) rfl kr ?_;refine Sg (Pp 1 (Er (Tr ?_)));have h3:=Sj h3;subst h3;exact Ql [.bool false] [] 5
 refine Kb 18 t2 (Pp 1 (w_ldB 0 4 rfl kr ti_26 rfl rfl (Pp 1 ?_)));obtain ⟨r2,er2,h4⟩:=bnd h3;refine Fe [(2,Y),(0,Z),(0,Y),(1,Y),(2,Y)] (c_slices_ContainsFunc_Lapi_Deviation_api_Deviation_params_ValidScenario_1 er2) rfl fok_96 ?_;refine Pp 1 (En ?_);rcases bcase h4 with ⟨t3,h5⟩ | ⟨t3,h5⟩
 ·refine Xt t3 (Sg (Pp 1 (Er (Tr ?_))));have h5:=Sj h5;subst h5;exact Ql [.bool false] [] 5
 refine Xs t3 (Tn (Sg (Pp 1 (w_ldB 0 5 rfl kr ti_27 rfl rfl (Pp 1 ?_)))));obtain ⟨r3,er3,h6⟩:=bnd h5;refine Fe [(3,Y),(0,Z),(0,Y),(1,Y),(2,Y)] (c_slices_ContainsFunc_LLuint64_Luint64_params_ValidScenario_2 er3) rfl fok_99 ?_;refine Pp 2 (Er ?_);have h6:=Sj h6;subst h6;exact Ql [.bool (!r3)] [] 5
theorem c_tape_New {b:List Nat} {a:Value} {r:T_tape_Tape} (h:tape_New b=some r):Ct Tryz.prog 49 [a] [rU a b] (fun v L=>∃ w0 w0__0:Value,v=w0∧L=[blkP w0 160 [w0__0,iV r.zat],rU w0__0 r.zwords]):=by
 refine ct_intro Tryz.func49 rfl kr (fun F=>?_);unfold tape_New at h;refine Sg (Pp 1 (Eg (Pp 1 ?_)));refine w_bd (v:=.agg #[a,iN 0]) (t:=160) (ps0:=[(0,a)]) (ps:=[(0,.agg #[a])]) (scS (rd_hd 0 rfl) sc0) kr (fun w=>by kernel_rfl) ?_
 refine w_box (t:=160) (v:=.agg #[a,iN 0]) (cs:=[a,iN 0]) (cv0 kr) kr (fun q1=>?_);refine WI.hd (y:=blkP q1 160 [a,iN 0]) kr ?_;refine w_opP 0 rfl (fun b1 hb=>?_);subst hb;refine Pp 1 (Er ?_);have h:=Option.some.inj h;subst h
 exact q_end (l:=[(bx b1)]) [(0,Z),(0,Y)] 1 ⟨(bx b1),a,rfl,rfl⟩ (.inl rfl) kr kr kr
theorem c_network_New {a:T_api_Scenario} {c d b:Value} {r:Unit ⊕ T_network_Net} (h:network_New a=some r):Ct Tryz.prog 13 [.agg #[uN a.S.P,iV a.S.N,iV a.S.T,c,d,b]] [rI c a.Corrupt,rD d a.Deviations,rS b a.Tapes,exF] ((sumP (fun r v L=>v=.tuple #[(.pointer none),iN 1]∧L=[]) (fun r v L=>∃ w0 w0__0_1 w0__0_2 w0__0_3 w0__2 w0__3:Value,v=.tuple #[w0,iN 0]∧L=[blkP w0 98 (pP r.zw.S [w0__0_1,w0__0_2,w0__0_3,iV r.zround,(th w0__2),(th w0__3)]),rI w0__0_1 r.zw.Corrupt,rD w0__0_2 r.zw.Deviations,rS w0__0_3 r.zw.Tapes,I2 w0__2 r.zviews,I0 w0__3 r.ztapes])) r):=by
 refine ct_intro Tryz.func13 rfl kr (fun F=>?_);unfold network_New at h;refine Sg ?_;refine w_box (t:=29) (v:=.agg #[uN a.S.P,iV a.S.N,iV a.S.T,c,d,b]) (cs:=(pP a.S [c,d,b])) (cv0 kr) kr (fun q1=>?_)
 refine WI.hd (y:=I72 q1 a.S c d b) kr ?_;refine w_opP 0 rfl (fun b1 hb=>?_);subst hb;refine Pp 2 (Es (Sg (w_ldB 0 0 rfl kr ti_29 rfl rfl ?_)));obtain ⟨r1,er1,h1⟩:=bnd h;refine Fe [(1,Y),(2,Y),(3,Y),(4,Y)] (c_params_ValidScenario er1) rfl fok_48 ?_;refine Pp 1 (En ?_)
 rcases bcase h1 with ⟨t1,h2⟩ | ⟨t1,h2⟩
 ·refine Xt t1 (Sg (Pp 2 (Er (Tr ?_))));have h2:=Sj h2;subst h2;exact q_end (l:=[(.pointer none),iN 1]) [] 5 (inlP ⟨rfl,rfl⟩) (.inl rfl) kr kr kr
 refine Xs t1 (Tn (Sq ?_));obtain ⟨l1,el1,h3⟩:=bnd h2
 refine h_fm [0,0,2,6,14,31,63,127] ⟨5,[0,0,0,0,1,0,1,0],[],[(0,[(0,0)]),(3,[(0,0)]),(5,[(5,0)])],[]⟩ (fun γ=>[.agg #[uN a.S.P,iV a.S.N,iV a.S.T,c,d,b],bx b1,.pointer (some ⟨b1,1,none⟩),iV a.S.N,(γ 4 0),.agg #[uN a.S.P,iV a.S.N,iV a.S.T,c,d,b,iN 0,(γ 4 0),(.slice none 0 0)],(γ 6 0),(γ 6 0)]) (fun i γ=>match i with | 4=>[I39 (γ 4 0) a.S.N.toNat l1] | 6=>[blkP (γ 6 0) 98 (pP a.S [c,d,b,iN 0,(γ 4 0),(.slice none 0 0)])] | _=>[]) [1,2,7] tryz_mix Tb_ok ?_ ?_
 ·refine ⟨?_,?_,?_,?_,?_,trivial⟩
  ·intro γ F;refine w_ldB 0 0 rfl kr ti_29 rfl rfl ?_;exact wE (gl []) [(0,Z)] 0
  ·intro γ F;refine w_ldB 0 1 rfl kr ti_3 rfl rfl ?_;exact wE (gl []) [(0,Z)] 0
  ·intro γ F;refine w_mkT (rowK KE 68) new_row (kl:=.i64) (kc:=.i64) el1 kr ts_95 ti_65 rfl (fun v1=>?_);exact wE (gl [v1]) [(0,Z)] 0
  ·intro γ F;refine Rh ([I39 (γ 4 0) a.S.N.toNat l1]++F) ?_
   refine w_bd (v:=.agg #[uN a.S.P,iV a.S.N,iV a.S.T,c,d,b,iN 0,(γ 4 0),(.slice none 0 0)]) (t:=98) (ps0:=[(0,.agg #[uN a.S.P,iV a.S.N,iV a.S.T,c,d,b]),(2,(γ 4 0))]) (ps:=[(0,.agg #[uN a.S.P,iV a.S.N,iV a.S.T,c,d,b]),(2,.agg #[(γ 4 0)])]) (scI (scS (tree_hdI (inP 0 rfl)) sc0)) kr (fun w=>by kernel_rfl) ?_
   exact wE (gl []) [(0,Z)] 0
  intro γ F;refine w_box (t:=98) (v:=.agg #[uN a.S.P,iV a.S.N,iV a.S.T,c,d,b,iN 0,(γ 4 0),(.slice none 0 0)]) (cs:=(pP a.S [c,d,b,iN 0,(γ 4 0),(.slice none 0 0)])) (cv0 kr) kr (fun q2=>?_)
  refine WI.hd (y:=blkP q2 98 (pP a.S [c,d,b,iN 0,(γ 4 0),(.slice none 0 0)])) kr ?_;exact wE (gl [q2]) [(0,Z)] 0
 intro γ1;refine q_opS 4 6 kr rfl (fun b2=>?_);refine Tn (Sq (Sg (Pp 1 (w_ldB 1 5 rfl kr ti_27 rfl rfl (w_len (rd_hd 4 rfl) kr ts_27 (Pp 1 (En ?_)))))));refine WH.ent (tr_nil (R:=(boxK K_tape_Tape 160)) (e:=99)) ?_;refine h_lenle (rd_lenle 5 rfl) (fun hN1=>?_);obtain ⟨l3,elp1,h4⟩:=bnd h3
 refine h_join (X:=Value) (fun g=>[(4,(bx b2))]) (fun g=>[blkP (bx b2) 98 (pP a.S [c,d,b,iN 0,(γ1 4 0),(th g)]),rI c a.Corrupt,rD d a.Deviations,rS b a.Tapes,I39 (γ1 4 0) a.S.N.toNat l1,I0 g l3,exF]++F) (fun _=>True) ?_ ?_
 ·refine Wb ?_
  refine h_rs (fun (k1:Nat) (st:(List T_tape_Tape)) (g:Value)=>[(4,(bx b2)),(18,b),(19,iN a.Tapes.length),(20,iN k1)]) (fun (k1:Nat) (st:(List T_tape_Tape)) (g:Value)=>[blkP (bx b2) 98 (pP a.S [c,d,b,iN 0,(γ1 4 0),(th g)]),rI c a.Corrupt,rD d a.Deviations,rS b a.Tapes,I39 (γ1 4 0) a.S.N.toNat l1,I0 g st,exF]++F) (tw (.slice none 0 0) ([])) elp1 (Nat.zero_le _) aK (tH [(1,Z),(2,Y),(3,Y),(4,Y),(6,Z),(0,Z),(4,Y)] 5) ?_ ?_
  ·rintro g3 j;refine Sg (Pp 1 (Es (Xf (rgF (N:=a.Tapes.length)) (We (Te (q_rzX (Be ?_)))))));exact q_join (tw (th g3) (tg g3)) trivial aK (tH [(0,Z),(0,Y),(1,Y),(2,Y),(3,Z),(3,Z),(3,Y)] 4)
  rintro rem k1 l2 g1 o1 hk1 h5 hn1 j;have h5:network_New_L0 a k1 l2=some o1:=h5;unfold network_New_L0 at h5;refine Sg (Pp 1 (Es (Xt (rgT (k:=k1) (N:=a.Tapes.length) hk1) (Ws (Tn (Sq (Wb (Sg ?_))))))));obtain ⟨x2,ex2,h6⟩:=bnd h5;refine w_ix (k:=.i64) (rd_hd 3 rfl) (nbd ex2) rfl kr ts_27 ti_60 ?_;refine w_ldR 3 0 rfl ex2 kr ti_60 rfl rfl ?_;rintro v2;refine Pp 1 (En ?_)
  refine WH.ent (hd_add (tree_hdI (inP 5 rfl))) ?_;refine WH.ent (hd_add (tree_hdI (inP 7 rfl))) ?_;obtain ⟨r3,er3,h7⟩:=bnd h6;obtain ⟨l4,el4,h8⟩:=bnd h7
  refine h_fm [0,0,2,6,14,0,32,96,254,511,1023,2047] ⟨10,[0,0,0,0,0,0,2,1,1,0,0,1],[(7,[(7,0)]),(8,[(8,0),(0,8)]),(11,[(0,3)])],[(4,[(0,3)]),(11,[(9,0)])],[(6,[(0,2)]),(7,[(7,1)])]⟩ (fun γ=>[(bx b2),(bx b2),(bx b2),.pointer (some ⟨b2,8,none⟩),(th g1),v2,(γ 6 0),(γ 7 0),(γ 8 0),(bx b2),.pointer (some ⟨b2,8,none⟩),undef]) (fun i γ=>match i with | 6=>[blkP (γ 6 0) 160 [(γ 6 1),iV r3.zat],rU (γ 6 1) r3.zwords] | 7=>[treeV (boxK K_tape_Tape 160) 99 (γ 7 0) ([(γ 6 0)]) ([r3]:List T_tape_Tape)] | 8=>[I69 (γ 8 0) g1 (γ 6 0) l4] | 11=>[blkP (bx b2) 98 (pP a.S [c,d,b,iN 0,(γ1 4 0),(γ 8 0)])] | _=>[]) [0,1,2,3,5,9,10] tryz_mix Tb_ok ?_ ?_
  ·refine ⟨?_,?_,?_,?_,?_,trivial⟩
   ·intro γ F;refine w_ldB 0 8 rfl kr ti_96 rfl rfl ?_;exact wE (gl []) [(0,Z)] 0
   ·intro γ F;refine w_fn [(0,Y)] (c_tape_New er3) rfl fok_49 kr ?_;rintro _ _ ⟨w2,w2__0,hv,rfl⟩;have hv:=hv.symm;subst hv;exact wE (gl [w2,w2__0]) [(0,Z),(0,Y)] 2
   ·intro γ F;refine w_lt (kd:=Kd.raw) (t:=96) (len:=1) (ps0:=[(0,(γ 6 0))]) (ps:=[(0,.agg #[(γ 6 0)])]) [(γ 6 0)] _ (rowC (x:=(γ 6 0)) (g:=()) (itR (any_one 0 rfl)) row0) (scP 0 rfl sc0) kr ts_96 ti_99 kr rfl rfl (fun v3=>?_)
    refine WI.ent (bxc (kd:=K_tape_Tape) (x:=r3) ((γ 6 1),()) 1 rfl (itC (itA (itS 2 rfl) (it0 rfl)))) ?_;refine WI.ent (tr_one (R:=(boxK K_tape_Tape 160)) (g:=(γ 6 0)) 1 0 rfl rfl) ?_;exact wE (gl [v3]) [(0,Z)] 1
   ·intro γ F;refine w_appT 1 0 rfl rfl el4 kr ts_96 ti_99 rfl (fun v4=>?_);exact wE (gl [v4]) [(0,Z)] 0
   intro γ F;refine Rh ([blkP (bx b2) 98 (pP a.S [c,d,b,iN 0,(γ1 4 0),(th g1)]),I69 (γ 8 0) g1 (γ 6 0) l4]++F) ?_
   refine w_stB (v:=(γ 8 0)) (off:=8) (cs:=[(γ 8 0)]) 0 rfl (cvS (tree_hdI (inP 1 rfl))) kr ti_96 rfl rfl (oC (sl_one (tree_hdI (inP 1 rfl))) oN) ?_;refine WI.hd (y:=blkP (bx b2) 98 (pP a.S [c,d,b,iN 0,(γ1 4 0),(γ 8 0)])) kr ?_;exact wE (gl []) [(0,Z),(0,Z)] 0
  intro γ2;refine Bn (Tn (Rg (w_bi (zinc hk1 hN1) kr (Pp 1 (Ei ?_)))));have h8:=Sj h8;subst h8;exact q_rs (tw (γ2 8 0) ((tg g1)++([(γ2 6 0)]))) hn1 aK (tH [(10,Z),(3,Y),(4,Y),(5,Y),(6,Z),(8,Z),(6,Y)] 8)
 rintro g2 - j;refine Tn (Sg (Pp 3 (Er ?_)));have h4:=Sj h4;subst h4
 exact q_end (l:=[(bx b2),iN 0]) [(0,Z),(0,Y),(1,Y),(2,Y),(3,Z),(3,Z)] 4 (inrP ⟨(bx b2),c,d,b,(tw (γ1 4 0) (List.replicate a.S.N.toNat (.slice none 0 0))),(tw (th g2) (tg g2)),rfl,rfl⟩) (.inl rfl) kr kr kr
theorem c_network_Net_Scenario {a:T_network_Net} {g:Nat} {b c d e f:Value} {r:T_api_Scenario} (h:network_Net_Scenario a=some r):Ct Tryz.prog 52 [(bx g)] [I1 g a.zw.S b c d a.zround e f,rI b a.zw.Corrupt,rD c a.zw.Deviations,rS d a.zw.Tapes,I2 e a.zviews,I0 f a.ztapes] (fun v L=>∃ w0_1 w0_2 w0_3:Value,v=.agg #[uN r.S.P,iV r.S.N,iV r.S.T,w0_1,w0_2,w0_3]∧L=[rI w0_1 r.Corrupt,rD w0_2 r.Deviations,rS w0_3 r.Tapes,I1 g a.zw.S b c d a.zround e f,I2 e a.zviews,I0 f a.ztapes]):=by
 refine ct_intro Tryz.func52 rfl kr (fun F=>?_);unfold network_Net_Scenario at h;refine Sg ?_;refine w_al kr ti_29 (fun q1=>?_);refine WI.hd (y:=I38 q1) kr ?_;refine w_opP 0 rfl (fun b1 hb=>?_);subst hb
 refine Eg (Pp 3 (w_ldB 1 0 rfl kr ti_29 rfl rfl ?_))
 refine w_stB (v:=.agg #[uN a.zw.S.P,iV a.zw.S.N,iV a.zw.S.T,b,c,d]) (off:=0) (cs:=(pP a.zw.S [b,c,d])) 0 rfl (cv0 kr) kr ti_29 rfl rfl (oC (fun _ _=>rfl) (oC (fun _ _=>rfl) (oC (fun _ _=>rfl) (oC (sl_one (rd_hd 2 rfl)) (oC (sl_one (rd_hd 3 rfl)) (oC (sl_one (rd_hd 4 rfl)) oN)))))) ?_
 refine WI.hd (y:=I13 b1 a.zw.S b c d) kr ?_;refine Er ?_;have h:=Option.some.inj h;subst h
 exact q_endc (l:=[.agg #[uN a.zw.S.P,iV a.zw.S.N,iV a.zw.S.T,b,c,d]]) [.blk 0 29 29] [(2,Y),(3,Y),(4,Y),(1,Z),(4,Z),(4,Z)] 4 ⟨b,c,d,rfl,rfl⟩ (.inl rfl) ⟨cellR (p:=(bx b1)) 0 rfl kr ti_29 rfl kr,rfl⟩ kr kr
theorem c_network_Net_Tape {a:T_network_Net} {i:Int} {g:Nat} {d e f c b:Value} {r:Nat} (h:network_Net_Tape a i=some r):Ct Tryz.prog 120 [(bx g),iV i] [I1 g a.zw.S d e f a.zround c b,rI d a.zw.Corrupt,rD e a.zw.Deviations,rS f a.zw.Tapes,I2 c a.zviews,I0 b a.ztapes] (fun v L=>∃ w0:Value,v=w0∧L=[fact ((tg b)[r]?=some w0),I1 g a.zw.S d e f a.zround c b,I2 c a.zviews,I0 b a.ztapes]):=by
 refine ct_intro Tryz.func120 rfl kr (fun F=>?_);unfold network_Net_Tape at h;refine Sg (Pp 1 (Eg (Pp 3 (w_ldB 0 8 rfl kr ti_96 rfl rfl (Pp 1 ?_)))));obtain ⟨x1,ex1,h1⟩:=bnd h;refine w_bi (zsubI ex1) kr ?_;obtain ⟨x2,ex2,h2⟩:=bnd h1;refine w_ix (k:=.i64) (tree_hdI (inP 5 rfl)) (ib ex2) (iz ex2) kr ts_96 ti_99 ?_
 refine w_ldNB (R:=(boxK K_tape_Tape 160)) (inP 5 rfl) (ig ex2) kr ti_99 (fun g1=>?_);refine Pp 1 (Er ?_);have h2:=Sj h2;subst h2;exact q_end (l:=[g1]) [(0,Y),(1,Z),(4,Z),(4,Z)] 4 ⟨g1,rfl,rfl⟩ (.inl rfl) kr kr kr
theorem c_tape_Tape_Remaining {c:T_tape_Tape} {b:Nat} {a:Value} {r:Int} (h:tape_Tape_Remaining c=some r):Ct Tryz.prog 164 [(bx b)] [I58 b a c.zat,rU a c.zwords] (fun v L=>v=iV r∧L=[I58 b a c.zat]):=by
 refine ct_intro Tryz.func164 rfl kr (fun F=>?_);unfold tape_Tape_Remaining at h;refine Sg (Pp 1 (Es ?_));obtain ⟨x1,ex1,h1⟩:=bnd h
 refine h_fm [0,1,3,7,15,0,32,96,224,511,1023] ⟨2,[0,0,0,0,0,0,0,0,0,0,0],[],[(3,[(0,0)]),(8,[(0,0)])],[(4,[(0,1)])]⟩ (fun γ=>[(bx b),(bx b),bx b,a,iN c.zwords.length,(bx b),(bx b),.pointer (some ⟨b,1,none⟩),iV c.zat,iV x1,iV x1]) nO [0,1,2,5,6,7,10] tryz_mix Tb_ok ?_ ?_
 ·refine ⟨?_,?_,?_,?_,trivial⟩
  ·intro γ F;refine w_ldB 0 0 rfl kr ti_60 rfl rfl ?_;exact wE (gl []) [(0,Z)] 0
  ·intro γ F;refine w_len (rd_hd 0 rfl) kr ts_60 ?_;exact wE (gl []) [] 1
  ·intro γ F;refine w_ldB 0 1 rfl kr ti_3 rfl rfl ?_;exact wE (gl []) [(0,Z)] 0
  intro γ F;refine w_bi (zsubI ex1) kr ?_;exact wE (gl []) [] 0
 intro γ1;refine Tn (Wr ?_);have h1:=Sj h1;subst h1;exact Ql [iV x1] [(0,Z)] 1
theorem c_tape_Tape_Take {c:T_tape_Tape} {d:Int} {b:Nat} {a:Value} {r:(List Nat) × Int × Int} (h:tape_Tape_Take c d=some r):Ct Tryz.prog 121 [(bx b),iV d] [I58 b a c.zat,rU a c.zwords] (fun v L=>∃ w0:Value,v=.tuple #[w0,iV r.2.1]∧L=[rU w0 r.1,I58 b a r.2.2]):=by
 refine ct_intro Tryz.func121 rfl kr (fun F=>?_);unfold tape_Tape_Take at h;refine Sg (Pp 2 (Es (Sq ?_)));obtain ⟨x1,ej1,h1⟩:=bnd h;refine h_join (X:=Unit) (fun g=>[(0,(bx b)),(1,iV d),(14,.bool x1)]) (fun g=>[I58 b a c.zat,rU a c.zwords]++F) (fun _=>True) ?_ ?_
 ·refine Rg (Pp 3 ?_);rcases bcase ej1 with ⟨t1,h2⟩ | ⟨t1,h2⟩
  ·refine Kb 9 t1 (Pp 5 (Ei ?_));cases h2;exact q_join () trivial aK (tH [(0,Z),(0,Y)] 1)
  refine Kb 9 t1 (Pp 2 ?_);obtain ⟨r1,er1,h3⟩:=bnd h2;refine Fe [(0,Z),(0,Y)] (c_tape_Tape_Remaining er1) rfl fok_164 ?_;refine Pp 2 (Ei ?_);cases h3;exact q_join () trivial aK (tH [(0,Z),(0,Y)] 1)
 rintro ⟨⟩ - j;refine Tn ?_;rcases bcase h1 with ⟨t2,h4⟩ | ⟨t2,h4⟩
 ·refine Xt t2 (Sg (Pp 2 (Er (Tr ?_))));refine QH.ent (rdNil (kd:=Ku)) ?_;have h4:=Sj h4;subst h4;exact q_end (l:=[(.slice none 0 0),iN 10]) [(0,Y),(1,Z)] 2 ⟨(.slice none 0 0),rfl,rfl⟩ (.inl rfl) kr kr kr
 refine Xs t2 (Tn (Sg (Pp 3 (w_ldB 0 1 rfl kr ti_3 rfl rfl (Pp 1 (Eg (Pp 3 (w_ldB 0 1 rfl kr ti_3 rfl rfl (Pp 1 ?_)))))))));obtain ⟨x2,ex2,h5⟩:=bnd h4;refine w_bi (zaddI ex2) kr (Pp 2 ?_);refine w_stB (v:=iV x2) (off:=1) (cs:=[iV x2]) 0 rfl (cv0 kr) kr ti_3 rfl rfl (oC (fun _ _=>rfl) oN) ?_
 refine WI.hd (y:=I58 b a x2) kr ?_;refine Es ?_;obtain ⟨l1,el1,h6⟩:=bnd h5
 refine h_fm [0,1,3,7,0,0,32,96,224,0,512,1536,3584,8191,16383,32767] ⟨2,[0,0,0,0,0,0,0,0,0,0,0,0,0,2,0,0],[],[(3,[(0,0)]),(8,[(0,0)]),(12,[(0,0)])],[(13,[(0,1)])]⟩ (fun γ=>[(bx b),(bx b),bx b,a,iV c.zat,(bx b),(bx b),.pointer (some ⟨b,1,none⟩),iV x2,(bx b),(bx b),.pointer (some ⟨b,1,none⟩),iV x2,(γ 13 0),(γ 13 0),iN 0]) (fun i γ=>match i with | 13=>[rU (γ 13 0) l1,capV (γ 13 0)] | _=>[]) [0,1,2,4,5,6,7,9,10,11,14,15] tryz_mix Tb_ok ?_ ?_
 ·refine ⟨?_,?_,?_,?_,trivial⟩
  ·intro γ F;refine w_ldB 0 0 rfl kr ti_60 rfl rfl ?_;exact wE (gl []) [(0,Z)] 0
  ·intro γ F;refine w_ldB 0 1 rfl kr ti_3 rfl rfl ?_;exact wE (gl []) [(0,Z)] 0
  ·intro γ F;refine w_ldB 0 1 rfl kr ti_3 rfl rfl ?_;exact wE (gl []) [(0,Z)] 0
  intro γ F;refine w_cut3 (k2:=.i64) (k3:=.i64) 0 rfl el1 (loS (k:=.i64)) kr ts_60 ti_22 (fun v1=>?_);exact wE (gl [v1]) [(0,Y),(1,Y)] 3
 intro γ1;refine Tn (Wr ?_);have h6:=Sj h6;subst h6;exact q_end (l:=[(γ1 13 0),iN 0]) [(2,Y),(0,Z)] 3 ⟨(γ1 13 0),rfl,rfl⟩ (.inl rfl) kr kr kr
theorem c_bivariate_New {a:List Nat} {f:List Nat} {d c:Value} {r:(List (List Nat)) × Int} (h:bivariate_New a f=some r):Ct Tryz.prog 122 [d,c] [rU d a,rU c f] (fun v L=>∃ w0:Value,v=.tuple #[w0,iV r.2]∧L=[I19 w0 r.1]):=by
 refine ct_intro Tryz.func122 rfl kr (fun F=>?_);unfold bivariate_New at h;refine Sg (Pp 2 (Eg (Pp 1 (w_len (rd_hd 0 rfl) kr ts_60 (Pp 1 (Es (Sq ?_)))))));obtain ⟨x1,ej1,h1⟩:=bnd h
 refine h_join (X:=Unit) (fun g=>[(0,d),(1,c),(6,iN a.length),(26,.bool x1)]) (fun g=>[rU d a,rU c f]++F) (fun _=>True) ?_ ?_
 ·refine Rg (Pp 3 ?_);rcases bcase ej1 with ⟨t1,h2⟩ | ⟨t1,h2⟩
  ·refine Kb 17 t1 (Pp 9 (Ei ?_));cases h2;exact q_join () trivial aK (tH [(0,Y),(1,Y)] 2)
  refine Kb 17 t1 (Pp 1 (w_len (rd_hd 1 rfl) kr ts_60 (Pp 2 ?_)));obtain ⟨x2,ex2,h3⟩:=bnd h2;refine w_bi (zsubI ex2) kr ?_;obtain ⟨x3,ex3,h4⟩:=bnd h3;refine w_bi (zmulI ex3) kr ?_;obtain ⟨x4,ex4,h5⟩:=bnd h4;refine w_bi (zdivI ex4) kr (Pp 2 (Ei ?_));cases h5;exact q_join () trivial aK (tH [(0,Y),(1,Y)] 2)
 rintro ⟨⟩ - j;refine Tn ?_;rcases bcase h1 with ⟨t2,h6⟩ | ⟨t2,h6⟩
 ·refine Xt t2 (Sg (Pp 2 (Er (Tr ?_))));refine QH.ent (ownNil (kd:=Ks) (e:=60)) ?_;have h6:=Sj h6;subst h6;exact q_end (l:=[(.slice none 0 0),iN 1]) [(0,Z)] 2 ⟨(.slice none 0 0),rfl,rfl⟩ (.inl rfl) kr kr kr
 refine Xs t2 (Tn (Sg (Pp 1 ?_)));obtain ⟨l1,el1,h7⟩:=bnd h6;refine w_mkT (rowK Ku 22) new_row (kl:=.i64) (kc:=.i64) el1 kr ts_27 ti_60 rfl (fun v1=>?_);refine Pp 1 (Es (Sg (Pp 1 (w_len (tree_hdI (inP 0 rfl)) kr ts_27 (Pp 1 (En ?_))))));refine h_lenle (tree_lenle 0 rfl) (fun hN1=>?_);obtain ⟨l3,elp1,h8⟩:=bnd h7
 refine h_join (X:=Value) (fun g=>[(0,d),(1,c),(6,iN a.length),(7,(th g))]) (fun g=>[rU d a,rU c f,I23 g l3]++F) (fun _=>True) ?_ ?_
 ·refine Wb ?_
  refine h_rs (fun (k1:Nat) (st:(List (List Nat))) (g:Value)=>[(0,d),(1,c),(6,iN a.length),(7,(th g)),(30,iN l1.length),(31,iN k1)]) (fun (k1:Nat) (st:(List (List Nat))) (g:Value)=>[rU d a,rU c f,I23 g st]++F) (tw v1 (List.replicate (a.length:Int).toNat (.slice none 0 0))) elp1 (Nat.zero_le _) aK (tH [(1,Y),(2,Y),(0,Z)] 2) ?_ ?_
  ·rintro g3 j;refine Sg (Pp 1 (Es (Xf (rgF (N:=l1.length)) (We (Te (q_rzX (Be ?_)))))));exact q_join (tw (th g3) (tg g3)) trivial aK (tH [(0,Y),(1,Y),(2,Z)] 2)
  rintro rem k1 l2 g1 o1 hk1 h9 hn1 j;have h9:bivariate_New_L0 a k1 l2=some o1:=h9;unfold bivariate_New_L0 at h9;refine Sg (Pp 1 (Es (Xt (rgT (k:=k1) (N:=l1.length) hk1) (Ws (Tn (Sq (Wb (Sg (Pp 2 (En (Rg (Pp 3 ?_))))))))))));obtain ⟨l4,el4,h10⟩:=bnd h9;refine w_mk (kd:=Ku) (kl:=.i64) (kc:=.i64) () el4 kr ts_60 ti_22 rfl kr (it0 rfl) (fun v2=>?_)
  obtain ⟨x6,ex6,h11⟩:=bnd h10;refine w_ix (k:=.i64) (tree_hdI (inP 3 rfl)) (nbd ex6) rfl kr ts_27 ti_60 ?_;refine WI.row rs_row (inP 3 rfl) ex6 (fun g4 hg1=>?_);refine WI.fact 0 rfl (fun hg2=>?_);refine WI.ent (tr_out 5 rfl hg2 ex6) ?_;obtain ⟨l5,el5,h12⟩:=bnd h11
  refine w_stH (R:=(rowK Ku 22)) (g':=v2) (m:=k1) 4 1 rfl rfl (nbd ex6) (sinj el5) rfl (cvS (own_hd 4 rfl)) (sl_one (own_hd 4 rfl)) kr ti_60 ?_;refine Ei (Bn (Tn (Rg (w_bi (zinc hk1 hN1) kr (Pp 1 (Ei ?_))))));have h12:=Sj h12;subst h12;exact q_rs (tw (th g1) ((tg g1).set k1 v2)) hn1 aK (tH [(4,Y),(5,Y),(0,Z)] 5)
 rintro g2 - j;refine Tn (Sq (Sg (Pp 1 (w_len (rd_hd 0 rfl) kr ts_60 (Pp 1 (En ?_))))));refine h_lenle (rd_lenle 0 rfl) (fun hN2=>?_);obtain ⟨l7,elp2,h13⟩:=bnd h8;refine h_join (X:=Unit) (fun g=>[(1,c),(6,iN a.length),(7,(th g2))]) (fun g=>[rU c f,I23 g2 l7]++F) (fun _=>True) ?_ ?_
 ·refine Wb ?_
  refine h_rs (fun (k2:Nat) (st:(List (List Nat))) (g:Unit)=>[(1,c),(6,iN a.length),(7,(th g2)),(40,d),(41,iN a.length),(42,iN k2)]) (fun (k2:Nat) (st:(List (List Nat))) (g:Unit)=>[rU c f,I23 g2 st,rU d a]++F) () elp2 (Nat.zero_le _) aK (tH [(1,Y),(2,Z),(0,Y)] 2) ?_ ?_
  ·rintro ⟨⟩ j;refine Sg (Pp 1 (Es (Xf (rgF (N:=a.length)) (We (Te (q_rzX (Be ?_)))))));exact q_join () trivial aK (tH [(0,Y),(1,Z)] 2)
  rintro rem k2 l6 ⟨⟩ o2 hk2 h14 hn2 j;have h14:bivariate_New_L1 a k2 l6=some o2:=h14;unfold bivariate_New_L1 at h14;refine Sg (Pp 1 (Es (Xt (rgT (k:=k2) (N:=a.length) hk2) (Ws (Tn (Sq (Wb (Sg (Pp 1 ?_)))))))));obtain ⟨x8,ex8,h15⟩:=bnd h14;refine w_ix (k:=.i64) (rd_hd 2 rfl) (nbd ex8) rfl kr ts_60 ti_22 ?_;refine w_ldR 2 0 rfl ex8 kr ti_22 rfl rfl ?_;rintro _
  refine Pp 2 (En ?_);refine WH.ent (hd_add (tree_hdI (inP 1 rfl))) ?_;obtain ⟨x9,ex9,h16⟩:=bnd h15;obtain ⟨x10,ex10,h17⟩:=bnd h16;obtain ⟨x11,ex11,h18⟩:=bnd h17;obtain ⟨l8,el8,h19⟩:=bnd h18;obtain ⟨l9,el9,h20⟩:=bnd h19;obtain ⟨x12,ex12,h21⟩:=bnd h20;obtain ⟨x13,ex13,h22⟩:=bnd h21;obtain ⟨x14,ex14,h23⟩:=bnd h22;obtain ⟨l10,el10,h24⟩:=bnd h23
  obtain ⟨l11,el11,h25⟩:=bnd h24
  refine h_fm [0,1,3,0,0,0,48,112,0,0,511,1535,4095,8191] ⟨4,[0,0,2,0,0,0,0,2,0,0,0,1,0,1],[(11,[(0,2)]),(13,[(12,0)])],[(2,[(0,2)]),(7,[(0,2)])],[(1,[(0,0)]),(6,[(0,0)]),(10,[(3,1)]),(11,[(3,0)]),(12,[(8,1)]),(13,[(8,0)])]⟩ (fun γ=>[(th g2),.pointer (some (elV (th g2) (0*1))),(γ 2 0),iN k2,(th g2),iN k2,.pointer (some (elV (th g2) (k2*1))),(γ 7 0),uN x8,uN x8,.pointer (some (elV (γ 2 0) (k2*Ku.size))),undef,.pointer (some (elV (γ 7 0) (0*Ku.size))),undef]) (fun i γ=>match i with | 2=>[fact ((tg g2)[0]?=some (γ 2 0)),hdP (γ 2 0) x9.length] | 7=>[fact ((tg g2)[k2]?=some (γ 7 0)),hdP (γ 7 0) x10.length] | 11=>[I23 g2 l9] | 13=>[I23 g2 l11] | _=>[]) [0,3,4,5,8,9] tryz_mix Tb_ok ?_ ?_
  ·refine ⟨?_,?_,?_,?_,?_,?_,?_,?_,trivial⟩
   ·intro γ F;refine w_ix (k:=.i64) (hdI 0 rfl) (nbd ex9) rfl kr ts_27 ti_60 ?_;exact wE (gl []) [] 1
   ·intro γ F;refine w_ldN rs_row (inP 0 rfl) ex9 kr ti_60 (fun g5=>?_);exact wE (gl [g5]) [(0,Y),(1,Y),(2,Z)] 2
   ·intro γ F;refine w_ix (k:=.i64) (hdI 0 rfl) (nbd ex10) rfl kr ts_27 ti_60 ?_;exact wE (gl []) [] 1
   ·intro γ F;refine w_ldN rs_row (inP 0 rfl) ex10 kr ti_60 (fun g6=>?_);exact wE (gl [g6]) [(0,Y),(1,Y),(2,Z)] 2
   ·intro γ F;refine w_ix (k:=.i64) (hdI 0 rfl) (nbd ex11) rfl kr ts_60 ti_22 ?_;exact wE (gl []) [] 1
   ·intro γ F;refine WI.fact 1 rfl (fun hg3=>?_);refine w_stT (kd:=Ku) (w:=uN x8) (m:=0) (k:=k2) (y0:=x8) 0 () rfl hg3 ex9 (nbd ex11) (sinj el8) (sinj el9) kr ti_22 (cv0 kr) (it0 rfl) ?_;exact wE (gl []) [(0,Z)] 1
   ·intro γ F;refine w_ix (k:=.i64) (hdI 0 rfl) (nbd ex12) rfl kr ts_60 ti_22 ?_;exact wE (gl []) [] 1
   intro γ F;refine WI.fact 1 rfl (fun hg4=>?_);refine w_stT (kd:=Ku) (w:=uN x8) (m:=k2) (k:=0) (y0:=x8) 0 () rfl hg4 ex13 (nbd ex14) (sinj el10) (sinj el11) kr ti_22 (cv0 kr) (it0 rfl) ?_;exact wE (gl []) [(0,Z)] 1
  intro γ1;refine Bn (Tn (Rg (w_bi (zinc hk2 hN2) kr (Pp 1 (Ei ?_)))));have h25:=Sj h25;subst h25;exact q_rs () hn2 aK (tH [(1,Y),(7,Z),(2,Y)] 7)
 rintro ⟨⟩ - j;refine Tn (Sq (Sg (Pp 1 (En ?_))));obtain ⟨u1,eu1,h26⟩:=bnd h13;have hN3:=ckN_some eu1;obtain ⟨⟨l14,l15⟩,elp3,h27⟩:=bnd h26;refine h_join (X:=Value × Value) (fun g=>[(7,(th g.2))]) (fun g=>[I23 g.2 l15]++F) (fun _=>True) ?_ ?_
 ·refine Wb ?_
  refine h_rs (fun (k3:Nat) (st:(List Nat) × (List (List Nat))) (g:Value × Value)=>[(1,g.1),(6,iN a.length),(7,(th g.2)),(11,iN k3)]) (fun (k3:Nat) (st:(List Nat) × (List (List Nat))) (g:Value × Value)=>[rU g.1 st.1,I23 g.2 st.2]++F) (c,(tw (th g2) (tg g2))) elp3 (Nat.le_max_left ..) aK (tH [(0,Y),(1,Z)] 1) ?_ ?_
  ·rintro ⟨g11,g12⟩ j;refine Sq (Sg (Pp 3 (En ?_)));refine h_cf (b:=(decide ((((max 1 ((a.length:Int)).toNat):Nat):Int) < (a.length:Int)))) rgLF kr ?_;refine We (Te (q_rzX (Be ?_)));exact q_join ((.slice none 0 0),(tw (th g12) (tg g12))) trivial aK (tH [(1,Z)] 1)
  rintro rem k3 ⟨l12,l13⟩ ⟨g7,g8⟩ o3 hk3 h28 hn3 j;have h28:bivariate_New_L2 a k3 l12 l13=some o3:=h28;unfold bivariate_New_L2 at h28;refine Sq (Sg (Pp 3 (En ?_)));refine h_ct (b:=(decide ((k3:Int) < (a.length:Int)))) (rgLT hk3) kr ?_;refine Ws (Tn (Sq (Wb (Sg (Pp 2 (En ?_))))));obtain ⟨⟨l20,l21⟩,elp4,h29⟩:=bnd h28
  refine h_join (X:=Value × Value) (fun g=>[(1,g.1),(6,iN a.length),(7,(th g.2)),(11,iN k3)]) (fun g=>[rU g.1 l20,I23 g.2 l21]++F) (fun _=>True) ?_ ?_
  ·refine Wb ?_
   refine h_lp (fun (st:(List Nat) × (List (List Nat)) × Int) (g:Value)=>[(1,g),(6,iN a.length),(7,(th g8)),(11,iN k3),(12,iV st.2.2)]) (fun (st:(List Nat) × (List (List Nat)) × Int) (g:Value)=>[rU g st.1,I23 g8 st.2.1]++F) g7 elp4 aK (tH [(0,Y),(1,Z)] 1) ?_
   rintro kk ⟨l16,l17,x16⟩ g13 o4 h30 hn4 j;have h30:bivariate_New_L3 a k3 l16 l17 x16=some o4:=h30;unfold bivariate_New_L3 at h30;refine Sq (Sg (Pp 3 (En ?_)));rcases bcase h30 with ⟨t3,h31⟩ | ⟨t3,h31⟩
   ·refine Xt t3 (Ws (Tn (Sq (Wb (Sq ?_)))));refine WH.ent (hd_add (tree_hdI (inP 1 rfl))) ?_;obtain ⟨x17,ex17,h32⟩:=bnd h31;obtain ⟨x18,ex18,h33⟩:=bnd h32;obtain ⟨x19,ex19,h34⟩:=bnd h33;obtain ⟨x20,ex20,h35⟩:=bnd h34;obtain ⟨l22,el22,h36⟩:=bnd h35;obtain ⟨l23,el23,h37⟩:=bnd h36;obtain ⟨x21,ex21,h38⟩:=bnd h37;obtain ⟨x22,ex22,h39⟩:=bnd h38
    obtain ⟨x23,ex23,h40⟩:=bnd h39;obtain ⟨l24,el24,h41⟩:=bnd h40;obtain ⟨l25,el25,h42⟩:=bnd h41
    refine h_fm [0,0,3,7,0,0,0,96,224,0,0,1024,3072,0,8192,24576,65023,130559,262143,524287] ⟨3,[0,0,0,2,0,0,0,0,2,0,0,0,0,0,0,0,0,1,0,1],[(17,[(0,2)]),(19,[(18,0)])],[(3,[(0,2)]),(8,[(0,2)])],[(2,[(0,0)]),(7,[(0,0)]),(11,[(0,1)]),(12,[(0,1)]),(14,[(0,1)]),(15,[(0,1)]),(16,[(4,1)]),(17,[(4,0)]),(18,[(9,1)]),(19,[(9,0)])]⟩ (fun γ=>[(th g8),iN k3,.pointer (some (elV (th g8) (k3*1))),(γ 3 0),iV x16,(th g8),iV x16,.pointer (some (elV (th g8) (x16.toNat*1))),(γ 8 0),iN k3,g13,.pointer (some (elV g13 (0*Ku.size))),uN x19,g13,.pointer (some (elV g13 (0*Ku.size))),uN x19,.pointer (some (elV (γ 3 0) (x16.toNat*Ku.size))),undef,.pointer (some (elV (γ 8 0) (k3*Ku.size))),undef]) (fun i γ=>match i with | 3=>[fact ((tg g8)[k3]?=some (γ 3 0)),hdP (γ 3 0) x17.length] | 8=>[fact ((tg g8)[x16.toNat]?=some (γ 8 0)),hdP (γ 8 0) x18.length] | 17=>[I23 g8 l23] | 19=>[I23 g8 l25] | _=>[]) [0,1,4,5,6,9,10,13] tryz_mix Tb_ok ?_ ?_
    ·refine ⟨?_,?_,?_,?_,?_,?_,?_,?_,?_,?_,?_,?_,trivial⟩
     ·intro γ F;refine w_ix (k:=.i64) (hdI 0 rfl) (nbd ex17) rfl kr ts_27 ti_60 ?_;exact wE (gl []) [] 1
     ·intro γ F;refine w_ldN rs_row (inP 0 rfl) ex17 kr ti_60 (fun g18=>?_);exact wE (gl [g18]) [(0,Y),(1,Y),(2,Z)] 2
     ·intro γ F;refine w_ix (k:=.i64) (hdI 0 rfl) (ib ex18) (iz ex18) kr ts_27 ti_60 ?_;exact wE (gl []) [] 1
     ·intro γ F;refine w_ldN rs_row (inP 0 rfl) (ig ex18) kr ti_60 (fun g19=>?_);exact wE (gl [g19]) [(0,Y),(1,Y),(2,Z)] 2
     ·intro γ F;refine w_ix (k:=.i64) (rd_hd 0 rfl) (nbd ex19) rfl kr ts_60 ti_22 ?_;exact wE (gl []) [] 1
     ·intro γ F;refine w_ldR 0 0 rfl ex19 kr ti_22 rfl rfl ?_;rintro _;exact wE (gl []) [] 1
     ·intro γ F;refine w_ix (k:=.i64) (rd_hd 0 rfl) (nbd ex19) rfl kr ts_60 ti_22 ?_;exact wE (gl []) [] 1
     ·intro γ F;refine w_ldR 0 0 rfl ex19 kr ti_22 rfl rfl ?_;rintro _;exact wE (gl []) [] 1
     ·intro γ F;refine w_ix (k:=.i64) (hdI 0 rfl) (ib ex20) (iz ex20) kr ts_60 ti_22 ?_;exact wE (gl []) [] 1
     ·intro γ F;refine WI.fact 1 rfl (fun hg5=>?_);refine w_stT (kd:=Ku) (w:=uN x19) (m:=k3) (k:=x16.toNat) (y0:=x19) 0 () rfl hg5 ex17 (ib ex20) (sinj el22) (sinj el23) kr ti_22 (cv0 kr) (it0 rfl) ?_;exact wE (gl []) [(0,Z)] 1
     ·intro γ F;refine w_ix (k:=.i64) (hdI 0 rfl) (nbd ex21) rfl kr ts_60 ti_22 ?_;exact wE (gl []) [] 1
     intro γ F;refine WI.fact 1 rfl (fun hg6=>?_);refine w_stT (kd:=Ku) (w:=uN x19) (m:=x16.toNat) (k:=k3) (y0:=x19) 0 () rfl hg6 (ig ex22) (nbd ex23) (sinj el24) (sinj el25) kr ti_22 (cv0 kr) (it0 rfl) ?_;exact wE (gl []) [(0,Z)] 1
    intro γ2;refine Tn (Rg (Pp 1 ?_));obtain ⟨l26,el26,h43⟩:=bnd h42;refine w_cut 1 rfl el26 (loS (k:=.i64)) hiN kr ts_60 ti_22 (fun v3=>?_);refine Pp 1 (Ei (Bn (Tn (Rg (Pp 1 ?_)))));obtain ⟨x24,ex24,h44⟩:=bnd h43;refine w_bi (zaddI ex24) kr (Pp 1 (Ei ?_));have h44:=Sj h44;subst h44;exact q_go v3 hn4 aK (tH [(0,Y),(7,Z)] 7)
   refine Xf t3 (We (Te ?_));refine q_lpX ?_;refine Be ?_;have h31:=Sj h31;subst h31;cases (show _=_ from hn4);exact q_join (g13,(tw (th g8) (tg g8))) trivial aK (tH [(0,Y),(1,Z)] 1)
  rintro ⟨g16,g17⟩ - j;refine Bn (Tn (Rg (Pp 1 (w_bi (zinc hk3 hN3) kr (Pp 1 (Ei ?_))))));have h29:=Sj h29;subst h29;exact q_rs (g16,(tw (th g17) (tg g17))) hn3 aK (tH [(0,Y),(1,Z)] 1)
 rintro ⟨g9,g10⟩ - j;refine Tn (Sg (Pp 3 (Er ?_)));refine QH.ent (tr_own fz_row 0 rfl) ?_;have h27:=Sj h27;subst h27;exact q_end (l:=[(th g10),iN 0]) [(0,Z)] 0 ⟨(th g10),rfl,rfl⟩ (.inl rfl) kr kr kr
theorem c_vssdeal_phase_choose_1 {w:Int} {a:T_vssdeal_phase} {u b f:Nat} {p q s n c o z d e:Value} {r:(List T_tape_Tape) × T_api_VSSState} (h:vssdeal_phase_choose_1 w a=some r):Ct Tryz.prog 119 [iV w,(bx u)] [I11 u b,I4 b f a.zs.P a.zs.N a.zs.T o z d e,I1 f a.zn.zw.S p q s a.zn.zround n c,rI p a.zn.zw.Corrupt,rD q a.zn.zw.Deviations,rS s a.zn.zw.Tapes,I2 n a.zn.zviews,I0 c a.zn.ztapes,I9 o a.zq,I3 z a.zd.S,I3 d a.zd.Rows,I6 e a.zd.Flags] (fun v L=>∃ w0 w1_0 w1_1 w1_2:Value,v=.tuple #[]∧L=[I1 f a.zn.zw.S p q s a.zn.zround n w0,I2 n a.zn.zviews,I0 w0 r.1,I4 b f a.zs.P a.zs.N a.zs.T o w1_0 w1_1 w1_2,I3 w1_0 r.2.S,I3 w1_1 r.2.Rows,I6 w1_2 r.2.Flags,I11 u b]):=by
 refine ct_intro Tryz.func119 rfl kr (fun F=>?_);unfold vssdeal_phase_choose_1 at h;refine Sg (w_ldB 0 0 rfl kr ti_117 rfl rfl (Pp 2 (w_ldB 1 4 rfl kr ti_30 rfl rfl (Pp 1 ?_))));obtain ⟨x1,ex1,h1⟩:=bnd h;refine w_ix (k:=.i64) (rd_hd 8 rfl) (ib ex1) (iz ex1) kr ts_30 ti_27 ?_;refine w_ldR 8 0 rfl (ig ex1) kr ti_27 rfl rfl ?_;rintro v1;refine w_len (rd_hd 0 rfl) kr ts_27 (Pp 1 (En ?_))
 refine h_lenle (rd_lenle 0 rfl) (fun hN1=>?_);obtain ⟨⟨l3,l4⟩,elp1,h2⟩:=bnd h1
 refine h_join (X:=Value) (fun g=>[]) (fun g=>[I11 u b,I4 b f a.zs.P a.zs.N a.zs.T o g d e,I1 f a.zn.zw.S p q s a.zn.zround n c,rI p a.zn.zw.Corrupt,rD q a.zn.zw.Deviations,rS s a.zn.zw.Tapes,I2 n a.zn.zviews,I0 c l3,I9 o a.zq,I3 g l4,I3 d a.zd.Rows,I6 e a.zd.Flags]++F) (fun _=>True) ?_ ?_
 ·refine Wb ?_
  refine h_rs (fun (k1:Nat) (st:(List T_tape_Tape) × (List (List (List (List Nat))))) (g:Value)=>[(0,iV w),(1,(bx u)),(15,v1),(16,iN x1.length),(17,iN k1)]) (fun (k1:Nat) (st:(List T_tape_Tape) × (List (List (List (List Nat))))) (g:Value)=>[I11 u b,I4 b f a.zs.P a.zs.N a.zs.T o g d e,I1 f a.zn.zw.S p q s a.zn.zround n c,rI p a.zn.zw.Corrupt,rD q a.zn.zw.Deviations,rS s a.zn.zw.Tapes,I2 n a.zn.zviews,I0 c st.1,I9 o a.zq,I3 g st.2,I3 d a.zd.Rows,I6 e a.zd.Flags,rS v1 x1]++F) (tw (th z) (tg z)) elp1 (Nat.zero_le _) aK (tH [(1,Z),(1,Z),(1,Z),(1,Y),(2,Y),(3,Y),(4,Z),(4,Z),(4,Y),(5,Z),(5,Z),(5,Z),(0,Y)] 5) ?_ ?_
  ·rintro g3 j;refine Sg (Pp 1 (Es (Xf (rgF (N:=x1.length)) (We (Te (q_rzX (Be ?_)))))));exact q_join (tw (th g3) (tg g3)) trivial aK (tH [(0,Z),(0,Z),(0,Z),(0,Y),(1,Y),(2,Y),(3,Z),(3,Z),(3,Y),(4,Z),(4,Z),(4,Z)] 5)
  rintro rem k1 ⟨l1,l2⟩ g1 o1 hk1 h3 hn1 j;have h3:vssdeal_phase_choose_1_L0 w a x1 k1 l1 l2=some o1:=h3;unfold vssdeal_phase_choose_1_L0 at h3;refine Sg (Pp 1 (Es (Xt (rgT (k:=k1) (N:=x1.length) hk1) (Ws (Tn (Sq (Wb (Sg ?_))))))));obtain ⟨x3,ex3,h4⟩:=bnd h3;refine w_ix (k:=.i64) (rd_hd 12 rfl) (nbd ex3) rfl kr ts_27 ti_60 ?_;refine w_ldR 12 0 rfl ex3 kr ti_60 rfl rfl ?_
  rintro v2;refine Pp 1 (Es ?_);refine WH.ent (hd_add (tree_hdI (inP 7 rfl))) ?_;refine WH.ent (hd_add (tree_hdI (inP 9 rfl))) ?_;refine WH.ent (hd_add (tree_hdI (inP 12 rfl))) ?_;refine WH.ent (hd_add (tree_hdI (inP 14 rfl))) ?_;refine WH.ent (hd_add (tree_hdI (inP 16 rfl))) ?_;obtain ⟨x4,ex4,h5⟩:=bnd h4;obtain ⟨r2,er2,h6⟩:=bnd h5;obtain ⟨x5,ex5,h7⟩:=bnd h6
  obtain ⟨x6,ex6,h8⟩:=bnd h7;obtain ⟨x7,ex7,h9⟩:=bnd h8;obtain ⟨x8,ex8,h10⟩:=bnd h9;obtain ⟨r3,er3,h11⟩:=bnd h10;obtain ⟨l5,el5,h12⟩:=bnd h11
  refine h_fm [0,1,3,7,0,16,63,0,128,384,896,1920,0,4096,12288,28672,61440,126976,262016,524160,1048575,2097151,4194303,4194303,8388607,33554431] ⟨19,[0,0,0,0,0,0,1,0,0,0,0,0,0,0,0,0,0,0,0,0,3,0,0,0,0,0],[(20,[(0,13)])],[(0,[(0,6)]),(3,[(0,7)]),(6,[(0,8),(0,12),(0,13)]),(7,[(0,6)]),(11,[(0,7)]),(12,[(0,6)]),(16,[(0,7)])],[(6,[(0,9),(0,10),(0,11)]),(20,[(7,0)])]⟩ (fun γ=>[(bx b),(bx b),bx b,(bx f),iV w,iV x4,(γ 6 0),(bx b),(bx b),.pointer (some ⟨b,1,none⟩),.pointer (some ⟨b,3,none⟩),iV a.zs.T,(bx b),(bx b),.pointer (some ⟨b,1,none⟩),.pointer (some ⟨b,3,none⟩),iV a.zs.T,iV x5,iV x6,iV x7,.tuple #[(γ 20 1),iV r3.2.1],.tuple #[(γ 20 1),iV r3.2.1],(γ 20 1),iV r3.2.1,(γ 20 1),iV r3.2.1]) (fun i γ=>match i with | 6=>[fact ((tg c)[r2]?=some (γ 6 0))] | 20=>[I0 c l5,rU (γ 20 1) r3.1,rU (γ 20 0) x8.zwords] | _=>[]) [1,2,4,8,9,10,13,14,15,21,22,23,24,25] tryz_mix Tb_ok ?_ ?_
  ·refine ⟨?_,?_,?_,?_,?_,?_,?_,?_,?_,?_,?_,?_,trivial⟩
   ·intro γ F;refine w_ldB 0 0 rfl kr ti_117 rfl rfl ?_;exact wE (gl []) [(0,Z)] 0
   ·intro γ F;refine w_ldB 0 0 rfl kr ti_35 rfl rfl ?_;exact wE (gl []) [(0,Z)] 0
   ·intro γ F;refine w_bi (zaddI ex4) kr ?_;exact wE (gl []) [] 0
   ·intro γ F
    refine Rh ([I1 f a.zn.zw.S p q s a.zn.zround n c,I2 n a.zn.zviews,I0 c l1,rI p a.zn.zw.Corrupt,rD q a.zn.zw.Deviations,rS s a.zn.zw.Tapes]++F) ?_
    refine Fx [(0,Z),(2,Y),(3,Y),(4,Y),(0,Z),(0,Z)] (c_network_Net_Tape er2) rfl fok_120 (fun w1=>?_);exact wE (gl [w1]) [(0,Y),(1,Z),(1,Z),(1,Z)] 4
   ·intro γ F;refine w_ldB 0 0 rfl kr ti_117 rfl rfl ?_;exact wE (gl []) [(0,Z)] 0
   ·intro γ F;refine w_ldB 0 3 rfl kr ti_3 rfl rfl ?_;exact wE (gl []) [(0,Z)] 0
   ·intro γ F;refine w_ldB 0 0 rfl kr ti_117 rfl rfl ?_;exact wE (gl []) [(0,Z)] 0
   ·intro γ F;refine w_ldB 0 3 rfl kr ti_3 rfl rfl ?_;exact wE (gl []) [(0,Z)] 0
   ·intro γ F;refine w_bi (zaddI ex5) kr ?_;exact wE (gl []) [] 0
   ·intro γ F;refine w_bi (zmulI ex6) kr ?_;exact wE (gl []) [] 0
   ·intro γ F;refine w_bi (zdivI ex7) kr ?_;exact wE (gl []) [] 0
   intro γ F;refine WI.fact 1 rfl (fun hg1=>?_);refine WI.ent (tr_out 0 rfl hg1 ex8) ?_;refine WI.bxo 0 rfl ?_;rintro ⟨v3,_⟩;refine w_opS 28 1 kr rfl (fun b1 hb1=>?_);refine Fx [(0,Z),(0,Y)] (c_tape_Tape_Take er3) rfl fok_121 (fun w2=>?_)
   refine WI.ent (bxc (kd:=K_tape_Tape) (x:=(⟨x8.zwords,r3.2.2⟩:T_tape_Tape)) (v3,()) 1 rfl (itC (itA (itS 2 rfl) (it0 rfl)))) ?_;refine WI.hd (y:=boxV K_tape_Tape 160 (γ 6 0) (⟨x8.zwords,r3.2.2⟩:T_tape_Tape)) (by rw [hb1]) ?_;refine WI.fact 4 rfl (fun hg2=>?_);refine WI.ent (tr_in1 (R:=(boxK K_tape_Tape 160)) 0 2 rfl rfl hg2 (sinj el5)) ?_
   exact wE (gl [v3,w2]) [(0,Z),(0,Y),(1,Y)] 3
  intro γ1;refine Tn (Sg (Pp 2 ?_));obtain ⟨r4,er4,h13⟩:=bnd h12
  refine Rh ([I20 e a.zd.Flags.length,I20 d a.zd.Rows.length,I20 g1 l2.length,I20 c l1.length,I20 n a.zn.zviews.length,rU v2 x3,I11 u b,I4 b f a.zs.P a.zs.N a.zs.T o g1 d e,I1 f a.zn.zw.S p q s a.zn.zround n c,rI p a.zn.zw.Corrupt,rD q a.zn.zw.Deviations,rS s a.zn.zw.Tapes,I2 n a.zn.zviews,I9 o a.zq,I3 g1 l2,I3 d a.zd.Rows,I6 e a.zd.Flags,rS v1 x1,fact ((tg c)[r2]?=some (γ1 6 0)),I0 c l5,rU (γ1 20 1) r3.1,rU (γ1 20 0) x8.zwords]++F) ?_
  refine Fx [(5,Y),(20,Y)] (c_bivariate_New er4) rfl fok_122 (fun w5=>?_);refine Pp 5 (En ?_);refine WH.ent (frzAt 0 rfl) ?_;obtain ⟨x9,ex9,h14⟩:=bnd h13;refine WH.ent (hd_add (tree_hdI (inP 13 rfl))) ?_;refine WH.ent (hd_add (tree_hdI (inP 16 rfl))) ?_;refine WH.ent (hd_add (tree_hdI (inP 18 rfl))) ?_;refine WH.ent (hd_add (tree_hdI (inP 20 rfl))) ?_
  refine WH.ent (hd_add (tree_hdI (inP 24 rfl))) ?_;refine WH.row rs_row (inP 20 rfl) (ig ex9) (fun g4 hg3=>?_);refine WH.fact 0 rfl (fun hg4=>?_);refine WH.ent (tr_out 22 rfl hg4 (ig ex9)) ?_;obtain ⟨l6,el6,h15⟩:=bnd h14;obtain ⟨l7,el7,h16⟩:=bnd h15
  refine h_fm [0,1,3,7,15,0,0,64,192,448,960,0,4032,8128,0,16384,65472,131071,262143] ⟨31,[0,0,0,0,0,0,0,0,0,0,0,0,0,0,0,1,1,0,1],[(16,[(0,0)]),(18,[(17,0),(0,1)])],[(0,[(0,16)]),(4,[(0,17)]),(6,[(0,16)]),(10,[(0,17)]),(13,[(0,1)]),(16,[(16,0),(0,1)])],[(12,[(0,7)]),(13,[(0,2)]),(15,[(0,9)]),(17,[(0,7)])]⟩ (fun γ=>[(bx b),(bx b),.pointer (some ⟨b,5,none⟩),.pointer (some ⟨b,5,none⟩),(th g1),iV w,(bx b),(bx b),.pointer (some ⟨b,5,none⟩),.pointer (some ⟨b,5,none⟩),(th g1),iV w,.pointer (some (elV (th g1) (w.toNat*1))),g4,w5,(γ 15 0),(γ 16 0),.pointer (some (elV (th g1) (w.toNat*1))),undef]) (fun i γ=>match i with | 15=>[I34 (γ 15 0) r4.1] | 16=>[I12 (γ 16 0) l6] | 18=>[I60 g1 w.toNat (γ 16 0) l7] | _=>[]) [1,2,3,5,7,8,9,11,14] tryz_mix Tb_ok ?_ ?_
  ·refine ⟨?_,?_,?_,?_,?_,?_,?_,?_,?_,?_,trivial⟩
   ·intro γ F;refine w_ldB 0 0 rfl kr ti_117 rfl rfl ?_;exact wE (gl []) [(0,Z)] 0
   ·intro γ F;refine w_ldB 0 5 rfl kr ti_42 rfl rfl ?_;exact wE (gl []) [(0,Z)] 0
   ·intro γ F;refine w_ldB 0 0 rfl kr ti_117 rfl rfl ?_;exact wE (gl []) [(0,Z)] 0
   ·intro γ F;refine w_ldB 0 5 rfl kr ti_42 rfl rfl ?_;exact wE (gl []) [(0,Z)] 0
   ·intro γ F;refine w_ix (k:=.i64) (hdI 0 rfl) (ib ex9) (iz ex9) kr ts_42 ti_30 ?_;exact wE (gl []) [] 1
   ·intro γ F;refine WI.fact 1 rfl (fun hg5=>?_);refine w_ldG (m:=w.toNat) (hOut (inP 0 rfl)) hg5 kr ti_30 ?_;exact wE (gl []) [(0,Z)] 1
   ·intro γ F;refine w_lt (kd:=(Kd.sl Ks)) (t:=30) (len:=1) (ps0:=[(0,w5)]) (ps:=[(0,.agg #[w5])]) ([r4.1]:List (List (List Nat))) _ (rowC (x:=r4.1) (g:=w5) (itS 0 rfl) row0) (scS (rd_hd 0 rfl) sc0) kr ts_30 ti_27 kr rfl rfl (fun v4=>?_);exact wE (gl [v4]) [(0,Z)] 1
   ·intro γ F;refine w_app 0 rfl (own_src 1 rfl) el6 kr ts_30 ti_27 rfl (fun v5=>?_);exact wE (gl [v5]) [(0,Z),(0,Z),(0,Z)] 0
   ·intro γ F;refine w_ix (k:=.i64) (hdI 0 rfl) (ib ex9) (iz ex9) kr ts_42 ti_30 ?_;exact wE (gl []) [] 1
   intro γ F;refine w_stH (R:=(rowK (Kd.sl Ks) 27)) (g':=(γ 16 0)) (m:=w.toNat) 0 0 rfl rfl (ib ex9) (sinj el7) rfl (cvS (own_hd 0 rfl)) (sl_one (own_hd 0 rfl)) kr ti_30 ?_;exact wE (gl []) [(0,Z)] 0
  intro γ2;refine Bn (Tn (Rg (w_bi (zinc hk1 hN1) kr (Pp 1 (Ei ?_)))));have h16:=Sj h16;subst h16;exact q_rs (tw (th g1) ((tg g1).set w.toNat (γ2 16 0))) hn1 aK (tH [(14,Z),(14,Z),(14,Z),(14,Y),(15,Y),(16,Y),(17,Z),(22,Z),(17,Y),(25,Z),(18,Z),(18,Z),(18,Y)] 23)
 rintro g2 - j;have h2:=Sj h2;subst h2;exact q_end (l:=[]) [(2,Z),(5,Z),(5,Z),(1,Z),(5,Z),(5,Z),(5,Z),(0,Z)] 4 ⟨(tw (th c) (tg c)),(tw (th g2) (tg g2)),(tw (th d) (tg d)),(tw (th e) (tg e)),rfl,rfl⟩ (.inr rfl) kr kr kr
theorem c_vssdeal_phase_each_vssdeal_phase_choose_1_al {a:T_vssdeal_phase} {n d:Nat} {f i k e o m p q s:Value} {c:Nat} {r:(List T_tape_Tape) × T_api_VSSState} (h:vssdeal_phase_each_vssdeal_phase_choose_1_al a=some r):Ct Tryz.prog 118 [(bx n),.func (.func 119) #[] #[(bx c)]] [I4 n d a.zs.P a.zs.N a.zs.T m p q s,I1 d a.zn.zw.S f i k a.zn.zround e o,rI f a.zn.zw.Corrupt,rD i a.zn.zw.Deviations,rS k a.zn.zw.Tapes,I2 e a.zn.zviews,I0 o a.zn.ztapes,I9 m a.zq,I3 p a.zd.S,I3 q a.zd.Rows,I6 s a.zd.Flags,I11 c n] (fun v L=>∃ w0 w1_0 w1_1 w1_2:Value,v=.tuple #[]∧L=[I1 d a.zn.zw.S f i k a.zn.zround e w0,I2 e a.zn.zviews,I0 w0 r.1,I4 n d a.zs.P a.zs.N a.zs.T m w1_0 w1_1 w1_2,I3 w1_0 r.2.S,I3 w1_1 r.2.Rows,I6 w1_2 r.2.Flags,I11 c n]):=by
 refine ct_intro Tryz.func118 rfl kr (fun F=>?_);unfold vssdeal_phase_each_vssdeal_phase_choose_1_al at h;refine Sg (Pp 4 (w_ldB 0 2 rfl kr ti_3 rfl rfl (Pp 1 (En ?_))));obtain ⟨u1,eu1,h1⟩:=bnd h;have hN1:=ckN_some eu1;obtain ⟨⟨l5,l6,l7,l8⟩,elp1,h2⟩:=bnd h1
 refine h_join (X:=Value × Value × Value × Value) (fun g=>[]) (fun g=>[I11 c n,I4 n d a.zs.P a.zs.N a.zs.T m g.2.1 g.2.2.1 g.2.2.2,I1 d a.zn.zw.S f i k a.zn.zround e g.1,rI f a.zn.zw.Corrupt,rD i a.zn.zw.Deviations,rS k a.zn.zw.Tapes,I2 e a.zn.zviews,I0 g.1 l5,I9 m a.zq,I3 g.2.1 l6,I3 g.2.2.1 l7,I6 g.2.2.2 l8]++F) (fun _=>True) ?_ ?_
 ·refine Wb ?_
  refine h_rs (fun (k1:Nat) (st:(List T_tape_Tape) × (List (List (List (List Nat)))) × (List (List (List (List Nat)))) × (List (List (List Nat)))) (g:Value × Value × Value × Value)=>[(1,.func (.func 119) #[] #[(bx c)]),(9,iV a.zs.N),(10,iN k1)]) (fun (k1:Nat) (st:(List T_tape_Tape) × (List (List (List (List Nat)))) × (List (List (List (List Nat)))) × (List (List (List Nat)))) (g:Value × Value × Value × Value)=>[I11 c n,I4 n d a.zs.P a.zs.N a.zs.T m g.2.1 g.2.2.1 g.2.2.2,I1 d a.zn.zw.S f i k a.zn.zround e g.1,rI f a.zn.zw.Corrupt,rD i a.zn.zw.Deviations,rS k a.zn.zw.Tapes,I2 e a.zn.zviews,I0 g.1 st.1,I9 m a.zq,I3 g.2.1 st.2.1,I3 g.2.2.1 st.2.2.1,I6 g.2.2.2 st.2.2.2]++F) ((tw (th o) (tg o)),(tw (th p) (tg p)),(tw (th q) (tg q)),(tw (th s) (tg s))) elp1 (Nat.le_max_left ..) aK (tH [(11,Z),(0,Z),(0,Z),(0,Y),(1,Y),(2,Y),(3,Z),(3,Z),(3,Y),(4,Z),(4,Z),(4,Z)] 4) ?_ ?_
  ·rintro ⟨g9,g10,g11,g12⟩ j;refine Sg (Pp 1 (Es ?_));refine h_cf (b:=(decide ((((max 0 (a.zs.N).toNat):Nat):Int) < a.zs.N))) rgLF kr ?_;refine We (Te (q_rzX (Be ?_)))
   exact q_join ((tw (th g9) (tg g9)),(tw (th g10) (tg g10)),(tw (th g11) (tg g11)),(tw (th g12) (tg g12))) trivial aK (tH [(0,Z),(0,Z),(0,Z),(0,Y),(1,Y),(2,Y),(3,Z),(3,Z),(3,Y),(4,Z),(4,Z),(4,Z)] 4)
  rintro rem k1 ⟨l1,l2,l3,l4⟩ ⟨g1,g2,g3,g4⟩ o1 hk1 h3 hn1 j;have h3:vssdeal_phase_each_vssdeal_phase_choose_1_al_L0 a k1 l1 l2 l3 l4=some o1:=h3;unfold vssdeal_phase_each_vssdeal_phase_choose_1_al_L0 at h3;refine Sg (Pp 1 (Es ?_));refine h_ct (b:=(decide ((k1:Int) < a.zs.N))) (rgLT hk1) kr ?_;refine Ws (Tn (Sq (Wb (Sg (Pp 2 (En (Rg (Pp 2 ?_))))))))
  obtain ⟨r2,er2,h4⟩:=bnd h3;refine w_fn [(0,Z),(0,Z),(0,Z),(0,Y),(1,Y),(2,Y),(3,Z),(3,Z),(3,Y),(4,Z),(4,Z),(4,Z)] (c_vssdeal_phase_choose_1 er2) rfl fok_119 kr ?_;rintro _ _ ⟨w1,w2_0,w2_1,w2_2,hv,rfl⟩;have hv:=hv.symm;subst hv;refine Ei (Bn (Tn (Rg (w_bi (zinc hk1 hN1) kr (Pp 1 (Ei ?_))))));have h4:=Sj h4;subst h4
  exact q_rs ((tw (th w1) (tg w1)),(tw (th w2_0) (tg w2_0)),(tw (th w2_1) (tg w2_1)),(tw (th w2_2) (tg w2_2))) hn1 aK (tH [(7,Z),(3,Z),(0,Z),(5,Y),(6,Y),(7,Y),(0,Z),(0,Z),(6,Y),(0,Z),(0,Z),(0,Z)] 4)
 rintro ⟨g5,g6,g7,g8⟩ - j;have h2:=Sj h2;subst h2;exact q_end (l:=[]) [(2,Z),(5,Z),(5,Z),(1,Z),(5,Z),(5,Z),(5,Z),(0,Z)] 4 ⟨(tw (th g5) (tg g5)),(tw (th g6) (tg g6)),(tw (th g7) (tg g7)),(tw (th g8) (tg g8)),rfl,rfl⟩ (.inr rfl) kr kr kr
theorem c_vssdeal_phase_choose {a:T_vssdeal_phase} {d b:Nat} {e f g c j i k m n:Value} {r:(List T_tape_Tape) × T_api_VSSState} (h:vssdeal_phase_choose a=some r):Ct Tryz.prog 62 [(bx d)] [I4 d b a.zs.P a.zs.N a.zs.T i k m n,I1 b a.zn.zw.S e f g a.zn.zround c j,rI e a.zn.zw.Corrupt,rD f a.zn.zw.Deviations,rS g a.zn.zw.Tapes,I2 c a.zn.zviews,I0 j a.zn.ztapes,I9 i a.zq,I3 k a.zd.S,I3 m a.zd.Rows,I6 n a.zd.Flags] (fun v L=>∃ w0 w1_0 w1_1 w1_2:Value,v=.tuple #[]∧L=[I1 b a.zn.zw.S e f g a.zn.zround c w0,I2 c a.zn.zviews,I0 w0 r.1,I4 d b a.zs.P a.zs.N a.zs.T i w1_0 w1_1 w1_2,I3 w1_0 r.2.S,I3 w1_1 r.2.Rows,I6 w1_2 r.2.Flags]):=by
 refine ct_intro Tryz.func62 rfl kr (fun F=>?_);unfold vssdeal_phase_choose at h;refine Sg ?_;refine w_box (t:=117) (v:=(bx d)) (cs:=[(bx d)]) (cv0 kr) kr (fun q1=>?_);refine WI.hd (y:=blkP q1 117 [(bx d)]) kr ?_;refine w_opP 0 rfl (fun b1 hb=>?_);subst hb
 refine En (Rg (w_ldB 0 0 rfl kr ti_117 rfl rfl (Pp 1 ?_)));obtain ⟨r1,er1,h1⟩:=bnd h;refine w_fn [(1,Z),(1,Z),(1,Y),(2,Y),(3,Y),(4,Z),(4,Z),(4,Y),(5,Z),(5,Z),(5,Z),(0,Z)] (c_vssdeal_phase_each_vssdeal_phase_choose_1_al er1) rfl fok_118 kr ?_;rintro _ _ ⟨w1,w2_0,w2_1,w2_2,hv,rfl⟩;have hv:=hv.symm;subst hv;refine Ei ?_
 have h1:=Sj h1;subst h1;exact q_end (l:=[]) [(0,Z),(0,Z),(0,Z),(0,Z),(0,Z),(0,Z),(0,Z)] 5 ⟨(tw (th w1) (tg w1)),(tw (th w2_0) (tg w2_0)),(tw (th w2_1) (tg w2_1)),(tw (th w2_2) (tg w2_2)),rfl,rfl⟩ (.inr rfl) kr kr kr
theorem c_math_bits_Mul64 {a b:Nat} {r:Nat × Nat} (h:math_bits_Mul64 a b=some r):Ct Tryz.prog 174 [uN a,uN b] [] (fun v L=>v=.tuple #[uN r.1,uN r.2]∧L=[]):=by
 refine ct_intro Tryz.func174 rfl kr (fun F=>?_);unfold math_bits_Mul64 at h;refine Sg (Pp 2 (Eg (Pp 1 ?_)));obtain ⟨x1,ex1,h1⟩:=bnd h;refine w_bi (eandU ex1) kr (Pp 1 (Eg (Pp 1 ?_)));obtain ⟨x2,ex2,h2⟩:=bnd h1;refine w_sh (yk:=.u64) (.inr rfl) (zshr ex2) kr ?_;refine Pp 1 (Eg (Pp 1 ?_));obtain ⟨x3,ex3,h3⟩:=bnd h2;refine w_bi (eandU ex3) kr (Pp 1 (Eg (Pp 1 ?_)))
 obtain ⟨x4,ex4,h4⟩:=bnd h3;refine w_sh (yk:=.u64) (.inr rfl) (zshr ex4) kr ?_;refine Pp 1 (Eg (Pp 2 ?_));obtain ⟨x5,ex5,h5⟩:=bnd h4;refine w_bi (emulU ex5) kr (Pp 1 (Eg (Pp 2 ?_)));obtain ⟨x6,ex6,h6⟩:=bnd h5;refine w_bi (emulU ex6) kr (Pp 1 ?_);obtain ⟨x7,ex7,h7⟩:=bnd h6;refine w_sh (yk:=.u64) (.inr rfl) (zshr ex7) kr ?_;obtain ⟨x8,ex8,h8⟩:=bnd h7
 refine w_bi (eaddU ex8) kr (Pp 1 (Eg (Pp 1 ?_)));obtain ⟨x9,ex9,h9⟩:=bnd h8;refine w_bi (eandU ex9) kr (Pp 1 (Eg (Pp 1 ?_)));obtain ⟨x10,ex10,h10⟩:=bnd h9;refine w_sh (yk:=.u64) (.inr rfl) (zshr ex10) kr ?_;refine Pp 1 (Eg (Pp 3 ?_));obtain ⟨x11,ex11,h11⟩:=bnd h10;refine w_bi (emulU ex11) kr ?_;obtain ⟨x12,ex12,h12⟩:=bnd h11;refine w_bi (eaddU ex12) kr (Pp 1 (Eg (Pp 2 ?_)))
 obtain ⟨x13,ex13,h13⟩:=bnd h12;refine w_bi (emulU ex13) kr (Pp 1 ?_);obtain ⟨x14,ex14,h14⟩:=bnd h13;refine w_bi (eaddU ex14) kr (Pp 1 ?_);obtain ⟨x15,ex15,h15⟩:=bnd h14;refine w_sh (yk:=.u64) (.inr rfl) (zshr ex15) kr ?_;obtain ⟨x16,ex16,h16⟩:=bnd h15;refine w_bi (eaddU ex16) kr (Pp 1 (Eg (Pp 2 ?_)));obtain ⟨x17,ex17,h17⟩:=bnd h16;refine w_bi (emulU ex17) kr (Pp 1 (Er ?_))
 have h17:=Sj h17;subst h17;exact Ql [uN x16,uN x17] [] 0
theorem c_math_bits_Len64 {a:Nat} {r:Int} (h:math_bits_Len64 a=some r):Ct Tryz.prog 187 [uN a] [] (fun v L=>v=iV r∧L=[]):=by
 refine ct_intro Tryz.func187 rfl kr (fun F=>?_);unfold math_bits_Len64 at h;rcases bcase h with ⟨t1,h1⟩ | ⟨t1,h1⟩
 ·have hq:=eq_of_beq t1;subst hq;refine Sg (Pp 1 (Es (Sg (Pp 2 (En ?_)))));refine h_cf (b:=false) rfl kr ?_;refine Ws (Tn (Sq (Sg (Pp 2 (En ?_)))));refine h_cf (b:=false) rfl kr ?_;refine Ws (Tn (Sq (Sg (Pp 2 (En ?_)))));refine h_cf (b:=false) rfl kr ?_;refine Ws (Tn (Sg (Pp 2 ?_)));refine w_run (v:=.int .u8 ((31:Nat):Int)) (fun w=>by kernel_rfl) ?_
  refine w_run (v:=.int .u8 ((5:Nat):Int)) (fun w=>by kernel_rfl) ?_;refine w_run (v:=iN 5) (fun w=>by kernel_rfl) ?_;refine w_run (v:=iN 5) (fun w=>by kernel_rfl) ?_;refine Pp 1 (Er ?_);have h1:=Sj h1;subst h1;exact Ql [iN 5] [] 0
 rcases bcase h1 with ⟨t2,h2⟩ | ⟨t2,h2⟩
 ·have hq:=eq_of_beq t2;subst hq;refine Sg (Pp 1 (Es (Sg (Pp 2 (En ?_)))));refine h_cf (b:=false) rfl kr ?_;refine Ws (Tn (Sq (Sg (Pp 2 (En ?_)))));refine h_cf (b:=false) rfl kr ?_;refine Ws (Tn (Sq (Sg (Pp 2 (En ?_)))));refine h_cf (b:=false) rfl kr ?_;refine Ws (Tn (Sg (Pp 2 ?_)));refine w_run (v:=.int .u8 ((127:Nat):Int)) (fun w=>by kernel_rfl) ?_
  refine w_run (v:=.int .u8 ((7:Nat):Int)) (fun w=>by kernel_rfl) ?_;refine w_run (v:=iN 7) (fun w=>by kernel_rfl) ?_;refine w_run (v:=iN 7) (fun w=>by kernel_rfl) ?_;refine Pp 1 (Er ?_);have h2:=Sj h2;subst h2;exact Ql [iN 7] [] 0
 rcases bcase h2 with ⟨t3,h3⟩ | ⟨t3,h3⟩
 ·have hq:=eq_of_beq t3;subst hq;refine Sg (Pp 1 (Es (Sg (Pp 2 (En ?_)))));refine h_cf (b:=false) rfl kr ?_;refine Ws (Tn (Sq (Sg (Pp 2 (En ?_)))));refine h_cf (b:=false) rfl kr ?_;refine Ws (Tn (Sq (Sg (Pp 2 (En ?_)))));refine h_ct (b:=true) rfl kr ?_;refine Sg (Pp 1 ?_);refine w_run (v:=uN 31) (fun w=>by kernel_rfl) ?_;refine Pp 1 (En (Rg (Pp 1 ?_)))
  refine w_run (v:=iN 8) (fun w=>by kernel_rfl) ?_;refine Pp 1 (Eg (Pp 2 ?_));refine w_run (v:=.int .u8 ((31:Nat):Int)) (fun w=>by kernel_rfl) ?_;refine w_run (v:=.int .u8 ((5:Nat):Int)) (fun w=>by kernel_rfl) ?_;refine w_run (v:=iN 5) (fun w=>by kernel_rfl) ?_
  refine w_run (v:=iN 13) (fun w=>by kernel_rfl) ?_;refine Pp 1 (Er ?_);have h3:=Sj h3;subst h3;exact Ql [iN 13] [] 0
 rcases bcase h3 with ⟨t4,h4⟩ | ⟨t4,h4⟩
 ·have hq:=eq_of_beq t4;subst hq;refine Sg (Pp 1 (Es (Sg (Pp 2 (En ?_)))));refine h_cf (b:=false) rfl kr ?_;refine Ws (Tn (Sq (Sg (Pp 2 (En ?_)))));refine h_ct (b:=true) rfl kr ?_;refine Sg (Pp 1 ?_);refine w_run (v:=uN 1) (fun w=>by kernel_rfl) ?_;refine Pp 1 (En (Rg (Pp 1 ?_)));refine w_run (v:=iN 16) (fun w=>by kernel_rfl) ?_
  refine Pp 1 (Es (Sg (Pp 2 (En ?_))));refine h_cf (b:=false) rfl kr ?_;refine Ws (Tn (Sg (Pp 2 ?_)));refine w_run (v:=.int .u8 ((1:Nat):Int)) (fun w=>by kernel_rfl) ?_;refine w_run (v:=.int .u8 ((1:Nat):Int)) (fun w=>by kernel_rfl) ?_;refine w_run (v:=iN 1) (fun w=>by kernel_rfl) ?_
  refine w_run (v:=iN 17) (fun w=>by kernel_rfl) ?_;refine Pp 1 (Er ?_);have h4:=Sj h4;subst h4;exact Ql [iN 17] [] 0
 rcases bcase h4 with ⟨t5,h5⟩ | ⟨t5,h5⟩
 ·have hq:=eq_of_beq t5;subst hq;refine Sg (Pp 1 (Es (Sg (Pp 2 (En ?_)))));refine h_cf (b:=false) rfl kr ?_;refine Ws (Tn (Sq (Sg (Pp 2 (En ?_)))));refine h_ct (b:=true) rfl kr ?_;refine Sg (Pp 1 ?_);refine w_run (v:=uN 7) (fun w=>by kernel_rfl) ?_;refine Pp 1 (En (Rg (Pp 1 ?_)));refine w_run (v:=iN 16) (fun w=>by kernel_rfl) ?_
  refine Pp 1 (Es (Sg (Pp 2 (En ?_))));refine h_cf (b:=false) rfl kr ?_;refine Ws (Tn (Sg (Pp 2 ?_)));refine w_run (v:=.int .u8 ((7:Nat):Int)) (fun w=>by kernel_rfl) ?_;refine w_run (v:=.int .u8 ((3:Nat):Int)) (fun w=>by kernel_rfl) ?_;refine w_run (v:=iN 3) (fun w=>by kernel_rfl) ?_
  refine w_run (v:=iN 19) (fun w=>by kernel_rfl) ?_;refine Pp 1 (Er ?_);have h5:=Sj h5;subst h5;exact Ql [iN 19] [] 0
 rcases bcase h5 with ⟨t6,h6⟩ | ⟨t6,h6⟩
 ·have hq:=eq_of_beq t6;subst hq;refine Sg (Pp 1 (Es (Sg (Pp 2 (En ?_)))));refine h_cf (b:=false) rfl kr ?_;refine Ws (Tn (Sq (Sg (Pp 2 (En ?_)))));refine h_ct (b:=true) rfl kr ?_;refine Sg (Pp 1 ?_);refine w_run (v:=uN 32767) (fun w=>by kernel_rfl) ?_;refine Pp 1 (En (Rg (Pp 1 ?_)));refine w_run (v:=iN 16) (fun w=>by kernel_rfl) ?_
  refine Pp 1 (Es (Sg (Pp 2 (En ?_))));refine h_ct (b:=true) rfl kr ?_;refine Sg (Pp 1 ?_);refine w_run (v:=uN 127) (fun w=>by kernel_rfl) ?_;refine Pp 1 (En (Rg (Pp 1 ?_)));refine w_run (v:=iN 24) (fun w=>by kernel_rfl) ?_;refine Pp 1 (Eg (Pp 2 ?_));refine w_run (v:=.int .u8 ((127:Nat):Int)) (fun w=>by kernel_rfl) ?_
  refine w_run (v:=.int .u8 ((7:Nat):Int)) (fun w=>by kernel_rfl) ?_;refine w_run (v:=iN 7) (fun w=>by kernel_rfl) ?_;refine w_run (v:=iN 31) (fun w=>by kernel_rfl) ?_;refine Pp 1 (Er ?_);have h6:=Sj h6;subst h6;exact Ql [iN 31] [] 0
 rcases bcase h6 with ⟨t7,h7⟩ | ⟨t7,h7⟩
 ·have hq:=eq_of_beq t7;subst hq;refine Sg (Pp 1 (Es (Sg (Pp 2 (En ?_)))));refine h_ct (b:=true) rfl kr ?_;refine Sg (Pp 1 ?_);refine w_run (v:=uN 536870911) (fun w=>by kernel_rfl) ?_;refine Pp 1 (En (Rg (Pp 1 (Es (Sg (Pp 2 (En ?_)))))));refine h_ct (b:=true) rfl kr ?_;refine Sg (Pp 1 ?_)
  refine w_run (v:=uN 8191) (fun w=>by kernel_rfl) ?_;refine Pp 1 (En (Rg (Pp 1 ?_)));refine w_run (v:=iN 48) (fun w=>by kernel_rfl) ?_;refine Pp 1 (Es (Sg (Pp 2 (En ?_))));refine h_ct (b:=true) rfl kr ?_;refine Sg (Pp 1 ?_);refine w_run (v:=uN 31) (fun w=>by kernel_rfl) ?_;refine Pp 1 (En (Rg (Pp 1 ?_)))
  refine w_run (v:=iN 56) (fun w=>by kernel_rfl) ?_;refine Pp 1 (Eg (Pp 2 ?_));refine w_run (v:=.int .u8 ((31:Nat):Int)) (fun w=>by kernel_rfl) ?_;refine w_run (v:=.int .u8 ((5:Nat):Int)) (fun w=>by kernel_rfl) ?_;refine w_run (v:=iN 5) (fun w=>by kernel_rfl) ?_
  refine w_run (v:=iN 61) (fun w=>by kernel_rfl) ?_;refine Pp 1 (Er ?_);have h7:=Sj h7;subst h7;exact Ql [iN 61] [] 0
 rcases bcase h7 with ⟨t8,h8⟩ | ⟨t8,h8⟩
 ·have hq:=eq_of_beq t8;subst hq;refine Sg (Pp 1 (Es (Sg (Pp 2 (En ?_)))));refine h_cf (b:=false) rfl kr ?_;refine Ws (Tn (Sq (Sg (Pp 2 (En ?_)))));refine h_cf (b:=false) rfl kr ?_;refine Ws (Tn (Sq (Sg (Pp 2 (En ?_)))));refine h_cf (b:=false) rfl kr ?_;refine Ws (Tn (Sg (Pp 2 ?_)));refine w_run (v:=.int .u8 ((1:Nat):Int)) (fun w=>by kernel_rfl) ?_
  refine w_run (v:=.int .u8 ((1:Nat):Int)) (fun w=>by kernel_rfl) ?_;refine w_run (v:=iN 1) (fun w=>by kernel_rfl) ?_;refine w_run (v:=iN 1) (fun w=>by kernel_rfl) ?_;refine Pp 1 (Er ?_);have h8:=Sj h8;subst h8;exact Ql [iN 1] [] 0
 rcases bcase h8 with ⟨t9,h9⟩ | ⟨t9,h9⟩
 ·have hq:=eq_of_beq t9;subst hq;refine Sg (Pp 1 (Es (Sg (Pp 2 (En ?_)))));refine h_cf (b:=false) rfl kr ?_;refine Ws (Tn (Sq (Sg (Pp 2 (En ?_)))));refine h_cf (b:=false) rfl kr ?_;refine Ws (Tn (Sq (Sg (Pp 2 (En ?_)))));refine h_cf (b:=false) rfl kr ?_;refine Ws (Tn (Sg (Pp 2 ?_)));refine w_run (v:=.int .u8 ((2:Nat):Int)) (fun w=>by kernel_rfl) ?_
  refine w_run (v:=.int .u8 ((2:Nat):Int)) (fun w=>by kernel_rfl) ?_;refine w_run (v:=iN 2) (fun w=>by kernel_rfl) ?_;refine w_run (v:=iN 2) (fun w=>by kernel_rfl) ?_;refine Pp 1 (Er ?_);have h9:=Sj h9;subst h9;exact Ql [iN 2] [] 0
 rcases bcase h9 with ⟨t10,h10⟩ | ⟨t10,h10⟩
 ·have hq:=eq_of_beq t10;subst hq;refine Sg (Pp 1 (Es (Sg (Pp 2 (En ?_)))));refine h_cf (b:=false) rfl kr ?_;refine Ws (Tn (Sq (Sg (Pp 2 (En ?_)))));refine h_cf (b:=false) rfl kr ?_;refine Ws (Tn (Sq (Sg (Pp 2 (En ?_)))));refine h_cf (b:=false) rfl kr ?_;refine Ws (Tn (Sg (Pp 2 ?_)));refine w_run (v:=.int .u8 ((3:Nat):Int)) (fun w=>by kernel_rfl) ?_
  refine w_run (v:=.int .u8 ((2:Nat):Int)) (fun w=>by kernel_rfl) ?_;refine w_run (v:=iN 2) (fun w=>by kernel_rfl) ?_;refine w_run (v:=iN 2) (fun w=>by kernel_rfl) ?_;refine Pp 1 (Er ?_);have h10:=Sj h10;subst h10;exact Ql [iN 2] [] 0
 rcases bcase h10 with ⟨t11,h11⟩ | ⟨t11,h11⟩
 ·have hq:=eq_of_beq t11;subst hq;refine Sg (Pp 1 (Es (Sg (Pp 2 (En ?_)))));refine h_cf (b:=false) rfl kr ?_;refine Ws (Tn (Sq (Sg (Pp 2 (En ?_)))));refine h_cf (b:=false) rfl kr ?_;refine Ws (Tn (Sq (Sg (Pp 2 (En ?_)))));refine h_cf (b:=false) rfl kr ?_;refine Ws (Tn (Sg (Pp 2 ?_)));refine w_run (v:=.int .u8 ((4:Nat):Int)) (fun w=>by kernel_rfl) ?_
  refine w_run (v:=.int .u8 ((3:Nat):Int)) (fun w=>by kernel_rfl) ?_;refine w_run (v:=iN 3) (fun w=>by kernel_rfl) ?_;refine w_run (v:=iN 3) (fun w=>by kernel_rfl) ?_;refine Pp 1 (Er ?_);have h11:=Sj h11;subst h11;exact Ql [iN 3] [] 0
 rcases bcase h11 with ⟨t12,h12⟩ | ⟨t12,h12⟩
 ·have hq:=eq_of_beq t12;subst hq;refine Sg (Pp 1 (Es (Sg (Pp 2 (En ?_)))));refine h_cf (b:=false) rfl kr ?_;refine Ws (Tn (Sq (Sg (Pp 2 (En ?_)))));refine h_cf (b:=false) rfl kr ?_;refine Ws (Tn (Sq (Sg (Pp 2 (En ?_)))));refine h_cf (b:=false) rfl kr ?_;refine Ws (Tn (Sg (Pp 2 ?_)));refine w_run (v:=.int .u8 ((5:Nat):Int)) (fun w=>by kernel_rfl) ?_
  refine w_run (v:=.int .u8 ((3:Nat):Int)) (fun w=>by kernel_rfl) ?_;refine w_run (v:=iN 3) (fun w=>by kernel_rfl) ?_;refine w_run (v:=iN 3) (fun w=>by kernel_rfl) ?_;refine Pp 1 (Er ?_);have h12:=Sj h12;subst h12;exact Ql [iN 3] [] 0
 rcases bcase h12 with ⟨t13,h13⟩ | ⟨t13,h13⟩
 ·have hq:=eq_of_beq t13;subst hq;refine Sg (Pp 1 (Es (Sg (Pp 2 (En ?_)))));refine h_cf (b:=false) rfl kr ?_;refine Ws (Tn (Sq (Sg (Pp 2 (En ?_)))));refine h_cf (b:=false) rfl kr ?_;refine Ws (Tn (Sq (Sg (Pp 2 (En ?_)))));refine h_cf (b:=false) rfl kr ?_;refine Ws (Tn (Sg (Pp 2 ?_)));refine w_run (v:=.int .u8 ((6:Nat):Int)) (fun w=>by kernel_rfl) ?_
  refine w_run (v:=.int .u8 ((3:Nat):Int)) (fun w=>by kernel_rfl) ?_;refine w_run (v:=iN 3) (fun w=>by kernel_rfl) ?_;refine w_run (v:=iN 3) (fun w=>by kernel_rfl) ?_;refine Pp 1 (Er ?_);have h13:=Sj h13;subst h13;exact Ql [iN 3] [] 0
 rcases bcase h13 with ⟨t14,h14⟩ | ⟨t14,h14⟩
 ·have hq:=eq_of_beq t14;subst hq;refine Sg (Pp 1 (Es (Sg (Pp 2 (En ?_)))));refine h_cf (b:=false) rfl kr ?_;refine Ws (Tn (Sq (Sg (Pp 2 (En ?_)))));refine h_cf (b:=false) rfl kr ?_;refine Ws (Tn (Sq (Sg (Pp 2 (En ?_)))));refine h_cf (b:=false) rfl kr ?_;refine Ws (Tn (Sg (Pp 2 ?_)));refine w_run (v:=.int .u8 ((7:Nat):Int)) (fun w=>by kernel_rfl) ?_
  refine w_run (v:=.int .u8 ((3:Nat):Int)) (fun w=>by kernel_rfl) ?_;refine w_run (v:=iN 3) (fun w=>by kernel_rfl) ?_;refine w_run (v:=iN 3) (fun w=>by kernel_rfl) ?_;refine Pp 1 (Er ?_);have h14:=Sj h14;subst h14;exact Ql [iN 3] [] 0
 cases h14
theorem c_field_width {a r:Nat} (h:field_width a=some r):Ct Tryz.prog 176 [uN a] [] (fun v L=>v=uN r∧L=[]):=by
 refine ct_intro Tryz.func176 rfl kr (fun F=>?_);unfold field_width at h;refine Sg (Pp 1 (Eg (Pp 1 ?_)));obtain ⟨r1,er1,h1⟩:=bnd h;refine Fe [] (c_math_bits_Len64 er1) rfl fok_187 ?_;obtain ⟨x1,ex1,h2⟩:=bnd h1;refine w_cv Tb_ok (ecU ex1) kr ?_;refine Pp 1 (Er ?_);have h2:=Sj h2;subst h2;exact Ql [uN x1] [] 0
theorem c_field_fold {a b c r:Nat} (h:field_fold a b c=some r):Ct Tryz.prog 156 [uN a,uN b,uN c] [] (fun v L=>v=uN r∧L=[]):=by
 refine ct_intro Tryz.func156 rfl kr (fun F=>?_);unfold field_fold at h;refine Sg (Pp 1 (Eg (Pp 1 ?_)));obtain ⟨r1,er1,h1⟩:=bnd h;refine Fe [] (c_field_width er1) rfl fok_176 ?_;refine Pp 1 (Es ?_);obtain ⟨x4,elp1,h2⟩:=bnd h1;refine h_join (X:=Unit) (fun g=>[(0,uN a),(2,uN x4)]) (fun g=>[]++F) (fun _=>True) ?_ ?_
 ·refine Wb ?_;refine h_lp (fun (st:Nat × Nat) (g:Unit)=>[(0,uN a),(1,uN st.1),(2,uN st.2),(7,uN r1)]) (fun (st:Nat × Nat) (g:Unit)=>[]++F) () elp1 aK (tH [] 0) ?_;rintro kk ⟨x1,x2⟩ ⟨⟩ o1 h3 hn1 j;have h3:field_fold_L0 a r1 x1 x2=some o1:=h3;unfold field_fold_L0 at h3;refine Sq (Sq ?_);obtain ⟨x5,ej1,h4⟩:=bnd h3
  refine h_join (X:=Unit) (fun g=>[(0,uN a),(1,uN x1),(2,uN x2),(7,uN r1),(19,.bool x5)]) (fun g=>[]++F) (fun _=>True) ?_ ?_
  ·refine Rg (Pp 3 ?_);rcases bcase ej1 with ⟨t1,h5⟩ | ⟨t1,h5⟩
   ·refine Kb 15 t1 (Pp 4 (Ei ?_));cases h5;exact q_join () trivial aK (tH [] 0)
   refine Kb 15 t1 (Pp 4 (Ei ?_));cases h5;exact q_join () trivial aK (tH [] 0)
  rintro ⟨⟩ - j;refine Tn ?_;rcases bcase h4 with ⟨t2,h6⟩ | ⟨t2,h6⟩
  ·refine Xt t2 (Ws (Tn (Wb (Sg (Pp 2 ?_)))));obtain ⟨x6,ex6,h7⟩:=bnd h6;refine w_bi (eandU ex6) kr (Pp 1 (Eg (Pp 2 ?_)));obtain ⟨x7,ex7,h8⟩:=bnd h7;refine w_sh (yk:=.u64) (.inr rfl) (zshr ex7) kr ?_;refine Pp 2 ?_;obtain ⟨x8,ex8,h9⟩:=bnd h8;refine w_bi (esubU ex8) kr ?_;obtain ⟨x9,ex9,h10⟩:=bnd h9;refine w_sh (yk:=.u64) (.inl rfl) (zshl ex9) kr ?_
   obtain ⟨x10,ex10,h11⟩:=bnd h10;refine w_bi (eorU ex10) kr (Pp 2 ?_);obtain ⟨x11,ex11,h12⟩:=bnd h11;refine w_sh (yk:=.u64) (.inr rfl) (zshr ex11) kr ?_;refine Pp 2 (Eg (Pp 2 ?_));obtain ⟨x12,ex12,h13⟩:=bnd h12;obtain ⟨x13,ex13,h14⟩:=bnd h13;refine w_ext ext_177 (add64E ex12 ex13) kr ?_;refine Pp 5 (En (Rg (Pp 3 ?_)));obtain ⟨x14,ex14,h15⟩:=bnd h14
   refine w_bi (eaddU ex14) kr (Pp 2 (Ei (Bn ?_)));have h15:=Sj h15;subst h15;exact q_go () hn1 aK (tH [] 0)
  refine Xf t2 (We (Te ?_));refine q_lpX ?_;refine Be ?_;have h6:=Sj h6;subst h6;cases (show _=_ from hn1);exact q_join () trivial aK (tH [] 0)
 rintro ⟨⟩ - j;refine Tn (Sq (Sg (Pp 3 (En ?_))));rcases bcase h2 with ⟨t3,h16⟩ | ⟨t3,h16⟩
 ·refine Xt t3 (Sg (Pp 1 (Er (Tr ?_))));have h16:=Sj h16;subst h16;exact Ql [uN 0] [] 0
 refine Xs t3 (Tn (Sg (Pp 2 (Er ?_))));have h16:=Sj h16;subst h16;exact Ql [uN x4] [] 0
theorem c_field_Mul {a b c r:Nat} (h:field_Mul a b c=some r):Ct Tryz.prog 145 [uN a,uN b,uN c] [] (fun v L=>v=uN r∧L=[]):=by
 refine ct_intro Tryz.func145 rfl kr (fun F=>?_);unfold field_Mul at h;refine Sg (Pp 1 (Eg (Pp 2 ?_)));obtain ⟨r1,er1,h1⟩:=bnd h;refine Fe [] (c_math_bits_Mul64 er1) rfl fok_174 ?_;refine Pp 5 (Eg (Pp 3 ?_));obtain ⟨r2,er2,h2⟩:=bnd h1;refine Fe [] (c_field_fold er2) rfl fok_156 ?_;refine Pp 1 (Er ?_);have h2:=Sj h2;subst h2;exact Ql [uN r2] [] 0
theorem c_field_Add {a b c r:Nat} (h:field_Add a b c=some r):Ct Tryz.prog 92 [uN a,uN b,uN c] [] (fun v L=>v=uN r∧L=[]):=by
 refine ct_intro Tryz.func92 rfl kr (fun F=>?_);unfold field_Add at h;refine Sg (Pp 1 (Eg (Pp 3 ?_)));obtain ⟨x1,ex1,h1⟩:=bnd h;refine w_bi (eaddU ex1) kr ?_;obtain ⟨r1,er1,h2⟩:=bnd h1;refine Fe [] (c_field_fold er1) rfl fok_156 ?_;refine Pp 1 (Er ?_);have h2:=Sj h2;subst h2;exact Ql [uN r1] [] 0
theorem c_bivariate_Row {c:Nat} {b:List (List Nat)} {d:Nat} {a:Value} {r:(List Nat)} (h:bivariate_Row c b d=some r):Ct Tryz.prog 116 [uN c,a,uN d] [rS a b] (fun v L=>∃ w0:Value,v=w0∧L=[I14 w0 r]):=by
 refine ct_intro Tryz.func116 rfl kr (fun F=>?_);unfold bivariate_Row at h;refine Sg (Pp 1 (Eg (Pp 1 (w_len (rd_hd 0 rfl) kr ts_27 ?_))));obtain ⟨l1,el1,h1⟩:=bnd h;refine w_mk (kd:=Ku) (kl:=.i64) (kc:=.i64) () el1 kr ts_60 ti_22 rfl kr (it0 rfl) (fun v1=>?_);refine Pp 1 (Eg (Pp 1 (Es (Sg (Pp 1 (w_len (rd_hd 1 rfl) kr ts_27 (Pp 1 (En ?_))))))))
 refine h_lenle (rd_lenle 1 rfl) (fun hN1=>?_);obtain ⟨⟨l3,x3⟩,elp1,h2⟩:=bnd h1;refine h_join (X:=Unit) (fun g=>[(7,v1)]) (fun g=>[I14 v1 l3]++F) (fun _=>True) ?_ ?_
 ·refine Wb ?_
  refine h_rs (fun (k1:Nat) (st:(List Nat) × Nat) (g:Unit)=>[(0,uN c),(2,uN d),(7,v1),(8,uN st.2),(16,a),(17,iN b.length),(18,iN k1)]) (fun (k1:Nat) (st:(List Nat) × Nat) (g:Unit)=>[I14 v1 st.1,rS a b]++F) () elp1 (Nat.zero_le _) aK (tH [(0,Z),(0,Y)] 1) ?_ ?_
  ·rintro ⟨⟩ j;refine Sg (Pp 1 (Es (Xf (rgF (N:=b.length)) (We (Te (q_rzX (Be ?_)))))));exact q_join () trivial aK (tH [(0,Z)] 1)
  rintro rem k1 ⟨l2,x1⟩ ⟨⟩ o1 hk1 h3 hn1 j;have h3:bivariate_Row_L0 c b d k1 l2 x1=some o1:=h3;unfold bivariate_Row_L0 at h3;refine Sg (Pp 1 (Es (Xt (rgT (k:=k1) (N:=b.length) hk1) (Ws (Tn (Sq (Wb (Sg ?_))))))));obtain ⟨x4,ex4,h4⟩:=bnd h3;refine w_ix (k:=.i64) (rd_hd 1 rfl) (nbd ex4) rfl kr ts_27 ti_60 ?_;refine w_ldR 1 0 rfl ex4 kr ti_60 rfl rfl ?_;rintro v2
  refine Pp 1 (Es (Sg (Pp 1 (w_len (rd_hd 0 rfl) kr ts_60 (Pp 1 (En ?_))))));refine h_lenle (rd_lenle 0 rfl) (fun hN2=>?_);obtain ⟨l5,elp2,h5⟩:=bnd h4
  refine h_join (X:=Unit) (fun g=>[(0,uN c),(2,uN d),(7,v1),(8,uN x1),(16,a),(17,iN b.length),(18,iN k1)]) (fun g=>[I14 v1 l5,rS a b]++F) (fun _=>True) ?_ ?_
  ·refine Wb ?_
   refine h_rs (fun (k2:Nat) (st:(List Nat)) (g:Unit)=>[(0,uN c),(2,uN d),(7,v1),(8,uN x1),(16,a),(17,iN b.length),(18,iN k1),(22,v2),(23,iN x4.length),(24,iN k2)]) (fun (k2:Nat) (st:(List Nat)) (g:Unit)=>[I14 v1 st,rS a b,rU v2 x4]++F) () elp2 (Nat.zero_le _) aK (tH [(1,Z),(1,Y),(0,Y)] 2) ?_ ?_
   ·rintro ⟨⟩ j;refine Sg (Pp 1 (Es (Xf (rgF (N:=x4.length)) (We (Te (q_rzX (Be ?_)))))));exact q_join () trivial aK (tH [(0,Z),(0,Y)] 2)
   rintro rem k2 l4 ⟨⟩ o2 hk2 h6 hn2 j;have h6:bivariate_Row_L1 c x1 x4 k2 l4=some o2:=h6;unfold bivariate_Row_L1 at h6;refine Sg (Pp 1 (Es (Xt (rgT (k:=k2) (N:=x4.length) hk2) (Ws (Tn (Sq (Wb (Sg (Pp 1 ?_)))))))));obtain ⟨x6,ex6,h7⟩:=bnd h6;refine w_ix (k:=.i64) (rd_hd 2 rfl) (nbd ex6) rfl kr ts_60 ti_22 ?_;refine w_ldR 2 0 rfl ex6 kr ti_22 rfl rfl ?_;rintro _
   refine Pp 2 (En ?_);obtain ⟨x7,ex7,h8⟩:=bnd h7;obtain ⟨r3,er3,h9⟩:=bnd h8;obtain ⟨r4,er4,h10⟩:=bnd h9;obtain ⟨l6,el6,h11⟩:=bnd h10
   refine h_fm [0,0,0,0,0,24,56,0,0,0,896,2044,4095,8191] ⟨3,[0,0,0,0,0,0,0,0,0,0,0,0,0,1],[(13,[(0,0)])],[(5,[(0,0)]),(6,[(0,0)]),(12,[(0,0)])],[]⟩ (fun γ=>[v1,iN k2,uN c,v1,iN k2,.pointer (some (elV v1 (k2*Ku.size))),uN x7,uN c,uN x6,uN x1,uN r3,uN r4,.pointer (some (elV v1 (k2*Ku.size))),undef]) (fun i γ=>match i with | 13=>[I14 v1 l6] | _=>[]) [0,1,2,3,4,7,8,9] tryz_mix Tb_ok ?_ ?_
   ·refine ⟨?_,?_,?_,?_,?_,?_,trivial⟩
    ·intro γ F;refine w_ix (k:=.i64) (own_hd 0 rfl) (nbd ex7) rfl kr ts_60 ti_22 ?_;exact wE (gl []) [(0,Z)] 0
    ·intro γ F;refine w_ldO 0 0 rfl ex7 kr ti_22 rfl rfl ?_;rintro _;exact wE (gl []) [(0,Z)] 0
    ·intro γ F;refine Fe [] (c_field_Mul er3) rfl fok_145 ?_;exact wE (gl []) [] 0
    ·intro γ F;refine Fe [] (c_field_Add er4) rfl fok_92 ?_;exact wE (gl []) [] 0
    ·intro γ F;refine w_ix (k:=.i64) (own_hd 0 rfl) (nbd ex7) rfl kr ts_60 ti_22 ?_;exact wE (gl []) [(0,Z)] 0
    intro γ F;refine w_stO (kd:=Ku) (w:=uN r4) (m:=k2) (x0:=r4) 0 () rfl (nbd ex7) (sinj el6) kr ti_22 (cv0 kr) (it0 rfl) ?_;exact wE (gl []) [(0,Z)] 0
   intro γ1;refine Bn (Tn (Rg (w_bi (zinc hk2 hN2) kr (Pp 1 (Ei ?_)))));have h11:=Sj h11;subst h11;exact q_rs () hn2 aK (tH [(2,Z),(0,Y),(1,Y)] 2)
  rintro ⟨⟩ - j;refine Tn (Rg (Pp 3 ?_));obtain ⟨r5,er5,h12⟩:=bnd h5;refine Fe [] (c_field_Mul er5) rfl fok_145 ?_;refine Pp 1 (Ei (Bn (Tn (Rg (w_bi (zinc hk1 hN1) kr (Pp 1 (Ei ?_)))))));have h12:=Sj h12;subst h12;exact q_rs () hn1 aK (tH [(0,Z),(0,Y)] 1)
 rintro ⟨⟩ - j;refine Tn (Sg (Pp 2 (Er ?_)));have h2:=Sj h2;subst h2;exact q_end (l:=[v1]) [(0,Z)] 0 ⟨v1,rfl,rfl⟩ (.inl rfl) kr kr kr
theorem c_vssdeal_phase_distribute_1 {A:Int} {a:T_vssdeal_phase} {D:List (List (List Nat))} {B p q:Nat} {s u w d f y c n o:Value} {z:Nat} {C:Value} {r:(List (List (List Nat)))} (h:vssdeal_phase_distribute_1 A a D=some r):Ct Tryz.prog 123 [iV A,(bx B),(bx z)] [I11 B p,I4 p q a.zs.P a.zs.N a.zs.T y c n o,I1 q a.zn.zw.S s u w a.zn.zround d f,rI s a.zn.zw.Corrupt,rD u a.zn.zw.Deviations,rS w a.zn.zw.Tapes,I2 d a.zn.zviews,I0 f a.zn.ztapes,I9 y a.zq,I3 c a.zd.S,I3 n a.zd.Rows,I6 o a.zd.Flags,I29 z C,I6 C D] (fun v L=>∃ w0:Value,v=.tuple #[]∧L=[I1 q a.zn.zw.S s u w a.zn.zround d f,I2 d a.zn.zviews,I0 f a.zn.ztapes,I4 p q a.zs.P a.zs.N a.zs.T y c n o,I3 c a.zd.S,I3 n a.zd.Rows,I6 o a.zd.Flags,I11 B p,I29 z w0,I6 w0 r]):=by
 refine ct_intro Tryz.func123 rfl kr (fun F=>?_);unfold vssdeal_phase_distribute_1 at h;refine Sg (Pp 1 (En ?_));obtain ⟨u1,eu1,h1⟩:=bnd h;have hN1:=ckN_some eu1;obtain ⟨l2,elp1,h2⟩:=bnd h1
 refine h_join (X:=Value) (fun g=>[]) (fun g=>[I11 B p,I4 p q a.zs.P a.zs.N a.zs.T y c n o,I1 q a.zn.zw.S s u w a.zn.zround d f,rI s a.zn.zw.Corrupt,rD u a.zn.zw.Deviations,rS w a.zn.zw.Tapes,I2 d a.zn.zviews,I0 f a.zn.ztapes,I9 y a.zq,I3 c a.zd.S,I3 n a.zd.Rows,I6 o a.zd.Flags,I29 z g,I6 g l2]++F) (fun _=>True) ?_ ?_
 ·refine Wb ?_
  refine h_rs (fun (k1:Nat) (st:(List (List (List Nat)))) (g:Value)=>[(0,iV A),(1,(bx B)),(2,(bx z)),(4,iN k1)]) (fun (k1:Nat) (st:(List (List (List Nat)))) (g:Value)=>[I11 B p,I4 p q a.zs.P a.zs.N a.zs.T y c n o,I1 q a.zn.zw.S s u w a.zn.zround d f,rI s a.zn.zw.Corrupt,rD u a.zn.zw.Deviations,rS w a.zn.zw.Tapes,I2 d a.zn.zviews,I0 f a.zn.ztapes,I9 y a.zq,I3 c a.zd.S,I3 n a.zd.Rows,I6 o a.zd.Flags,I29 z g,I6 g st]++F) (tw (th C) (tg C)) elp1 (Nat.le_max_left ..) aK (tH [(0,Z),(0,Z),(0,Z),(0,Y),(1,Y),(2,Y),(3,Z),(3,Z),(3,Y),(4,Z),(4,Z),(4,Z),(4,Z),(4,Z)] 4) ?_ ?_
  ·rintro g3 j;refine Sq (Sg (Pp 1 (w_ldB 0 0 rfl kr ti_117 rfl rfl (Pp 3 (w_ldB 1 2 rfl kr ti_3 rfl rfl (Pp 1 (En ?_)))))));refine h_cf (b:=(decide ((((max 1 (a.zs.N+1).toNat):Nat):Int)≤a.zs.N))) rgEF kr ?_;refine We (Te (q_rzX (Be ?_)))
   exact q_join (tw (th g3) (tg g3)) trivial aK (tH [(0,Z),(0,Z),(0,Z),(0,Y),(1,Y),(2,Y),(3,Z),(3,Z),(3,Y),(4,Z),(4,Z),(4,Z),(4,Z),(4,Z)] 4)
  rintro rem k1 l1 g1 o1 hk1 h3 hn1 j;have h3:vssdeal_phase_distribute_1_L0 A a k1 l1=some o1:=h3;unfold vssdeal_phase_distribute_1_L0 at h3;refine Sq (Sg (Pp 1 (w_ldB 0 0 rfl kr ti_117 rfl rfl (Pp 3 (w_ldB 1 2 rfl kr ti_3 rfl rfl (Pp 1 (En ?_)))))));refine h_ct (b:=(decide ((k1:Int)≤a.zs.N))) (rgET hk1) kr ?_
  refine Ws (Tn (Sq (Wb (Sg (Pp 1 (Es (Sg (w_ldB 0 0 rfl kr ti_117 rfl rfl (Pp 3 (w_ldB 1 5 rfl kr ti_42 rfl rfl (Pp 1 ?_)))))))))));obtain ⟨x2,ex2,h4⟩:=bnd h3;refine w_ix (k:=.i64) (tree_hdI (inP 9 rfl)) (ib ex2) (iz ex2) kr ts_42 ti_30 ?_;refine w_ldN rs_row (inP 9 rfl) (ig ex2) kr ti_30 (fun g4=>?_);refine w_len (hdI 1 rfl) kr ts_30 (Pp 1 (En ?_))
  refine WH.ent (ownNil (kd:=Ku) (e:=22)) ?_;obtain ⟨u2,eu2,h5⟩:=bnd h4;have hN2:=ckN_some eu2;obtain ⟨l4,elp2,h6⟩:=bnd h5
  refine h_join (X:=Value) (fun g=>[(0,iV A),(1,(bx B)),(2,(bx z)),(4,iN k1),(5,g)]) (fun g=>[I11 B p,I4 p q a.zs.P a.zs.N a.zs.T y c n o,I1 q a.zn.zw.S s u w a.zn.zround d f,rI s a.zn.zw.Corrupt,rD u a.zn.zw.Deviations,rS w a.zn.zw.Tapes,I2 d a.zn.zviews,I0 f a.zn.ztapes,I9 y a.zq,I3 c a.zd.S,I3 n a.zd.Rows,I6 o a.zd.Flags,I29 z g1,I6 g1 l1,I14 g l4]++F) (fun _=>True) ?_ ?_
  ·refine Wb ?_
   refine h_rs (fun (k2:Nat) (st:(List Nat)) (g:Value)=>[(0,iV A),(1,(bx B)),(2,(bx z)),(4,iN k1),(5,g),(24,g4),(25,iN x2.length),(26,iN k2)]) (fun (k2:Nat) (st:(List Nat)) (g:Value)=>[I11 B p,I4 p q a.zs.P a.zs.N a.zs.T y c n o,I1 q a.zn.zw.S s u w a.zn.zround d f,rI s a.zn.zw.Corrupt,rD u a.zn.zw.Deviations,rS w a.zn.zw.Tapes,I2 d a.zn.zviews,I0 f a.zn.ztapes,I9 y a.zq,I3 c a.zd.S,I3 n a.zd.Rows,I6 o a.zd.Flags,I29 z g1,I6 g1 l1,I14 g st,fact ((tg c)[A.toNat]?=some g4),hdP g4 x2.length]++F) (.slice none 0 0) elp2 (Nat.zero_le _) aK (tH [(3,Z),(3,Z),(3,Z),(3,Y),(4,Y),(5,Y),(6,Z),(6,Z),(6,Y),(7,Z),(7,Z),(7,Z),(7,Z),(7,Z),(0,Z),(0,Y),(1,Y)] 6) ?_ ?_
   ·rintro g7 j;refine Sg (Pp 1 (Es (Xf (rgF (N:=x2.length)) (We (Te (q_rzX (Be ?_)))))));exact q_join g7 trivial aK (tH [(0,Z),(0,Z),(0,Z),(0,Y),(1,Y),(2,Y),(3,Z),(3,Z),(3,Y),(4,Z),(4,Z),(4,Z),(4,Z),(4,Z),(4,Z)] 6)
   rintro rem k2 l3 g5 o2 hk2 h7 hn2 j;have h7:vssdeal_phase_distribute_1_L1 a k1 x2 k2 l3=some o2:=h7;unfold vssdeal_phase_distribute_1_L1 at h7;refine Sg (Pp 1 (Es (Xt (rgT (k:=k2) (N:=x2.length) hk2) (Ws (Tn (Sq (Wb (Sg ?_))))))));obtain ⟨x4,ex4,h8⟩:=bnd h7;refine w_ix (k:=.i64) (hdI 16 rfl) (nbd ex4) rfl kr ts_30 ti_27 ?_;refine WI.fact 15 rfl (fun hg1=>?_)
   refine w_ldI (kd:=(Kd.sl Ks)) (e:=27) (v:=g4) (xs:=x2) (m:=k2) 0 (inRow (R:=(rowK (Kd.sl Ks) 27)) (inP 9 rfl) hg1 (ig ex2)) ex4 kr ti_27 rfl rfl ?_;rintro v1;refine Pp 1 (En (Rg (Pp 1 (w_ldB 1 0 rfl kr ti_117 rfl rfl (Pp 3 (w_ldB 2 1 rfl kr ti_22 rfl rfl (Pp 2 ?_)))))));obtain ⟨x5,ex5,h9⟩:=bnd h8;refine w_cv Tb_ok (ecU ex5) kr ?_
   obtain ⟨r3,er3,h10⟩:=bnd h9
   refine Rh ([rS v1 x4,I11 B p,I4 p q a.zs.P a.zs.N a.zs.T y c n o,I1 q a.zn.zw.S s u w a.zn.zround d f,rI s a.zn.zw.Corrupt,rD u a.zn.zw.Deviations,rS w a.zn.zw.Tapes,I2 d a.zn.zviews,I0 f a.zn.ztapes,I9 y a.zq,I3 c a.zd.S,I3 n a.zd.Rows,I6 o a.zd.Flags,I29 z g1,I6 g1 l1,I14 g5 l3,fact ((tg c)[A.toNat]?=some g4),hdP g4 x2.length]++F) ?_
   refine Fx [(0,Y)] (c_bivariate_Row er3) rfl fok_116 (fun w1=>?_);obtain ⟨l5,el5,h11⟩:=bnd h10;refine w_app 16 rfl (own_src 0 rfl) el5 kr ts_60 ti_22 rfl (fun v2=>?_);refine Pp 1 (Ei (Bn (Tn (Rg (w_bi (zinc hk2 hN2) kr (Pp 1 (Ei ?_)))))));have h11:=Sj h11;subst h11
   exact q_rs v2 hn2 aK (tH [(3,Z),(3,Z),(3,Z),(3,Y),(4,Y),(5,Y),(6,Z),(6,Z),(6,Y),(7,Z),(7,Z),(7,Z),(7,Z),(7,Z),(0,Z),(6,Y),(7,Y)] 8)
  rintro g6 - j;refine Tn ?_;refine WH.ent (frzAt 14 rfl) ?_;obtain ⟨x6,ex6,h12⟩:=bnd h6;refine WH.ent (hd_add (tree_hdI (inP 7 rfl))) ?_;refine WH.ent (hd_add (tree_hdI (inP 9 rfl))) ?_;refine WH.ent (hd_add (tree_hdI (inP 12 rfl))) ?_;refine WH.ent (hd_add (tree_hdI (inP 14 rfl))) ?_;refine WH.ent (hd_add (tree_hdI (inP 16 rfl))) ?_;refine WH.ent (hd_add (tree_hdI (inP 19 rfl))) ?_
  refine WH.row rs_row (inP 20 rfl) (ig ex6) (fun g8 hg2=>?_);refine WH.fact 0 rfl (fun hg3=>?_);refine WH.ent (tr_out 22 rfl hg3 (ig ex6)) ?_;obtain ⟨l6,el6,h13⟩:=bnd h12;obtain ⟨l7,el7,h14⟩:=bnd h13
  refine h_fm [0,0,0,0,12,28,0,64,252,511,1023] ⟨24,[0,0,0,0,0,0,0,1,1,0,1],[(8,[(0,0)]),(10,[(9,0),(0,1)])],[(0,[(0,23)]),(2,[(0,23)]),(5,[(0,1)]),(8,[(8,0),(0,1)])],[(4,[(0,4)]),(5,[(0,2)]),(7,[(0,10)]),(9,[(0,4)])]⟩ (fun γ=>[(th g1),iV A,(th g1),iV A,.pointer (some (elV (th g1) (A.toNat*1))),g8,g6,(γ 7 0),(γ 8 0),.pointer (some (elV (th g1) (A.toNat*1))),undef]) (fun i γ=>match i with | 7=>[I32 (γ 7 0) l4] | 8=>[I19 (γ 8 0) l6] | 10=>[I42 g1 A.toNat (γ 8 0) l7] | _=>[]) [1,3,6] tryz_mix Tb_ok ?_ ?_
  ·refine ⟨?_,?_,?_,?_,?_,?_,?_,?_,trivial⟩
   ·intro γ F;refine w_ldB 0 0 rfl kr ti_30 rfl rfl ?_;exact wE (gl []) [(0,Z)] 0
   ·intro γ F;refine w_ldB 0 0 rfl kr ti_30 rfl rfl ?_;exact wE (gl []) [(0,Z)] 0
   ·intro γ F;refine w_ix (k:=.i64) (hdI 0 rfl) (ib ex6) (iz ex6) kr ts_30 ti_27 ?_;exact wE (gl []) [] 1
   ·intro γ F;refine WI.fact 1 rfl (fun hg4=>?_);refine w_ldG (m:=A.toNat) (hOut (inP 0 rfl)) hg4 kr ti_27 ?_;exact wE (gl []) [(0,Z)] 1
   ·intro γ F;refine w_lt (kd:=Ks) (t:=27) (len:=1) (ps0:=[(0,g6)]) (ps:=[(0,.agg #[g6])]) ([l4]:List (List Nat)) _ (rowC (x:=l4) (g:=g6) (itS 0 rfl) row0) (scS (rd_hd 0 rfl) sc0) kr ts_27 ti_60 kr rfl rfl (fun v3=>?_);exact wE (gl [v3]) [(0,Z)] 1
   ·intro γ F;refine w_app 0 rfl (own_src 1 rfl) el6 kr ts_27 ti_60 rfl (fun v4=>?_);exact wE (gl [v4]) [(0,Z),(0,Z),(0,Z)] 0
   ·intro γ F;refine w_ix (k:=.i64) (hdI 0 rfl) (ib ex6) (iz ex6) kr ts_30 ti_27 ?_;exact wE (gl []) [] 1
   intro γ F;refine w_stH (R:=(rowK Ks 60)) (g':=(γ 8 0)) (m:=A.toNat) 0 0 rfl rfl (ib ex6) (sinj el7) rfl (cvS (own_hd 0 rfl)) (sl_one (own_hd 0 rfl)) kr ti_27 ?_;exact wE (gl []) [(0,Z)] 0
  intro γ1;refine Bn (Tn (Rg (Pp 1 (w_bi (zinc hk1 hN1) kr (Pp 1 (Ei ?_))))));have h14:=Sj h14;subst h14;exact q_rs (tw (th g1) ((tg g1).set A.toNat (γ1 8 0))) hn1 aK (tH [(9,Z),(9,Z),(9,Z),(9,Y),(10,Y),(11,Y),(12,Z),(12,Z),(12,Y),(13,Z),(13,Z),(13,Z),(13,Z),(14,Z)] 14)
 rintro g2 - j;have h2:=Sj h2;subst h2;exact q_end (l:=[]) [(2,Z),(5,Z),(5,Z),(1,Z),(5,Z),(5,Z),(5,Z),(0,Z),(4,Z),(4,Z)] 4 ⟨(tw (th g2) (tg g2)),rfl,rfl⟩ (.inr rfl) kr kr kr
theorem c_vssdeal_phase_each_vssdeal_phase_distribute_1_al {a:T_vssdeal_phase} {w:List (List (List Nat))} {u e:Nat} {p q s f i t k m n:Value} {c d:Nat} {o:Value} {r:(List (List (List Nat)))} (h:vssdeal_phase_each_vssdeal_phase_distribute_1_al a w=some r):Ct Tryz.prog 118 [(bx u),.func (.func 123) #[] #[(bx c),(bx d)]] [I4 u e a.zs.P a.zs.N a.zs.T t k m n,I1 e a.zn.zw.S p q s a.zn.zround f i,rI p a.zn.zw.Corrupt,rD q a.zn.zw.Deviations,rS s a.zn.zw.Tapes,I2 f a.zn.zviews,I0 i a.zn.ztapes,I9 t a.zq,I3 k a.zd.S,I3 m a.zd.Rows,I6 n a.zd.Flags,I11 c u,I29 d o,I6 o w] (fun v L=>∃ w0:Value,v=.tuple #[]∧L=[I1 e a.zn.zw.S p q s a.zn.zround f i,I2 f a.zn.zviews,I0 i a.zn.ztapes,I4 u e a.zs.P a.zs.N a.zs.T t k m n,I3 k a.zd.S,I3 m a.zd.Rows,I6 n a.zd.Flags,I11 c u,I29 d w0,I6 w0 r]):=by
 refine ct_intro Tryz.func118 rfl kr (fun F=>?_);unfold vssdeal_phase_each_vssdeal_phase_distribute_1_al at h;refine Sg (Pp 4 (w_ldB 0 2 rfl kr ti_3 rfl rfl (Pp 1 (En ?_))));obtain ⟨u1,eu1,h1⟩:=bnd h;have hN1:=ckN_some eu1;obtain ⟨l2,elp1,h2⟩:=bnd h1
 refine h_join (X:=Value) (fun g=>[]) (fun g=>[I11 c u,I4 u e a.zs.P a.zs.N a.zs.T t k m n,I1 e a.zn.zw.S p q s a.zn.zround f i,rI p a.zn.zw.Corrupt,rD q a.zn.zw.Deviations,rS s a.zn.zw.Tapes,I2 f a.zn.zviews,I0 i a.zn.ztapes,I9 t a.zq,I3 k a.zd.S,I3 m a.zd.Rows,I6 n a.zd.Flags,I29 d g,I6 g l2]++F) (fun _=>True) ?_ ?_
 ·refine Wb ?_
  refine h_rs (fun (k1:Nat) (st:(List (List (List Nat)))) (g:Value)=>[(1,.func (.func 123) #[] #[(bx c),(bx d)]),(9,iV a.zs.N),(10,iN k1)]) (fun (k1:Nat) (st:(List (List (List Nat)))) (g:Value)=>[I11 c u,I4 u e a.zs.P a.zs.N a.zs.T t k m n,I1 e a.zn.zw.S p q s a.zn.zround f i,rI p a.zn.zw.Corrupt,rD q a.zn.zw.Deviations,rS s a.zn.zw.Tapes,I2 f a.zn.zviews,I0 i a.zn.ztapes,I9 t a.zq,I3 k a.zd.S,I3 m a.zd.Rows,I6 n a.zd.Flags,I29 d g,I6 g st]++F) (tw (th o) (tg o)) elp1 (Nat.le_max_left ..) aK (tH [(11,Z),(0,Z),(0,Z),(0,Y),(1,Y),(2,Y),(3,Z),(3,Z),(3,Y),(4,Z),(4,Z),(4,Z),(4,Z),(4,Z)] 4) ?_ ?_
  ·rintro g3 j;refine Sg (Pp 1 (Es ?_));refine h_cf (b:=(decide ((((max 0 (a.zs.N).toNat):Nat):Int) < a.zs.N))) rgLF kr ?_;refine We (Te (q_rzX (Be ?_)));exact q_join (tw (th g3) (tg g3)) trivial aK (tH [(0,Z),(0,Z),(0,Z),(0,Y),(1,Y),(2,Y),(3,Z),(3,Z),(3,Y),(4,Z),(4,Z),(4,Z),(4,Z),(4,Z)] 4)
  rintro rem k1 l1 g1 o1 hk1 h3 hn1 j;have h3:vssdeal_phase_each_vssdeal_phase_distribute_1_al_L0 a k1 l1=some o1:=h3;unfold vssdeal_phase_each_vssdeal_phase_distribute_1_al_L0 at h3;refine Sg (Pp 1 (Es ?_));refine h_ct (b:=(decide ((k1:Int) < a.zs.N))) (rgLT hk1) kr ?_;refine Ws (Tn (Sq (Wb (Sg (Pp 2 (En (Rg (Pp 2 ?_))))))));obtain ⟨r2,er2,h4⟩:=bnd h3
  refine Fx [(0,Z),(0,Z),(0,Z),(0,Y),(1,Y),(2,Y),(3,Z),(3,Z),(3,Y),(4,Z),(4,Z),(4,Z),(4,Z),(4,Z)] (c_vssdeal_phase_distribute_1 er2) rfl fok_123 (fun w1=>?_);refine Ei (Bn (Tn (Rg (w_bi (zinc hk1 hN1) kr (Pp 1 (Ei ?_))))));have h4:=Sj h4;subst h4
  exact q_rs (tw (th w1) (tg w1)) hn1 aK (tH [(7,Z),(3,Z),(0,Z),(7,Y),(8,Y),(9,Y),(0,Z),(0,Z),(8,Y),(0,Z),(0,Z),(0,Z),(0,Z),(0,Z)] 4)
 rintro g2 - j;have h2:=Sj h2;subst h2;exact q_end (l:=[]) [(2,Z),(5,Z),(5,Z),(1,Z),(5,Z),(5,Z),(5,Z),(0,Z),(4,Z),(4,Z)] 4 ⟨(tw (th g2) (tg g2)),rfl,rfl⟩ (.inr rfl) kr kr kr
theorem c_slices_Clone_LLuint64_Luint64 {c:List (List Nat)} {a:Value} {r:(List (List Nat))} (h:slices_Clone_LLuint64_Luint64 c=some r):Ct Tryz.prog 117 [a] [rS a c] (fun v L=>∃ w0:Value,v=w0∧L=[I19 w0 r]):=by
 refine ct_intro Tryz.func117 rfl kr (fun F=>?_);unfold slices_Clone_LLuint64_Luint64 at h;refine Sg (Pp 1 (Es (Sg (Pp 1 ?_))));refine w_nl (b:=true) 0 rfl kr ts_27 (fun hv hx=>?_) ?_
 ·subst hx;refine En ?_;refine h_ct (b:=true) rfl kr ?_;refine Sg (Pp 1 (Er (Tr ?_)));refine QH.ent (ownNil (kd:=Ks) (e:=60)) ?_;obtain rfl:r=([]:List (List Nat)):=by simpa [appO,cutO] using h.symm
  exact q_end (l:=[(.slice none 0 0)]) [(0,Z)] 1 ⟨(.slice none 0 0),rfl,rfl⟩ (.inl rfl) kr kr kr
 refine En ?_;refine h_cf (b:=false) rfl kr ?_;refine Ws (Tn (Sg ?_));refine w_lt (kd:=Ks) (t:=27) (len:=0) (ps0:=[]) (ps:=[]) ([]:List (List Nat)) _ row0 sc0 kr ts_27 ti_60 kr rfl rfl (fun v1=>?_);refine Pp 1 ?_;obtain ⟨l1,el1,h1⟩:=bnd h;refine w_app 0 rfl (rd_src 1 rfl) el1 kr ts_27 ti_60 rfl (fun v2=>?_);refine Pp 1 (Er ?_);have h1:=Sj h1;subst h1
 exact q_end (l:=[v2]) [(0,Z)] 1 ⟨v2,rfl,rfl⟩ (.inl rfl) kr kr kr
theorem c_slices_Index_Lint_int {b:List Int} {c:Int} {a:Value} {r:Int} (h:slices_Index_Lint_int b c=some r):Ct Tryz.prog 203 [a,iV c] [rI a b] (fun v L=>v=iV r∧L=[]):=by
 refine ct_intro Tryz.func203 rfl kr (fun F=>?_);unfold slices_Index_Lint_int at h;refine Sg (Pp 1 (Es (Sg (Pp 1 (w_len (rd_hd 0 rfl) kr ts_25 (Pp 1 (En ?_)))))));refine h_lenle (rd_lenle 0 rfl) (fun hN1=>?_);obtain ⟨r1,elp1,h1⟩:=bnd h;refine h_join (X:=Unit × Unit) (fun g=>[]) (fun g=>[]++F) (fun g=>r1=.go g.2) ?_ ?_
 ·refine Wb ?_;refine h_rg (fun (k1:Nat) (st:Unit) (g:Unit)=>[(0,a),(1,iV c),(7,iN b.length),(8,iN k1)]) (fun (k1:Nat) (st:Unit) (g:Unit)=>[rI a b]++F) () elp1 (Nat.zero_le _) aK (tH [(0,Y)] 1) ?_ ?_
  ·rintro ⟨⟩ ⟨⟩ hr1 j;refine Sg (Pp 1 (Es (Xf (rgF (N:=b.length)) (We (Te (q_rzX (Be ?_)))))));exact q_join ((),()) hr1 aK (tH [] 1)
  rintro rem k1 ⟨⟩ ⟨⟩ o1 hk1 h2 hn1 j;have h2:slices_Index_Lint_int_L0 b c k1=some o1:=h2;unfold slices_Index_Lint_int_L0 at h2;refine Sg (Pp 1 (Es (Xt (rgT (k:=k1) (N:=b.length) hk1) (Ws (Tn (Sq (Wb (Sg (Pp 2 (Eg (Pp 3 ?_)))))))))));obtain ⟨x1,ex1,h3⟩:=bnd h2;refine w_ix (k:=.i64) (rd_hd 0 rfl) (nbd ex1) rfl kr ts_25 ti_3 ?_;refine w_ldR 0 0 rfl ex1 kr ti_3 rfl rfl ?_
  rintro _;refine Pp 1 (En ?_);rcases bcase h3 with ⟨t1,h4⟩ | ⟨t1,h4⟩
  ·refine Xt t1 (Sg (Pp 2 (Er (Br (Tr (q_rgR (Br (q_joinR (Tr ?_)))))))));have h4:=Sj h4;subst h4;have hn:=(show _=_ from hn1);subst hn;have h1:=Sj (show some _=some _ from h1);subst h1;exact Ql [iN k1] [] 1
  refine Xs t1 (Bn (Tn (Rg (w_bi (zinc hk1 hN1) kr (Pp 1 (Ei ?_))))));have h4:=Sj h4;subst h4;exact q_rgo () hn1 aK (tH [(0,Y)] 1)
 rintro ⟨⟨⟩,⟨⟩⟩ hc j;subst hc;refine Tn (Sg (Pp 1 (Er ?_)));have h1:=Sj h1;subst h1;exact Ql [iV (-1)] [] 0
theorem c_slices_Contains_Lint_int {b:List Int} {c:Int} {a:Value} {r:Bool} (h:slices_Contains_Lint_int b c=some r):Ct Tryz.prog 190 [a,iV c] [rI a b] (fun v L=>v=.bool r∧L=[]):=by
 refine ct_intro Tryz.func190 rfl kr (fun F=>?_);unfold slices_Contains_Lint_int at h;refine Sg (Pp 1 (Eg (Pp 2 ?_)));obtain ⟨r1,er1,h1⟩:=bnd h;refine Fe [(0,Y)] (c_slices_Index_Lint_int er1) rfl fok_203 ?_;refine Pp 2 (Er ?_);have h1:=Sj h1;subst h1;exact Ql [.bool (decide (r1 ≥ (0:Int)))] [] 1
theorem c_adversary_done {b:T_api_Scenario} {a:T_api_Deviation} {f:Int} {c d e:Value} {r:Bool} (h:adversary_done b a f=some r):Ct Tryz.prog 180 [.agg #[uN b.S.P,iV b.S.N,iV b.S.T,c,d,e],.agg #[iV a.Round,iV a.From,iV a.To,iV a.At,iV a.Kind,uN a.K,iV a.Of,iV a.SrcIndex],iV f] [rI c b.Corrupt,rD d b.Deviations,rS e b.Tapes] (fun v L=>v=.bool r∧L=[]):=by
 refine ct_intro Tryz.func180 rfl kr (fun F=>?_);unfold adversary_done at h;refine Sg ?_;refine w_box (t:=29) (v:=.agg #[uN b.S.P,iV b.S.N,iV b.S.T,c,d,e]) (cs:=(pP b.S [c,d,e])) (cv0 kr) kr (fun q1=>?_)
 refine WI.hd (y:=I72 q1 b.S c d e) kr ?_;refine w_opP 0 rfl (fun b1 hb=>?_);subst hb
 refine w_box (t:=152) (v:=.agg #[iV a.Round,iV a.From,iV a.To,iV a.At,iV a.Kind,uN a.K,iV a.Of,iV a.SrcIndex]) (cs:=[iV a.Round,iV a.From,iV a.To,iV a.At,iV a.Kind,uN a.K,iV a.Of,iV a.SrcIndex]) (cv0 kr) kr (fun q2=>?_)
 refine WI.hd (y:=I59 q2 a.Round a.From a.To a.At a.Kind a.K a.Of a.SrcIndex) kr ?_;refine w_opP 0 rfl (fun b2 hb=>?_);subst hb;refine Pp 1 (Eg (Pp 1 (w_ldB 0 0 rfl kr ti_3 rfl rfl (Pp 3 ?_))));rcases bcase h with ⟨t1,h1⟩ | ⟨t1,h1⟩
 ·refine Kb 11 t1 (Pp 1 (w_ldB 1 3 rfl kr ti_25 rfl rfl (Pp 1 (w_ldB 0 1 rfl kr ti_3 rfl rfl ?_))));obtain ⟨r1,er1,h2⟩:=bnd h1;refine Fe [(2,Y)] (c_slices_Contains_Lint_int er1) rfl fok_190 ?_;refine Pp 2 (Er ?_);have h2:=Sj h2;subst h2;exact Ql [.bool r1] [] 5
 refine Kb 11 t1 (Pp 7 (Er ?_));have h1:=Sj h1;subst h1;exact Ql [.bool false] [] 5
theorem c_field_Reduce {a b r:Nat} (h:field_Reduce a b=some r):Ct Tryz.prog 191 [uN a,uN b] [] (fun v L=>v=uN r∧L=[]):=by
 refine ct_intro Tryz.func191 rfl kr (fun F=>?_);unfold field_Reduce at h;refine Sg (Pp 1 (Eg (Pp 2 ?_)));obtain ⟨r1,er1,h1⟩:=bnd h;refine Fe [] (c_field_fold er1) rfl fok_156 ?_;refine Pp 1 (Er ?_);have h1:=Sj h1;subst h1;exact Ql [uN r1] [] 0
theorem c_slices_Clone_Luint64_uint64 {c:List Nat} {a:Value} {r:(List Nat)} (h:slices_Clone_Luint64_uint64 c=some r):Ct Tryz.prog 170 [a] [rU a c] (fun v L=>∃ w0:Value,v=w0∧L=[I14 w0 r]):=by
 refine ct_intro Tryz.func170 rfl kr (fun F=>?_);unfold slices_Clone_Luint64_uint64 at h;refine Sg (Pp 1 (Es (Sg (Pp 1 ?_))));refine w_nl (b:=true) 0 rfl kr ts_60 (fun hv hx=>?_) ?_
 ·subst hx;refine En ?_;refine h_ct (b:=true) rfl kr ?_;refine Sg (Pp 1 (Er (Tr ?_)));refine QH.ent (ownNil (kd:=Ku) (e:=22)) ?_;obtain rfl:r=([]:List Nat):=by simpa [appO,cutO] using h.symm
  exact q_end (l:=[(.slice none 0 0)]) [(0,Z)] 1 ⟨(.slice none 0 0),rfl,rfl⟩ (.inl rfl) kr kr kr
 refine En ?_;refine h_cf (b:=false) rfl kr ?_;refine Ws (Tn (Sg ?_));refine w_lt (kd:=Ku) (t:=60) (len:=0) (ps0:=[]) (ps:=[]) ([]:List Nat) _ row0 sc0 kr ts_60 ti_22 kr rfl rfl (fun v1=>?_);refine Pp 1 ?_;obtain ⟨l1,el1,h1⟩:=bnd h;refine w_app 0 rfl (rd_src 1 rfl) el1 kr ts_60 ti_22 rfl (fun v2=>?_);refine Pp 1 (Er ?_);have h1:=Sj h1;subst h1
 exact q_end (l:=[v2]) [(0,Z)] 1 ⟨v2,rfl,rfl⟩ (.inl rfl) kr kr kr
theorem c_adversary_word {d:List Nat} {c:Int} {a:Value} {r:Nat} (h:adversary_word d c=some r):Ct Tryz.prog 192 [a,iV c] [rU a d] (fun v L=>v=uN r∧L=[]):=by
 refine ct_intro Tryz.func192 rfl kr (fun F=>?_);unfold adversary_word at h;refine Sg (Pp 1 (Es (Sg (Pp 3 ?_))));rcases bcase h with ⟨t1,h1⟩ | ⟨t1,h1⟩
 ·refine Kb 7 t1 (Pp 5 (En ?_));refine h_ct (b:=true) rfl kr ?_;refine Sg (Pp 1 (Er (Tr ?_)));have h1:=Sj h1;subst h1;exact Ql [uN 0] [] 1
 refine Kb 7 t1 (Pp 2 (w_len (rd_hd 0 rfl) kr ts_60 (Pp 2 (En ?_))));rcases bcase h1 with ⟨t2,h2⟩ | ⟨t2,h2⟩
 ·refine Xt t2 (Sg (Pp 1 (Er (Tr ?_))));have h2:=Sj h2;subst h2;exact Ql [uN 0] [] 1
 refine Xs t2 (Tn (Sg (Pp 2 ?_)));obtain ⟨x1,ex1,h3⟩:=bnd h2;refine w_ix (k:=.i64) (rd_hd 0 rfl) (ib ex1) (iz ex1) kr ts_60 ti_22 ?_;refine w_ldR 0 0 rfl (ig ex1) kr ti_22 rfl rfl ?_;rintro _;refine Pp 1 (Er ?_);have h3:=Sj h3;subst h3;exact Ql [uN x1] [] 1
theorem c_adversary_upon {b:T_api_Scenario} {a:T_api_Deviation} {p:List Nat} {o:List Nat} {c d e f n:Value} {r:(List Nat)} (h:adversary_upon b a p o=some r):Ct Tryz.prog 181 [.agg #[uN b.S.P,iV b.S.N,iV b.S.T,c,d,e],.agg #[iV a.Round,iV a.From,iV a.To,iV a.At,iV a.Kind,uN a.K,iV a.Of,iV a.SrcIndex],f,n] [rI c b.Corrupt,rD d b.Deviations,rS e b.Tapes,rU f p,rU n o] (fun v L=>∃ w0:Value,v=w0∧L=[rU w0 r]):=by
 refine ct_intro Tryz.func181 rfl kr (fun F=>?_);unfold adversary_upon at h;refine Sg ?_;refine w_box (t:=29) (v:=.agg #[uN b.S.P,iV b.S.N,iV b.S.T,c,d,e]) (cs:=(pP b.S [c,d,e])) (cv0 kr) kr (fun q1=>?_)
 refine WI.hd (y:=I72 q1 b.S c d e) kr ?_;refine w_opP 0 rfl (fun b1 hb=>?_);subst hb
 refine w_box (t:=152) (v:=.agg #[iV a.Round,iV a.From,iV a.To,iV a.At,iV a.Kind,uN a.K,iV a.Of,iV a.SrcIndex]) (cs:=[iV a.Round,iV a.From,iV a.To,iV a.At,iV a.Kind,uN a.K,iV a.Of,iV a.SrcIndex]) (cv0 kr) kr (fun q2=>?_)
 refine WI.hd (y:=I59 q2 a.Round a.From a.To a.At a.Kind a.K a.Of a.SrcIndex) kr ?_;refine w_opP 0 rfl (fun b2 hb=>?_);subst hb;refine Pp 1 (Es (Sg (Pp 1 (w_ldB 0 4 rfl kr ti_3 rfl rfl (Pp 1 (En ?_))))));rcases bcase h with ⟨t1,h1⟩ | ⟨t1,h1⟩
 ·refine Xt t1 (Sg (Pp 1 (Er (Tr ?_))));refine QH.ent (rdNil (kd:=Ku)) ?_;have h1:=Sj h1;subst h1;exact q_end (l:=[(.slice none 0 0)]) [(0,Y)] 8 ⟨(.slice none 0 0),rfl,rfl⟩ (.inl rfl) kr kr kr
 refine Xs t1 (Tn (Sq (Sg (Pp 1 (w_ldB 0 3 rfl kr ti_3 rfl rfl (Pp 1 (w_len (rd_hd 5 rfl) kr ts_60 (Pp 1 (En ?_)))))))));rcases bcase h1 with ⟨t2,h2⟩ | ⟨t2,h2⟩
 ·refine Xt t2 (Sg (Pp 2 (Er (Tr ?_))));have h2:=Sj h2;subst h2;exact q_end (l:=[f]) [(5,Y)] 7 ⟨f,rfl,rfl⟩ (.inl rfl) kr kr kr
 refine Xs t2 (Tn (Sg (Pp 2 (w_ldB 1 0 rfl kr ti_22 rfl rfl (Pp 1 (Eg (Pp 2 (w_ldB 0 5 rfl kr ti_22 rfl rfl ?_))))))));obtain ⟨r1,er1,h3⟩:=bnd h2;refine Fe [] (c_field_Reduce er1) rfl fok_191 ?_;refine Pp 1 (Eg (Pp 1 ?_));obtain ⟨r2,er2,h4⟩:=bnd h3;refine Fx [(5,Y)] (c_slices_Clone_Luint64_uint64 er2) rfl fok_170 (fun w2=>?_)
 refine Pp 1 (Es (Sg (Pp 1 (w_ldB 1 4 rfl kr ti_3 rfl rfl (En (Wb (Sg (Pp 2 (En ?_)))))))));rcases bcase h4 with ⟨t3,h5⟩ | ⟨t3,h5⟩
 ·refine Xt t3 (Rg (Pp 2 (w_ldB 1 3 rfl kr ti_3 rfl rfl (Pp 1 ?_))));obtain ⟨x1,ex1,h6⟩:=bnd h5;refine w_ix (k:=.i64) (own_hd 0 rfl) (ib ex1) (iz ex1) kr ts_60 ti_22 ?_;obtain ⟨l1,el1,h7⟩:=bnd h6;refine w_stO (kd:=Ku) (w:=uN r1) (m:=a.At.toNat) (x0:=r1) 0 () rfl (ib ex1) (sinj el1) kr ti_22 (cv0 kr) (it0 rfl) ?_;refine Ei (Bn (Tn (Sg (Pp 2 (Er ?_)))))
  refine QH.ent (frzAt 0 rfl) ?_;have h7:=Sj h7;subst h7;exact q_end (l:=[w2]) [(0,Y)] 8 ⟨w2,rfl,rfl⟩ (.inl rfl) kr kr kr
 refine Xf t3 (Sg (Pp 2 (En ?_)));rcases bcase h5 with ⟨t4,h8⟩ | ⟨t4,h8⟩
 ·refine Xt t4 ?_;obtain ⟨x2,ex2,h9⟩:=bnd h8;obtain ⟨r3,er3,h10⟩:=bnd h9;obtain ⟨l2,el2,h11⟩:=bnd h10
  refine h_fm [0,0,2,0,0,0,32,112,240,0,1016,2047,4095] ⟨8,[0,0,0,0,0,0,0,0,0,0,0,0,1],[(12,[(0,0)])],[(2,[(0,1)]),(6,[(0,1)]),(7,[(0,0)]),(8,[(0,0)]),(11,[(0,0)])],[]⟩ (fun γ=>[w2,.pointer (some ⟨b2,3,none⟩),iV a.At,uN b.S.P,w2,.pointer (some ⟨b2,3,none⟩),iV a.At,.pointer (some (elV w2 (a.At.toNat*Ku.size))),uN x2,uN r1,uN r3,.pointer (some (elV w2 (a.At.toNat*Ku.size))),undef]) (fun i γ=>match i with | 12=>[I14 w2 l2] | _=>[]) [0,1,3,4,5,9] tryz_mix Tb_ok ?_ ?_
  ·refine ⟨?_,?_,?_,?_,?_,?_,?_,trivial⟩
   ·intro γ F;refine w_ldB 0 3 rfl kr ti_3 rfl rfl ?_;exact wE (gl []) [(0,Z)] 0
   ·intro γ F;refine w_ldB 0 3 rfl kr ti_3 rfl rfl ?_;exact wE (gl []) [(0,Z)] 0
   ·intro γ F;refine w_ix (k:=.i64) (own_hd 0 rfl) (ib ex2) (iz ex2) kr ts_60 ti_22 ?_;exact wE (gl []) [(0,Z)] 0
   ·intro γ F;refine w_ldO 0 0 rfl (ig ex2) kr ti_22 rfl rfl ?_;rintro _;exact wE (gl []) [(0,Z)] 0
   ·intro γ F;refine Fe [] (c_field_Add er3) rfl fok_92 ?_;exact wE (gl []) [] 0
   ·intro γ F;refine w_ix (k:=.i64) (own_hd 0 rfl) (ib ex2) (iz ex2) kr ts_60 ti_22 ?_;exact wE (gl []) [(0,Z)] 0
   intro γ F;refine w_stO (kd:=Ku) (w:=uN r3) (m:=a.At.toNat) (x0:=r3) 0 () rfl (ib ex2) (sinj el2) kr ti_22 (cv0 kr) (it0 rfl) ?_;exact wE (gl []) [(0,Z)] 0
  intro γ1;refine Bn (Tn (Sg (Pp 2 (Er ?_))));refine QH.ent (frzAt 7 rfl) ?_;have h11:=Sj h11;subst h11;exact q_end (l:=[w2]) [(0,Y)] 8 ⟨w2,rfl,rfl⟩ (.inl rfl) kr kr kr
 refine Xf t4 (Sg (Pp 2 (En ?_)));rcases bcase h8 with ⟨t5,h12⟩ | ⟨t5,h12⟩
 ·refine Xt t5 (Sg (Pp 1 (Es (Sg (Pp 1 (w_ldB 2 3 rfl kr ti_25 rfl rfl (Pp 1 (w_ldB 1 6 rfl kr ti_3 rfl rfl ?_))))))));obtain ⟨r4,er4,h13⟩:=bnd h12;refine Fe [(3,Y)] (c_slices_Contains_Lint_int er4) rfl fok_190 ?_;refine Pp 1 (En ?_);obtain ⟨x3,ej1,h14⟩:=bnd h13
  refine h_join (X:=Unit) (fun g=>[(2,w2),(5,(bx b2)),(9,uN b.S.P),(10,uN r1),(11,uN x3)]) (fun g=>[I14 w2 r2,I15 b2 a.Round a.From a.To a.At a.Kind a.K a.Of a.SrcIndex]++F) (fun _=>True) ?_ ?_
  ·rcases bcase ej1 with ⟨t6,h15⟩ | ⟨t6,h15⟩
   ·refine Xt t6 (Rg (Pp 2 (w_ldB 1 7 rfl kr ti_3 rfl rfl ?_)));obtain ⟨r5,er5,h16⟩:=bnd h15;refine Fe [(7,Y)] (c_adversary_word er5) rfl fok_192 ?_;refine Pp 1 (Ei ?_);cases h16;exact q_join () trivial aK (tH [(0,Z),(0,Z)] 6)
   refine Xs t6 ?_;cases h15;exact q_join () trivial aK (tH [(0,Z),(0,Z)] 6)
  rintro ⟨⟩ - j;refine Tn ?_;obtain ⟨x4,ex4,h17⟩:=bnd h14;obtain ⟨r6,er6,h18⟩:=bnd h17;obtain ⟨r7,er7,h19⟩:=bnd h18;obtain ⟨l3,el3,h20⟩:=bnd h19
  refine h_fm [0,0,2,0,0,0,32,112,240,0,0,0,3584,8184,16383,32767] ⟨2,[0,0,0,0,0,0,0,0,0,0,0,0,0,0,0,1],[(15,[(0,0)])],[(2,[(0,1)]),(6,[(0,1)]),(7,[(0,0)]),(8,[(0,0)]),(14,[(0,0)])],[]⟩ (fun γ=>[w2,.pointer (some ⟨b2,3,none⟩),iV a.At,uN b.S.P,w2,.pointer (some ⟨b2,3,none⟩),iV a.At,.pointer (some (elV w2 (a.At.toNat*Ku.size))),uN x4,uN b.S.P,uN r1,uN x3,uN r6,uN r7,.pointer (some (elV w2 (a.At.toNat*Ku.size))),undef]) (fun i γ=>match i with | 15=>[I14 w2 l3] | _=>[]) [0,1,3,4,5,9,10,11] tryz_mix Tb_ok ?_ ?_
  ·refine ⟨?_,?_,?_,?_,?_,?_,?_,?_,trivial⟩
   ·intro γ F;refine w_ldB 0 3 rfl kr ti_3 rfl rfl ?_;exact wE (gl []) [(0,Z)] 0
   ·intro γ F;refine w_ldB 0 3 rfl kr ti_3 rfl rfl ?_;exact wE (gl []) [(0,Z)] 0
   ·intro γ F;refine w_ix (k:=.i64) (own_hd 0 rfl) (ib ex4) (iz ex4) kr ts_60 ti_22 ?_;exact wE (gl []) [(0,Z)] 0
   ·intro γ F;refine w_ldO 0 0 rfl (ig ex4) kr ti_22 rfl rfl ?_;rintro _;exact wE (gl []) [(0,Z)] 0
   ·intro γ F;refine Fe [] (c_field_Mul er6) rfl fok_145 ?_;exact wE (gl []) [] 0
   ·intro γ F;refine Fe [] (c_field_Add er7) rfl fok_92 ?_;exact wE (gl []) [] 0
   ·intro γ F;refine w_ix (k:=.i64) (own_hd 0 rfl) (ib ex4) (iz ex4) kr ts_60 ti_22 ?_;exact wE (gl []) [(0,Z)] 0
   intro γ F;refine w_stO (kd:=Ku) (w:=uN r7) (m:=a.At.toNat) (x0:=r7) 0 () rfl (ib ex4) (sinj el3) kr ti_22 (cv0 kr) (it0 rfl) ?_;exact wE (gl []) [(0,Z)] 0
  intro γ2;refine Bn (Tn (Sg (Pp 2 (Er ?_))));refine QH.ent (frzAt 1 rfl) ?_;have h20:=Sj h20;subst h20;exact q_end (l:=[w2]) [(0,Y)] 2 ⟨w2,rfl,rfl⟩ (.inl rfl) kr kr kr
 refine Xs t5 (Bn (Tn (Sg (Pp 2 (Er ?_)))));refine QH.ent (frzAt 0 rfl) ?_;have h12:=Sj h12;subst h12;exact q_end (l:=[w2]) [(0,Y)] 8 ⟨w2,rfl,rfl⟩ (.inl rfl) kr kr kr
theorem c_adversary_ApplyToMessages {a:T_api_Scenario} {o:Int} {n:List (List (List Nat))} {d b f c:Value} {r:(List (List (List Nat)))} (h:adversary_ApplyToMessages a o n=some r):Ct Tryz.prog 165 [.agg #[uN a.S.P,iV a.S.N,iV a.S.T,d,b,f],iV o,c] [rI d a.Corrupt,rD b a.Deviations,rS f a.Tapes,I9 c n] (fun v L=>∃ w0:Value,v=w0∧L=[I12 w0 r]):=by
 refine ct_intro Tryz.func165 rfl kr (fun F=>?_);unfold adversary_ApplyToMessages at h;refine Sg ?_;refine w_box (t:=29) (v:=.agg #[uN a.S.P,iV a.S.N,iV a.S.T,d,b,f]) (cs:=(pP a.S [d,b,f])) (cv0 kr) kr (fun q1=>?_)
 refine WI.hd (y:=I72 q1 a.S d b f) kr ?_;refine w_opP 0 rfl (fun b1 hb=>?_);subst hb;refine Pp 1 (Eg (Pp 1 (w_len (rd_hd 4 rfl) kr ts_30 ?_)));obtain ⟨l1,el1,h1⟩:=bnd h;refine w_mkT (rowK Ks 60) new_row (kl:=.i64) (kc:=.i64) el1 kr ts_30 ti_27 rfl (fun v1=>?_)
 refine Pp 1 (Es (Sg (Pp 1 (w_len (rd_hd 5 rfl) kr ts_30 (Pp 1 (En ?_))))));refine h_lenle (rd_lenle 5 rfl) (fun hN1=>?_);obtain ⟨l3,elp1,h2⟩:=bnd h1
 refine h_join (X:=Value) (fun g=>[(1,iV o),(2,c),(3,(bx b1)),(7,(th g))]) (fun g=>[I9 c n,I13 b1 a.S d b f,rI d a.Corrupt,rD b a.Deviations,rS f a.Tapes,I6 g l3]++F) (fun _=>True) ?_ ?_
 ·refine Wb ?_
  refine h_rs (fun (k1:Nat) (st:(List (List (List Nat)))) (g:Value)=>[(1,iV o),(2,c),(3,(bx b1)),(7,(th g)),(17,c),(18,iN n.length),(19,iN k1)]) (fun (k1:Nat) (st:(List (List (List Nat)))) (g:Value)=>[I9 c n,I13 b1 a.S d b f,rI d a.Corrupt,rD b a.Deviations,rS f a.Tapes,I6 g st]++F) (tw v1 (List.replicate (n.length:Int).toNat (.slice none 0 0))) elp1 (Nat.zero_le _) aK (tH [(5,Y),(1,Z),(1,Y),(2,Y),(3,Y),(0,Z)] 4) ?_ ?_
  ·rintro g3 j;refine Sg (Pp 1 (Es (Xf (rgF (N:=n.length)) (We (Te (q_rzX (Be ?_)))))));exact q_join (tw (th g3) (tg g3)) trivial aK (tH [(0,Y),(1,Z),(1,Y),(2,Y),(3,Y),(4,Z)] 4)
  rintro rem k1 l2 g1 o1 hk1 h3 hn1 j;have h3:adversary_ApplyToMessages_L0 n k1 l2=some o1:=h3;unfold adversary_ApplyToMessages_L0 at h3;refine Sg (Pp 1 (Es (Xt (rgT (k:=k1) (N:=n.length) hk1) (Ws (Tn (Sq (Wb (Sg (Pp 1 ?_)))))))));obtain ⟨x2,ex2,h4⟩:=bnd h3;refine w_ix (k:=.i64) (rd_hd 0 rfl) (nbd ex2) rfl kr ts_30 ti_27 ?_;refine w_ldR 0 0 rfl ex2 kr ti_27 rfl rfl ?_
  rintro v2;refine Pp 2 (En (Rg (Pp 3 ?_)));obtain ⟨r2,er2,h5⟩:=bnd h4;refine Fx [(0,Y)] (c_slices_Clone_LLuint64_Luint64 er2) rfl fok_117 (fun w1=>?_);obtain ⟨x3,ex3,h6⟩:=bnd h5;refine w_ix (k:=.i64) (tree_hdI (inP 7 rfl)) (nbd ex3) rfl kr ts_30 ti_27 ?_;refine WI.row rs_row (inP 7 rfl) ex3 (fun g4 hg1=>?_);refine WI.fact 0 rfl (fun hg2=>?_)
  refine WI.ent (tr_out 9 rfl hg2 ex3) ?_;obtain ⟨l4,el4,h7⟩:=bnd h6;refine w_stH (R:=(rowK Ks 60)) (g':=w1) (m:=k1) 4 1 rfl rfl (nbd ex3) (sinj el4) rfl (cvS (own_hd 4 rfl)) (sl_one (own_hd 4 rfl)) kr ti_27 ?_;refine Ei (Bn (Tn (Rg (w_bi (zinc hk1 hN1) kr (Pp 1 (Ei ?_))))));have h7:=Sj h7;subst h7
  exact q_rs (tw (th g1) ((tg g1).set k1 w1)) hn1 aK (tH [(5,Y),(6,Z),(6,Y),(7,Y),(8,Y),(0,Z)] 8)
 rintro g2 - j;refine Tn (Sq (Sg (Pp 1 (w_ldB 1 4 rfl kr ti_26 rfl rfl (w_len (rd_hd 3 rfl) kr ts_26 (Pp 1 (En ?_)))))));refine h_lenle (rd_lenle 3 rfl) (fun hN2=>?_);obtain ⟨l6,elp2,h8⟩:=bnd h2;refine h_join (X:=Unit) (fun g=>[(7,(th g2))]) (fun g=>[I6 g2 l6]++F) (fun _=>True) ?_ ?_
 ·refine Wb ?_
  refine h_rs (fun (k2:Nat) (st:(List (List (List Nat)))) (g:Unit)=>[(1,iV o),(2,c),(3,(bx b1)),(7,(th g2)),(31,b),(32,iN a.Deviations.length),(33,iN k2)]) (fun (k2:Nat) (st:(List (List (List Nat)))) (g:Unit)=>[I9 c n,I13 b1 a.S d b f,rI d a.Corrupt,rD b a.Deviations,rS f a.Tapes,I6 g2 st]++F) () elp2 (Nat.zero_le _) aK (tH [(0,Y),(1,Z),(1,Y),(2,Y),(3,Y),(4,Z)] 4) ?_ ?_
  ·rintro ⟨⟩ j;refine Sg (Pp 1 (Es (Xf (rgF (N:=a.Deviations.length)) (We (Te (q_rzX (Be ?_)))))));exact q_join () trivial aK (tH [(5,Z)] 5)
  rintro rem k2 l5 ⟨⟩ o2 hk2 h9 hn2 j;have h9:adversary_ApplyToMessages_L1 a o n k2 l5=some o2:=h9;unfold adversary_ApplyToMessages_L1 at h9;refine Sg (Pp 1 (Es (Xt (rgT (k:=k2) (N:=a.Deviations.length) hk2) (Ws (Tn (Sq (Wb (Sg ?_))))))));obtain ⟨x5,ex5,h10⟩:=bnd h9;refine w_ix (k:=.i64) (rd_hd 3 rfl) (nbd ex5) rfl kr ts_26 ti_152 ?_
  refine w_ldR 3 0 rfl ex5 kr ti_152 rfl rfl ?_;rintro ⟨_,_,_,_,_,_,_,_⟩;refine w_al kr ti_152 (fun q2=>?_);refine WI.hd (y:=blkP q2 152 [iN 0,iN 0,iN 0,iN 0,iN 0,uN 0,iN 0,iN 0]) kr ?_
  refine w_opP 0 rfl (fun b2 hb=>?_);subst hb
  refine w_stB (v:=.agg #[iV x5.Round,iV x5.From,iV x5.To,iV x5.At,iV x5.Kind,uN x5.K,iV x5.Of,iV x5.SrcIndex]) (off:=0) (cs:=[iV x5.Round,iV x5.From,iV x5.To,iV x5.At,iV x5.Kind,uN x5.K,iV x5.Of,iV x5.SrcIndex]) 0 rfl (cv0 kr) kr ti_152 rfl rfl (oC (fun _ _=>rfl) (oC (fun _ _=>rfl) (oC (fun _ _=>rfl) (oC (fun _ _=>rfl) (oC (fun _ _=>rfl) (oC (fun _ _=>rfl) (oC (fun _ _=>rfl) (oC (fun _ _=>rfl) oN)))))))) ?_
  refine WI.hd (y:=I15 b2 x5.Round x5.From x5.To x5.At x5.Kind x5.K x5.Of x5.SrcIndex) kr ?_;refine Es (Sg (w_ldB 2 0 rfl kr ti_29 rfl rfl (w_ldB 0 0 rfl kr ti_152 rfl rfl (Pp 1 ?_))));obtain ⟨r4,er4,h11⟩:=bnd h10
  refine Fe [(3,Y),(4,Y),(5,Y)] (c_adversary_done er4) rfl fok_180 ?_;refine Pp 1 (En ?_);rcases bcase h11 with ⟨t1,h12⟩ | ⟨t1,h12⟩
  ·refine Xt t1 (We (Te (Be (Tn (Rg (w_bi (zinc hk2 hN2) kr (Pp 1 (Ei ?_))))))));have h12:=Sj h12;subst h12;exact q_rs () hn2 aK (tH [(1,Y),(2,Z),(2,Y),(3,Y),(4,Y),(5,Z)] 5)
  refine Xs t1 (Tn (Sg (Pp 1 (Es (Sg (Pp 1 (w_ldB 0 4 rfl kr ti_3 rfl rfl (Pp 1 (En ?_)))))))));obtain ⟨l7,ej1,h13⟩:=bnd h12
  refine h_join (X:=Value) (fun g=>[(1,iV o),(2,c),(3,(bx b1)),(7,(th g2)),(11,(bx b2)),(12,g),(31,b),(32,iN a.Deviations.length),(33,iN k2)]) (fun g=>[I9 c n,I13 b1 a.S d b f,rI d a.Corrupt,rD b a.Deviations,rS f a.Tapes,I6 g2 l5,I15 b2 x5.Round x5.From x5.To x5.At x5.Kind x5.K x5.Of x5.SrcIndex,rU g l7]++F) (fun _=>True) ?_ ?_
  ·rcases bcase ej1 with ⟨t2,h14⟩ | ⟨t2,h14⟩
   ·refine Xt t2 ?_;refine WH.ent (hd_add (tree_hdI (inP 6 rfl))) ?_;obtain ⟨x6,ex6,h15⟩:=bnd h14;obtain ⟨x7,ex7,h16⟩:=bnd h15;obtain ⟨x8,ex8,h17⟩:=bnd h16;obtain ⟨x9,ex9,h18⟩:=bnd h17
    refine h_fm [0,0,2,6,15,31,0,64,192,511,1023,2047] ⟨8,[0,0,0,0,0,1,0,0,0,0,1,0],[],[(2,[(0,1)]),(7,[(0,1)])],[(4,[(0,2)]),(5,[(0,2)]),(9,[(6,0)]),(10,[(6,0)])]⟩ (fun γ=>[c,.pointer (some ⟨b2,6,none⟩),iV x5.Of,iV x6,.pointer (some (elV c (x6.toNat*(Kd.sl Ks).size))),(γ 5 0),.pointer (some ⟨b2,1,none⟩),iV x5.From,iV x8,.pointer (some (elV (γ 5 0) (x8.toNat*Ks.size))),(γ 10 0),(γ 10 0)]) (fun i γ=>match i with | 5=>[rS (γ 5 0) x7] | 10=>[rU (γ 10 0) x9] | _=>[]) [0,1,6,11] tryz_mix Tb_ok ?_ ?_
    ·refine ⟨?_,?_,?_,?_,?_,?_,?_,?_,trivial⟩
     ·intro γ F;refine w_ldB 0 6 rfl kr ti_3 rfl rfl ?_;exact wE (gl []) [(0,Z)] 0
     ·intro γ F;refine w_bi (zsubI ex6) kr ?_;exact wE (gl []) [] 0
     ·intro γ F;refine w_ix (k:=.i64) (rd_hd 0 rfl) (ib ex7) (iz ex7) kr ts_30 ti_27 ?_;exact wE (gl []) [] 1
     ·intro γ F;refine w_ldR 0 0 rfl (ig ex7) kr ti_27 rfl rfl ?_;rintro v3;exact wE (gl [v3]) [(0,Y)] 2
     ·intro γ F;refine w_ldB 0 1 rfl kr ti_3 rfl rfl ?_;exact wE (gl []) [(0,Z)] 0
     ·intro γ F;refine w_bi (zsubI ex8) kr ?_;exact wE (gl []) [] 0
     ·intro γ F;refine w_ix (k:=.i64) (rd_hd 0 rfl) (ib ex9) (iz ex9) kr ts_27 ti_60 ?_;exact wE (gl []) [] 1
     intro γ F;refine w_ldR 0 0 rfl (ig ex9) kr ti_60 rfl rfl ?_;rintro v4;exact wE (gl [v4]) [(0,Y)] 2
    intro γ1;cases h18;exact q_join (γ1 10 0) trivial aK (tH [(2,Y),(3,Z),(3,Y),(4,Y),(5,Y),(6,Z),(1,Z),(6,Y)] 7)
   refine Xs t2 ?_;refine QH.ent (rdNil (kd:=Ku)) ?_;cases h14;exact q_join (.slice none 0 0) trivial aK (tH [(2,Y),(3,Z),(3,Y),(4,Y),(5,Y),(6,Z),(1,Z),(0,Y)] 5)
  rintro g5 - j;refine Tn (Sg (Pp 2 (w_ldB 6 1 rfl kr ti_3 rfl rfl ?_)));obtain ⟨x10,ex10,h19⟩:=bnd h13;refine w_bi (zsubI ex10) kr ?_;obtain ⟨x11,ex11,h20⟩:=bnd h19;refine w_ix (k:=.i64) (tree_hdI (inP 5 rfl)) (ib ex11) (iz ex11) kr ts_30 ti_27 ?_;refine w_ldN rs_row (inP 5 rfl) (ig ex11) kr ti_27 (fun g6=>?_);refine w_len (hdI 1 rfl) kr ts_27 (Pp 1 (En ?_))
  obtain ⟨u1,eu1,h21⟩:=bnd h20;have hN3:=ckN_some eu1;obtain ⟨l9,elp3,h22⟩:=bnd h21
  refine h_join (X:=Unit) (fun g=>[(1,iV o),(2,c),(3,(bx b1)),(7,(th g2)),(31,b),(32,iN a.Deviations.length),(33,iN k2)]) (fun g=>[I9 c n,I13 b1 a.S d b f,rI d a.Corrupt,rD b a.Deviations,rS f a.Tapes,I6 g2 l9]++F) (fun _=>True) ?_ ?_
  ·refine Wb ?_
   refine h_rs (fun (k3:Nat) (st:(List (List (List Nat)))) (g:Unit)=>[(1,iV o),(2,c),(3,(bx b1)),(7,(th g2)),(11,(bx b2)),(12,g5),(31,b),(32,iN a.Deviations.length),(33,iN k2),(62,iN x11.length),(63,iN k3)]) (fun (k3:Nat) (st:(List (List (List Nat)))) (g:Unit)=>[I9 c n,I13 b1 a.S d b f,rI d a.Corrupt,rD b a.Deviations,rS f a.Tapes,I6 g2 st,I15 b2 x5.Round x5.From x5.To x5.At x5.Kind x5.K x5.Of x5.SrcIndex,rU g5 l7]++F) () elp3 (Nat.zero_le _) aK (tH [(2,Y),(3,Z),(3,Y),(4,Y),(5,Y),(6,Z),(6,Z),(6,Y)] 7) ?_ ?_
   ·rintro ⟨⟩ j;refine Sg (Pp 1 (Es (Xf (rgF (N:=x11.length)) (We (Te (q_rzX (Be ?_)))))));exact q_join () trivial aK (tH [(0,Y),(1,Z),(1,Y),(2,Y),(3,Y),(4,Z)] 6)
   rintro rem k3 l8 ⟨⟩ o3 hk3 h23 hn3 j;have h23:adversary_ApplyToMessages_L2 a x5 l7 x10 k3 l8=some o3:=h23;unfold adversary_ApplyToMessages_L2 at h23;refine Sg (Pp 1 (Es (Xt (rgT (k:=k3) (N:=x11.length) hk3) (Ws (Tn (Sq (Wb (Sg (Pp 2 (Es ?_))))))))));obtain ⟨x13,ej2,h24⟩:=bnd h23
   refine h_join (X:=Unit) (fun g=>[(1,iV o),(2,c),(3,(bx b1)),(7,(th g2)),(11,(bx b2)),(12,g5),(13,iN k3),(31,b),(32,iN a.Deviations.length),(33,iN k2),(62,iN x11.length),(63,iN k3),(82,.bool x13)]) (fun g=>[I9 c n,I13 b1 a.S d b f,rI d a.Corrupt,rD b a.Deviations,rS f a.Tapes,I6 g2 l8,I15 b2 x5.Round x5.From x5.To x5.At x5.Kind x5.K x5.Of x5.SrcIndex,rU g5 l7]++F) (fun _=>True) ?_ ?_
   ·refine Rg (Pp 1 ?_);obtain ⟨x14,ex14,h25⟩:=bnd ej2;refine w_bi (zaddI ex14) kr (Pp 1 (w_ldB 6 1 rfl kr ti_3 rfl rfl (Pp 2 ?_)));rcases bcase h25 with ⟨t3,h26⟩ | ⟨t3,h26⟩
    ·refine Kb 71 t3 (Pp 1 (w_ldB 6 2 rfl kr ti_3 rfl rfl (Pp 2 ?_)));rcases bcase h26 with ⟨t4,h27⟩ | ⟨t4,h27⟩
     ·refine Kb 75 t4 (Pp 7 (Ei ?_));cases h27;exact q_join () trivial aK (tH [(0,Y),(1,Z),(1,Y),(2,Y),(3,Y),(4,Z),(4,Z),(4,Y)] 5)
     refine Kb 75 t4 (Pp 1 (w_ldB 6 2 rfl kr ti_3 rfl rfl (Pp 1 (w_bi (zaddI ex14) kr (Pp 3 (Ei ?_))))));cases h27;exact q_join () trivial aK (tH [(0,Y),(1,Z),(1,Y),(2,Y),(3,Y),(4,Z),(4,Z),(4,Y)] 5)
    refine Kb 71 t3 (Pp 11 (Ei ?_));cases h26;exact q_join () trivial aK (tH [(0,Y),(1,Z),(1,Y),(2,Y),(3,Y),(4,Z),(4,Z),(4,Y)] 5)
   rintro ⟨⟩ - j;refine Tn ?_;rcases bcase h24 with ⟨t5,h28⟩ | ⟨t5,h28⟩
   ·refine Xt t5 ?_;refine WH.ent (hd_add (tree_hdI (inP 5 rfl))) ?_;obtain ⟨x15,ex15,h29⟩:=bnd h28;obtain ⟨x16,ex16,h30⟩:=bnd h29;obtain ⟨r6,er6,h31⟩:=bnd h30;obtain ⟨l10,el10,h32⟩:=bnd h31;obtain ⟨l11,el11,h33⟩:=bnd h32
    refine h_fm [0,0,2,6,15,31,0,0,0,0,0,1024,3072,7680,15872,0,65024,130560,0,524160,1048575,2097151] ⟨9,[0,0,0,0,0,2,0,0,0,0,0,0,0,0,2,0,0,1,0,1,0,1],[(21,[(0,6)])],[(2,[(0,7)]),(5,[(0,6)]),(7,[(0,2)]),(8,[(0,7)]),(11,[(0,7)]),(14,[(0,6)]),(17,[(0,6)])],[(4,[(0,0)]),(13,[(0,0)]),(16,[(15,1)]),(17,[(15,0)]),(19,[(18,0),(0,3),(0,4),(0,5),(0,8)]),(20,[(6,1)]),(21,[(20,0),(6,0)])]⟩ (fun γ=>[(th g2),.pointer (some ⟨b2,1,none⟩),iV x5.From,iV x10,.pointer (some (elV (th g2) (x10.toNat*1))),(γ 5 0),iN k3,.agg #[uN a.S.P,iV a.S.N,iV a.S.T,d,b,f],.agg #[iV x5.Round,iV x5.From,iV x5.To,iV x5.At,iV x5.Kind,uN x5.K,iV x5.Of,iV x5.SrcIndex],(th g2),.pointer (some ⟨b2,1,none⟩),iV x5.From,iV x10,.pointer (some (elV (th g2) (x10.toNat*1))),(γ 14 0),iN k3,.pointer (some (elV (γ 14 0) (k3*Ks.size))),(γ 17 0),g5,(γ 19 0),.pointer (some (elV (γ 5 0) (k3*Ks.size))),undef]) (fun i γ=>match i with | 5=>[fact ((tg g2)[x10.toNat]?=some (γ 5 0)),hdP (γ 5 0) x15.length] | 14=>[fact ((tg g2)[x10.toNat]?=some (γ 14 0)),hdP (γ 14 0) x15.length] | 17=>[rU (γ 17 0) x16] | 19=>[rU (γ 19 0) r6] | 21=>[I6 g2 l11] | _=>[]) [0,1,6,9,10,15,18] tryz_mix Tb_ok ?_ ?_
    ·refine ⟨?_,?_,?_,?_,?_,?_,?_,?_,?_,?_,?_,?_,?_,?_,?_,trivial⟩
     ·intro γ F;refine w_ldB 0 1 rfl kr ti_3 rfl rfl ?_;exact wE (gl []) [(0,Z)] 0
     ·intro γ F;refine w_bi (zsubI ex10) kr ?_;exact wE (gl []) [] 0
     ·intro γ F;refine w_ix (k:=.i64) (hdI 0 rfl) (ib ex15) (iz ex15) kr ts_30 ti_27 ?_;exact wE (gl []) [] 1
     ·intro γ F;refine w_ldN rs_row (inP 0 rfl) (ig ex15) kr ti_27 (fun g7=>?_);exact wE (gl [g7]) [(0,Y),(1,Y),(2,Z)] 2
     ·intro γ F;refine w_ldB 0 0 rfl kr ti_29 rfl rfl ?_;exact wE (gl []) [(0,Z)] 0
     ·intro γ F;refine w_ldB 0 0 rfl kr ti_152 rfl rfl ?_;exact wE (gl []) [(0,Z)] 0
     ·intro γ F;refine w_ldB 0 1 rfl kr ti_3 rfl rfl ?_;exact wE (gl []) [(0,Z)] 0
     ·intro γ F;refine w_bi (zsubI ex10) kr ?_;exact wE (gl []) [] 0
     ·intro γ F;refine w_ix (k:=.i64) (hdI 0 rfl) (ib ex15) (iz ex15) kr ts_30 ti_27 ?_;exact wE (gl []) [] 1
     ·intro γ F;refine w_ldN rs_row (inP 0 rfl) (ig ex15) kr ti_27 (fun g8=>?_);exact wE (gl [g8]) [(0,Y),(1,Y),(2,Z)] 2
     ·intro γ F;refine w_ix (k:=.i64) (hdI 0 rfl) (nbd ex16) rfl kr ts_27 ti_60 ?_;exact wE (gl []) [] 1
     ·intro γ F;refine WI.fact 1 rfl (fun hg3=>?_);refine w_ldI (kd:=Ks) (e:=60) (v:=(γ 14 0)) (xs:=x15) (m:=k3) 0 (inRow (R:=(rowK Ks 60)) (inP 0 rfl) hg3 (ig ex15)) ex16 kr ti_60 rfl rfl ?_;rintro v5
      exact wE (gl [v5]) [(0,Y),(1,Z)] 2
     ·intro γ F;refine Fx [(1,Y),(2,Y),(3,Y),(0,Y),(4,Y)] (c_adversary_upon er6) rfl fok_181 (fun w3=>?_);exact wE (gl [w3]) [(0,Y)] 6
     ·intro γ F;refine w_ix (k:=.i64) (hdI 0 rfl) (nbd ex16) rfl kr ts_27 ti_60 ?_;exact wE (gl []) [] 1
     intro γ F;refine WI.fact 2 rfl (fun hg4=>?_);refine w_stT (kd:=Ks) (w:=(γ 19 0)) (m:=x10.toNat) (k:=k3) (y0:=r6) 0 (γ 19 0) rfl hg4 (ig ex15) (nbd ex16) (sinj el10) (sinj el11) kr ti_60 (cvS (rd_hd 1 rfl)) (itS 1 rfl) ?_
     exact wE (gl []) [(0,Z)] 2
    intro γ2;refine Bn (Tn (Rg (w_bi (zinc hk3 hN3) kr (Pp 1 (Ei ?_)))));have h33:=Sj h33;subst h33;exact q_rs () hn3 aK (tH [(1,Y),(2,Z),(2,Y),(3,Y),(4,Y),(13,Z),(5,Z),(5,Y)] 12)
   refine Xs t5 (Bn (Tn (Rg (w_bi (zinc hk3 hN3) kr (Pp 1 (Ei ?_))))));have h28:=Sj h28;subst h28;exact q_rs () hn3 aK (tH [(0,Y),(1,Z),(1,Y),(2,Y),(3,Y),(4,Z),(4,Z),(4,Y)] 5)
  rintro ⟨⟩ - j;refine Bn (Tn (Rg (w_bi (zinc hk2 hN2) kr (Pp 1 (Ei ?_)))));have h22:=Sj h22;subst h22;exact q_rs () hn2 aK (tH [(0,Y),(1,Z),(1,Y),(2,Y),(3,Y),(4,Z)] 4)
 rintro ⟨⟩ - j;refine Tn (Sg (Pp 2 (Er ?_)));refine QH.ent (tr_own fz_row 0 rfl) ?_;have h8:=Sj h8;subst h8;exact q_end (l:=[(th g2)]) [(0,Z)] 0 ⟨(th g2),rfl,rfl⟩ (.inl rfl) kr kr kr
theorem c_network_Net_note {b:T_network_Net} {c q:Int} {s:List Nat} {e:Nat} {f n o a d p:Value} {r:(List (List T_api_Event))} (h:network_Net_note b c q s=some r):Ct Tryz.prog 162 [(bx e),iV c,iV q,p] [I1 e b.zw.S f n o b.zround a d,rI f b.zw.Corrupt,rD n b.zw.Deviations,rS o b.zw.Tapes,I2 a b.zviews,I0 d b.ztapes,rU p s] (fun v L=>∃ w0:Value,v=.tuple #[]∧L=[I1 e b.zw.S f n o b.zround w0 d,I2 w0 r,I0 d b.ztapes]):=by
 refine ct_intro Tryz.func162 rfl kr (fun F=>?_);unfold network_Net_note at h;refine Sq ?_;obtain ⟨x1,ej1,h1⟩:=bnd h
 refine h_join (X:=Unit) (fun g=>[(0,(bx e)),(1,iV c),(2,iV q),(3,p),(15,.bool x1)]) (fun g=>[I1 e b.zw.S f n o b.zround a d,rI f b.zw.Corrupt,rD n b.zw.Deviations,rS o b.zw.Tapes,I2 a b.zviews,I0 d b.ztapes,rU p s]++F) (fun _=>True) ?_ ?_
 ·refine Rg (Pp 4 ?_);rcases bcase ej1 with ⟨t1,h2⟩ | ⟨t1,h2⟩
  ·refine Kb 11 t1 (Pp 1 (w_len (rd_hd 6 rfl) kr ts_60 (Pp 2 (Ei ?_))));cases h2;exact q_join () trivial aK (tH [(0,Z),(0,Y),(1,Y),(2,Y),(3,Z),(3,Z),(3,Y)] 4)
  refine Kb 11 t1 (Pp 4 (Ei ?_));cases h2;exact q_join () trivial aK (tH [(0,Z),(0,Y),(1,Y),(2,Y),(3,Z),(3,Z),(3,Y)] 4)
 rintro ⟨⟩ - j;refine Tn ?_;rcases bcase h1 with ⟨t2,h3⟩ | ⟨t2,h3⟩
 ·refine Xt t2 ?_;obtain ⟨x2,ex2,h4⟩:=bnd h3;obtain ⟨x3,ex3,h5⟩:=bnd h4;obtain ⟨l1,el1,h6⟩:=bnd h5;refine WH.ent (hd_add (tree_hdI (inP 4 rfl))) ?_;refine WH.ent (hd_add (tree_hdI (inP 6 rfl))) ?_;refine WH.row rs_row (inP 6 rfl) (ig ex2) (fun g1 hg1=>?_);refine WH.fact 0 rfl (fun hg2=>?_);refine WH.ent (tr_out 8 rfl hg2 (ig ex2)) ?_;obtain ⟨l2,el2,h7⟩:=bnd h6
  obtain ⟨l3,el3,h8⟩:=bnd h7
  refine h_fm [0,1,3,7,0,0,32,96,224,0,992,2016,0,4096,12288,28672,0,65536,0,262144,1044480,2093056,4194272,8388607,16777215] ⟨12,[0,0,0,0,0,0,0,0,0,0,0,0,0,0,0,0,0,0,0,1,0,1,1,0,1],[(22,[(0,0)]),(24,[(23,0),(0,1)])],[(3,[(0,6)]),(8,[(0,6)]),(11,[(0,1)]),(15,[(0,6)]),(22,[(22,0),(0,1)])],[(10,[(0,5)]),(11,[(0,2)]),(19,[(0,11)]),(20,[(20,0)]),(21,[(20,0)]),(23,[(0,5)])]⟩ (fun γ=>[(bx e),(bx e),.pointer (some ⟨e,7,none⟩),(th a),iV c,(bx e),(bx e),.pointer (some ⟨e,7,none⟩),(th a),iV c,.pointer (some (elV (th a) (c.toNat*1))),g1,(bx e),(bx e),.pointer (some ⟨e,6,none⟩),iV b.zround,iV q,iV x3,p,(γ 19 0),.agg #[iV b.zround,iV x3,(γ 19 0)],(γ 21 0),(γ 22 0),.pointer (some (elV (th a) (c.toNat*1))),undef]) (fun i γ=>match i with | 19=>[rU (γ 19 0) l1] | 21=>[I66 (γ 21 0) b.zround x3 l1] | 22=>[ownV KE 68 (γ 22 0) l2] | 24=>[treeV (rowK KE 68) 65 (th a) ((tg a).set c.toNat (γ 22 0)) l3] | _=>[]) [0,1,2,4,5,6,7,9,12,13,14,16,18] tryz_mix Tb_ok ?_ ?_
  ·refine ⟨?_,?_,?_,?_,?_,?_,?_,?_,?_,?_,?_,?_,trivial⟩
   ·intro γ F;refine w_ldB 0 7 rfl kr ti_95 rfl rfl ?_;exact wE (gl []) [(0,Z)] 0
   ·intro γ F;refine w_ldB 0 7 rfl kr ti_95 rfl rfl ?_;exact wE (gl []) [(0,Z)] 0
   ·intro γ F;refine w_ix (k:=.i64) (hdI 0 rfl) (ib ex2) (iz ex2) kr ts_95 ti_65 ?_;exact wE (gl []) [] 1
   ·intro γ F;refine WI.fact 1 rfl (fun hg3=>?_);refine w_ldG (m:=c.toNat) (hOut (inP 0 rfl)) hg3 kr ti_65 ?_;exact wE (gl []) [(0,Z)] 1
   ·intro γ F;refine w_ldB 0 6 rfl kr ti_3 rfl rfl ?_;exact wE (gl []) [(0,Z)] 0
   ·intro γ F;refine w_bi (zaddI ex3) kr ?_;exact wE (gl []) [] 0
   ·intro γ F;refine w_app0 (kd:=Ku) (rd_src 0 rfl) el1 kr ts_60 ti_22 rfl (fun v1=>?_);refine WI.ent (frzAt 0 rfl) ?_;exact wE (gl [v1]) [(0,Y)] 2
   ·intro γ F;refine w_bd (v:=.agg #[iV b.zround,iV x3,(γ 19 0)]) (t:=68) (ps0:=[(0,iV b.zround),(1,iV x3),(2,(γ 19 0))]) (ps:=[(0,iV b.zround),(1,iV x3),(2,.agg #[(γ 19 0)])]) (scI (scI (scS (rd_hd 0 rfl) sc0))) kr (fun w=>by kernel_rfl) ?_;exact wE (gl []) [] 1
   ·intro γ F;refine Rh ([rU (γ 19 0) l1]++F) ?_
    refine w_lt (kd:=KE) (t:=65) (len:=1) (ps0:=[(0,.agg #[iV b.zround,iV x3,(γ 19 0)])]) (ps:=[(0,.agg #[iV b.zround,iV x3,(γ 19 0)])]) ([(⟨b.zround,x3,l1⟩:T_api_Event)]:List T_api_Event) _ (rowC (x:=(⟨b.zround,x3,l1⟩:T_api_Event)) (g:=((),(),(γ 19 0))) (itC (itA (it0 rfl) (itA (it0 rfl) (itS 0 rfl)))) row0) (scI sc0) kr ts_65 ti_68 kr rfl rfl (fun v2=>?_)
    exact wE (gl [v2]) [(0,Z)] 1
   ·intro γ F;refine w_app 0 rfl (own_src 1 rfl) el2 kr ts_65 ti_68 rfl (fun v3=>?_);exact wE (gl [v3]) [(0,Z),(0,Z),(0,Z)] 0
   ·intro γ F;refine w_ix (k:=.i64) (hdI 0 rfl) (ib ex2) (iz ex2) kr ts_95 ti_65 ?_;exact wE (gl []) [] 1
   intro γ F;refine w_stH (R:=(rowK KE 68)) (g':=(γ 22 0)) (m:=c.toNat) 0 0 rfl rfl (ib ex2) (sinj el3) rfl (cvS (own_hd 0 rfl)) (sl_one (own_hd 0 rfl)) kr ti_65 ?_;exact wE (gl []) [(0,Z)] 0
  intro γ1;have h8:=Sj h8;subst h8;exact q_end (l:=[]) [(4,Z),(11,Z),(7,Z)] 10 ⟨(tw (th a) ((tg a).set c.toNat (γ1 22 0))),rfl,rfl⟩ (.inr rfl) kr kr kr
 refine Xs t2 ?_;have h3:=Sj h3;subst h3;exact q_end (l:=[]) [(0,Z),(3,Z),(3,Z)] 4 ⟨(tw (th a) (tg a)),rfl,rfl⟩ (.inr rfl) kr kr kr
theorem c_network_Net_Send {a:T_network_Net} {q:List (List (List Nat))} {n:Nat} {c d e o f p:Value} {r:(List (List (List Nat))) × Int × (List (List T_api_Event))} (h:network_Net_Send a q=some r):Ct Tryz.prog 124 [(bx n),p] [I1 n a.zw.S c d e a.zround o f,rI c a.zw.Corrupt,rD d a.zw.Deviations,rS e a.zw.Tapes,I2 o a.zviews,I0 f a.ztapes,I9 p q] (fun v L=>∃ w0 w2:Value,v=w0∧L=[I12 w0 r.1,I1 n a.zw.S c d e r.2.1 w2 f,I2 w2 r.2.2,I0 f a.ztapes]):=by
 refine ct_intro Tryz.func124 rfl kr (fun F=>?_);unfold network_Net_Send at h;refine Sg (Pp 1 (Eg (Pp 3 (Es ?_))));refine WH.ent (hd_add (tree_hdI (inP 4 rfl))) ?_;refine WH.ent (hd_add (tree_hdI (inP 6 rfl))) ?_;obtain ⟨r1,er1,h1⟩:=bnd h
 refine h_fm [0,1,3,7,0,16,48,112,0,511,1023] ⟨9,[0,0,0,0,0,0,0,0,0,1,0],[],[(3,[(0,2)]),(7,[(0,2)])],[(9,[(0,3),(0,4),(0,5),(0,8)])]⟩ (fun γ=>[(bx n),(bx n),bx n,.agg #[uN a.zw.S.P,iV a.zw.S.N,iV a.zw.S.T,c,d,e],(bx n),(bx n),.pointer (some ⟨n,6,none⟩),iV a.zround,p,(γ 9 0),(γ 9 0)]) (fun i γ=>match i with | 9=>[I12 (γ 9 0) r1] | _=>[]) [0,1,2,4,5,6,8,10] tryz_mix Tb_ok ?_ ?_
 ·refine ⟨?_,?_,?_,trivial⟩
  ·intro γ F;refine w_ldB 0 0 rfl kr ti_29 rfl rfl ?_;exact wE (gl []) [(0,Z)] 0
  ·intro γ F;refine w_ldB 0 6 rfl kr ti_3 rfl rfl ?_;exact wE (gl []) [(0,Z)] 0
  intro γ F;refine Fx [(0,Y),(1,Y),(2,Y),(3,Y)] (c_adversary_ApplyToMessages er1) rfl fok_165 (fun w1=>?_);exact wE (gl [w1]) [(0,Z)] 4
 intro γ1;refine Tn (Sg (Pp 5 (w_ldB 2 1 rfl kr ti_3 rfl rfl ?_)));obtain ⟨l1,el1,h2⟩:=bnd h1;refine w_mkT (rowK Ks 60) new_row (kl:=.i64) (kc:=.i64) el1 kr ts_30 ti_27 rfl (fun v1=>?_);refine Pp 1 (Es (Sg (Pp 1 (w_len (tree_hdI (inP 0 rfl)) kr ts_30 (Pp 1 (En ?_))))));refine h_lenle (tree_lenle 0 rfl) (fun hN1=>?_);obtain ⟨⟨l4,l5⟩,elp1,h3⟩:=bnd h2
 refine h_join (X:=Value × Value) (fun g=>[(0,(bx n)),(7,(th g.2))]) (fun g=>[I1 n a.zw.S c d e a.zround g.1 f,rI c a.zw.Corrupt,rD d a.zw.Deviations,rS e a.zw.Tapes,I2 g.1 l4,I0 f a.ztapes,I6 g.2 l5]++F) (fun _=>True) ?_ ?_
 ·refine Wb ?_
  refine h_rs (fun (k1:Nat) (st:(List (List T_api_Event)) × (List (List (List Nat)))) (g:Value × Value)=>[(0,(bx n)),(5,.func (.func 162) #[(bx n)] #[]),(6,(γ1 9 0)),(7,(th g.2)),(31,iN l1.length),(32,iN k1)]) (fun (k1:Nat) (st:(List (List T_api_Event)) × (List (List (List Nat)))) (g:Value × Value)=>[I1 n a.zw.S c d e a.zround g.1 f,rI c a.zw.Corrupt,rD d a.zw.Deviations,rS e a.zw.Tapes,I2 g.1 st.1,I0 f a.ztapes,I12 (γ1 9 0) r1,I6 g.2 st.2]++F) ((tw (th o) (tg o)),(tw v1 (List.replicate a.zw.S.N.toNat (.slice none 0 0)))) elp1 (Nat.zero_le _) aK (tH [(3,Z),(3,Y),(4,Y),(5,Y),(6,Z),(6,Z),(7,Z),(0,Z)] 6) ?_ ?_
  ·rintro ⟨g5,g6⟩ j;refine Sg (Pp 1 (Es (Xf (rgF (N:=l1.length)) (We (Te (q_rzX (Be ?_)))))));exact q_join ((tw (th g5) (tg g5)),(tw (th g6) (tg g6))) trivial aK (tH [(0,Z),(0,Y),(1,Y),(2,Y),(3,Z),(3,Z),(4,Z)] 4)
  rintro rem k1 ⟨l2,l3⟩ ⟨g1,g2⟩ o1 hk1 h4 hn1 j;have h4:network_Net_Send_L0 a r1 k1 l2 l3=some o1:=h4;unfold network_Net_Send_L0 at h4;refine Sg (Pp 1 (Es (Xt (rgT (k:=k1) (N:=l1.length) hk1) (Ws (Tn (Sq (Wb (Sg (Pp 2 (Eg (Pp 5 (w_ldB 0 1 rfl kr ti_3 rfl rfl (Pp 1 ?_)))))))))))));refine En ?_;obtain ⟨u1,eu1,h5⟩:=bnd h4;have hN2:=ckN_some eu1
  obtain ⟨⟨l8,l9⟩,elp2,h6⟩:=bnd h5
  refine h_join (X:=Value × Value) (fun g=>[(0,(bx n)),(5,.func (.func 162) #[(bx n)] #[]),(6,(γ1 9 0)),(7,(th g.2)),(31,iN l1.length),(32,iN k1)]) (fun g=>[I1 n a.zw.S c d e a.zround g.1 f,rI c a.zw.Corrupt,rD d a.zw.Deviations,rS e a.zw.Tapes,I2 g.1 l8,I0 f a.ztapes,I12 (γ1 9 0) r1,I6 g.2 l9]++F) (fun _=>True) ?_ ?_
  ·refine Wb ?_
   refine h_rs (fun (k2:Nat) (st:(List (List T_api_Event)) × (List (List (List Nat)))) (g:Value × Value)=>[(0,(bx n)),(5,.func (.func 162) #[(bx n)] #[]),(6,(γ1 9 0)),(7,(th g.2)),(8,iN k1),(31,iN l1.length),(32,iN k1),(40,iV a.zw.S.N),(41,iN k2)]) (fun (k2:Nat) (st:(List (List T_api_Event)) × (List (List (List Nat)))) (g:Value × Value)=>[I1 n a.zw.S c d e a.zround g.1 f,rI c a.zw.Corrupt,rD d a.zw.Deviations,rS e a.zw.Tapes,I2 g.1 st.1,I0 f a.ztapes,I12 (γ1 9 0) r1,I6 g.2 st.2]++F) ((tw (th g1) (tg g1)),(tw (th g2) (tg g2))) elp2 (Nat.le_max_left ..) aK (tH [(0,Z),(0,Y),(1,Y),(2,Y),(3,Z),(3,Z),(3,Z),(3,Z)] 3) ?_ ?_
   ·rintro ⟨g11,g12⟩ j;refine Sg (Pp 1 (Es ?_));refine h_cf (b:=(decide ((((max 0 (a.zw.S.N).toNat):Nat):Int) < a.zw.S.N))) rgLF kr ?_;refine We (Te (q_rzX (Be ?_)));exact q_join ((tw (th g11) (tg g11)),(tw (th g12) (tg g12))) trivial aK (tH [(0,Z),(0,Y),(1,Y),(2,Y),(3,Z),(3,Z),(3,Z),(3,Z)] 3)
   rintro rem k2 ⟨l6,l7⟩ ⟨g7,g8⟩ o2 hk2 h7 hn2 j;have h7:network_Net_Send_L1 a r1 k1 k2 l6 l7=some o2:=h7;unfold network_Net_Send_L1 at h7;refine Sg (Pp 1 (Es ?_));refine h_ct (b:=(decide ((k2:Int) < a.zw.S.N))) (rgLT hk2) kr ?_;refine Ws (Tn (Sq (Wb (Sg (Pp 2 (Eg (Pp 2 ?_)))))));obtain ⟨x3,ex3,h8⟩:=bnd h7
   refine w_ix (k:=.i64) (own_hd 6 rfl) (nbd ex3) rfl kr ts_30 ti_27 ?_;refine w_ldO 6 0 rfl ex3 kr ti_27 rfl rfl ?_;rintro v2;refine Pp 1 ?_;obtain ⟨x4,ex4,h9⟩:=bnd h8;refine w_ix (k:=.i64) (rd_hd 0 rfl) (nbd ex4) rfl kr ts_27 ti_60 ?_;refine w_ldR 0 0 rfl ex4 kr ti_60 rfl rfl ?_;rintro v3;obtain ⟨l10,el10,h10⟩:=bnd h9
   refine w_app0 (kd:=Ku) (rd_src 0 rfl) el10 kr ts_60 ti_22 rfl (fun v4=>?_);refine Pp 1 (Eg (Pp 4 ?_));obtain ⟨x5,ex5,h11⟩:=bnd h10;refine w_ix (k:=.i64) (tree_hdI (inP 10 rfl)) (nbd ex5) rfl kr ts_30 ti_27 ?_;refine w_ldN rs_row (inP 10 rfl) ex5 kr ti_27 (fun g13=>?_);refine Pp 1 ?_;refine WI.ent (frzAt 2 rfl) ?_
   refine w_lt (kd:=Ks) (t:=27) (len:=1) (ps0:=[(0,v4)]) (ps:=[(0,.agg #[v4])]) ([l10]:List (List Nat)) _ (rowC (x:=l10) (g:=v4) (itS 0 rfl) row0) (scS (rd_hd 0 rfl) sc0) kr ts_27 ti_60 kr rfl rfl (fun v5=>?_);refine WI.fact 2 rfl (fun hg1=>?_);refine WI.ent (tr_out 13 rfl hg1 ex5) ?_;obtain ⟨l11,el11,h12⟩:=bnd h11
   refine w_app 0 rfl (own_src 2 rfl) el11 kr ts_27 ti_60 rfl (fun v6=>?_);refine w_ix (k:=.i64) (hole_hdI (inP 1 rfl)) (nbd ex5) rfl kr ts_30 ti_27 ?_;obtain ⟨l12,el12,h13⟩:=bnd h12;refine w_stH (R:=(rowK Ks 60)) (g':=v6) (m:=k1) 0 0 rfl rfl (nbd ex5) (sinj el12) rfl (cvS (own_hd 0 rfl)) (sl_one (own_hd 0 rfl)) kr ti_27 ?_;refine En (Rg (Pp 4 ?_))
   obtain ⟨r4,er4,h14⟩:=bnd h13;refine Fx [(7,Z),(7,Y),(8,Y),(9,Y),(10,Z),(10,Z),(2,Y)] (c_network_Net_note er4) rfl fok_162 (fun w2=>?_);refine Ei (Bn (Tn (Rg (w_bi (zinc hk2 hN2) kr (Pp 1 (Ei ?_))))));have h14:=Sj h14;subst h14
   exact q_rs ((tw (th w2) (tg w2)),(tw (th g8) ((tg g8).set k1 v6))) hn2 aK (tH [(0,Z),(9,Y),(10,Y),(11,Y),(0,Z),(0,Z),(10,Z),(0,Z)] 9)
  rintro ⟨g9,g10⟩ - j;refine Bn (Tn (Rg (w_bi (zinc hk1 hN1) kr (Pp 1 (Ei ?_)))));have h6:=Sj h6;subst h6;exact q_rs ((tw (th g9) (tg g9)),(tw (th g10) (tg g10))) hn1 aK (tH [(0,Z),(0,Y),(1,Y),(2,Y),(3,Z),(3,Z),(3,Z),(3,Z)] 3)
 rintro ⟨g3,g4⟩ - j;refine Tn (Sg (Pp 3 (w_ldB 0 6 rfl kr ti_3 rfl rfl ?_)));obtain ⟨x6,ex6,h15⟩:=bnd h3;refine w_bi (zaddI ex6) kr (Pp 2 ?_);refine w_stB (v:=iV x6) (off:=6) (cs:=[iV x6]) 0 rfl (cv0 kr) kr ti_3 rfl rfl (oC (fun _ _=>rfl) oN) ?_
 refine WI.hd (y:=I1 n a.zw.S c d e x6 g3 f) kr ?_;refine Eg (Pp 2 (Er ?_));refine QH.ent (tr_own fz_row 6 rfl) ?_;have h15:=Sj h15;subst h15
 exact q_end (l:=[(th g4)]) [(0,Z),(0,Z),(3,Z),(3,Z)] 3 ⟨(th g4),(tw (th g3) (tg g3)),rfl,rfl⟩ (.inl rfl) kr kr kr
theorem c_network_Resize {b:List Nat} {c:Int} {a:Value} {r:(List Nat)} (h:network_Resize b c=some r):Ct Tryz.prog 112 [a,iV c] [rU a b] (fun v L=>∃ w0:Value,v=w0∧L=[I14 w0 r]):=by
 refine ct_intro Tryz.func112 rfl kr (fun F=>?_);unfold network_Resize at h;refine Sg (Pp 1 (Eg (Pp 1 ?_)));obtain ⟨l1,el1,h1⟩:=bnd h;refine w_mk (kd:=Ku) (kl:=.i64) (kc:=.i64) () el1 kr ts_60 ti_22 rfl kr (it0 rfl) (fun v1=>?_);refine Pp 1 (Eg (Pp 2 ?_));refine w_cp (t2:=60) 0 rfl (rd_src 1 rfl) kr rfl ts_60 ti_22 ?_;refine Eg (Pp 2 (Er ?_));have h1:=Sj h1;subst h1
 exact q_end (l:=[v1]) [(0,Z)] 1 ⟨v1,rfl,rfl⟩ (.inl rfl) kr kr kr
theorem c_vssdeal_phase_distribute_2 {B:Int} {a:T_vssdeal_phase} {D:List (List (List Nat))} {C:Int} {y b o:Nat} {s u w p q d f E n:Value} {z:Nat} {c:Value} {A:Nat} {r:T_api_VSSState} (h:vssdeal_phase_distribute_2 B a D C=some r):Ct Tryz.prog 125 [iV B,(bx y),(bx z),(bx A)] [I11 y b,I4 b o a.zs.P a.zs.N a.zs.T d f E n,I1 o a.zn.zw.S s u w a.zn.zround p q,rI s a.zn.zw.Corrupt,rD u a.zn.zw.Deviations,rS w a.zn.zw.Tapes,I2 p a.zn.zviews,I0 q a.zn.ztapes,I9 d a.zq,I3 f a.zd.S,I3 E a.zd.Rows,I6 n a.zd.Flags,I24 z c,I12 c D,I57 A C] (fun v L=>∃ w0_0 w0_1 w0_2:Value,v=.tuple #[]∧L=[I1 o a.zn.zw.S s u w a.zn.zround p q,I2 p a.zn.zviews,I0 q a.zn.ztapes,I4 b o a.zs.P a.zs.N a.zs.T d w0_0 w0_1 w0_2,I3 w0_0 r.S,I3 w0_1 r.Rows,I6 w0_2 r.Flags,I11 y b,I24 z c,I12 c D,I57 A C]):=by
 refine ct_intro Tryz.func125 rfl kr (fun F=>?_);unfold vssdeal_phase_distribute_2 at h;refine Sg (w_ldB 0 0 rfl kr ti_117 rfl rfl (Pp 2 (w_ldB 1 4 rfl kr ti_30 rfl rfl (w_len (rd_hd 8 rfl) kr ts_30 (Pp 1 (En ?_))))));refine h_lenle (rd_lenle 8 rfl) (fun hN1=>?_);obtain ⟨l2,elp1,h1⟩:=bnd h
 refine h_join (X:=Value) (fun g=>[]) (fun g=>[I11 y b,I4 b o a.zs.P a.zs.N a.zs.T d f g n,I1 o a.zn.zw.S s u w a.zn.zround p q,rI s a.zn.zw.Corrupt,rD u a.zn.zw.Deviations,rS w a.zn.zw.Tapes,I2 p a.zn.zviews,I0 q a.zn.ztapes,I9 d a.zq,I3 f a.zd.S,I3 g l2,I6 n a.zd.Flags,I24 z c,I12 c D,I57 A C]++F) (fun _=>True) ?_ ?_
 ·refine Wb ?_
  refine h_rs (fun (k1:Nat) (st:(List (List (List (List Nat))))) (g:Value)=>[(0,iV B),(1,(bx y)),(2,(bx z)),(3,(bx A)),(13,d),(14,iN a.zq.length),(15,iN k1)]) (fun (k1:Nat) (st:(List (List (List (List Nat))))) (g:Value)=>[I11 y b,I4 b o a.zs.P a.zs.N a.zs.T d f g n,I1 o a.zn.zw.S s u w a.zn.zround p q,rI s a.zn.zw.Corrupt,rD u a.zn.zw.Deviations,rS w a.zn.zw.Tapes,I2 p a.zn.zviews,I0 q a.zn.ztapes,I9 d a.zq,I3 f a.zd.S,I3 g st,I6 n a.zd.Flags,I24 z c,I12 c D,I57 A C]++F) (tw (th E) (tg E)) elp1 (Nat.zero_le _) aK (tH [(0,Z),(0,Z),(0,Z),(0,Y),(1,Y),(2,Y),(3,Z),(3,Z),(3,Y),(4,Z),(4,Z),(4,Z),(4,Z),(4,Z),(4,Z)] 4) ?_ ?_
  ·rintro g3 j;refine Sg (Pp 1 (Es (Xf (rgF (N:=a.zq.length)) (We (Te (q_rzX (Be ?_)))))));exact q_join (tw (th g3) (tg g3)) trivial aK (tH [(0,Z),(0,Z),(0,Z),(0,Y),(1,Y),(2,Y),(3,Z),(3,Z),(3,Y),(4,Z),(4,Z),(4,Z),(4,Z),(4,Z),(4,Z)] 4)
  rintro rem k1 l1 g1 o1 hk1 h2 hn1 j;have h2:vssdeal_phase_distribute_2_L0 B a D C k1 l1=some o1:=h2;unfold vssdeal_phase_distribute_2_L0 at h2;refine Sg (Pp 1 (Es (Xt (rgT (k:=k1) (N:=a.zq.length) hk1) (Ws (Tn (Sq (Wb (Sg (Pp 1 ?_)))))))));obtain ⟨x2,ex2,h3⟩:=bnd h2;refine w_ix (k:=.i64) (rd_hd 8 rfl) (nbd ex2) rfl kr ts_30 ti_27 ?_
  refine w_ldR 8 0 rfl ex2 kr ti_27 rfl rfl ?_;rintro v1;refine Pp 2 (Es ?_);refine WH.ent (hd_add (tree_hdI (inP 7 rfl))) ?_;refine WH.ent (hd_add (tree_hdI (inP 9 rfl))) ?_;refine WH.ent (hd_add (tree_hdI (inP 12 rfl))) ?_;refine WH.ent (hd_add (tree_hdI (inP 14 rfl))) ?_;refine WH.ent (hd_add (tree_hdI (inP 16 rfl))) ?_;obtain ⟨x3,ex3,h4⟩:=bnd h3;obtain ⟨x4,ex4,h5⟩:=bnd h4
  obtain ⟨x5,ex5,h6⟩:=bnd h5;obtain ⟨r2,er2,h7⟩:=bnd h6
  refine h_fm [0,0,3,7,0,31,63,0,128,0,896,2047,4095] ⟨21,[0,0,0,1,0,0,1,0,0,0,0,1,0],[],[(0,[(0,18)]),(2,[(0,19)]),(3,[(0,19)]),(9,[(0,20)])],[(5,[(4,0)]),(6,[(4,0)]),(8,[(0,5)]),(11,[(7,0)])]⟩ (fun γ=>[c,iV B,.pointer (some (elV c (B.toNat*(Kd.sl Ks).size))),(γ 3 0),iN k1,.pointer (some (elV (γ 3 0) (k1*Ks.size))),(γ 6 0),v1,iN x2.length,iV C,iV x5,(γ 11 0),(γ 11 0)]) (fun i γ=>match i with | 3=>[rS (γ 3 0) x3] | 6=>[rU (γ 6 0) x4] | 11=>[I14 (γ 11 0) r2] | _=>[]) [1,4,7,12] tryz_mix Tb_ok ?_ ?_
  ·refine ⟨?_,?_,?_,?_,?_,?_,?_,?_,?_,trivial⟩
   ·intro γ F;refine w_ldB 0 0 rfl kr ti_30 rfl rfl ?_;exact wE (gl []) [(0,Z)] 0
   ·intro γ F;refine w_ix (k:=.i64) (own_hd 0 rfl) (ib ex3) (iz ex3) kr ts_30 ti_27 ?_;exact wE (gl []) [(0,Z)] 0
   ·intro γ F;refine w_ldO 0 0 rfl (ig ex3) kr ti_27 rfl rfl ?_;rintro v2;exact wE (gl [v2]) [(0,Y),(1,Z)] 1
   ·intro γ F;refine w_ix (k:=.i64) (rd_hd 0 rfl) (nbd ex4) rfl kr ts_27 ti_60 ?_;exact wE (gl []) [] 1
   ·intro γ F;refine w_ldR 0 0 rfl ex4 kr ti_60 rfl rfl ?_;rintro v3;exact wE (gl [v3]) [(0,Y)] 2
   ·intro γ F;refine w_len (rd_hd 0 rfl) kr ts_27 ?_;exact wE (gl []) [] 1
   ·intro γ F;refine w_ldB 0 0 rfl kr ti_3 rfl rfl ?_;exact wE (gl []) [(0,Z)] 0
   ·intro γ F;refine w_bi (zmulI ex5) kr ?_;exact wE (gl []) [] 0
   intro γ F;refine Fx [(0,Y)] (c_network_Resize er2) rfl fok_112 (fun w1=>?_);exact wE (gl [w1]) [(0,Z)] 1
  intro γ1;refine Tn (Sg (Pp 1 (Es (Sg (Pp 1 (w_len (rd_hd 5 rfl) kr ts_27 (Pp 1 (En ?_))))))));refine WH.ent (frzAt 23 rfl) ?_;refine WH.ent (ownNil (kd:=Ks) (e:=60)) ?_;refine h_lenle (rd_lenle 7 rfl) (fun hN2=>?_);obtain ⟨l4,elp2,h8⟩:=bnd h7
  refine h_join (X:=Value) (fun g=>[(0,iV B),(1,(bx y)),(2,(bx z)),(3,(bx A)),(8,g),(13,d),(14,iN a.zq.length),(15,iN k1)]) (fun g=>[I11 y b,I4 b o a.zs.P a.zs.N a.zs.T d f g1 n,I1 o a.zn.zw.S s u w a.zn.zround p q,rI s a.zn.zw.Corrupt,rD u a.zn.zw.Deviations,rS w a.zn.zw.Tapes,I2 p a.zn.zviews,I0 q a.zn.ztapes,I9 d a.zq,I3 f a.zd.S,I3 g1 l1,I6 n a.zd.Flags,I24 z c,I12 c D,I57 A C,I19 g l4]++F) (fun _=>True) ?_ ?_
  ·refine Wb ?_
   refine h_rs (fun (k2:Nat) (st:(List (List Nat))) (g:Value)=>[(0,iV B),(1,(bx y)),(2,(bx z)),(3,(bx A)),(7,(γ1 11 0)),(8,g),(13,d),(14,iN a.zq.length),(15,iN k1),(33,iN x2.length),(34,iN k2)]) (fun (k2:Nat) (st:(List (List Nat))) (g:Value)=>[I11 y b,I4 b o a.zs.P a.zs.N a.zs.T d f g1 n,I1 o a.zn.zw.S s u w a.zn.zround p q,rI s a.zn.zw.Corrupt,rD u a.zn.zw.Deviations,rS w a.zn.zw.Tapes,I2 p a.zn.zviews,I0 q a.zn.ztapes,I9 d a.zq,I3 f a.zd.S,I3 g1 l1,I6 n a.zd.Flags,I24 z c,I12 c D,I57 A C,rU (γ1 11 0) r2,I19 g st]++F) (.slice none 0 0) elp2 (Nat.zero_le _) aK (tH [(8,Z),(8,Z),(8,Z),(8,Y),(9,Y),(10,Y),(11,Z),(11,Z),(11,Y),(12,Z),(12,Z),(12,Z),(12,Z),(12,Z),(12,Z),(1,Y),(0,Z)] 13) ?_ ?_
   ·rintro g6 j;refine Sg (Pp 1 (Es (Xf (rgF (N:=x2.length)) (We (Te (q_rzX (Be ?_)))))));exact q_join g6 trivial aK (tH [(0,Z),(0,Z),(0,Z),(0,Y),(1,Y),(2,Y),(3,Z),(3,Z),(3,Y),(4,Z),(4,Z),(4,Z),(4,Z),(4,Z),(4,Z),(5,Z)] 5)
   rintro rem k2 l3 g4 o2 hk2 h9 hn2 j;have h9:vssdeal_phase_distribute_2_L1 C r2 k2 l3=some o2:=h9;unfold vssdeal_phase_distribute_2_L1 at h9;refine Sg (Pp 1 (Es (Xt (rgT (k:=k2) (N:=x2.length) hk2) (Ws (Tn (Sq (Wb (Sg (Pp 2 (En (Rg (Pp 3 (w_ldB 14 0 rfl kr ti_3 rfl rfl ?_)))))))))))));obtain ⟨x7,ex7,h10⟩:=bnd h9;refine w_bi (zmulI ex7) kr (Pp 1 ?_)
   obtain ⟨x8,ex8,h11⟩:=bnd h10;refine w_bi (zaddI ex8) kr (w_ldB 14 0 rfl kr ti_3 rfl rfl ?_);obtain ⟨x9,ex9,h12⟩:=bnd h11;refine w_bi (zmulI ex9) kr ?_;obtain ⟨l5,el5,h13⟩:=bnd h12;refine w_cut 15 rfl el5 (loS (k:=.i64)) (hiS (k:=.i64)) kr ts_60 ti_22 (fun v4=>?_)
   refine w_lt (kd:=Ks) (t:=27) (len:=1) (ps0:=[(0,v4)]) (ps:=[(0,.agg #[v4])]) ([l5]:List (List Nat)) _ (rowC (x:=l5) (g:=v4) (itS 0 rfl) row0) (scS (rd_hd 0 rfl) sc0) kr ts_27 ti_60 kr rfl rfl (fun v5=>?_);obtain ⟨l6,el6,h14⟩:=bnd h13;refine w_app 18 rfl (own_src 0 rfl) el6 kr ts_27 ti_60 rfl (fun v6=>?_)
   refine Pp 1 (Ei (Bn (Tn (Rg (w_bi (zinc hk2 hN2) kr (Pp 1 (Ei ?_)))))));have h14:=Sj h14;subst h14;exact q_rs v6 hn2 aK (tH [(3,Z),(3,Z),(3,Z),(3,Y),(4,Y),(5,Y),(6,Z),(6,Z),(6,Y),(7,Z),(7,Z),(7,Z),(7,Z),(7,Z),(7,Z),(7,Y),(0,Z)] 7)
  rintro g5 - j;refine Tn ?_;refine WH.ent (frzAt 15 rfl) ?_;obtain ⟨x10,ex10,h15⟩:=bnd h8;refine WH.ent (hd_add (tree_hdI (inP 7 rfl))) ?_;refine WH.ent (hd_add (tree_hdI (inP 9 rfl))) ?_;refine WH.ent (hd_add (tree_hdI (inP 12 rfl))) ?_;refine WH.ent (hd_add (tree_hdI (inP 14 rfl))) ?_;refine WH.ent (hd_add (tree_hdI (inP 16 rfl))) ?_
  refine WH.row rs_row (inP 16 rfl) (ig ex10) (fun g7 hg1=>?_);refine WH.fact 0 rfl (fun hg2=>?_);refine WH.ent (tr_out 18 rfl hg2 (ig ex10)) ?_;obtain ⟨l7,el7,h16⟩:=bnd h15;obtain ⟨l8,el8,h17⟩:=bnd h16
  refine h_fm [0,1,3,7,15,0,0,64,192,448,960,0,4032,8128,0,16384,65472,131071,262143] ⟨24,[0,0,0,0,0,0,0,0,0,0,0,0,0,0,0,1,1,0,1],[(16,[(0,0)]),(18,[(17,0),(0,1)])],[(0,[(0,10)]),(4,[(0,11)]),(6,[(0,10)]),(10,[(0,11)]),(13,[(0,1)]),(16,[(16,0),(0,1)])],[(12,[(0,5)]),(13,[(0,2)]),(15,[(0,9)]),(17,[(0,5)])]⟩ (fun γ=>[(bx b),(bx b),.pointer (some ⟨b,5,none⟩),.pointer (some ⟨b,6,none⟩),(th g1),iV B,(bx b),(bx b),.pointer (some ⟨b,5,none⟩),.pointer (some ⟨b,6,none⟩),(th g1),iV B,.pointer (some (elV (th g1) (B.toNat*1))),g7,g5,(γ 15 0),(γ 16 0),.pointer (some (elV (th g1) (B.toNat*1))),undef]) (fun i γ=>match i with | 15=>[I34 (γ 15 0) l4] | 16=>[I12 (γ 16 0) l7] | 18=>[I60 g1 B.toNat (γ 16 0) l8] | _=>[]) [1,2,3,5,7,8,9,11,14] tryz_mix Tb_ok ?_ ?_
  ·refine ⟨?_,?_,?_,?_,?_,?_,?_,?_,?_,?_,trivial⟩
   ·intro γ F;refine w_ldB 0 0 rfl kr ti_117 rfl rfl ?_;exact wE (gl []) [(0,Z)] 0
   ·intro γ F;refine w_ldB 0 6 rfl kr ti_42 rfl rfl ?_;exact wE (gl []) [(0,Z)] 0
   ·intro γ F;refine w_ldB 0 0 rfl kr ti_117 rfl rfl ?_;exact wE (gl []) [(0,Z)] 0
   ·intro γ F;refine w_ldB 0 6 rfl kr ti_42 rfl rfl ?_;exact wE (gl []) [(0,Z)] 0
   ·intro γ F;refine w_ix (k:=.i64) (hdI 0 rfl) (ib ex10) (iz ex10) kr ts_42 ti_30 ?_;exact wE (gl []) [] 1
   ·intro γ F;refine WI.fact 1 rfl (fun hg3=>?_);refine w_ldG (m:=B.toNat) (hOut (inP 0 rfl)) hg3 kr ti_30 ?_;exact wE (gl []) [(0,Z)] 1
   ·intro γ F;refine w_lt (kd:=(Kd.sl Ks)) (t:=30) (len:=1) (ps0:=[(0,g5)]) (ps:=[(0,.agg #[g5])]) ([l4]:List (List (List Nat))) _ (rowC (x:=l4) (g:=g5) (itS 0 rfl) row0) (scS (rd_hd 0 rfl) sc0) kr ts_30 ti_27 kr rfl rfl (fun v7=>?_);exact wE (gl [v7]) [(0,Z)] 1
   ·intro γ F;refine w_app 0 rfl (own_src 1 rfl) el7 kr ts_30 ti_27 rfl (fun v8=>?_);exact wE (gl [v8]) [(0,Z),(0,Z),(0,Z)] 0
   ·intro γ F;refine w_ix (k:=.i64) (hdI 0 rfl) (ib ex10) (iz ex10) kr ts_42 ti_30 ?_;exact wE (gl []) [] 1
   intro γ F;refine w_stH (R:=(rowK (Kd.sl Ks) 27)) (g':=(γ 16 0)) (m:=B.toNat) 0 0 rfl rfl (ib ex10) (sinj el8) rfl (cvS (own_hd 0 rfl)) (sl_one (own_hd 0 rfl)) kr ti_30 ?_;exact wE (gl []) [(0,Z)] 0
  intro γ2;refine Bn (Tn (Rg (w_bi (zinc hk1 hN1) kr (Pp 1 (Ei ?_)))));have h17:=Sj h17;subst h17;exact q_rs (tw (th g1) ((tg g1).set B.toNat (γ2 16 0))) hn1 aK (tH [(8,Z),(8,Z),(8,Z),(8,Y),(9,Y),(10,Y),(11,Z),(11,Z),(11,Y),(12,Z),(17,Z),(12,Z),(12,Z),(12,Z),(12,Z)] 13)
 rintro g2 - j;have h1:=Sj h1;subst h1;exact q_end (l:=[]) [(2,Z),(5,Z),(5,Z),(1,Z),(5,Z),(5,Z),(5,Z),(0,Z),(4,Z),(4,Z),(4,Z)] 4 ⟨(tw (th f) (tg f)),(tw (th g2) (tg g2)),(tw (th n) (tg n)),rfl,rfl⟩ (.inr rfl) kr kr kr
theorem c_vssdeal_phase_each_vssdeal_phase_distribute_2_al {a:T_vssdeal_phase} {n:List (List (List Nat))} {o:Int} {u i:Nat} {p q s k m t w x y:Value} {d e:Nat} {c:Value} {f:Nat} {r:T_api_VSSState} (h:vssdeal_phase_each_vssdeal_phase_distribute_2_al a n o=some r):Ct Tryz.prog 118 [(bx u),.func (.func 125) #[] #[(bx d),(bx e),(bx f)]] [I4 u i a.zs.P a.zs.N a.zs.T t w x y,I1 i a.zn.zw.S p q s a.zn.zround k m,rI p a.zn.zw.Corrupt,rD q a.zn.zw.Deviations,rS s a.zn.zw.Tapes,I2 k a.zn.zviews,I0 m a.zn.ztapes,I9 t a.zq,I3 w a.zd.S,I3 x a.zd.Rows,I6 y a.zd.Flags,I11 d u,I24 e c,I12 c n,I57 f o] (fun v L=>∃ w0_0 w0_1 w0_2:Value,v=.tuple #[]∧L=[I1 i a.zn.zw.S p q s a.zn.zround k m,I2 k a.zn.zviews,I0 m a.zn.ztapes,I4 u i a.zs.P a.zs.N a.zs.T t w0_0 w0_1 w0_2,I3 w0_0 r.S,I3 w0_1 r.Rows,I6 w0_2 r.Flags,I11 d u,I24 e c,I12 c n,I57 f o]):=by
 refine ct_intro Tryz.func118 rfl kr (fun F=>?_);unfold vssdeal_phase_each_vssdeal_phase_distribute_2_al at h;refine Sg (Pp 4 (w_ldB 0 2 rfl kr ti_3 rfl rfl (Pp 1 (En ?_))));obtain ⟨u1,eu1,h1⟩:=bnd h;have hN1:=ckN_some eu1;obtain ⟨⟨l4,l5,l6⟩,elp1,h2⟩:=bnd h1
 refine h_join (X:=Value × Value × Value) (fun g=>[]) (fun g=>[I11 d u,I4 u i a.zs.P a.zs.N a.zs.T t g.1 g.2.1 g.2.2,I1 i a.zn.zw.S p q s a.zn.zround k m,rI p a.zn.zw.Corrupt,rD q a.zn.zw.Deviations,rS s a.zn.zw.Tapes,I2 k a.zn.zviews,I0 m a.zn.ztapes,I9 t a.zq,I3 g.1 l4,I3 g.2.1 l5,I6 g.2.2 l6,I24 e c,I12 c n,I57 f o]++F) (fun _=>True) ?_ ?_
 ·refine Wb ?_
  refine h_rs (fun (k1:Nat) (st:(List (List (List (List Nat)))) × (List (List (List (List Nat)))) × (List (List (List Nat)))) (g:Value × Value × Value)=>[(1,.func (.func 125) #[] #[(bx d),(bx e),(bx f)]),(9,iV a.zs.N),(10,iN k1)]) (fun (k1:Nat) (st:(List (List (List (List Nat)))) × (List (List (List (List Nat)))) × (List (List (List Nat)))) (g:Value × Value × Value)=>[I11 d u,I4 u i a.zs.P a.zs.N a.zs.T t g.1 g.2.1 g.2.2,I1 i a.zn.zw.S p q s a.zn.zround k m,rI p a.zn.zw.Corrupt,rD q a.zn.zw.Deviations,rS s a.zn.zw.Tapes,I2 k a.zn.zviews,I0 m a.zn.ztapes,I9 t a.zq,I3 g.1 st.1,I3 g.2.1 st.2.1,I6 g.2.2 st.2.2,I24 e c,I12 c n,I57 f o]++F) ((tw (th w) (tg w)),(tw (th x) (tg x)),(tw (th y) (tg y))) elp1 (Nat.le_max_left ..) aK (tH [(11,Z),(0,Z),(0,Z),(0,Y),(1,Y),(2,Y),(3,Z),(3,Z),(3,Y),(4,Z),(4,Z),(4,Z),(4,Z),(4,Z),(4,Z)] 4) ?_ ?_
  ·rintro ⟨g7,g8,g9⟩ j;refine Sg (Pp 1 (Es ?_));refine h_cf (b:=(decide ((((max 0 (a.zs.N).toNat):Nat):Int) < a.zs.N))) rgLF kr ?_;refine We (Te (q_rzX (Be ?_)))
   exact q_join ((tw (th g7) (tg g7)),(tw (th g8) (tg g8)),(tw (th g9) (tg g9))) trivial aK (tH [(0,Z),(0,Z),(0,Z),(0,Y),(1,Y),(2,Y),(3,Z),(3,Z),(3,Y),(4,Z),(4,Z),(4,Z),(4,Z),(4,Z),(4,Z)] 4)
  rintro rem k1 ⟨l1,l2,l3⟩ ⟨g1,g2,g3⟩ o1 hk1 h3 hn1 j;have h3:vssdeal_phase_each_vssdeal_phase_distribute_2_al_L0 a n o k1 l1 l2 l3=some o1:=h3;unfold vssdeal_phase_each_vssdeal_phase_distribute_2_al_L0 at h3;refine Sg (Pp 1 (Es ?_));refine h_ct (b:=(decide ((k1:Int) < a.zs.N))) (rgLT hk1) kr ?_;refine Ws (Tn (Sq (Wb (Sg (Pp 2 (En (Rg (Pp 2 ?_))))))))
  obtain ⟨r2,er2,h4⟩:=bnd h3;refine w_fn [(0,Z),(0,Z),(0,Z),(0,Y),(1,Y),(2,Y),(3,Z),(3,Z),(3,Y),(4,Z),(4,Z),(4,Z),(4,Z),(4,Z),(4,Z)] (c_vssdeal_phase_distribute_2 er2) rfl fok_125 kr ?_;rintro _ _ ⟨w1_0,w1_1,w1_2,hv,rfl⟩;have hv:=hv.symm;subst hv
  refine Ei (Bn (Tn (Rg (w_bi (zinc hk1 hN1) kr (Pp 1 (Ei ?_))))));have h4:=Sj h4;subst h4;exact q_rs ((tw (th w1_0) (tg w1_0)),(tw (th w1_1) (tg w1_1)),(tw (th w1_2) (tg w1_2))) hn1 aK (tH [(7,Z),(3,Z),(0,Z),(8,Y),(9,Y),(10,Y),(0,Z),(0,Z),(9,Y),(0,Z),(0,Z),(0,Z),(0,Z),(0,Z),(0,Z)] 4)
 rintro ⟨g4,g5,g6⟩ - j;have h2:=Sj h2;subst h2;exact q_end (l:=[]) [(2,Z),(5,Z),(5,Z),(1,Z),(5,Z),(5,Z),(5,Z),(0,Z),(4,Z),(4,Z),(4,Z)] 4 ⟨(tw (th g4) (tg g4)),(tw (th g5) (tg g5)),(tw (th g6) (tg g6)),rfl,rfl⟩ (.inr rfl) kr kr kr
theorem c_vssdeal_phase_distribute {a:T_vssdeal_phase} {g c:Nat} {d e f o b n j k m:Value} {r:Int × (List (List T_api_Event)) × T_api_VSSState} (h:vssdeal_phase_distribute a=some r):Ct Tryz.prog 63 [(bx g)] [I4 g c a.zs.P a.zs.N a.zs.T n j k m,I1 c a.zn.zw.S d e f a.zn.zround o b,rI d a.zn.zw.Corrupt,rD e a.zn.zw.Deviations,rS f a.zn.zw.Tapes,I2 o a.zn.zviews,I0 b a.zn.ztapes,I9 n a.zq,I3 j a.zd.S,I3 k a.zd.Rows,I6 m a.zd.Flags] (fun v L=>∃ w1 w2_0 w2_1 w2_2:Value,v=.tuple #[]∧L=[I1 c a.zn.zw.S d e f r.1 w1 b,I2 w1 r.2.1,I0 b a.zn.ztapes,I4 g c a.zs.P a.zs.N a.zs.T n w2_0 w2_1 w2_2,I3 w2_0 r.2.2.S,I3 w2_1 r.2.2.Rows,I6 w2_2 r.2.2.Flags]):=by
 refine ct_intro Tryz.func63 rfl kr (fun F=>?_);unfold vssdeal_phase_distribute at h;refine Sg ?_;refine w_box (t:=117) (v:=(bx g)) (cs:=[(bx g)]) (cv0 kr) kr (fun q1=>?_);refine WI.hd (y:=blkP q1 117 [(bx g)]) kr ?_;refine w_opP 0 rfl (fun b1 hb=>?_);subst hb
 refine Eg (w_ldB 0 0 rfl kr ti_117 rfl rfl (Pp 3 (w_ldB 1 3 rfl kr ti_3 rfl rfl ?_)));obtain ⟨x1,ex1,h1⟩:=bnd h;refine w_bi (zaddI ex1) kr ?_;refine w_al kr ti_3 (fun q2=>?_);refine WI.hd (y:=blkP q2 3 [iN 0]) kr ?_;refine w_opP 0 rfl (fun b2 hb=>?_);subst hb
 refine w_stB (v:=iV x1) (off:=0) (cs:=[iV x1]) 0 rfl (cv0 kr) kr ti_3 rfl rfl (oC (fun _ _=>rfl) oN) ?_;refine WI.hd (y:=I57 b2 x1) kr ?_;refine Eg (w_ldB 1 0 rfl kr ti_117 rfl rfl (Pp 3 (w_ldB 2 2 rfl kr ti_3 rfl rfl ?_)));obtain ⟨l1,el1,h2⟩:=bnd h1
 refine w_mkT (rowK Ks 60) new_row (kl:=.i64) (kc:=.i64) el1 kr ts_30 ti_27 rfl (fun v1=>?_);refine w_al kr ti_30 (fun q3=>?_);refine WI.hd (y:=I68 q3) kr ?_;refine w_opP 0 rfl (fun b3 hb=>?_);subst hb;refine w_stB (v:=v1) (off:=0) (cs:=[v1]) 0 rfl (cvS (tree_hdI (inP 1 rfl))) kr ti_30 rfl rfl (oC (sl_one (tree_hdI (inP 1 rfl))) oN) ?_
 refine WI.hd (y:=I24 b3 v1) kr ?_;refine Eg (w_ldB 3 0 rfl kr ti_117 rfl rfl (Pp 1 ?_))
 refine Rh ([blkP (bx b3) 30 [(th (tw v1 (List.replicate a.zs.N.toNat (.slice none 0 0))))],I27 v1 a.zs.N.toNat l1,I57 b2 x1,I11 b1 g,I4 g c a.zs.P a.zs.N a.zs.T n j k m,I1 c a.zn.zw.S d e f a.zn.zround o b,rI d a.zn.zw.Corrupt,rD e a.zn.zw.Deviations,rS f a.zn.zw.Tapes,I2 o a.zn.zviews,I0 b a.zn.ztapes,I9 n a.zq,I3 j a.zd.S,I3 k a.zd.Rows,I6 m a.zd.Flags]++F) ?_
 obtain ⟨r1,er1,h3⟩:=bnd h2;refine Fx [(4,Z),(4,Z),(4,Y),(5,Y),(6,Y),(7,Z),(7,Z),(7,Y),(8,Z),(8,Z),(8,Z),(3,Z),(0,Z),(0,Z)] (c_vssdeal_phase_each_vssdeal_phase_distribute_1_al er1) rfl fok_118 (fun w1=>?_);refine Es ?_;refine WH.ent (tr_frz fz_row 9 rfl) ?_;refine WH.ent (hd_add (tree_hdI (inP 2 rfl))) ?_
 refine WH.ent (hd_add (tree_hdI (inP 4 rfl))) ?_;refine WH.ent (hd_add (tree_hdI (inP 7 rfl))) ?_;refine WH.ent (hd_add (tree_hdI (inP 9 rfl))) ?_;refine WH.ent (hd_add (tree_hdI (inP 11 rfl))) ?_;obtain ⟨r2,er2,h4⟩:=bnd h3
 refine h_fm [0,1,3,7,0,31,0,127] ⟨20,[0,0,0,0,0,3,1,1],[(5,[(0,6),(0,7)]),(7,[(7,0)])],[(0,[(0,13)]),(3,[(0,9)]),(4,[(0,14)]),(5,[(0,8)]),(7,[(6,0)])],[(5,[(0,5),(0,16),(0,17),(0,18)])]⟩ (fun γ=>[(bx g),(bx g),bx g,(bx c),(th w1),(γ 5 0),(γ 6 0),undef]) (fun i γ=>match i with | 5=>[I12 (γ 5 0) r2.1,I1 c a.zn.zw.S d e f r2.2.1 (γ 5 1) b,I2 (γ 5 1) r2.2.2] | 6=>[I68 (γ 6 0)] | 7=>[blkP (γ 6 0) 30 [(γ 5 0)]] | _=>[]) [1,2] tryz_mix Tb_ok ?_ ?_
 ·refine ⟨?_,?_,?_,?_,?_,?_,trivial⟩
  ·intro γ F;refine w_ldB 0 0 rfl kr ti_117 rfl rfl ?_;exact wE (gl []) [(0,Z)] 0
  ·intro γ F;refine w_ldB 0 0 rfl kr ti_35 rfl rfl ?_;exact wE (gl []) [(0,Z)] 0
  ·intro γ F;refine w_ldB 0 0 rfl kr ti_30 rfl rfl ?_;exact wE (gl []) [(0,Z)] 0
  ·intro γ F
   refine Rh ([I1 c a.zn.zw.S d e f a.zn.zround o b,I2 o a.zn.zviews,I0 b a.zn.ztapes,rdV (Kd.sl Ks) (th w1) r1,rI d a.zn.zw.Corrupt,rD e a.zn.zw.Deviations,rS f a.zn.zw.Tapes]++F) ?_
   refine w_fn [(0,Z),(3,Y),(4,Y),(5,Y),(0,Z),(0,Z),(0,Y)] (c_network_Net_Send er2) rfl fok_124 kr ?_;rintro _ _ ⟨w2,w4,hv,rfl⟩;have hv:=hv.symm;subst hv;exact wE (gl [w2,w4]) [(0,Z),(0,Z),(0,Z),(0,Z)] 4
  ·intro γ F;refine w_al kr ti_30 (fun q4=>?_);refine WI.hd (y:=I68 q4) kr ?_;exact wE (gl [q4]) [(0,Z)] 0
  intro γ F;refine w_stBp (v:=(γ 5 0)) (cs:=[(γ 5 0)]) 0 rfl (cvS (own_hd 1 rfl)) kr ti_30 rfl rfl (oC (sl_one (own_hd 1 rfl)) oN) ?_;exact wE (gl []) [(0,Z),(0,Z)] 0
 intro γ1;refine q_opS 4 21 kr rfl (fun b4=>?_);refine Tn (Rg (w_ldB 12 0 rfl kr ti_117 rfl rfl (Pp 1 ?_)));obtain ⟨r3,er3,h5⟩:=bnd h4
 refine Rh ([I24 b4 (γ1 5 0),I20 m a.zd.Flags.length,I20 k a.zd.Rows.length,I20 j a.zd.S.length,I20 b a.zn.ztapes.length,I20 o a.zn.zviews.length,rdV (Kd.sl Ks) (th w1) r1,I0 b a.zn.ztapes,I4 g c a.zs.P a.zs.N a.zs.T n j k m,I3 j a.zd.S,I3 k a.zd.Rows,I6 m a.zd.Flags,I11 b1 g,I29 b3 w1,I57 b2 x1,rI d a.zn.zw.Corrupt,rD e a.zn.zw.Deviations,rS f a.zn.zw.Tapes,I9 n a.zq,I12 (γ1 5 0) r2.1,I1 c a.zn.zw.S d e f r2.2.1 (γ1 5 1) b,I2 (γ1 5 1) r2.2.2]++F) ?_
 refine w_fn [(8,Z),(19,Z),(14,Y),(15,Y),(16,Y),(19,Z),(7,Z),(16,Y),(7,Z),(7,Z),(7,Z),(7,Z),(0,Z),(12,Z),(7,Z)] (c_vssdeal_phase_each_vssdeal_phase_distribute_2_al er3) rfl fok_118 kr ?_;rintro _ _ ⟨w5_0,w5_1,w5_2,hv,rfl⟩;have hv:=hv.symm;subst hv;refine Ei ?_;have h5:=Sj h5;subst h5
 exact q_end (l:=[]) [(0,Z),(0,Z),(0,Z),(0,Z),(0,Z),(0,Z),(0,Z)] 15 ⟨(tw (th (γ1 5 1)) (tg (γ1 5 1))),(tw (th w5_0) (tg w5_0)),(tw (th w5_1) (tg w5_1)),(tw (th w5_2) (tg w5_2)),rfl,rfl⟩ (.inr rfl) kr kr kr
theorem c_poly_Eval {c:Nat} {b:List Nat} {d:Nat} {a:Value} {r:Nat} (h:poly_Eval c b d=some r):Ct Tryz.prog 114 [uN c,a,uN d] [rU a b] (fun v L=>v=uN r∧L=[]):=by
 refine ct_intro Tryz.func114 rfl kr (fun F=>?_);unfold poly_Eval at h;refine Sg (Pp 1 (Eg (Pp 1 (Es (Sg (Pp 1 (w_len (rd_hd 0 rfl) kr ts_60 ?_)))))));obtain ⟨x1,ex1,h1⟩:=bnd h;refine w_bi (zsubI ex1) kr (Pp 1 (En ?_));obtain ⟨x5,elp1,h2⟩:=bnd h1;refine h_join (X:=Unit) (fun g=>[(7,uN x5)]) (fun g=>[]++F) (fun _=>True) ?_ ?_
 ·refine Wb ?_;refine h_lp (fun (st:Nat × Int) (g:Unit)=>[(0,uN c),(1,a),(2,uN d),(7,uN st.1),(8,iV st.2)]) (fun (st:Nat × Int) (g:Unit)=>[rU a b]++F) () elp1 aK (tH [(0,Y)] 1) ?_;rintro kk ⟨x2,x3⟩ ⟨⟩ o1 h3 hn1 j;have h3:poly_Eval_L0 c b d x2 x3=some o1:=h3;unfold poly_Eval_L0 at h3
  refine Sq (Sg (Pp 2 (En ?_)));rcases bcase h3 with ⟨t1,h4⟩ | ⟨t1,h4⟩
  ·refine Xt t1 (Ws (Tn (Sq (Wb ?_))));obtain ⟨r2,er2,h5⟩:=bnd h4;obtain ⟨x6,ex6,h6⟩:=bnd h5;obtain ⟨r3,er3,h7⟩:=bnd h6
   refine h_fm [0,0,0,0,14,0,0,96,224,511,1023] ⟨1,[0,0,0,0,0,0,0,0,0,0,0],[],[],[(7,[(0,0)]),(8,[(0,0)])]⟩ (fun γ=>[uN c,uN c,uN x2,uN d,uN r2,a,iV x3,.pointer (some (elV a (x3.toNat*Ku.size))),uN x6,uN r3,uN r3]) nO [0,1,2,3,5,6,10] tryz_mix Tb_ok ?_ ?_
   ·refine ⟨?_,?_,?_,?_,trivial⟩
    ·intro γ F;refine Fe [] (c_field_Mul er2) rfl fok_145 ?_;exact wE (gl []) [] 0
    ·intro γ F;refine w_ix (k:=.i64) (rd_hd 0 rfl) (ib ex6) (iz ex6) kr ts_60 ti_22 ?_;exact wE (gl []) [] 1
    ·intro γ F;refine w_ldR 0 0 rfl (ig ex6) kr ti_22 rfl rfl ?_;rintro _;exact wE (gl []) [] 1
    intro γ F;refine Fe [] (c_field_Add er3) rfl fok_92 ?_;exact wE (gl []) [] 0
   intro γ1;refine Bn (Tn (Rg (Pp 1 ?_)));obtain ⟨x7,ex7,h8⟩:=bnd h7;refine w_bi (zsubI ex7) kr (Pp 1 (Ei ?_));have h8:=Sj h8;subst h8;exact q_go () hn1 aK (tH [(0,Y)] 1)
  refine Xf t1 (We (Te ?_));refine q_lpX ?_;refine Be ?_;have h4:=Sj h4;subst h4;cases (show _=_ from hn1);exact q_join () trivial aK (tH [] 1)
 rintro ⟨⟩ - j;refine Tn (Sg (Pp 2 (Er ?_)));have h2:=Sj h2;subst h2;exact Ql [uN x5] [] 0
end Go.Proofs.YtahofpgjianhdaaGreatDoor
