/-
Rules of fees: checking, choosing, applying; records.
Conditions: none.
-/
import Derived.Test.YtgmfcdeknaeikaaGreatDoorUd
import Derived.Test.YtgmfcdeknaeikaaGreatDoorQp
set_option linter.unusedSimpArgs false
set_option linter.unusedVariables false
set_option linter.defProp false
namespace Go.Proofs.YtgmfcdeknaeikaaGreatDoor
open Go.Vm
set_option maxHeartbeats 4000000
set_option maxRecDepth 20000
def YB:=An @Cd (An @C8 (An @C9 (An @CM (An @Cc (An @C6 (An @D1 (An @Cr (An @E5 (An @H2 (An @Es (An @D5 (An @Db (An @El (An @GP (An @CW (An @OV (An @OU (An @Bn (An @De (An @Hh (An @Hi (An @HJ (An @QK (An @Do (An @Ek (An @KG (An @KA (An @KB (An @KH (An @J9 (An @KC (An @Nz (An @EF (An @Bx (An @LF (An @FM (An @OW (An @C5 (An @Js (An @Jt (An @LC (An @OO (An @SA (An @Bs (An @Lv (An @SK (An @FQ @VD)))))))))))))))))))))))))))))))))))))))))))))))
def tD:=An @Fm (An @C7 (An @G2 (An @Eg (An @Fl (An @Bh (An @BV (An @ES (An @E0 (An @PD (An @Jg (An @F6 @aQ)))))))))))
def Hx(b f n x:Int):Bool:=if b<0∨10000<b then false else if f<0∨999999999999<f∨n<0∨999999999999<n then false else decide (x=0)||(decide (n≤x)&&decide (x≤999999999999))
theorem hU(A:AH)(r:Fuv):AK Tryz.prog 58 #[Value.agg #[.string r.nm,.int .i64 r.w.op,.string r.w.nm,.string r.w.tx,.int .i64 r.w.n,.slice r.w.p r.w.len r.w.cap,.int .i64 r.bps,.int .i64 r.fx,.int .i64 r.mn,.int .i64 r.mx]] A (fun u_ A_=>u_=.bool (Hx r.bps r.fx r.mn r.mx)∧SubA A A_):=by
 refine AC ⟨Tryz.prog,58,Tryz.f58,44,[0,1,2],⟨[],none⟩,[],_⟩ rfl (args:=[_]) Tryz.func58 rfl (by kernel_rfl) Tryz.ntmps58 (by simp) (by kernel_rfl) ?_
 intro ν fr
 unfold Hx
 by_cases h1:r.bps<0
 ·simp only[AF,↓AE,simprocAttr,fr.2,h1]
 by_cases h2:10000<r.bps
 ·simp only[AF,↓AE,simprocAttr,fr.2,eq_false h1,h2]
 by_cases h3:r.fx<0
 ·simp only[AF,↓AE,simprocAttr,fr.2,eq_false h1,eq_false h2,h3]
 by_cases h4:999999999999<r.fx
 ·simp only[AF,↓AE,simprocAttr,fr.2,eq_false h1,eq_false h2,eq_false h3,h4]
 by_cases h5:r.mn<0
 ·simp only[AF,↓AE,simprocAttr,fr.2,eq_false h1,eq_false h2,eq_false h3,eq_false h4,h5]
 by_cases h6:999999999999<r.mn
 ·simp only[AF,↓AE,simprocAttr,fr.2,eq_false h1,eq_false h2,eq_false h3,eq_false h4,eq_false h5,h6]
 by_cases h7:r.mx=0
 ·simp only[AF,↓AE,simprocAttr,fr.2,eq_false h1,eq_false h2,eq_false h3,eq_false h4,eq_false h5,eq_false h6,h7]
 have h7':(r.mx==0)=false:=by simp[h7]
 by_cases h8:r.mn≤r.mx
 ·by_cases h9:r.mx≤999999999999
  ·simp only[AF,↓AE,simprocAttr,fr.2,eq_false h1,eq_false h2,eq_false h3,eq_false h4,eq_false h5,eq_false h6,eq_false h7,h7',h8,h9]
  ·simp only[AF,↓AE,simprocAttr,fr.2,eq_false h1,eq_false h2,eq_false h3,eq_false h4,eq_false h5,eq_false h6,eq_false h7,h7',h8,eq_false h9]
 ·simp only[AF,↓AE,simprocAttr,fr.2,eq_false h1,eq_false h2,eq_false h3,eq_false h4,eq_false h5,eq_false h6,eq_false h7,h7',eq_false h8]
theorem UF(A:AH)(r:Fuv)(B_:AH)(hB_:SubA A B_):Ag Tryz.prog 58 #[Value.agg #[.string r.nm,.int .i64 r.w.op,.string r.w.nm,.string r.w.tx,.int .i64 r.w.n,.slice r.w.p r.w.len r.w.cap,.int .i64 r.bps,.int .i64 r.fx,.int .i64 r.mn,.int .i64 r.mx]] B_=some (.bool (Hx r.bps r.fx r.mn r.mx)):=AX (Aj (by kernel_rfl) (hU A r) hB_)
def Zq(b f n x a:Int):Int:=if x=0 then max ((a*b+5000) / 10000+f) n else min (max ((a*b+5000) / 10000+f) n) x
def Hn(b f n x a:Int):Int×Int:=if a<0∨999999999999<a∨Hx b f n x=false then(0,4)else(Zq b f n x a,0)
theorem Qq{b f n x:Int}(h:Hx b f n x=true):0≤b∧b≤10000∧0≤f∧f≤999999999999∧0≤n∧n≤999999999999∧(x=0∨(n≤x∧x≤999999999999)):=by
 unfold Hx at h
 split at h
 ·cases h
 split at h
 ·cases h
 simp at h
 omega
theorem Ua{a b:Int}(h1:0≤a)(h2:a≤999999999999)(h3:0≤b)(h4:b≤10000):0≤a*b∧a*b≤9999999999990000:=⟨Int.mul_nonneg h1 h3,by have:=Int.mul_le_mul h2 h4 h3 (by decide);omega⟩
theorem Zr{b f n x a:Int}(h1:0≤a)(h2:a≤999999999999)(h:Hx b f n x=true):0≤Zq b f n x a∧Zq b f n x a≤2000000000000:=by
 obtain⟨p1,p2,p3,p4,p5,p6,p7⟩:=Qq h
 have:=Ua h1 h2 p1 p2
 unfold Zq
 split<;>omega
theorem g9(A:AH)(r:Fuv)(a:Int):AK Tryz.prog 35 #[Value.agg #[.string r.nm,.int .i64 r.w.op,.string r.w.nm,.string r.w.tx,.int .i64 r.w.n,.slice r.w.p r.w.len r.w.cap,.int .i64 r.bps,.int .i64 r.fx,.int .i64 r.mn,.int .i64 r.mx],.int .i64 a] A (fun u_ A_=>u_=.tuple #[.int .i64 (Hn r.bps r.fx r.mn r.mx a).1,.int .i64 (Hn r.bps r.fx r.mn r.mx a).2]∧SubA A A_):=by
 refine AC ⟨Tryz.prog,35,Tryz.f35,38,[0,1,2,4,5,6],⟨[],none⟩,[],_⟩ rfl (args:=[_,_]) Tryz.func35 rfl (by kernel_rfl) Tryz.ntmps35 (by simp) (by kernel_rfl) ?_
 intro ν fr
 have f0:=fr.2 0
 have pv:=fun o=>UF A r ((ν 0,o)::A) (SubA.skip f0 (SubA.refl _))
 unfold Hn
 by_cases h1:a<0
 ·simp only[AF,↓AE,simprocAttr,fr.2,h1]
 by_cases h2:999999999999<a
 ·simp only[AF,↓AE,simprocAttr,fr.2,eq_false h1,h2]
 by_cases h3:Hx r.bps r.fx r.mn r.mx=false
 ·simp only[AF,↓AE,simprocAttr,fr.2,eq_false h1,eq_false h2,pv,h3]
 simp only[AF,↓AE,simprocAttr,fr.2,eq_false h1,eq_false h2,pv,eq_false h3]
 have h3':Hx r.bps r.fx r.mn r.mx=true:=by simpa using h3
 obtain⟨p1,p2,p3,p4,p5,p6,p7⟩:=Qq h3'
 obtain⟨m1,m2⟩:=Ua (a:=a) (b:=r.bps) (by omega) (by omega) p1 p2
 unfold Zq
 generalize a*r.bps=m at m1 m2⊢
 have e1:(m+5000).tdiv 10000=(m+5000) / 10000:=Int.tdiv_eq_ediv_of_nonneg (by omega)
 rw[AW (n:=m) (by omega) (by omega),AW (n:=m+5000) (by omega) (by omega),e1,AW (n:=(m+5000) / 10000) (by omega) (by omega),AW (n:=(m+5000) / 10000+r.fx) (by omega) (by omega)]
 by_cases h7:r.mx=0
 ·simp only[h7,not_true_eq_false,if_false,if_true,Int.max_def]
  refine congrArg (fun z=>Value.tuple #[.int .i64 z,.int .i64 0]) ?_
  split<;>split<;>omega
 ·simp only[h7,not_false_eq_true,if_true,if_false,Int.max_def,Int.min_def]
  refine congrArg (fun z=>Value.tuple #[.int .i64 z,.int .i64 0]) ?_
  repeat' split
  all_goals omega
theorem hJ(A:AH)(r:Fuv)(a:Int)(B_:AH)(hB_:SubA A B_):Ag Tryz.prog 35 #[Value.agg #[.string r.nm,.int .i64 r.w.op,.string r.w.nm,.string r.w.tx,.int .i64 r.w.n,.slice r.w.p r.w.len r.w.cap,.int .i64 r.bps,.int .i64 r.fx,.int .i64 r.mn,.int .i64 r.mx],.int .i64 a] B_=some (.tuple #[.int .i64 (Hn r.bps r.fx r.mn r.mx a).1,.int .i64 (Hn r.bps r.fx r.mn r.mx a).2]):=AX (Aj (by kernel_rfl) (g9 A r a) hB_)
theorem lW(A:AH)(u r:Fuv)(xb:Nat)(e:TypeId)(hx:Vm.AA A xb=some (.cells (JY u).toArray e)):AK Tryz.prog 57 #[Value.agg #[.string r.nm,.int .i64 r.w.op,.string r.w.nm,.string r.w.tx,.int .i64 r.w.n,.slice r.w.p r.w.len r.w.cap,.int .i64 r.bps,.int .i64 r.fx,.int .i64 r.mn,.int .i64 r.mx],.pointer (some ⟨xb,0,none⟩)] A (fun u_ A_=>u_=.bool (decide (r.nm.toList=u.nm.toList))∧SubA A A_):=by
 refine AC ⟨Tryz.prog,57,Tryz.f57,9,[0,1,2,3],⟨[],none⟩,[],_⟩ rfl (args:=[_,_]) Tryz.func57 rfl (by kernel_rfl) Tryz.ntmps57 (by simp) (by kernel_rfl) ?_
 intro ν fr
 have f0:=fr.2 0
 obtain⟨n1,n2⟩:=AU f0 hx
 simp only[JY]at hx
 simp only[AF,↓AE,simprocAttr,fr.2,hx,n1]
 congr 1
 rw[Bool.eq_iff_iff]
 simp
theorem lX(A:AH)(u r:Fuv)(xb:Nat)(e:TypeId)(hx:Vm.AA A xb=some (.cells (JY u).toArray e))(B_:AH)(hB_:SubA A B_):Ag Tryz.prog 57 #[Value.agg #[.string r.nm,.int .i64 r.w.op,.string r.w.nm,.string r.w.tx,.int .i64 r.w.n,.slice r.w.p r.w.len r.w.cap,.int .i64 r.bps,.int .i64 r.fx,.int .i64 r.mn,.int .i64 r.mx],.pointer (some ⟨xb,0,none⟩)] B_=some (.bool (decide (r.nm.toList=u.nm.toList))):=AX (Aj (by kernel_rfl) (lW A u r xb e hx) hB_)
def YH(fs:List Ft)(dn:List Fu):List Fu→Int
 | []=>0
 |u::l=>if Bp u.nm=false then 5 else if Cn u.nm dn=true then 7 else if Hx u.bps u.fx u.mn u.mx=false then 4
  else if(Mv fs u.w).2≠0 then(Mv fs u.w).2 else if(Mv fs u.w).1≠3 then 28 else YH fs (dn++[u]) l
def eG(fs:List Ft)(us:List Fu):Int:=if 64<us.length then 3 else YH fs [] us
theorem LW.nms{A:AH}{us:List Fu}{p:Option Addr}{rs:List Fuv}(h:LW A us p rs):rs.map Fuv.nm=us.map Fu.nm:=by
 refine List.ext_getElem? fun i=> ?_
 rw[List.getElem?_map,List.getElem?_map]
 cases hu:us[i]? with
 |none=>
  have:=List.getElem?_eq_none_iff.1 hu
  rw[List.getElem?_eq_none (by have:=h.1;omega)];rfl
 |some u=>
  have hi:=(List.getElem?_eq_some_iff.1 hu).1
  have hr:rs[i]? =some _:=List.getElem?_eq_getElem (by have:=h.1;omega)
  rw[hr]
  exact congrArg some (h.2.2 i u _ hu hr).1
theorem gy(A:AH)(us:List Fu)(p:Option Addr)(rs:List Fuv)(cap:Nat)(hS:LW A us p rs)(hl:us.length≤cap)(hz: ∀u∈us,SzT u.w)(fs:List Ft)(q:Option Addr)(qc:Nat)(hF:B5 Kg 4 A q fs)(hfl:fs.length≤1000)(hg:WO [] fs=true):AK Tryz.prog 26 #[.slice p us.length cap,.slice q fs.length qc] A (fun u_ A_=>u_=.int .i64 (eG fs us)∧SubA A A_):=by
 refine AC ⟨Tryz.prog,26,Tryz.f26,44,[0,1,4,5,6,7,8,12,13,14],⟨[],none⟩,[],_⟩ rfl (args:=[_,_]) Tryz.func26 rfl (by kernel_rfl) Tryz.ntmps26 (by simp) (by kernel_rfl) ?_
 intro ν fr
 unfold eG
 by_cases h64:64<us.length
 ·have lt:(64<(us.length:Int))=True:=eq_true (by omega)
  simp only[AF,↓AE,simprocAttr,lt]
  simp[h64]
 have lt:(64<(us.length:Int))=False:=eq_false (by omega)
 rw[if_neg h64]
 simp only[AF,↓AE,simprocAttr,lt]
 clear lt
 obtain⟨e,l,he,hd,hle,hx1⟩: ∃(e:Nat) (l:List Fu),e=0∧l=us.drop e∧e≤us.length∧YH fs [] us=YH fs (us.take e) l:=⟨0,us,rfl,rfl,by omega,rfl⟩
 rw[show(14,some (Value.int .i64 0))=(14,some (Value.int .i64 (e:Int))) by rw[he];rfl]
 clear he fr
 induction l generalizing e with
 |nil=>
  obtain⟨hn1,hn2⟩:=drop_nil hd hle
  have lt:((e:Int)<(us.length:Int))=False:=eq_false (by omega)
  refine AR.intro (by kernel_rfl) ?_
  intro ν fr
  simp only[AF,↓AE,simprocAttr,lt]
  rw[hx1];rfl
 | cons u l ih=>
  obtain⟨ha,hlt,hd',htk⟩:=Be hd
  have lt:((e:Int)<(us.length:Int))=True:=eq_true (by omega)
  have li:((e:Int)<0)=False:=eq_false (by omega)
  have we:IntKind.i64.wrap ((e:Int)+1)=((e+1:Nat):Int):=by rw[AW (by omega) (by omega)];omega
  obtain⟨r,hr⟩: ∃r,rs[e]? =some r:=⟨_,List.getElem?_eq_getElem (by have:=hS.1;omega)⟩
  obtain⟨r1,r2,r3,r4,r5,r6⟩:=hS.2.2 e u r ha hr
  obtain⟨bk,off,cs,ty,fr0,hp0,hbk,hcr,hcc⟩:=hS.2.1.at hr
  subst hp0
  simp only[JY]at hcr
  refine AR.intro (by kernel_rfl) ?_
  intro ν fr
  have f0:=fr.2 0
  obtain⟨q1,q2⟩:=AU f0 hbk
  have s0: ∀o,SubA A ((ν 0,o)::A):=fun _=>SubA.skip f0 (SubA.refl _)
  have lc:((e:Int)≤(cap:Int))=True:=eq_true (by omega)
  have hany:((rs.take e).map fun o=>decide (o.nm.toList=r.nm.toList)).any id=Cn u.nm (us.take e):=by
   rw[r1];unfold Cn
   have hm:(rs.take e).map Fuv.nm=(us.take e).map Fu.nm:=by
    rw[List.map_take,List.map_take];exact congrArg _ (LW.nms hS)
   have h1: ∀(l:List Fuv),(l.map fun o=>decide (o.nm.toList=u.nm.toList)).any id=(l.map Fuv.nm).any fun n=>decide (n.toList=u.nm.toList):=fun l=>by simp[List.any_map,Function.comp_def]
   have h2: ∀(l:List Fu),(l.any fun o=>decide (o.nm.toList=u.nm.toList))=(l.map Fu.nm).any fun n=>decide (n.toList=u.nm.toList):=fun l=>by simp[List.any_map,Function.comp_def]
   rw[h1,h2,hm]
  have hlt':(rs.take e).length=e:=by rw[List.length_take];have:=hS.1;omega
  have cv:=Y7 ((ν 0,.cells (JY r).toArray 62)::A) (some ⟨bk,off,none⟩) (rs.take e) cap (B5.mono (B5.take hS.2.1 e) (s0 _)) (by omega) ((rs.take e).map fun o=>decide (o.nm.toList=r.nm.toList)) (by simp) 57 [] [.pointer (some ⟨ν 0,0,none⟩)] (fun k o b ho hb B hB=>by
   rw[List.getElem?_map,ho]at hb
   cases hb
   exact lX _ r o (ν 0) 62 (by simp[Vm.AA]) B hB) _ (SubA.refl _)
  rw[hany,hlt']at cv
  simp only[JY]at cv
  have pv:=fun o=>UF A r ((ν 0,o)::A) (s0 o)
  have kv:=fun o=>ZY A u.w r.w r2 (hz u (List.mem_of_getElem? ha)) fs q qc hF hfl hg ((ν 0,o)::A) (s0 o)
  rw[r1]at cv pv
  by_cases h1:Bp u.nm=false
  ·rw[hx1];unfold YH
   simp only[AF,↓AE,simprocAttr,fr.2,YB,lt,hbk,hcr,lc,ite_self,Nat.sub_zero,cv,r1,h1]
  by_cases h2:Cn u.nm (us.take e)=true
  ·rw[hx1];unfold YH
   simp only[AF,↓AE,simprocAttr,fr.2,YB,lt,hbk,hcr,lc,ite_self,Nat.sub_zero,cv,r1,eq_false h1,h2]
  by_cases h3:Hx r.bps r.fx r.mn r.mx=false
  ·have h3':Hx u.bps u.fx u.mn u.mx=false:=by rw[←r3,←r4,←r5,←r6];exact h3
   rw[hx1];unfold YH
   simp only[AF,↓AE,simprocAttr,fr.2,YB,lt,hbk,hcr,lc,ite_self,Nat.sub_zero,cv,r1,eq_false h1,eq_false h2,pv,h3,h3']
  have h3': ¬Hx u.bps u.fx u.mn u.mx=false:=by rw[←r3,←r4,←r5,←r6];exact h3
  by_cases h4:(Mv fs u.w).2=0
  rotate_left
  ·have h4':((Mv fs u.w).2 !=0)=true:=by simp[h4]
   rw[hx1];unfold YH
   simp only[AF,↓AE,simprocAttr,fr.2,YB,lt,hbk,hcr,we,lc,ite_self,Nat.sub_zero,cv,r1,eq_false h1,eq_false h2,pv,eq_false h3,eq_false h3',kv,eq_false h4,h4']
  have h4':((Mv fs u.w).2 !=0)=false:=by simp[h4]
  by_cases h5:(Mv fs u.w).1=3
  rotate_left
  ·have h5':((Mv fs u.w).1 !=3)=true:=by simp[h5]
   rw[hx1];unfold YH
   simp only[AF,↓AE,simprocAttr,fr.2,YB,lt,hbk,hcr,we,lc,ite_self,Nat.sub_zero,cv,r1,eq_false h1,eq_false h2,pv,eq_false h3,eq_false h3',kv,h4,eq_false h5,h5']
  have h5':((Mv fs u.w).1 !=3)=false:=by simp[h5]
  simp only[AF,↓AE,simprocAttr,fr.2,YB,lt,hbk,hcr,we,lc,ite_self,Nat.sub_zero,cv,r1,eq_false h1,eq_false h2,pv,eq_false h3,kv,h4,h5]
  refine AR.weak (ih (e+1) hd' (by omega) (by rw[hx1,htk,YH,if_neg h1,if_neg h2,if_neg h3',if_neg (by simp[h4]),if_neg (by simp[h5])])) (by simp[Ah,AO]) (s0 _)
theorem gz(A:AH)(us:List Fu)(p:Option Addr)(rs:List Fuv)(cap:Nat)(hS:LW A us p rs)(hl:us.length≤cap)(hz: ∀u∈us,SzT u.w)(fs:List Ft)(q:Option Addr)(qc:Nat)(hF:B5 Kg 4 A q fs)(hfl:fs.length≤1000)(hg:WO [] fs=true)(B_:AH)(hB_:SubA A B_):Ag Tryz.prog 26 #[.slice p us.length cap,.slice q fs.length qc] B_=some (.int .i64 (eG fs us)):=AX (Aj (by kernel_rfl) (gy A us p rs cap hS hl hz fs q qc hF hfl hg) hB_)
set_option maxHeartbeats 4000000
set_option maxRecDepth 20000
theorem mh(A:AH)(T:List Gm)(p:Option Addr)(cap:Nat)(sep:Gm)(hT:B5 DO 1 A p T)(hcap:T.length≤cap)(hN:T.length≤140737488355328)(hlen:(Lib.join T sep).length≤140737488355328)(B:AH)(hB:SubA A B):
  Ag Tryz.prog 69 #[.slice p T.length cap,.string (bs sep)] B=some (.string (bs (Lib.join T sep))):=
 AX ⟨fun _=>by kernel_rfl,fun h hs=>by
  unfold Di
  rw[if_pos (by kernel_rfl)]
  intro w hw
  subst hw
  rcases hT with h0|⟨b,off,cs,e,fr,rfl,h2,h3⟩
  ·subst h0
   refine(Tryz.strings_Join_none p cap (bs sep) w).mono fun e w' ⟨he,hw'⟩=> ?_
   subst hw'
   exact⟨⟨he,Grew.refl _⟩,rfl,rfl,rfl⟩
  ·have hb:=hs _ _ (hB _ _ h2)
   have e1:T.length=(T.map bs).length:=by simp
   have e2:(T.map bs).map (·.data.toList)=T:=by rw[List.map_map];exact List.map_id' T
   have hc: ∀(j:Nat) x,(T.map bs)[j]? =some x→w.cell? ⟨b,off+j,none⟩=some (.string x):=by
    intro j x hj
    rw[List.getElem?_map,Option.map_eq_some_iff]at hj
    obtain⟨t,ht,rfl⟩:=hj
    have:=(CU (h3 j t ht)).2 0 _ rfl
    simp only[World.cell?,hb]
    simpa using this
   have:=Tryz.strings_Join b off cap (T.map bs) (bs sep) w hc (by
    rcases Nat.lt_or_ge b w.heap.size with h|h
    ·exact h
    ·rw[Array.getElem?_eq_none h]at hb;cases hb) (by rw[←e1];exact hN) (by rw[←e1];exact hcap) (by rw[e2];exact hlen)
   rw[←e1,e2]at this
   exact this.mono fun e w' ⟨h1,h2⟩=>⟨⟨h1,⟨h2.size,h2.block⟩⟩,⟨h2.os,h2.tape,h2.output⟩⟩⟩
theorem Nh: ∀(T:List Gm) (k:Nat),(∀t∈T,t.length≤k)→(Lib.join T [32]).length≤T.length*(k+1)
 | [],k,_=>by simp[Lib.join,List.intercalate]
 | [a],k,h=>by have:=h a (by simp);simp[Lib.join,List.intercalate];omega
 |a::b::T,k,h=>by
  have h1:=h a (by simp)
  have h2:=Nh (b::T) k fun t ht=>h t (by simp only[List.mem_cons]at ht ⊢;exact .inr ht)
  rw[WW]
  simp only[List.length_append,List.length_cons]at h2⊢
  rw[Nat.succ_mul]
  omega
def Ja(nm:List UInt8):List Ft→Option Nat
 | []=>none
 |f::l=>if f.nm.toList=nm then some 0 else(Ja nm l).map (· +1)
theorem og(A:AH)(f:Ft)(nm:ByteArray)(xb:Nat)(e:TypeId)(hx:Vm.AA A xb=some (.cells #[.string nm] e)):AK Tryz.prog 68 #[.agg #[.string f.nm,.int .i64 f.k,.int .i64 f.n,.string f.tx],.pointer (some ⟨xb,0,none⟩)] A (fun u_ A_=>u_=.bool (decide (f.nm.toList=nm.toList))∧SubA A A_):=by
 refine AC ⟨Tryz.prog,68,Tryz.f68,8,[0,1,2,3],⟨[],none⟩,[],_⟩ rfl (args:=[_,_]) Tryz.func68 rfl (by kernel_rfl) Tryz.ntmps68 (by simp) (by kernel_rfl) ?_
 intro ν fr
 have f0:=fr.2 0
 obtain⟨n1,n2⟩:=AU f0 hx
 simp only[AF,↓AE,simprocAttr,fr.2,hx,n1]
 congr 1
 rw[Bool.eq_iff_iff]
 simp
theorem oh(A:AH)(f:Ft)(nm:ByteArray)(xb:Nat)(e:TypeId)(hx:Vm.AA A xb=some (.cells #[.string nm] e)):Ag Tryz.prog 68 #[.agg #[.string f.nm,.int .i64 f.k,.int .i64 f.n,.string f.tx],.pointer (some ⟨xb,0,none⟩)] A=some (.bool (decide (f.nm.toList=nm.toList))):=AX (Aj (by kernel_rfl) (og A f nm xb e hx) (SubA.refl _))
theorem ii(A:AH)(q:Option Addr)(qc:Nat)(fs:List Ft)(hF:B5 Kg 4 A q fs)(hl:fs.length≤1000000)(nm:ByteArray)(xb:Nat)(e:TypeId)(hx:Vm.AA A xb=some (.cells #[.string nm] e)):AK Tryz.prog 67 #[.slice q fs.length qc,.func (.func 68) #[] #[.pointer (some ⟨xb,0,none⟩)]] A (fun u_ A_=>u_=.int .i64 (Kx (Ja nm.toList fs))∧SubA A A_):=by
 refine AC ⟨Tryz.prog,67,Tryz.f67,19,[0,1,4,5,7,8],⟨[],none⟩,[],_⟩ rfl (args:=[_,_]) Tryz.func67 rfl (by kernel_rfl) Tryz.ntmps67 (by simp) (by kernel_rfl) ?_
 intro ν fr
 simp only[AF,↓AE,simprocAttr]
 obtain⟨e1,l,he,hd,hle,hx1⟩: ∃(e:Nat) (l:List Ft),e=0∧l=fs.drop e∧e≤fs.length∧Ja nm.toList fs=(Ja nm.toList l).map (· +e):=⟨0,fs,rfl,rfl,by omega,by cases Ja nm.toList fs<;>simp⟩
 rw[show(8,some (Value.int .i64 0))=(8,some (Value.int .i64 (e1:Int))) by rw[he];rfl]
 clear he fr
 induction l generalizing e1 with
 |nil=>
  obtain⟨hn1,hn2⟩:=drop_nil hd hle
  have lt:((e1:Int)<(fs.length:Int))=False:=eq_false (by omega)
  refine AR.intro (by kernel_rfl) ?_
  intro ν fr
  simp only[AF,↓AE,simprocAttr,lt]
  rw[hx1];rfl
 | cons f l ih=>
  obtain⟨ha,hlt,hd',htk⟩:=Be hd
  have lt:((e1:Int)<(fs.length:Int))=True:=eq_true (by omega)
  have li:((e1:Int)<0)=False:=eq_false (by omega)
  have we:IntKind.i64.wrap ((e1:Int)+1)=((e1+1:Nat):Int):=by rw[AW (by omega) (by omega)];omega
  obtain⟨bk,off,cs,ty,fr0,hp0,hbk,hcr,hcc⟩:=hF.at ha
  subst hp0
  simp only[Kg]at hcr
  have rv:=oh A f nm xb e hx
  refine AR.intro (by kernel_rfl) ?_
  intro ν fr
  by_cases hs:f.nm.toList=nm.toList
  ·have hs':=eq_true hs
   simp only[AF,↓AE,simprocAttr,lt,hbk,hcr,rv,hs',we]
   rw[hx1];simp[Ja,hs,Kx]
  ·have hs':=eq_false hs
   simp only[AF,↓AE,simprocAttr,lt,hbk,hcr,rv,hs',we]
   exact AR.weak (ih (e1+1) hd' (by omega) (by rw[hx1];simp only[Ja,if_neg hs,Option.map_map];congr 1;funext i;simp only[Function.comp];omega)) (by simp[Ah,AO]) (SubA.refl _)
theorem ij(A:AH)(q:Option Addr)(qc:Nat)(fs:List Ft)(hF:B5 Kg 4 A q fs)(hl:fs.length≤1000000)(nm:ByteArray)(xb:Nat)(e:TypeId)(hx:Vm.AA A xb=some (.cells #[.string nm] e))(B_:AH)(hB_:SubA A B_):Ag Tryz.prog 67 #[.slice q fs.length qc,.func (.func 68) #[] #[.pointer (some ⟨xb,0,none⟩)]] B_=some (.int .i64 (Kx (Ja nm.toList fs))):=AX (Aj (by kernel_rfl) (ii A q qc fs hF hl nm xb e hx) hB_)
theorem US{s:List UInt8}: ∀{fs:List Ft} {i:Nat},Ja s fs=some i→ ∃f,fs[i]? =some f
 | f::l,i,h=>by
  rw[Ja]at h
  split at h
  ·cases h;exact⟨f,rfl⟩
  ·obtain⟨j,hj,rfl⟩:=Option.map_eq_some_iff.1 h
   exact US (fs:=l) hj
theorem UT{s:List UInt8}{f:Ft}: ∀{fs:List Ft} {i:Nat},Ja s fs=some i→fs[i]? =some f→f.nm.toList=s
 | g::l,i,h,hf=>by
  rw[Ja]at h
  split at h
  ·rename_i e;cases h;cases hf;exact e
  ·obtain⟨j,hj,rfl⟩:=Option.map_eq_some_iff.1 h
   exact UT (fs:=l) hj hf
theorem kw(x:ByteArray):BP Tryz.prog 126 1 [(0,.string x)]=some (9,#[.string x]):=by kernel_rfl
def eO(f:Ft):Gm:=f.nm.toList++(61::(if f.k=2 then f.tx.toList else Lib.itoa f.n))
def oa(fs:List Ft):List Gm→List Gm
 | []=>[]
 | s::l=>(match Ja s fs with
  |none=>[]
  |some i=>match fs[i]? with
   |none=>[]
   |some f=>[eO f])++oa fs l
def d5(fs:List Ft)(t:Xs):Gm:=Lib.join (oa fs (YL t)) [32]
theorem ol(A:AH)(hT:Dv A)(t:Xs)(r:Xr)(hE:ExR A t r)(hn:(JF t).length≤1000000)(fs:List Ft)(q:Option Addr)(qc:Nat)(hF:B5 Kg 4 A q fs)(hl:fs.length≤1000)(hok: ∀f∈fs,f.nm.size≤1000∧f.tx.size≤1000∧ -9223372036854775808≤f.n∧f.n≤9223372036854775807):AK Tryz.prog 36 #[.agg #[.int .i64 r.op,.string r.nm,.string r.tx,.int .i64 r.n,.slice r.p r.len r.cap],.slice q fs.length qc] A (fun u_ A_=>u_=.string (bs (d5 fs t))∧SubA A A_):=by
 refine AC ⟨Tryz.prog,36,Tryz.f36,49,[0,1,2,4,5,7,8,9,11,12,13],⟨[66],none⟩,[],_⟩ rfl (args:=[_,_]) Tryz.func36 rfl (by kernel_rfl) Tryz.ntmps36 (by simp) (by kernel_rfl) ?_
 intro ν fr
 have f0:=fr.2 0
 have s0: ∀o,SubA A ((ν 0,o)::A):=fun _=>SubA.skip f0 (SubA.refl _)
 simp only[AF,↓AE,simprocAttr]
 have dst_:True:=(by simp[]);generalize ν 0=n2 at dst_  f0 s0⊢
 clear fr
 refine AK.newX (UE A t r hE hn) (s0 _) ?_
 rintro v0 B1 ho1 d1
 obtain⟨p1,c1,rfl,hc1,hS1⟩:=BU.read (f:=DO) (n:=1) VC ho1
 have d1A:Dis B1 A:=Dis.subr d1 (s0 _)
 refine⟨B1++A,SubA.both (SubA.left _ _) (SubA.trans (s0 _) d1.right), ?_⟩
 intro ν fr
 simp only[AF,↓AE,simprocAttr]
 have hTl:(YL t).length≤1000000:=by
  have:=Lk (KT (JF t))
  have h2:(KT (JF t)).length=(JF t).length:=by simp[KT]
  unfold YL;omega
 unfold d5
 generalize YL t=T at hTl hS1 hc1 ho1⊢
 obtain⟨e,l,v,Bw,W,he,hd,hle,hv,hBw,ho,hWl,hx1,hWe,dwM⟩: ∃(e:Nat) (l:List Gm) (v:Value) (Bw:AH) (W:List Gm),e=0∧l=T.drop e∧e≤T.length∧v=.slice none 0 0∧Bw=[]∧BU DO 1 9 v Bw W∧W.length≤e∧oa fs T=W++oa fs l∧(∀w∈W,w.length≤3000)∧Dis Bw (B1++A):=⟨0,T,_,[],[],rfl,rfl,by omega,rfl,rfl,BU.nil _ _ _,by simp,rfl,by simp,Dis.nil _⟩
 rw[show(13,some (Value.int .i64 0))=(13,some (Value.int .i64 (e:Int))) by rw[he];rfl]
 refine AR.weak (ρ:=[(1,some (.slice q fs.length qc)),(5,some v),(11,some (.slice p1 T.length c1)),(12,some (.int .i64 (T.length:Int))),(13,some (.int .i64 (e:Int)))]) (A:=Bw++(B1++A)) ?_ (by rw[hv];exact(by simp[Ah,AO])) (by rw[hBw];exact SubA.refl _)
 clear he hv hBw fr
 induction l generalizing e v Bw W with
 | nil=>
  obtain⟨hn1,hn2⟩:=drop_nil hd hle
  have lt:((e:Int)<(T.length:Int))=False:=eq_false (by omega)
  obtain⟨p2,c2,rfl,hc2,hS2⟩:=BU.read (f:=DO) (n:=1) VC ho
  refine AR.intro (by kernel_rfl) ?_
  intro ν fr
  have hjl:(Lib.join W [32]).length≤140737488355328:=by
   have h1:=Nh W 3000 hWe
   have h2:W.length*(3000+1)≤1000000*3001:=Nat.mul_le_mul (by omega) (by omega)
   omega
  have jv:=mh (Bw++(B1++A)) W p2 c2 [32] (hS2.mono (SubA.left _ _)) hc2 (by omega) hjl _ (SubA.refl _)
  have b32:bs [32]=⟨#[32]⟩:=rfl
  rw[b32]at jv
  simp only[AF,↓AE,simprocAttr,lt,jv]
  rw[hx1,oa,List.append_nil]
  exact⟨rfl,SubA.trans d1A.right dwM.right⟩
 | cons s l ih=>
  obtain⟨ha,hlt,hd',htk⟩:=Be hd
  have lt:((e:Int)<(T.length:Int))=True:=eq_true (by omega)
  have li:((e:Int)<0)=False:=eq_false (by omega)
  have we:IntKind.i64.wrap ((e:Int)+1)=((e+1:Nat):Int):=by rw[AW (by omega) (by omega)];omega
  obtain⟨bk,off,cs,ty,fr0,hp0,hbk,hcr,hcc⟩:=hS1.at ha
  subst hp0
  simp only[DO]at hcr
  have hbM:Vm.AA (Bw++(B1++A)) bk=some (.cells cs ty fr0):=dwM.right _ _ (SubA.left B1 A _ _ hbk)
  obtain⟨p2,c2,rfl,hc2⟩:=ho.slice
  refine AR.intro (by kernel_rfl) ?_
  intro ν fr;have nuE:=fr.nu
  have f0:=fr.2 0
  obtain⟨q1,q2⟩:=AU f0 hbM
  have hcell:cs[off+e*1]? =some (.string (bs s)):=by simpa using (CU hcr).2 0 _ rfl
  have bl:(bs s).toList=s:=Ar s
  have fM: ∀o,SubA (Bw++(B1++A)) ((ν 0,o)::Bw++(B1++A)):=fun _=>SubA.skip f0 (SubA.refl _)
  have sAM:SubA A (Bw++(B1++A)):=SubA.trans d1A.right dwM.right
  have hFM:=fun o=>hF.mono (SubA.trans sAM (fM o))
  have iv:=ij ((ν 0,.cells #[.string (bs s)] 9)::Bw++(B1++A)) q qc fs (hFM _) (by omega) (bs s) (ν 0) 9 (by simp[Vm.AA]) _ (SubA.refl _)
  rw[bl]at iv
  simp only[List.cons_append]at iv
  cases hi:Ja s fs with
  |none=>
   rw[hi]at iv
   simp only[AF,↓AE,simprocAttr,lt,hbM,hcell,we,iv,Kx]
   exact AR.weak (ih (e+1) (.slice p2 W.length c2) Bw W hd' (by omega) ho (by omega) (by rw[hx1,oa,hi];rfl) hWe dwM) (by simp[Ah,AO]) (fM _)
  | some i=>
   have hif: ∃f,fs[i]? =some f:=US hi
   obtain⟨f,hf⟩:=hif
   have hilt:=(List.getElem?_eq_some_iff.1 hf).1
   obtain⟨g1,g2,g3,g4⟩:=hok f (List.mem_of_getElem? hf)
   obtain⟨bf,of,cf,tf,ff,hq,hbf,hcf,hccf⟩:=hF.at hf
   subst hq
   simp only[Kg]at hcf
   have k1:cf[of+i*4+1]? =some (.int .i64 f.k):=(CU hcf).2 1 _ rfl
   have k2:cf[of+i*4+2]? =some (.int .i64 f.n):=(CU hcf).2 2 _ rfl
   have k3:cf[of+i*4+3]? =some (.string f.tx):=(CU hcf).2 3 _ rfl
   have hbfM:=sAM _ _ hbf
   obtain⟨z1,z2⟩:=AU f0 hbfM
   rw[hi]at iv
   simp only[Kx]at iv
   have i0:((i:Int)<0)=False:=eq_false (by omega)
   have il:((i:Int)<(fs.length:Int))=True:=eq_true (by omega)
   have fv:=fun o=>QJ _ (hT.mono (SubA.trans sAM (fM o))) f.n g3 g4 _ (SubA.refl _)
   simp only[List.cons_append]at fv
   have hs:f.nm.toList=s:=UT hi hf
   have hsl:s.length≤1000:=by rw[←hs,AP];exact g1
   have hval: ∃val:ByteArray,(f.k=2→val=f.tx)∧(¬f.k=2→val=bs (Lib.itoa f.n))∧bs s++⟨#[61]⟩++val=bs (eO f)∧val.size≤1000:=by
    by_cases hk:f.k=2
    ·refine⟨f.tx,fun _=>rfl,fun h=>absurd hk h, ?_,g2⟩
     rw[eO,if_pos hk,hs];exact Rl.1 (by simp[bs,ByteArray.toList_eq])
    ·refine⟨bs (Lib.itoa f.n),fun h=>absurd h hk,fun _=>rfl, ?_,by rw[Ab];have:=G3 g3 g4;omega⟩
     rw[eO,if_neg hk,hs];exact Rl.1 (by simp[bs,ByteArray.toList_eq])
   obtain⟨val,hv1,hv2,hv3,hv4⟩:=hval
   have hwl:(eO f).length≤3000:=by
    have:=congrArg ByteArray.size hv3
    rw[Ab]at this
    simp only[ByteArray.size_append,Ab]at this
    have h61:(⟨#[61]⟩:ByteArray).size=1:=rfl
    omega
   have z61:(⟨#[61]⟩:ByteArray).size=1:=rfl
   have n1:((bs s).size+(⟨#[61]⟩:ByteArray).size≤9223372036854775807)=True:=eq_true (by rw[Ab];omega)
   have n2:((bs s++(⟨#[61]⟩:ByteArray)).size+val.size≤9223372036854775807)=True:=eq_true (by rw[ByteArray.size_append,Ab];omega)
   by_cases hk:f.k=2
   rotate_left
   rw[hv2 hk]at hv3 n2
   simp only[AF,↓AE,simprocAttr,lt,hbM,hcell,we,iv,i0,il,z1,hbfM,k1,k2,k3,fv,eq_false hk,n1,n2,hv3,kw]
   rotate_left
   rw[hv1 hk]at hv3 n2
   simp only[AF,↓AE,simprocAttr,lt,hbM,hcell,we,iv,i0,il,z1,hbfM,k1,k2,k3,fv,hk,n1,n2,hv3,kw]
   all_goals
    clear iv fv hFM fM z1 z2 q1 q2
    have f1:=fr.2 1
    have n97:(ν 1=ν 0)=False:=by simp[nuE]
    have dst_:((ν 0=ν 1)=False)∧((ν 1=ν 0)=False):=(by simp[nuE]);generalize ν 0=n7 at dst_  f0 f1 n97 ⊢;generalize ν 1=n9 at dst_  f0 f1 n97⊢
    clear nuE fr
    have f9:Vm.AA ((n7,Obj.cells #[.string (bs s)] 9)::(Bw++(B1++A))) n9=none:=AJ (eq_false fun h=>by rw[h]at n97;simp at n97) f1
    refine Fv.use ?_
    refine D0 (m:=1) (news:=DO (eO f)) (B:=Bw) cq sS rfl (by decide) ho (SubA.fresh f9 (SubA.trans (SubA.left Bw _) (SubA.skip f0 (SubA.refl _)))) (.inr ⟨n9,0,rfl,by simp[Vm.AA,B7,DO]⟩) (by simp[DO,Value.oneCell']) (by simp only[maxLen];omega) (by omega) ?_
    intro v' B' ho' hb
    have ho3:BU DO 1 9 v' B' (W++[eO f]):=by
     unfold BU
     rw[List.length_append,List.flatMap_append]
     simpa using ho'
    have sBA:SubA (B1++A) ((n9,Obj.cells #[.string (bs (eO f))] 9)::(n7,Obj.cells #[.string (bs s)] 9)::(Bw++(B1++A))):=SubA.trans dwM.right (SubA.trans (SubA.skip f0 (SubA.refl _)) (SubA.fresh f9 (SubA.refl _)))
    have dB':=J5 hb dwM sBA
    obtain⟨p9,c9,rfl,_⟩:=ho3.slice
    refine⟨B'++(B1++A),SubA.both (SubA.left _ _) (dB'.sub sBA), ?_⟩
    intro ν fr
    simp only[AF,↓AE,simprocAttr,we]
    exact AR.weak (ih (e+1) (.slice p9 (W++[eO f]).length c9) B' (W++[eO f]) hd' (by omega) ho3 (by simp;omega) (by rw[hx1,oa,hi];simp[hf]) (fun w hw=>by
     rcases List.mem_append.1 hw with h|h
     ·exact hWe w h
     ·rw[List.mem_singleton.1 h];exact hwl) dB') (by simp[Ah,AO]) (SubA.refl _)
theorem om(A:AH)(hT:Dv A)(t:Xs)(r:Xr)(hE:ExR A t r)(hn:(JF t).length≤1000000)(fs:List Ft)(q:Option Addr)(qc:Nat)(hF:B5 Kg 4 A q fs)(hl:fs.length≤1000)(hok: ∀f∈fs,f.nm.size≤1000∧f.tx.size≤1000∧ -9223372036854775808≤f.n∧f.n≤9223372036854775807)(B_:AH)(hB_:SubA A B_):Ag Tryz.prog 36 #[.agg #[.int .i64 r.op,.string r.nm,.string r.tx,.int .i64 r.n,.slice r.p r.len r.cap],.slice q fs.length qc] B_=some (.string (bs (d5 fs t))):=AX (Aj (by kernel_rfl) (ol A hT t r hE hn fs q qc hF hl hok) hB_)
set_option maxHeartbeats 4000000
set_option maxRecDepth 20000
structure FtS(A:AH)(fs:List Ft)(q:Option Addr):Prop where
 st:B5 Kg 4 A q fs
 le:fs.length≤1000
 gd:WO [] fs=true
 ok: ∀f∈fs,Ei f=true
 sz: ∀f∈fs,f.nm.size≤1000∧f.tx.size≤1000∧ -9223372036854775808≤f.n∧f.n≤9223372036854775807
theorem FtS.mono{A B:AH}{fs:List Ft}{q:Option Addr}(h:FtS A fs q)(hs:SubA A B):FtS B fs q:=⟨h.st.mono hs,h.le,h.gd,h.ok,h.sz⟩
def mY(fs:List Ft)(t:Xs):Bool:=decide ((Fr fs t).1=0)&&(decide ((Fr fs t).2.k=3)&&decide ((Fr fs t).2.n=1))
theorem mA(A:AH)(t:Xs)(r:Fuv)(hE:ExR A t r.w)(hz:SzT t)(fs:List Ft)(q:Option Addr)(qc:Nat)(hF:FtS A fs q):AK Tryz.prog 64 #[.slice q fs.length qc,Value.agg #[.string r.nm,.int .i64 r.w.op,.string r.w.nm,.string r.w.tx,.int .i64 r.w.n,.slice r.w.p r.w.len r.w.cap,.int .i64 r.bps,.int .i64 r.fx,.int .i64 r.mn,.int .i64 r.mx]] A (fun u_ A_=>u_=.bool (mY fs t)∧SubA A A_):=by
 refine AC ⟨Tryz.prog,64,Tryz.f64,26,[0,1,3,4,5,6],⟨[],none⟩,[],_⟩ rfl (args:=[_,_]) Tryz.func64 rfl (by kernel_rfl) Tryz.ntmps64 (by simp) (by kernel_rfl) ?_
 intro ν fr
 have f0:=fr.2 0
 have s0: ∀o,SubA A ((ν 0,o)::A):=fun _=>SubA.skip f0 (SubA.refl _)
 have ev:=fun o=>Za A t r.w hE hz fs q qc hF.st hF.le hF.gd hF.ok ((ν 0,o)::A) (s0 o)
 unfold mY
 by_cases h1:(Fr fs t).1=0
 rotate_left
 ·have h1':((Fr fs t).1==0)=false:=by simp[h1]
  simp only[AF,↓AE,simprocAttr,fr.2,ev,eq_false h1,h1']
 have h1':((Fr fs t).1==0)=true:=by simp[h1]
 by_cases h2:(Fr fs t).2.k=3
 rotate_left
 ·have h2':((Fr fs t).2.k==3)=false:=by simp[h2]
  simp only[AF,↓AE,simprocAttr,fr.2,ev,h1,eq_false h2,h2']
 have h2':((Fr fs t).2.k==3)=true:=by simp[h2]
 by_cases h3:(Fr fs t).2.n=1
 ·have h3':((Fr fs t).2.n==1)=true:=by simp[h3]
  simp only[AF,↓AE,simprocAttr,fr.2,ev,h1,h2,h3]
 ·have h3':((Fr fs t).2.n==1)=false:=by simp[h3]
  simp only[AF,↓AE,simprocAttr,fr.2,ev,h1,h2,eq_false h3,h3']
theorem mB(A:AH)(t:Xs)(r:Fuv)(hE:ExR A t r.w)(hz:SzT t)(fs:List Ft)(q:Option Addr)(qc:Nat)(hF:FtS A fs q)(B_:AH)(hB_:SubA A B_):Ag Tryz.prog 64 #[.slice q fs.length qc,Value.agg #[.string r.nm,.int .i64 r.w.op,.string r.w.nm,.string r.w.tx,.int .i64 r.w.n,.slice r.w.p r.w.len r.w.cap,.int .i64 r.bps,.int .i64 r.fx,.int .i64 r.mn,.int .i64 r.mx]] B_=some (.bool (mY fs t)):=AX (Aj (by kernel_rfl) (mA A t r hE hz fs q qc hF) hB_)
def pL(fs:List Ft)(us:List Fu):Option Nat:=HS (us.map fun u=>mY fs u.w)
theorem UR: ∀{l:List Bool} {i:Nat},HS l=some i→i<l.length
 | b::l,i,h=>by
  rw[HS]at h
  split at h
  ·cases h;simp
  ·obtain⟨j,hj,rfl⟩:=Option.map_eq_some_iff.1 h
   have:=UR hj
   simp;omega
theorem mD(A:AH)(us:List Fu)(p:Option Addr)(rs:List Fuv)(cap:Nat)(hS:LW A us p rs)(hl:us.length≤1000000)(hz: ∀u∈us,SzT u.w)(fs:List Ft)(q:Option Addr)(qc:Nat)(hF:FtS A fs q):AK Tryz.prog 34 #[.slice p us.length cap,.slice q fs.length qc] A (fun u_ A_=>u_=.tuple (match pL fs us with|none=> #[.int .i64 0,.int .i64 6]|some i=> #[.int .i64 (i:Int),.int .i64 0])∧SubA A A_):=by
 refine AC ⟨Tryz.prog,34,Tryz.f34,16,[0,1,4,5,6,7],⟨[],none⟩,[],_⟩ rfl (args:=[_,_]) Tryz.func34 rfl (by kernel_rfl) Tryz.ntmps34 (by simp) (by kernel_rfl) ?_
 intro ν fr
 have cv:=aF A p rs cap hS.2.1 (by have:=hS.1;omega) (us.map fun u=>mY fs u.w) (by rw[List.length_map,hS.1]) 64 [.slice q fs.length qc] [] (fun k r b hr hk B hB=>by
  rw[List.getElem?_map]at hk
  obtain⟨u,hu,rfl⟩:=Option.map_eq_some_iff.1 hk
  exact mB A u.w r (hS.2.2 k u r hu hr).2.1 (hz u (List.mem_of_getElem? hu)) fs q qc hF B hB)
 rw[hS.1]at cv
 unfold pL
 cases hi:HS (us.map fun u=>mY fs u.w)with
 |none=>
  rw[hi]at cv
  simp only[AF,↓AE,simprocAttr,cv,Kx]
 |some i=>
  rw[hi]at cv
  have i0:((i:Int)<0)=False:=eq_false (by omega)
  simp only[AF,↓AE,simprocAttr,cv,Kx,i0]
theorem mE(A:AH)(us:List Fu)(p:Option Addr)(rs:List Fuv)(cap:Nat)(hS:LW A us p rs)(hl:us.length≤1000000)(hz: ∀u∈us,SzT u.w)(fs:List Ft)(q:Option Addr)(qc:Nat)(hF:FtS A fs q)(B_:AH)(hB_:SubA A B_):Ag Tryz.prog 34 #[.slice p us.length cap,.slice q fs.length qc] B_=some (.tuple (match pL fs us with|none=> #[.int .i64 0,.int .i64 6]|some i=> #[.int .i64 (i:Int),.int .i64 0])):=AX (Aj (by kernel_rfl) (mD A us p rs cap hS hl hz fs q qc hF) hB_)
structure FL where
 nm:ByteArray
 n:Int
 wh:List UInt8
def eM:FL:=⟨eB,0,[]⟩
def FL.v(x:FL):Value:=.agg #[.string x.nm,.int .i64 x.n,.string (bs x.wh)]
def LZ(fs:List Ft)(us:List Fu)(a:Int):FL×Int:=match pL fs us with
 |none=>(eM,6)
 |some i=>match us[i]? with
  |none=>(eM,6)
  |some u=>if(Hn u.bps u.fx u.mn u.mx a).2=0 then(⟨u.nm,(Hn u.bps u.fx u.mn u.mx a).1,d5 fs u.w⟩,0)else(eM,(Hn u.bps u.fx u.mn u.mx a).2)
theorem l7(A:AH)(hT:Dv A)(us:List Fu)(p:Option Addr)(rs:List Fuv)(cap:Nat)(hS:LW A us p rs)(hl:us.length≤1000000)(hz: ∀u∈us,SzT u.w)(hn: ∀u∈us,(FC u.w).length≤1000000)(fs:List Ft)(q:Option Addr)(qc:Nat)(hF:FtS A fs q)(a:Int):AK Tryz.prog 14 #[.slice p us.length cap,.slice q fs.length qc,.int .i64 a] A (fun u_ A_=>u_=.tuple #[(LZ fs us a).1.v,.int .i64 (LZ fs us a).2]∧SubA A A_):=by
 refine AC ⟨Tryz.prog,14,Tryz.f14,48,[0,1,2,6,7,8,9,10],⟨[],none⟩,[(7,.p [(0,0),(1,0),(2,0),(3,0),(4,0),(5,0),(6,0),(7,0),(8,0),(9,0),(10,0),(11,0),(12,0),(13,0),(14,2),(15,0)])],_⟩ rfl (args:=[_,_,_]) Tryz.func14 rfl (by kernel_rfl) Tryz.ntmps14 (by simp) (by kernel_rfl) ?_
 intro ν fr
 have f0:=fr.2 0
 have s0: ∀o,SubA A ((ν 0,o)::A):=fun _=>SubA.skip f0 (SubA.refl _)
 have pv:=fun o=>mE A us p rs cap hS hl hz fs q qc hF ((ν 0,o)::A) (s0 o)
 cases hi:pL fs us with
 |none=>
  rw[hi]at pv
  have hap:LZ fs us a=(eM,6):=by unfold LZ;rw[hi]
  rw[hap]
  simp only[AF,↓AE,simprocAttr,fr.2,pv]
  rfl
 | some i=>
  rw[hi]at pv
  have hlt:=UR (show HS (us.map fun u=>mY fs u.w)=some i from hi)
  rw[List.length_map]at hlt
  obtain⟨u,hu⟩: ∃u,us[i]? =some u:=⟨_,List.getElem?_eq_getElem hlt⟩
  obtain⟨r,hr⟩: ∃r,rs[i]? =some r:=⟨_,List.getElem?_eq_getElem (by have:=hS.1;omega)⟩
  obtain⟨r1,r2,r3,r4,r5,r6⟩:=hS.2.2 i u r hu hr
  obtain⟨bk,off,cs,ty,fr0,hp0,hbk,hcr,hcc⟩:=hS.2.1.at hr
  subst hp0
  simp only[JY]at hcr
  have fv:=fun o=>hJ A r a ((ν 0,o)::A) (s0 o)
  have wv:=fun o=>om A hT u.w r.w r2 (by simpa[JF]using hn u (List.mem_of_getElem? hu)) fs q qc hF.st hF.le hF.sz ((ν 0,o)::A) (s0 o)
  obtain⟨q1,q2⟩:=AU f0 hbk
  have il:((i:Int)<(us.length:Int))=True:=eq_true (by omega)
  have i0:((i:Int)<0)=False:=eq_false (by omega)
  rw[r1,r3,r4,r5,r6]at fv
  have g0:cs[off+i*10]? =some (.string r.nm):=(CU hcr).2 0 _ rfl
  have g1:DW (some (.cells cs ty fr0)) (off+i*10+1) 5=some #[.int .i64 r.w.op,.string r.w.nm,.string r.w.tx,.int .i64 r.w.n,.slice r.w.p r.w.len r.w.cap]:=Qw hcr (k:=1) (n:=5) (by omega)
  rw[r1]at g0
  by_cases h1:(Hn u.bps u.fx u.mn u.mx a).2=0
  ·have h1':((Hn u.bps u.fx u.mn u.mx a).2 !=0)=false:=by simp[h1]
   have hap:LZ fs us a=(⟨u.nm,(Hn u.bps u.fx u.mn u.mx a).1,d5 fs u.w⟩,0):=by unfold LZ;rw[hi];simp only[hu];rw[if_pos h1]
   rw[hap]
   simp only[AF,↓AE,simprocAttr,fr.2,pv,il,hbk,hcr,q1,g0,g1,r1,r3,r4,r5,r6,fv,h1,wv]
   rfl
  ·have h1':((Hn u.bps u.fx u.mn u.mx a).2 !=0)=true:=by simp[h1]
   have hap:LZ fs us a=(eM,(Hn u.bps u.fx u.mn u.mx a).2):=by unfold LZ;rw[hi];simp only[hu];rw[if_neg h1]
   rw[hap]
   simp only[AF,↓AE,simprocAttr,fr.2,pv,il,hbk,hcr,q1,g0,g1,r1,r3,r4,r5,r6,fv,h1',wv]
   rfl
theorem l8(A:AH)(hT:Dv A)(us:List Fu)(p:Option Addr)(rs:List Fuv)(cap:Nat)(hS:LW A us p rs)(hl:us.length≤1000000)(hz: ∀u∈us,SzT u.w)(hn: ∀u∈us,(FC u.w).length≤1000000)(fs:List Ft)(q:Option Addr)(qc:Nat)(hF:FtS A fs q)(a:Int)(B_:AH)(hB_:SubA A B_):Ag Tryz.prog 14 #[.slice p us.length cap,.slice q fs.length qc,.int .i64 a] B_=some (.tuple #[(LZ fs us a).1.v,.int .i64 (LZ fs us a).2]):=AX (Aj (by kernel_rfl) (l7 A hT us p rs cap hS hl hz hn fs q qc hF a) hB_)
set_option maxHeartbeats 1000000
set_option maxRecDepth 20000
def HP:List UInt8→Bool
 | []=>true
 |c::l=>(decide (48≤c.toNat)&&decide (c.toNat≤57))&&HP l
def KW:List UInt8→Int
 | []=>0
 |c::l=>(if(l.length+1) % 2=0 then(if 9<2*((c.toNat:Int) - 48)then 2*((c.toNat:Int) - 48) - 9 else 2*((c.toNat:Int) - 48))else(c.toNat:Int) - 48)+KW l
set_option maxRecDepth 20000 in
theorem Kc(s:ByteArray)(h:AL):CallsH Tryz.prog 91 #[.string s] h fun r h'=>r=.returned (.bool (HP s.toList))∧Grew h h':=by
 refine AY ⟨Tryz.prog,91,Tryz.f91,16,[0,2,4,6,7],_⟩ (args:=[_]) Tryz.func91 rfl Tryz.ntmps91 (by simp) ?_
 simp only[Aa,↓Bl,simprocAttr]
 refine EN Tryz.underlying9 ?_
 simp only[Aa,↓Bl,simprocAttr]
 have hG:=Grew.push h (.stringIter s 0)
 obtain⟨pos,hg,hd⟩: ∃pos,(h.push (.stringIter s 0))[h.size]? =some (.stringIter s pos)∧HP s.toList=HP (s.toList.drop pos):=⟨0,by simp,rfl⟩
 generalize h.push (.stringIter s 0)=h1 at hg hG⊢
 generalize hl:s.toList.drop pos=l at hd
 induction l generalizing pos h1 with
 |nil=>
  refine Au.intro ?_
  simp only[Aa,↓Bl,simprocAttr]
  refine DB hg ?_
  rw[if_neg (CB hl)]
  simp only[Aa,↓Bl,simprocAttr]
  rw[hd]
  exact⟨rfl,hG⟩
 | cons c l ih=>
  obtain⟨hp,hc,hl',_⟩:=Bj hl
  refine Au.intro ?_
  simp only[Aa,↓Bl,simprocAttr]
  refine DB hg ?_
  rw[if_pos hp]
  simp only[Aa,↓Bl,simprocAttr]
  by_cases ha:c.toNat<128
  ·have hdc:=decode_ascii s pos hp (by rw[hc];exact ha)
   rw[hc]at hdc
   rw[hdc]
   split
   ·rename_i hb
    refine⟨?_,hG.set (Nat.le_refl _) _⟩
    rw[hd,HP]
    have:(decide (48≤c.toNat)&&decide (c.toNat≤57))=false:=by simp;omega
    rw[this];rfl
   ·rename_i hb
    refine Au.weak (ih (pos+1) _ ?_ (hG.set (Nat.le_refl _) _) hl' ?_) ⟨rfl,rfl,rfl,trivial⟩
    ·simp[EX hg]
    ·rw[hd,HP]
     have:(decide (48≤c.toNat)&&decide (c.toNat≤57))=true:=by simp;omega
     rw[this];rfl
  ·have hdc:=decode_high s pos hp (by rw[hc];omega)
   rw[if_pos (by omega)]
   refine⟨?_,hG.set (Nat.le_refl _) _⟩
   rw[hd,HP]
   have:(decide (48≤c.toNat)&&decide (c.toNat≤57))=false:=by simp;omega
   rw[this];rfl
theorem LP: ∀(l:List UInt8),HP l=true→0≤KW l∧KW l≤9*l.length
 | [],_=>by simp[KW]
 |c::l,h=>by
  simp only[HP,Bool.and_eq_true,decide_eq_true_eq]at h
  have:=LP l h.2
  simp only[KW,List.length_cons]
  split<;>(try split)<;>omega
theorem NY: ∀(n:Nat) (l:List UInt8),HP l=true→HP (l.drop n)=true
 |0,_,h=>h
 |n+1,[],h=>rfl
 |n+1,c::l,h=>by
  simp only[HP,Bool.and_eq_true]at h
  exact NY n l h.2
theorem rM(s:ByteArray)(h:AL)(hlen:s.size≤200000000000000)(hdig:HP s.toList=true):CallsH Tryz.prog 127 #[.string s] h fun r h'=>r=.returned (.int .i64 (KW s.toList))∧Grew h h':=by
 refine AY ⟨Tryz.prog,127,Tryz.f127,32,[0,2,3,4,5,6,8,9],_⟩ (args:=[_]) Tryz.func127 rfl Tryz.ntmps127 (by simp) ?_
 simp only[Aa,↓Bl,simprocAttr]
 refine EN Tryz.underlying9 ?_
 simp only[Aa,↓Bl,simprocAttr]
 have hG:=Grew.push h (.stringIter s 0)
 have hsz:=AP s
 have hsum:=LP _ hdig
 obtain⟨pos,tot,ht,hg,hd,h0⟩: ∃(pos:Nat) (tot:Int),tot=0∧(h.push (.stringIter s 0))[h.size]? =some (.stringIter s pos)∧KW s.toList=tot+KW (s.toList.drop pos)∧0≤tot:=⟨0,0,rfl,by simp,by simp,by simp⟩
 rw[show(3,some (Value.int .i64 0))=(3,some (Value.int .i64 tot)) by rw[ht]]
 clear ht
 generalize h.push (.stringIter s 0)=h1 at hg hG⊢
 have hdl:=NY pos _ hdig
 generalize hl:s.toList.drop pos=l at hd hdl
 induction l generalizing pos h1 tot with
 |nil=>
  refine Au.intro ?_
  simp only[Aa,↓Bl,simprocAttr]
  refine DB hg ?_
  rw[if_neg (CB hl)]
  simp only[Aa,↓Bl,simprocAttr]
  rw[hd]
  simp only[KW,Int.add_zero]
  exact⟨trivial,hG⟩
 | cons c l ih=>
  obtain⟨hp,hc,hl',hsl,hb⟩:=Bj hl
  refine Au.intro ?_
  simp only[Aa,↓Bl,simprocAttr]
  refine DB hg ?_
  rw[if_pos hp]
  simp only[Aa,↓Bl,simprocAttr]
  simp only[HP,Bool.and_eq_true,decide_eq_true_eq]at hdl
  have hdc:=decode_ascii s pos hp (by rw[hc];omega)
  rw[hc]at hdc
  rw[hdc]
  have hs1:=LP l hdl.2
  simp only[KW]at hd
  simp (disch:=omega) only[AW,OA,Int.tmod_eq_emod_of_nonneg]
  split
  ·rw[if_pos (by omega)]at hd
   split
   ·rename_i h9
    rw[if_pos (by omega)]at hd
    refine Au.weak (ih (pos+1) _ ?_ _ ?_ (hG.set (Nat.le_refl _) _) hl' ?_ hdl.2) ⟨rfl,rfl,rfl,rfl,trivial⟩
    ·omega
    ·simp[EX hg]
    ·omega
   ·rename_i h9
    rw[if_neg (by omega)]at hd
    refine Au.weak (ih (pos+1) _ ?_ _ ?_ (hG.set (Nat.le_refl _) _) hl' ?_ hdl.2) ⟨rfl,rfl,rfl,rfl,trivial⟩
    ·omega
    ·simp[EX hg]
    ·omega
  ·rw[if_neg (by omega)]at hd
   refine Au.weak (ih (pos+1) _ ?_ _ ?_ (hG.set (Nat.le_refl _) _) hl' ?_ hdl.2) ⟨rfl,rfl,rfl,rfl,trivial⟩
   ·omega
   ·simp[EX hg]
   ·omega
def Mu(s:ByteArray):Int:=
 if s.size<12 then 1 else if 19<s.size then 3 else if HP s.toList=false then 2 else if KW s.toList % 10=0 then 0 else 9
theorem aj{s:ByteArray}(h:1≤s.size):(s.toList==[])=false:=by
 have:=AP s
 cases hl:s.toList with
 |nil=>rw[hl]at this;simp at this;omega
 |cons c l=>rfl
theorem mq(s:ByteArray)(h:AL)(h1:1≤s.size)(hlen:s.size≤200000000000000)(hdig:HP s.toList=true):CallsH Tryz.prog 92 #[.string s] h fun r h'=>r=.returned (.bool (decide (KW s.toList % 10=0)))∧Grew h h':=by
 refine AY ⟨Tryz.prog,92,Tryz.f92,15,[0,2],_⟩ (args:=[_]) Tryz.func92 rfl Tryz.ntmps92 (by simp) ?_
 simp only[Aa,↓Bl,simprocAttr,aj h1]
 refine(Kc s h).mono ?_
 rintro e h2 ⟨rfl,g2⟩
 simp only[Aa,↓Bl,simprocAttr,hdig]
 refine(rM s h2 hlen hdig).mono ?_
 rintro e h3 ⟨rfl,g3⟩
 simp only[Aa,↓Bl,simprocAttr]
 have:=LP _ hdig
 rw[Int.tmod_eq_emod_of_nonneg (by omega)]
 exact⟨rfl,g2.trans g3⟩
theorem fV(s:ByteArray)(h:AL):CallsH Tryz.prog 62 #[.string s] h fun r h'=>r=.returned (.int .i64 (Mu s))∧Grew h h':=by
 refine AY ⟨Tryz.prog,62,Tryz.f62,19,[0,2],_⟩ (args:=[_]) Tryz.func62 rfl Tryz.ntmps62 (by simp) ?_
 simp only[Aa,↓Bl,simprocAttr]
 split
 ·rw[Mu,if_pos (by omega)];exact⟨rfl,.refl h⟩
 split
 ·rw[Mu,if_neg (by omega),if_pos (by omega)];exact⟨rfl,.refl h⟩
 refine(Kc s h).mono ?_
 rintro e h2 ⟨rfl,g2⟩
 simp only[Aa,↓Bl,simprocAttr]
 split
 ·rename_i hd
  rw[Mu,if_neg (by omega),if_neg (by omega),if_pos hd];exact⟨rfl,g2⟩
 rename_i hd
 simp only[Bool.not_eq_false]at hd
 refine(mq s h2 (by omega) (by omega) hd).mono ?_
 rintro e h3 ⟨rfl,g3⟩
 simp only[Aa,↓Bl,simprocAttr]
 have e1: ¬s.size<12:=by omega
 have e2: ¬19<s.size:=by omega
 by_cases h10:KW s.toList % 10=0
 ·simp only[Mu,e1,e2,hd,h10,if_false,if_true,Bool.true_eq_false,not_true_eq_false];exact⟨trivial,g2.trans g3⟩
 ·simp only[Mu,e1,e2,hd,h10,if_false,if_true,Bool.true_eq_false,not_false_eq_true];exact⟨trivial,g2.trans g3⟩
def pJ(c:Nat):Bool:=BX c||Ae c||decide (c=95)||decide (c=45)
def ki(l:List UInt8):Bool:=l.all fun c=>pJ c.toNat
def UQ(s:ByteArray):Bool:=decide (1≤s.size)&&(decide (s.size≤16)&&ki s.toList)
def lC(l:List UInt8):Bool:=l.all fun c=>decide (65≤c.toNat)&&decide (c.toNat≤90)
def Mw(s:ByteArray):Bool:=decide (s.size=3)&&lC s.toList
theorem aE(c:UInt8)(l:List UInt8):ki (c::l)=(pJ c.toNat&&ki l):=rfl
theorem dp(c:UInt8)(l:List UInt8):lC (c::l)=((decide (65≤c.toNat)&&decide (c.toNat≤90))&&lC l):=rfl
theorem je(s:ByteArray)(h:AL):CallsH Tryz.prog 61 #[.string s] h fun r h'=>r=.returned (.bool (UQ s))∧h'=h:=by
 refine AY ⟨Tryz.prog,61,Tryz.f61,45,[0,2,3,4,14,15],_⟩ (args:=[_]) Tryz.func61 rfl Tryz.ntmps61 (by simp) ?_
 simp only[Aa,↓Bl,simprocAttr]
 split
 ·rename_i h0
  have: ¬(1≤s.size∧s.size≤16):=by omega
  by_cases h1:1≤s.size
  ·have h2: ¬s.size≤16:=by omega
   simp[UQ,h2]
  ·simp[UQ,h1]
 rename_i h0
 have h3:1≤s.size:=by omega
 have h4:s.size≤16:=by omega
 obtain⟨e,he,h1,h2⟩: ∃e:Nat,e=0∧e≤s.size∧ki s.toList=ki (s.toList.drop e):=⟨0,rfl,by omega,rfl⟩
 rw[show(15,some (Value.int .i64 0))=(15,some (Value.int .i64 (e:Int))) by rw[he];rfl]
 clear he
 generalize hl:s.toList.drop e=l at h2
 induction l generalizing e with
 |nil=>
  have hlt:((e:Int)<(s.size:Int))=False:=by have:=CB hl;simp;omega
  have hA:ki s.toList=true:=by rw[h2];rfl
  refine Au.intro ?_
  simp only[Aa,↓Bl,simprocAttr,hlt];simp[UQ,hA,h3,h4]
 | cons c l ih=>
  obtain⟨hp,hc,hl',hsl,hb⟩:=Bj hl
  have hlt:((e:Int)<(s.size:Int))=True:=by simp;omega
  have we:IntKind.i64.wrap ((e:Int)+1)=((e+1:Nat):Int):=by rw[AW (by omega) (by omega)];omega
  rw[aE]at h2
  have K:pJ c.toNat=true→ki s.toList=ki l:=fun hk=>by rw[h2,hk,Bool.true_and]
  have F:pJ c.toNat=false→Ending.returned (Value.bool false)=Ending.returned (Value.bool (UQ s)):=fun hk=>by rw[hk,Bool.false_and]at h2;simp[UQ,h2]
  refine Au.intro ?_
  simp only[Aa,↓Bl,simprocAttr,hlt,hb,we]
  try simp only[ig,bne,decide_eq_true_eq,Bool.not_eq_true',decide_eq_false_iff_not,Bool.or_eq_false_iff,Bool.and_eq_false_iff,beq_eq_false_iff_ne,ne_eq]
  repeat' split
  all_goals first
   |exact Au.weak (ih (e+1) (by omega) hl' (K (by simp only[pJ,BX,Ae,Bool.or_eq_true,Bool.and_eq_true,decide_eq_true_eq];omega))) (by simp[Ah,AO])
   |exact F (by simp only[pJ,BX,Ae,Bool.or_eq_false_iff,Bool.and_eq_false_iff,decide_eq_false_iff_not];omega)
theorem jf(s:ByteArray)(h:AL)(Q:Ending→AL→Prop):Ap Tryz.prog 61 #[.string s] h Q=Q (.returned (.bool (UQ s))) (h):=Ap.exact (by kernel_rfl) (je s h)
theorem Sg(s:ByteArray)(h:AL):CallsH Tryz.prog 93 #[.string s] h fun r h'=>r=.returned (.bool (Mw s))∧h'=h:=by
 refine AY ⟨Tryz.prog,93,Tryz.f93,23,[0,2,3,8,9],_⟩ (args:=[_]) Tryz.func93 rfl Tryz.ntmps93 (by simp) ?_
 by_cases h3:s.size=3
 rotate_left
 ·have h4:((s.size:Int)==3)=false:=by rw[beq_eq_false_iff_ne];omega
  have h5:((s.size:Int) !=3)=true:=by rw[bne,h4];rfl
  have h6:((s.size:Int)=3)=False:=by simp;omega
  simp only[Aa,↓Bl,simprocAttr,h5]
  simp[Mw,h3]
 have h4:((s.size:Int)==3)=true:=by rw[beq_iff_eq];omega
 have h5:((s.size:Int) !=3)=false:=by rw[bne,h4];rfl
 have h6:((s.size:Int)=3)=True:=by simp;omega
 simp only[Aa,↓Bl,simprocAttr,h5]
 obtain⟨e,he,h1,h2⟩: ∃e:Nat,e=0∧e≤s.size∧lC s.toList=lC (s.toList.drop e):=⟨0,rfl,by omega,rfl⟩
 rw[show(9,some (Value.int .i64 0))=(9,some (Value.int .i64 (e:Int))) by rw[he];rfl]
 clear he
 generalize hl:s.toList.drop e=l at h2
 induction l generalizing e with
 |nil=>
  have hlt:((e:Int)<(s.size:Int))=False:=by have:=CB hl;simp;omega
  have hA:lC s.toList=true:=by rw[h2];rfl
  refine Au.intro ?_
  simp only[Aa,↓Bl,simprocAttr,hlt];simp[Mw,hA,h3]
 | cons c l ih=>
  obtain⟨hp,hc,hl',hsl,hb⟩:=Bj hl
  have hlt:((e:Int)<(s.size:Int))=True:=by simp;omega
  have we:IntKind.i64.wrap ((e:Int)+1)=((e+1:Nat):Int):=by rw[AW (by omega) (by omega)];omega
  rw[dp]at h2
  have K:(decide (65≤c.toNat)&&decide (c.toNat≤90))=true→lC s.toList=lC l:=fun hk=>by rw[h2,hk,Bool.true_and]
  have F:(decide (65≤c.toNat)&&decide (c.toNat≤90))=false→Ending.returned (Value.bool false)=Ending.returned (Value.bool (Mw s)):=fun hk=>by rw[hk,Bool.false_and]at h2;simp[Mw,h2]
  refine Au.intro ?_
  simp only[Aa,↓Bl,simprocAttr,hlt,hb,we]
  try simp only[ig,bne,decide_eq_true_eq,Bool.not_eq_true',decide_eq_false_iff_not,Bool.or_eq_false_iff,Bool.and_eq_false_iff,beq_eq_false_iff_ne,ne_eq]
  repeat' split
  all_goals first
   |exact Au.weak (ih (e+1) (by omega) hl' (K (by simp only[Bool.and_eq_true,decide_eq_true_eq];omega))) (by simp[Ah,AO])
   |exact F (by simp only[Bool.and_eq_false_iff,decide_eq_false_iff_not];omega)
theorem Ht(s:ByteArray)(h:AL)(Q:Ending→AL→Prop):Ap Tryz.prog 93 #[.string s] h Q=Q (.returned (.bool (Mw s))) (h):=Ap.exact (by kernel_rfl) (Sg s h)
def Fq(n:Int):Bool:=decide (-4503599627370496≤n)&&decide (n≤4503599627370496)
theorem WU(n:Int)(h:AL):CallsH Tryz.prog 94 #[.int .i64 n] h fun r h'=>r=.returned (.bool (Fq n))∧h'=h:=by
 refine AY ⟨Tryz.prog,94,Tryz.f94,9,[0,2],_⟩ (args:=[_]) Tryz.func94 rfl Tryz.ntmps94 (by simp) ?_
 simp only[Aa,↓Bl,simprocAttr,Fq]
theorem KL(n:Int)(h:AL)(Q:Ending→AL→Prop):Ap Tryz.prog 94 #[.int .i64 n] h Q=Q (.returned (.bool (Fq n))) (h):=Ap.exact (by kernel_rfl) (WU n h)
def Kv(am:Int)(cu:ByteArray):Int:=if Mw cu=false then 11 else if Fq am=false then 4 else 0
theorem Se(am:Int)(cu:ByteArray)(h:AL):CallsH Tryz.prog 63 #[.agg #[.int .i64 am,.string cu]] h fun r h'=>r=.returned (.int .i64 (Kv am cu))∧h'=h.push (.cells #[.int .i64 am,.string cu] 23):=by
 refine AY ⟨Tryz.prog,63,Tryz.f63,11,[0,1,2],_⟩ (args:=[_]) Tryz.func63 rfl Tryz.ntmps63 (by simp) ?_
 cases hc:Mw cu with
 |false=>
  simp only[Aa,↓Bl,simprocAttr,Ht,KL,hc]
  simp[Kv,hc]
 | true=>
  cases ht:Fq am with
  |false=>
   simp only[Aa,↓Bl,simprocAttr,Ht,KL,hc,ht]
   simp[Kv,hc,ht]
  |true=>
   simp only[Aa,↓Bl,simprocAttr,Ht,KL,hc,ht]
   simp[Kv,hc,ht]
theorem Sf(am:Int)(cu:ByteArray)(h:AL)(Q:Ending→AL→Prop):Ap Tryz.prog 63 #[.agg #[.int .i64 am,.string cu]] h Q=Q (.returned (.int .i64 (Kv am cu))) (h.push (.cells #[.int .i64 am,.string cu] 23)):=Ap.exact (by kernel_rfl) (Se am cu h)
def Hu(id au aq is me:ByteArray):Bool:=UQ id&&((decide (au.toList=[])||UQ au)&&(Bp aq&&(Bp is&&UQ me)))
def EE(kd:Int)(id au aq is me ca:ByteArray)(am:Int)(cu:ByteArray)(da ct:Int):Int:=
 if kd<1∨4<kd then 4 else if Hu id au aq is me=false then 5 else if Mu ca≠0 then 17 else if Kv am cu≠0 then Kv am cu else if(am<1∨999999999999<am)∨ct<0∨9999<ct then 4 else if da<0∨99999<da then 14 else 0
theorem cB(kd:Int)(id au aq is me ca:ByteArray)(am:Int)(cu:ByteArray)(da ct:Int)(fi:Bool)(h:AL):CallsH Tryz.prog 28 #[.agg #[.int .i64 kd,.string id,.string au,.string aq,.string is,.string me,.string ca,.int .i64 am,.string cu,.int .i64 da,.int .i64 ct,.bool fi]] h fun r h'=>r=.returned (.int .i64 (if kd<1∨4<kd then 4 else 0))∧h'=h.push (.cells #[.int .i64 kd,.string id,.string au,.string aq,.string is,.string me,.string ca,.int .i64 am,.string cu,.int .i64 da,.int .i64 ct,.bool fi] 91):=by
 refine AY ⟨Tryz.prog,28,Tryz.f28,11,[0,1,2],_⟩ (args:=[_]) Tryz.func28 rfl Tryz.ntmps28 (by simp) ?_
 by_cases h1:kd<1
 ·simp only[Aa,↓Bl,simprocAttr,h1]
 ·by_cases h2:4<kd
  ·simp only[Aa,↓Bl,simprocAttr,h1,h2]
  ·simp only[Aa,↓Bl,simprocAttr,h1,h2]
theorem Q0(kd:Int)(id au aq is me ca:ByteArray)(am:Int)(cu:ByteArray)(da ct:Int)(fi:Bool)(h:AL)(Q:Ending→AL→Prop):Ap Tryz.prog 28 #[.agg #[.int .i64 kd,.string id,.string au,.string aq,.string is,.string me,.string ca,.int .i64 am,.string cu,.int .i64 da,.int .i64 ct,.bool fi]] h Q=Q (.returned (.int .i64 (if kd<1∨4<kd then 4 else 0))) (h.push (.cells #[.int .i64 kd,.string id,.string au,.string aq,.string is,.string me,.string ca,.int .i64 am,.string cu,.int .i64 da,.int .i64 ct,.bool fi] 91)):=Ap.exact (by kernel_rfl) (cB kd id au aq is me ca am cu da ct fi h)
theorem XZ(kd:Int)(id au aq is me ca:ByteArray)(am:Int)(cu:ByteArray)(da ct:Int)(fi:Bool)(h:AL):CallsH Tryz.prog 29 #[.agg #[.int .i64 kd,.string id,.string au,.string aq,.string is,.string me,.string ca,.int .i64 am,.string cu,.int .i64 da,.int .i64 ct,.bool fi]] h fun r h'=>r=.returned (.int .i64 (if Hu id au aq is me=false then 5 else 0))∧h'=h.push (.cells #[.int .i64 kd,.string id,.string au,.string aq,.string is,.string me,.string ca,.int .i64 am,.string cu,.int .i64 da,.int .i64 ct,.bool fi] 91):=by
 refine AY ⟨Tryz.prog,29,Tryz.f29,34,[0,1,2],_⟩ (args:=[_]) Tryz.func29 rfl Tryz.ntmps29 (by simp) ?_
 have q0:au.toList=[]∨ ¬au.toList=[]:=Classical.em _
 rcases q0 with q0|q0<;>cases h1:UQ id<;>cases h2:UQ au<;>cases h3:Bp aq<;>cases h4:Bp is<;>cases h5:UQ me
 all_goals
  simp only[Aa,↓Bl,simprocAttr,tD,jf,h1,h2,h3,h4,h5,q0]
  simp[Hu,h1,h2,h3,h4,h5,q0]
theorem N4(kd:Int)(id au aq is me ca:ByteArray)(am:Int)(cu:ByteArray)(da ct:Int)(fi:Bool)(h:AL)(Q:Ending→AL→Prop):Ap Tryz.prog 29 #[.agg #[.int .i64 kd,.string id,.string au,.string aq,.string is,.string me,.string ca,.int .i64 am,.string cu,.int .i64 da,.int .i64 ct,.bool fi]] h Q=Q (.returned (.int .i64 (if Hu id au aq is me=false then 5 else 0))) (h.push (.cells #[.int .i64 kd,.string id,.string au,.string aq,.string is,.string me,.string ca,.int .i64 am,.string cu,.int .i64 da,.int .i64 ct,.bool fi] 91)):=Ap.exact (by kernel_rfl) (XZ kd id au aq is me ca am cu da ct fi h)
theorem b9(kd:Int)(id au aq is me ca:ByteArray)(am:Int)(cu:ByteArray)(da ct:Int)(fi:Bool)(h:AL):CallsH Tryz.prog 30 #[.agg #[.int .i64 kd,.string id,.string au,.string aq,.string is,.string me,.string ca,.int .i64 am,.string cu,.int .i64 da,.int .i64 ct,.bool fi]] h fun r h'=>r=.returned (.int .i64 (if Mu ca≠0 then 17 else 0))∧Grew h h':=by
 refine AY ⟨Tryz.prog,30,Tryz.f30,7,[0,1,2],_⟩ (args:=[_]) Tryz.func30 rfl Tryz.ntmps30 (by simp) ?_
 simp only[Aa,↓Bl,simprocAttr]
 refine(fV ca _).mono ?_
 rintro _ h2 ⟨rfl,g2⟩
 by_cases h1:Mu ca=0
 ·simp only[Aa,↓Bl,simprocAttr,h1]
  exact(Grew.push _ _).trans g2
 ·simp only[Aa,↓Bl,simprocAttr,h1]
  exact(Grew.push _ _).trans g2
theorem TK(kd:Int)(id au aq is me ca:ByteArray)(am:Int)(cu:ByteArray)(da ct:Int)(fi:Bool)(h:AL):CallsH Tryz.prog 31 #[.agg #[.int .i64 kd,.string id,.string au,.string aq,.string is,.string me,.string ca,.int .i64 am,.string cu,.int .i64 da,.int .i64 ct,.bool fi]] h fun r h'=>r=.returned (.int .i64 (Kv am cu))∧h'=(h.push (.cells #[.int .i64 kd,.string id,.string au,.string aq,.string is,.string me,.string ca,.int .i64 am,.string cu,.int .i64 da,.int .i64 ct,.bool fi] 91)).push (.cells #[.int .i64 am,.string cu] 23):=by
 refine AY ⟨Tryz.prog,31,Tryz.f31,6,[0,1,2],_⟩ (args:=[_]) Tryz.func31 rfl Tryz.ntmps31 (by simp) ?_
 simp only[Aa,↓Bl,simprocAttr,Sf]
theorem MM(kd:Int)(id au aq is me ca:ByteArray)(am:Int)(cu:ByteArray)(da ct:Int)(fi:Bool)(h:AL)(Q:Ending→AL→Prop):Ap Tryz.prog 31 #[.agg #[.int .i64 kd,.string id,.string au,.string aq,.string is,.string me,.string ca,.int .i64 am,.string cu,.int .i64 da,.int .i64 ct,.bool fi]] h Q=Q (.returned (.int .i64 (Kv am cu))) ((h.push (.cells #[.int .i64 kd,.string id,.string au,.string aq,.string is,.string me,.string ca,.int .i64 am,.string cu,.int .i64 da,.int .i64 ct,.bool fi] 91)).push (.cells #[.int .i64 am,.string cu] 23)):=Ap.exact (by kernel_rfl) (TK kd id au aq is me ca am cu da ct fi h)
theorem TL(kd:Int)(id au aq is me ca:ByteArray)(am:Int)(cu:ByteArray)(da ct:Int)(fi:Bool)(h:AL):CallsH Tryz.prog 32 #[.agg #[.int .i64 kd,.string id,.string au,.string aq,.string is,.string me,.string ca,.int .i64 am,.string cu,.int .i64 da,.int .i64 ct,.bool fi]] h fun r h'=>r=.returned (.int .i64 (if(am<1∨999999999999<am)∨ct<0∨9999<ct then 4 else 0))∧h'=h.push (.cells #[.int .i64 kd,.string id,.string au,.string aq,.string is,.string me,.string ca,.int .i64 am,.string cu,.int .i64 da,.int .i64 ct,.bool fi] 91):=by
 refine AY ⟨Tryz.prog,32,Tryz.f32,21,[0,1,2],_⟩ (args:=[_]) Tryz.func32 rfl Tryz.ntmps32 (by simp) ?_
 by_cases h1:am<1
 ·simp only[Aa,↓Bl,simprocAttr,h1]
 by_cases h2:999999999999<am
 ·simp only[Aa,↓Bl,simprocAttr,h1,h2]
 by_cases h3:ct<0
 ·simp only[Aa,↓Bl,simprocAttr,h1,h2,h3]
 by_cases h4:9999<ct
 ·simp only[Aa,↓Bl,simprocAttr,h1,h2,h3,h4]
 ·simp only[Aa,↓Bl,simprocAttr,h1,h2,h3,h4]
theorem MN(kd:Int)(id au aq is me ca:ByteArray)(am:Int)(cu:ByteArray)(da ct:Int)(fi:Bool)(h:AL)(Q:Ending→AL→Prop):Ap Tryz.prog 32 #[.agg #[.int .i64 kd,.string id,.string au,.string aq,.string is,.string me,.string ca,.int .i64 am,.string cu,.int .i64 da,.int .i64 ct,.bool fi]] h Q=Q (.returned (.int .i64 (if(am<1∨999999999999<am)∨ct<0∨9999<ct then 4 else 0))) (h.push (.cells #[.int .i64 kd,.string id,.string au,.string aq,.string is,.string me,.string ca,.int .i64 am,.string cu,.int .i64 da,.int .i64 ct,.bool fi] 91)):=Ap.exact (by kernel_rfl) (TL kd id au aq is me ca am cu da ct fi h)
theorem cA(kd:Int)(id au aq is me ca:ByteArray)(am:Int)(cu:ByteArray)(da ct:Int)(fi:Bool)(h:AL):CallsH Tryz.prog 33 #[.agg #[.int .i64 kd,.string id,.string au,.string aq,.string is,.string me,.string ca,.int .i64 am,.string cu,.int .i64 da,.int .i64 ct,.bool fi]] h fun r h'=>r=.returned (.int .i64 (if da<0∨99999<da then 14 else 0))∧h'=h.push (.cells #[.int .i64 kd,.string id,.string au,.string aq,.string is,.string me,.string ca,.int .i64 am,.string cu,.int .i64 da,.int .i64 ct,.bool fi] 91):=by
 refine AY ⟨Tryz.prog,33,Tryz.f33,11,[0,1,2],_⟩ (args:=[_]) Tryz.func33 rfl Tryz.ntmps33 (by simp) ?_
 by_cases h1:da<0
 ·simp only[Aa,↓Bl,simprocAttr,h1]
 ·by_cases h2:99999<da
  ·simp only[Aa,↓Bl,simprocAttr,h1,h2]
  ·simp only[Aa,↓Bl,simprocAttr,h1,h2]
theorem Qz(kd:Int)(id au aq is me ca:ByteArray)(am:Int)(cu:ByteArray)(da ct:Int)(fi:Bool)(h:AL)(Q:Ending→AL→Prop):Ap Tryz.prog 33 #[.agg #[.int .i64 kd,.string id,.string au,.string aq,.string is,.string me,.string ca,.int .i64 am,.string cu,.int .i64 da,.int .i64 ct,.bool fi]] h Q=Q (.returned (.int .i64 (if da<0∨99999<da then 14 else 0))) (h.push (.cells #[.int .i64 kd,.string id,.string au,.string aq,.string is,.string me,.string ca,.int .i64 am,.string cu,.int .i64 da,.int .i64 ct,.bool fi] 91)):=Ap.exact (by kernel_rfl) (cA kd id au aq is me ca am cu da ct fi h)
theorem uo:BP Tryz.prog 92 6 [(0,.func (.func 28) #[] #[]),(1,.func (.func 29) #[] #[]),(2,.func (.func 30) #[] #[]),(3,.func (.func 31) #[] #[]),(4,.func (.func 32) #[] #[]),(5,.func (.func 33) #[] #[])]=some (89,#[.func (.func 28) #[] #[],.func (.func 29) #[] #[],.func (.func 30) #[] #[],.func (.func 31) #[] #[],.func (.func 32) #[] #[],.func (.func 33) #[] #[]]):=by kernel_rfl
theorem MR:J4 Tryz.prog 89=some (false,1):=by kernel_rfl
theorem S6(kd:Int)(id au aq is me ca:ByteArray)(am:Int)(cu:ByteArray)(da ct:Int)(fi:Bool)(h:AL):CallsH Tryz.prog 12 #[.agg #[.int .i64 kd,.string id,.string au,.string aq,.string is,.string me,.string ca,.int .i64 am,.string cu,.int .i64 da,.int .i64 ct,.bool fi]] h fun r h'=>r=.returned (.int .i64 (EE kd id au aq is me ca am cu da ct))∧Grew h h':=by
 refine AY ⟨Tryz.prog,12,Tryz.f12,21,[0,1,2,3,5,6,8,9,10],_⟩ (args:=[_]) Tryz.func12 rfl Tryz.ntmps12 (by simp) ?_
 have V0:IntKind.i64.wrap 1=1:=by decide
 have V1:IntKind.i64.wrap 2=2:=by decide
 have V2:IntKind.i64.wrap 3=3:=by decide
 have V3:IntKind.i64.wrap 4=4:=by decide
 have V4:IntKind.i64.wrap 5=5:=by decide
 have V5:IntKind.i64.wrap 6=6:=by decide
 have W0:IntKind.i64.wrap (0+1)=1:=by decide
 have W1:IntKind.i64.wrap (1+1)=2:=by decide
 have W2:IntKind.i64.wrap (2+1)=3:=by decide
 have W3:IntKind.i64.wrap (3+1)=4:=by decide
 have W4:IntKind.i64.wrap (4+1)=5:=by decide
 have W5:IntKind.i64.wrap (5+1)=6:=by decide
 simp only[Aa,↓Bl,simprocAttr,uo]
 have gg:Grew h ((h.push (.cells #[.int .i64 kd,.string id,.string au,.string aq,.string is,.string me,.string ca,.int .i64 am,.string cu,.int .i64 da,.int .i64 ct,.bool fi] 25)).push (.cells #[.func (.func 28) #[] #[],.func (.func 29) #[] #[],.func (.func 30) #[] #[],.func (.func 31) #[] #[],.func (.func 32) #[] #[],.func (.func 33) #[] #[]] 89)):=(Grew.push _ _).pushed _
 refine Au.intro ?_
 by_cases k1:kd<1∨4<kd
 ·have e:EE kd id au aq is me ca am cu da ct=4:=by simp only[EE,k1,if_true]
  simp only[Aa,↓Bl,simprocAttr,Q0,k1,MR]
  exact⟨by rw[e],(by repeat' first|exact gg|exact .refl _|apply Grew.pushed)⟩
 simp only[Aa,↓Bl,simprocAttr,Q0,k1,V0,MR]
 refine Au.intro ?_
 cases k2:Hu id au aq is me with
 |false=>
  have e:EE kd id au aq is me ca am cu da ct=5:=by simp only[EE,k1,k2,if_true,if_false]
  simp only[Aa,↓Bl,simprocAttr,N4,k2,MR]
  exact⟨by rw[e],(by repeat' first|exact gg|exact .refl _|apply Grew.pushed)⟩
 |true=>
 simp only[Aa,↓Bl,simprocAttr,N4,k2,V1,MR]
 refine Au.intro ?_
 simp only[Aa,↓Bl,simprocAttr,MR]
 refine(b9 kd id au aq is me ca am cu da ct fi _).mono ?_
 rintro _ h2 ⟨rfl,g2⟩
 have g3:Grew h h2:=Grew.trans (by repeat' first|exact gg|exact .refl _|apply Grew.pushed) g2
 have hb1:h2[Array.size h]? =some (.cells #[.int .i64 kd,.string id,.string au,.string aq,.string is,.string me,.string ca,.int .i64 am,.string cu,.int .i64 da,.int .i64 ct,.bool fi] 25):=g2.get (by simp only[Aa,simprocAttr])
 have hb2:h2[Array.size h+1]? =some (.cells #[.func (.func 28) #[] #[],.func (.func 29) #[] #[],.func (.func 30) #[] #[],.func (.func 31) #[] #[],.func (.func 32) #[] #[],.func (.func 33) #[] #[]] 89):=g2.get (by simp only[Aa,simprocAttr])
 have u1:=ug (EX hb1)
 have u2:=ug (EX hb2)
 have fF: ∀(n:Int),n≠0→(n !=0)=true:=fun n hn=>by simpa using hn
 by_cases k3:Mu ca=0
 rotate_left
 ·have e:EE kd id au aq is me ca am cu da ct=17:=by simp only[EE,k1,k2,k3,if_true,if_false,ne_eq,not_false_eq_true,Bool.true_eq_false]
  simp only[Aa,↓Bl,simprocAttr,k3]
  exact⟨by rw[e],g3⟩
 simp only[Aa,↓Bl,simprocAttr,k3,V2]
 refine Au.intro ?_
 by_cases k4:Kv am cu=0
 rotate_left
 ·have e:EE kd id au aq is me ca am cu da ct=Kv am cu:=by simp only[EE,k1,k2,k3,k4,if_true,if_false,ne_eq,not_false_eq_true,Bool.true_eq_false,not_true_eq_false]
  simp only[Aa,↓Bl,simprocAttr,MM,MR,hb1,hb2,fF _ k4]
  exact⟨by rw[e],(g3.pushed _).pushed _⟩
 simp only[Aa,↓Bl,simprocAttr,MM,MR,hb1,hb2,k4,V3]
 refine Au.intro ?_
 by_cases k5:(am<1∨999999999999<am)∨ct<0∨9999<ct
 ·have e:EE kd id au aq is me ca am cu da ct=4:=by simp only[EE,k1,k2,k3,k4,k5,if_true,if_false,ne_eq,Bool.true_eq_false,not_true_eq_false]
  simp only[Aa,↓Bl,simprocAttr,MN,MR,hb1,hb2,u1,u2,k5]
  exact⟨by rw[e],by repeat' first|exact g3|apply Grew.pushed⟩
 simp only[Aa,↓Bl,simprocAttr,MN,MR,hb1,hb2,u1,u2,k5,V4]
 refine Au.intro ?_
 by_cases k6:da<0∨99999<da
 ·have e:EE kd id au aq is me ca am cu da ct=14:=by simp only[EE,k1,k2,k3,k4,k5,k6,if_true,if_false,ne_eq,Bool.true_eq_false,not_true_eq_false]
  simp only[Aa,↓Bl,simprocAttr,Qz,MR,hb1,hb2,u1,u2,k6]
  exact⟨by rw[e],by repeat' first|exact g3|apply Grew.pushed⟩
 have e:EE kd id au aq is me ca am cu da ct=0:=by simp only[EE,k1,k2,k3,k4,k5,k6,if_false,ne_eq,Bool.true_eq_false,not_true_eq_false]
 simp only[Aa,↓Bl,simprocAttr,Qz,MR,hb1,hb2,u1,u2,k6,V5]
 refine Au.intro ?_
 simp only[Aa,↓Bl,simprocAttr]
 exact⟨by rw[e],by repeat' first|exact g3|apply Grew.pushed⟩
set_option maxHeartbeats 4000000
set_option maxRecDepth 20000
structure Rcd where
 kd:Int
 id:ByteArray
 au:ByteArray
 aq:ByteArray
 is:ByteArray
 me:ByteArray
 ca:ByteArray
 am:Int
 cu:ByteArray
 da:Int
 ct:Int
 fi:Bool
def Rcd.v(r:Rcd):Value:=.agg #[.int .i64 r.kd,.string r.id,.string r.au,.string r.aq,.string r.is,.string r.me,.string r.ca,.int .i64 r.am,.string r.cu,.int .i64 r.da,.int .i64 r.ct,.bool r.fi]
def JD(r:Rcd):List Ft:=[⟨⟨#[107,105,110,100]⟩,1,r.kd,eB⟩,⟨⟨#[99,97,116,101,103,111,114,121]⟩,1,r.ct,eB⟩,⟨⟨#[97,109,111,117,110,116]⟩,1,r.am,eB⟩,⟨⟨#[100,97,116,101]⟩,1,r.da,eB⟩,⟨⟨#[109,101,114,99,104,97,110,116]⟩,2,0,r.me⟩,⟨⟨#[105,115,115,117,101,114]⟩,2,0,r.is⟩,⟨⟨#[97,99,113,117,105,114,101,114]⟩,2,0,r.aq⟩,⟨⟨#[99,117,114,114,101,110,99,121]⟩,2,0,r.cu⟩,⟨⟨#[97,117,116,104,111,114,105,122,101,100]⟩,3,if r.au.toList=[]then 0 else 1,eB⟩]
theorem ku(v0 v1 v2 v3 v4 v5 v6 v7 v8 v9 v10 v11 v12 v13 v14 v15 v16 v17 v18 v19 v20 v21 v22 v23 v24 v25 v26 v27 v28 v29 v30 v31 v32 v33 v34 v35:Value):BP Tryz.prog 47 9 [(0,.agg #[v0,v1,v2,v3]),(1,.agg #[v4,v5,v6,v7]),(2,.agg #[v8,v9,v10,v11]),(3,.agg #[v12,v13,v14,v15]),(4,.agg #[v16,v17,v18,v19]),(5,.agg #[v20,v21,v22,v23]),(6,.agg #[v24,v25,v26,v27]),(7,.agg #[v28,v29,v30,v31]),(8,.agg #[v32,v33,v34,v35])]=some (94,#[v0,v1,v2,v3,v4,v5,v6,v7,v8,v9,v10,v11,v12,v13,v14,v15,v16,v17,v18,v19,v20,v21,v22,v23,v24,v25,v26,v27,v28,v29,v30,v31,v32,v33,v34,v35]):=by kernel_rfl
theorem bz(b:Nat)(e:TypeId)(L:List Ft):B5 Kg 4 [(b,.cells (L.flatMap Kg).toArray e)] (some ⟨b,0,none⟩) L:=B5.of_row UL (by
 have h:(L.flatMap Kg).length=L.length*4:=by
  induction L with
  |nil=>rfl
  |cons x l ih=>rw[List.flatMap_cons,List.length_append,ih,UL,List.length_cons];omega
 simp only[Vm.AA,if_true,B7]
 rw[←h]
 generalize L.flatMap Kg=X
 simp)
theorem Yc(A:AH)(r:Rcd):AK Tryz.prog 13 #[.agg #[.int .i64 r.kd,.string r.id,.string r.au,.string r.aq,.string r.is,.string r.me,.string r.ca,.int .i64 r.am,.string r.cu,.int .i64 r.da,.int .i64 r.ct,.bool r.fi]] A (fun u_ A_=> ∃v B,u_=v∧(∃b:Nat,v=.slice (some ⟨b,0,none⟩) 9 9∧B5 Kg 4 B (some ⟨b,0,none⟩) (JD r))∧Dis B A∧SubA (B++A) A_):=by
 refine AC ⟨Tryz.prog,13,Tryz.f13,36,[0,1,2,3],⟨[],none⟩,[],_⟩ rfl (args:=[_]) Tryz.func13 rfl (by kernel_rfl) Tryz.ntmps13 (by simp) (by kernel_rfl) ?_
 intro ν fr
 have f0:=fr.2 0
 by_cases h:r.au.toList=[]
 ·have h':(r.au.toList !=[])=false:=by simp[h]
  simp only[AF,↓AE,simprocAttr,h,ku]
  exact⟨_,[(ν 1,.cells ((JD r).flatMap Kg).toArray 94)],rfl,⟨ν 1,rfl,bz _ _ _⟩,Dis.one (fr.2 1),by unfold JD;rw[if_pos h];exact SubA.app (B:=[_]) (SubA.skip f0 (SubA.refl _))⟩
 ·have h':(r.au.toList !=[])=true:=by simp[h]
  simp only[AF,↓AE,simprocAttr,eq_false h,ku]
  exact⟨_,[(ν 1,.cells ((JD r).flatMap Kg).toArray 94)],rfl,⟨ν 1,rfl,bz _ _ _⟩,Dis.one (fr.2 1),by unfold JD;rw[if_neg h];exact SubA.app (B:=[_]) (SubA.skip f0 (SubA.refl _))⟩
theorem Zp(r:Rcd)(h1:Bc r.kd=true)(h2:Bc r.ct=true)(h3:Bc r.am=true)(h4:Bc r.da=true):WO [] (JD r)=true∧ ∀f∈JD r,Ei f=true:=by
 have hk: ∀f∈JD r,Ei f=true:=by
  intro f hf
  simp only[JD,List.mem_cons,List.not_mem_nil,or_false]at hf
  rcases hf with rfl|rfl|rfl|rfl|rfl|rfl|rfl|rfl|rfl
  ·simp[Ei,h1]
  ·simp[Ei,h2]
  ·simp[Ei,h3]
  ·simp[Ei,h4]
  ·simp[Ei]
  ·simp[Ei]
  ·simp[Ei]
  ·simp[Ei]
  ·unfold Ei;split<;>rfl
 refine⟨?_,hk⟩
 have h:=hk
 simp only[JD,List.forall_mem_cons]at h
 obtain⟨k1,k2,k3,k4,k5,k6,k7,k8,k9,_⟩:=h
 simp only[JD,WO,k1,k2,k3,k4,k5,k6,k7,k8,k9,Bool.and_true]
 show _=true
 kernel_rfl
theorem mC{A:AH}{q:Option Addr}(r:Rcd)(h1:Bc r.kd=true)(h2:Bc r.ct=true)(h3:Bc r.am=true)(h4:Bc r.da=true)(z1:r.me.size≤1000)(z2:r.is.size≤1000)(z3:r.aq.size≤1000)(z4:r.cu.size≤1000)(hS:B5 Kg 4 A q (JD r)):FtS A (JD r) q:=by
 obtain⟨g1,g2⟩:=Zp r h1 h2 h3 h4
 refine⟨hS,by simp[JD],g1,g2,fun f hf=> ?_⟩
 unfold Bc at h1 h2 h3 h4
 simp only[Bool.and_eq_true,decide_eq_true_eq]at h1 h2 h3 h4
 have z0:eB.size=0:=rfl
 simp only[JD,List.mem_cons,List.not_mem_nil,or_false]at hf
 rcases hf with rfl|rfl|rfl|rfl|rfl|rfl|rfl|rfl|rfl
 all_goals
  refine⟨by simp only;decide,by simp only;omega, ?_, ?_⟩
  all_goals first|(simp only;omega)|(simp only;split<;>decide)
set_option maxHeartbeats 4000000
set_option maxRecDepth 20000
def nY:Rcd:=⟨0,eB,eB,eB,eB,eB,eB,0,eB,0,0,false⟩
def eN:List Ft:=JD nY
def Ml(us:List Fu):Int:=if eG eN us≠0 then eG eN us else if kK us=false then 6 else 0
theorem Y3{fs:List Ft}: ∀{us dn:List Fu},YH fs dn us=0→ ∀u∈us,Hx u.bps u.fx u.mn u.mx=true∧Mm u.w 8=false∧HX u.w=true
 | u::l,dn,h,x,hx=>by
  rw[YH]at h
  split at h
  ·cases h
  split at h
  ·cases h
  split at h
  ·cases h
  rename_i h3
  split at h
  ·rename_i h4;exact absurd h h4
  rename_i h4
  split at h
  ·cases h
  rcases List.mem_cons.1 hx with rfl|hx
  ·refine⟨by simpa using h3, ?_⟩
   simp only[ne_eq,Decidable.not_not]at h4
   unfold Mv at h4
   split at h4
   ·cases h4
   rename_i d
   split at h4
   ·cases h4
   rename_i o
   exact⟨by simpa using d,by simpa using o⟩
  ·exact Y3 h x hx
def pQ(us:List Fu):Prop:=us.length≤1000000∧ ∀u∈us,SzT u.w∧(FC u.w).length≤1000000
theorem kx(p:Option Addr)(n c:Nat):BP Tryz.prog 50 3 [(0,.slice p n c),(1,.slice p n c),(2,.slice p n c)]=some (27,#[.slice p n c,.slice p n c,.slice p n c]):=by kernel_rfl
theorem lP(A:AH)(us:List Fu)(p:Option Addr)(rs:List Fuv)(cap:Nat)(hS:LW A us p rs)(hc:us.length≤cap)(hz:pQ us):AK Tryz.prog 11 #[.agg #[.slice p us.length cap,.slice p us.length cap,.slice p us.length cap]] A (fun u_ A_=>u_=.int .i64 (Ml us)∧SubA A A_):=by
 refine AC ⟨Tryz.prog,11,Tryz.f11,31,[0,1,2,3,5,6,15,16,17],⟨[13],none⟩,[],_⟩ rfl (args:=[_]) Tryz.func11 rfl (by kernel_rfl) Tryz.ntmps11 (by simp) (by kernel_rfl) ?_
 intro ν fr
 have f0:=fr.2 0
 simp only[AF,↓AE,simprocAttr]
 have dst_:True:=(by simp[]);generalize ν 0=n1 at dst_  f0⊢
 clear fr
 have s1: ∀o,SubA A ((n1,o)::A):=fun _=>SubA.skip f0 (SubA.refl _)
 refine AK.newX (R:=fun v B=> ∃b:Nat,v=.slice (some ⟨b,0,none⟩) 9 9∧B5 Kg 4 B (some ⟨b,0,none⟩) eN) (Yc A nY) (s1 _) ?_
 rintro v B ⟨fb,rfl,hF⟩ d1
 have dBA:Dis B A:=Dis.subr d1 (s1 _)
 have b1:Vm.AA B n1=none:=d1 n1 (by simp[Vm.AA])
 refine⟨(n1,.cells #[.slice p us.length cap,.slice p us.length cap,.slice p us.length cap] 29)::(B++A),SubA.both (X:=[(n1,_)]) (SubA.trans (SubA.left [(n1,_)] _) d1.right) (SubA.both (SubA.left _ _) (SubA.trans (s1 _) d1.right)), ?_⟩
 have sAB:SubA A (B++A):=dBA.right
 have sF:SubA (B++A) ((n1,Obj.cells #[.slice p us.length cap,.slice p us.length cap,.slice p us.length cap] 29)::(B++A)):=SubA.skip (AD b1 f0) (SubA.refl _)
 intro ν fr;have nuE:=fr.m1 rfl
 simp only[AF,↓AE,simprocAttr,kx]
 have f2:=fr.2 0
 have n21:(ν 0=n1)=False:=by simp[nuE]
 have dst_:True:=(by simp[]);generalize ν 0=nt at dst_  f2 n21⊢
 clear nuE fr
 have n12:(n1=nt)=False:=eq_false fun h=>by rw[h]at n21;simp at n21
 have sM:SubA (B++A) ((nt,Obj.cells #[.slice p us.length cap,.slice p us.length cap,.slice p us.length cap] 27)::(n1,Obj.cells #[.slice p us.length cap,.slice p us.length cap,.slice p us.length cap] 29)::(B++A)):=SubA.trans sF (SubA.fresh f2 (SubA.refl _))
 have sAM:SubA A ((nt,Obj.cells #[.slice p us.length cap,.slice p us.length cap,.slice p us.length cap] 27)::(n1,Obj.cells #[.slice p us.length cap,.slice p us.length cap,.slice p us.length cap] 29)::(B++A)):=SubA.trans sAB sM
 have cv:=gz (B++A) us p rs cap (hS.mono sAB) hc (fun u hu=>(hz.2 u hu).1) eN (some ⟨fb,0,none⟩) 9 (hF.mono (SubA.left _ _)) (by simp[eN,JD]) (Zp nY rfl rfl rfl rfl).1 _ sM
 have l9:eN.length=9:=rfl
 rw[l9]at cv
 have W0:IntKind.i64.wrap (0+1)=1:=by decide
 have W1:IntKind.i64.wrap (1+1)=2:=by decide
 have W2:IntKind.i64.wrap (2+1)=3:=by decide
 have V0:IntKind.i64.wrap 1=1:=by decide
 have V1:IntKind.i64.wrap 2=2:=by decide
 have V2:IntKind.i64.wrap 3=3:=by decide
 refine AR.intro (by kernel_rfl) ?_
 intro ν fr
 by_cases h1:eG eN us=0
 rotate_left
 ·have h1':(eG eN us !=0)=true:=by simp[h1]
  have ha:Ml us=eG eN us:=by unfold Ml;rw[if_pos h1]
  rw[ha]
  simp only[AF,↓AE,simprocAttr,cv,h1',sAM]
  skip
 have h1':(eG eN us !=0)=false:=by simp[h1]
 have hb: ∀u∈us,pP u.w:=fun u hu=>by
  unfold eG at h1
  split at h1
  ·cases h1
  obtain⟨_,k1,k2⟩:=Y3 h1 u hu
  exact⟨(hz.2 u hu).1,k1,k2,(hz.2 u hu).2⟩
 have tv:=iD A us p rs cap hS hz.1 hb _ sAM
 cases h2:kK us with
 |false=>
  rw[h2]at tv
  have ha:Ml us=6:=by unfold Ml;rw[if_neg (by simp[h1]),if_pos h2]
  rw[ha]
  simp only[AF,↓AE,simprocAttr,cv,h1,tv,sAM]
  skip
 |true=>
  rw[h2]at tv
  have ha:Ml us=0:=by unfold Ml;rw[if_neg (by simp[h1]),if_neg (by simp[h2])]
  rw[ha]
  simp only[AF,↓AE,simprocAttr,cv,h1,tv,V0]
  refine AR.intro (by kernel_rfl) ?_
  intro ν fr
  simp only[AF,↓AE,simprocAttr,cv,h1,tv,V1]
  refine AR.intro (by kernel_rfl) ?_
  intro ν fr
  simp only[AF,↓AE,simprocAttr,cv,h1,tv,V2]
  refine AR.intro (by kernel_rfl) ?_
  intro ν fr
  simp only[AF,↓AE,simprocAttr]
  exact sAM
theorem Rj(A:AH)(us:List Fu)(p:Option Addr)(rs:List Fuv)(cap:Nat)(hS:LW A us p rs)(hc:us.length≤cap)(hz:pQ us)(B_:AH)(hB_:SubA A B_):Ag Tryz.prog 11 #[.agg #[.slice p us.length cap,.slice p us.length cap,.slice p us.length cap]] B_=some (.int .i64 (Ml us)):=AX (Aj (by kernel_rfl) (lP A us p rs cap hS hc hz) hB_)
end Go.Proofs.YtgmfcdeknaeikaaGreatDoor
