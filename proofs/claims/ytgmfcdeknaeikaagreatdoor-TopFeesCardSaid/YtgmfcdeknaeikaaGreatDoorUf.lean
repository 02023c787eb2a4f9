/-
Assessing a record; tables; examples; the law.
Conditions: none.
-/
import Derived.Test.YtgmfcdeknaeikaaGreatDoorUe
set_option linter.unusedSimpArgs false
set_option linter.unusedVariables false
namespace Go.Proofs.YtgmfcdeknaeikaaGreatDoor
open Go.Vm
set_option maxHeartbeats 4000000
set_option maxRecDepth 20000
def eQ(r:Rcd):Int:=EE r.kd r.id r.au r.aq r.is r.me r.ca r.am r.cu r.da r.ct
def OH(us:List Fu)(r:Rcd):Int:=if eQ r≠0 then eQ r else if Ml us≠0 then Ml us else(LZ (JD r) us r.am).2
def Ms(us:List Fu)(r:Rcd):FL:=(LZ (JD r) us r.am).1
def FE(l:FL)(c i a s n:Int):Value:=.agg #[.string l.nm,.int .i64 l.n,.string (bs l.wh),.string l.nm,.int .i64 l.n,.string (bs l.wh),.string l.nm,.int .i64 l.n,.string (bs l.wh),.int .i64 c,.int .i64 i,.int .i64 a,.int .i64 s,.int .i64 n]
def Pk(us:List Fu)(r:Rcd):Value:=if OH us r≠0 then FE eM 0 0 0 0 0
 else if r.kd=1∨r.kd=4 then FE (Ms us r) (-r.am) (Ms us r).n (-(Ms us r).n) (r.am - (Ms us r).n) (Ms us r).n
 else FE (Ms us r) r.am (-(Ms us r).n) (-(Ms us r).n) ((Ms us r).n - r.am) (Ms us r).n
theorem tK(A:AH)(r:Rcd):Ag Tryz.prog 12 #[.agg #[.int .i64 r.kd,.string r.id,.string r.au,.string r.aq,.string r.is,.string r.me,.string r.ca,.int .i64 r.am,.string r.cu,.int .i64 r.da,.int .i64 r.ct,.bool r.fi]] A=some (.int .i64 (eQ r)):=
 Oz (by kernel_rfl) (by kernel_rfl) fun h=>S6 r.kd r.id r.au r.aq r.is r.me r.ca r.am r.cu r.da r.ct r.fi h
theorem U0{r:Rcd}(h:eQ r=0):Bc r.kd=true∧Bc r.ct=true∧Bc r.am=true∧Bc r.da=true∧r.me.size≤1000∧r.is.size≤1000∧r.aq.size≤1000∧r.cu.size≤1000∧1≤r.am∧r.am≤999999999999∧1≤r.kd∧r.kd≤4:=by
 unfold eQ EE at h
 split at h
 ·cases h
 split at h
 ·cases h
 rename_i h2
 split at h
 ·cases h
 split at h
 ·rename_i h4;exact absurd h h4
 rename_i h4
 split at h
 ·cases h
 split at h
 ·cases h
 have h2':Hu r.id r.au r.aq r.is r.me=true:=by simpa using h2
 unfold Hu at h2'
 simp only[Bool.and_eq_true]at h2'
 obtain⟨_,_,n1,n2,n3⟩:=h2'
 have z1:r.aq.size≤1000:=by unfold Bp at n1;simp only[Bool.and_eq_true,decide_eq_true_eq]at n1;omega
 have z2:r.is.size≤1000:=by unfold Bp at n2;simp only[Bool.and_eq_true,decide_eq_true_eq]at n2;omega
 have z3:r.me.size≤1000:=by unfold UQ at n3;simp only[Bool.and_eq_true,decide_eq_true_eq]at n3;omega
 have z4:r.cu.size≤1000:=by
  simp only[ne_eq,Decidable.not_not]at h4
  unfold Kv at h4
  split at h4
  ·cases h4
  ·rename_i c
   have c':Mw r.cu=true:=by simpa using c
   unfold Mw at c'
   simp only[Bool.and_eq_true,decide_eq_true_eq]at c'
   omega
 unfold Bc
 simp only[Bool.and_eq_true,decide_eq_true_eq]
 refine⟨by omega,by omega,by omega,by omega,z3,z2,z1,z4,by omega,by omega,by omega,by omega⟩
theorem oU:Tryz.prog.underlying 49=some (.array 3 33):=by kernel_rfl
theorem nw:J4 Tryz.prog 33=some (true,3):=by kernel_rfl
theorem Hq(a:Addr)(j:Int)(K:Value→Prop):Ku Tryz.prog 49 (.pointer (some a)) (.int .i64 j) K=Ay (0≤j∧j<3) (K (.pointer (some (a.add (j.toNat*3))))):=by
 simp only[Ku,oU,nw,AZ]
 rfl
theorem T1{fs:List Ft}{us:List Fu}{a:Int}(h:(LZ fs us a).2=0):0≤(LZ fs us a).1.n∧(LZ fs us a).1.n≤2000000000000:=by
 unfold LZ at h⊢
 cases hp:pL fs us with
 |none=>rw[hp]at h;cases h
 | some i=>
  rw[hp]at h
  cases hu:us[i]? with
  |none=>simp only[hu]at h;cases h
  | some u=>
   simp only[hu]at h⊢
   by_cases h1:(Hn u.bps u.fx u.mn u.mx a).2=0
   ·rw[if_pos h1]
    unfold Hn at h1⊢
    split at h1
    ·cases h1
    ·rename_i h2
     rw[if_neg h2]
     exact Zr (by omega) (by omega) (by cases hq:Hx u.bps u.fx u.mn u.mx with
      |true=>rfl
      |false=>exact absurd (.inr (.inr hq)) h2)
   ·rw[if_neg h1]at h
    exact absurd h h1
theorem lN(A:AH)(hT:Dv A)(us:List Fu)(p:Option Addr)(rs:List Fuv)(cap:Nat)(hS:LW A us p rs)(hc:us.length≤cap)(hz:pQ us)(r:Rcd):AK Tryz.prog 6 #[.agg #[.slice p us.length cap,.slice p us.length cap,.slice p us.length cap],.agg #[.int .i64 r.kd,.string r.id,.string r.au,.string r.aq,.string r.is,.string r.me,.string r.ca,.int .i64 r.am,.string r.cu,.int .i64 r.da,.int .i64 r.ct,.bool r.fi]] A (fun u_ A_=>u_=.tuple #[Pk us r,.int .i64 (OH us r)]∧SubA A A_):=by
 refine AC ⟨Tryz.prog,6,Tryz.f6,118,[0,1,2,3,4,5,6,7,8,9,10,11,12,13,14,15,16,17,18,42,43,44,83],⟨[13],none⟩,[(7,.p [(0,0),(2,0),(3,0),(4,0),(1,1),(5,0),(6,0)]),(18,.q false)],_⟩ rfl (args:=[_,_]) Tryz.func6 rfl (by kernel_rfl) Tryz.ntmps6 (by simp) (by kernel_rfl) ?_
 intro ν fr;have nuE:=fr.nu
 have f0:=fr.2 0
 have f1:=fr.2 1
 have f2:=fr.2 2
 have rv:=fun B=>tK B r
 have n01:(ν 1=ν 0)=False:=by simp[nuE]
 have n02:(ν 2=ν 0)=False:=by simp[nuE]
 have n12:(ν 2=ν 1)=False:=by simp[nuE]
 have s3: ∀o o1 o2,SubA A ((ν 2,o)::(ν 1,o1)::(ν 0,o2)::A):=fun _ _ _=>SubA.skip f2 (SubA.skip f1 (SubA.skip f0 (SubA.refl _)))
 have cv:=fun o o1 o2=>Rj A us p rs cap hS hc hz _ (s3 o o1 o2)
 by_cases h1:eQ r=0
 rotate_left
 ·have h1':(eQ r !=0)=true:=by simp[h1]
  have e1:OH us r=eQ r:=by unfold OH;rw[if_pos h1]
  have e2:Pk us r=FE eM 0 0 0 0 0:=by unfold Pk;rw[if_pos (by rw[e1];exact h1)]
  rw[e1,e2]
  simp (maxDischargeDepth:=16) only[AF,↓AE,simprocAttr,nuE,fr.2,rv,h1']
  rfl
 have h1':(eQ r !=0)=false:=by simp[h1]
 by_cases h2:Ml us=0
 rotate_left
 ·have h2':(Ml us !=0)=true:=by simp[h2]
  have e1:OH us r=Ml us:=by unfold OH;rw[if_neg (by simp[h1]),if_pos h2]
  have e2:Pk us r=FE eM 0 0 0 0 0:=by unfold Pk;rw[if_pos (by rw[e1];exact h2)]
  rw[e1,e2]
  simp (maxDischargeDepth:=16) only[AF,↓AE,simprocAttr,nuE,fr.2,rv,h1,cv,h2']
  rfl
 have h2':(Ml us !=0)=false:=by simp[h2]
 simp (maxDischargeDepth:=16) only[AF,↓AE,simprocAttr,nuE,fr.2,rv,h1,cv,h2]
 have dst_:((ν 0=ν 1)=False)∧((ν 0=ν 2)=False)∧((ν 1=ν 0)=False)∧((ν 1=ν 2)=False)∧((ν 2=ν 0)=False)∧((ν 2=ν 1)=False):=(by simp[nuE]);generalize ν 0=n2 at dst_  f0 f1 f2 n01 n02 n12 s3 ⊢;generalize ν 1=n3 at dst_  f0 f1 f2 n01 n02 n12 s3 ⊢;generalize ν 2=n4 at dst_  f0 f1 f2 n01 n02 n12 s3⊢
 clear nuE fr cv
 refine AK.newX (R:=fun v B=> ∃b:Nat,v=.slice (some ⟨b,0,none⟩) 9 9∧B5 Kg 4 B (some ⟨b,0,none⟩) (JD r)) (Yc A r) (s3 _ _ _) ?_
 rintro v B ⟨fb,rfl,hF⟩ d1
 have dBA:Dis B A:=Dis.subr d1 (s3 _ _ _)
 have b2:Vm.AA B n2=none:=d1 n2 (by simp[Vm.AA,n01,n02])
 have b3:Vm.AA B n3=none:=d1 n3 (by simp[Vm.AA,n12])
 have b4:Vm.AA B n4=none:=d1 n4 (by simp[Vm.AA])
 refine⟨(n4,Obj.cells #[.string ⟨#[]⟩,.int .i64 0,.string ⟨#[]⟩,.string ⟨#[]⟩,.int .i64 0,.string ⟨#[]⟩,.string ⟨#[]⟩,.int .i64 0,.string ⟨#[]⟩,.int .i64 0,.int .i64 0,.int .i64 0,.int .i64 0,.int .i64 0] 35)::(n3,Obj.cells #[.int .i64 r.kd,.string r.id,.string r.au,.string r.aq,.string r.is,.string r.me,.string r.ca,.int .i64 r.am,.string r.cu,.int .i64 r.da,.int .i64 r.ct,.bool r.fi] 25)::(n2,Obj.cells #[.slice p us.length cap,.slice p us.length cap,.slice p us.length cap] 29)::(B++A),SubA.both (X:=[(n4,_),(n3,_),(n2,_)]) (SubA.trans (SubA.left [_,_,_] _) d1.right) (SubA.both (SubA.left _ _) (SubA.trans (s3 _ _ _) d1.right)), ?_⟩
 have sAB:SubA A (B++A):=dBA.right
 have g2:Vm.AA (B++A) n2=none:=AD b2 f0
 have g3:Vm.AA (B++A) n3=none:=AD b3 f1
 have g4:Vm.AA (B++A) n4=none:=AD b4 f2
 have s4: ∀o o1 o2,SubA (B++A) ((n4,o)::(n3,o1)::(n2,o2)::(B++A)):=fun _ _ _=>SubA.skip g4 (SubA.skip g3 (SubA.skip g2 (SubA.refl _)))
 have sA4:=fun o o1 o2=>SubA.trans sAB (s4 o o1 o2)
 intro ν fr;have nuE:=fr.m3 rfl
 simp (maxDischargeDepth:=16) only[AF,↓AE,simprocAttr,nuE,n01,n02,n12,sA4,kx]
 have f5:=fr.2 0
 have f6:=fr.2 1
 have n65:(ν 1=ν 0)=False:=by simp[nuE]
 have n52:(ν 0=n2)=False:=by simp[nuE]
 have n53:(ν 0=n3)=False:=by simp[nuE]
 have n54:(ν 0=n4)=False:=by simp[nuE]
 have n62:(ν 1=n2)=False:=by simp[nuE]
 have n63:(ν 1=n3)=False:=by simp[nuE]
 have n64:(ν 1=n4)=False:=by simp[nuE]
 have dst_:((ν 0=ν 1)=False)∧((ν 1=ν 0)=False):=(by simp[nuE]);generalize ν 0=nl at dst_  f5 f6 n65 n52 n53 n54 n62 n63 n64 ⊢;generalize ν 1=nt at dst_  f5 f6 n65 n52 n53 n54 n62 n63 n64⊢
 clear nuE fr
 have n01':(n2=n3)=False:=eq_false fun h=>by rw[h]at n01;simp at n01
 have n02':(n2=n4)=False:=eq_false fun h=>by rw[h]at n02;simp at n02
 have n12':(n3=n4)=False:=eq_false fun h=>by rw[h]at n12;simp at n12
 have n65':(nl=nt)=False:=eq_false fun h=>by rw[h]at n65;simp at n65
 have n52':(n2=nl)=False:=eq_false fun h=>by rw[h]at n52;simp at n52
 have n53':(n3=nl)=False:=eq_false fun h=>by rw[h]at n53;simp at n53
 have n54':(n4=nl)=False:=eq_false fun h=>by rw[h]at n54;simp at n54
 have n62':(n2=nt)=False:=eq_false fun h=>by rw[h]at n62;simp at n62
 have n63':(n3=nt)=False:=eq_false fun h=>by rw[h]at n63;simp at n63
 have n64':(n4=nt)=False:=eq_false fun h=>by rw[h]at n64;simp at n64
 have g5:Vm.AA (B++A) nl=none:=(s4 _ _ _).none f5
 have g6:Vm.AA (B++A) nt=none:=(s4 _ _ _).none f6
 have s6: ∀o o1 o2 o3 o4,SubA (B++A) ((nt,o)::(nl,o1)::(n4,o2)::(n3,o3)::(n2,o4)::(B++A)):=fun _ _ _ _ _=>SubA.skip g6 (SubA.skip g5 (s4 _ _ _))
 obtain⟨hF1,k1,k2,k3⟩:FtS (B++A) (JD r) (some ⟨fb,0,none⟩)∧0≤r.am∧r.am≤999999999999∧True:=by
  obtain⟨c1,c2,c3,c4,c5,c6,c7,c8,c9,c10,c11,c12⟩:=U0 h1
  exact⟨mC r c1 c2 c3 c4 c5 c6 c7 c8 (hF.mono (SubA.left _ _)),by omega,by omega,trivial⟩
 have av:=l8 (B++A) (hT.mono sAB) us p rs cap (hS.mono sAB) hz.1 (fun u hu=>(hz.2 u hu).1) (fun u hu=>(hz.2 u hu).2) (JD r) (some ⟨fb,0,none⟩) 9 hF1 r.am
 have l9:(JD r).length=9:=rfl
 rw[l9]at av
 have W0:IntKind.i64.wrap (0+1)=1:=by decide
 have W1:IntKind.i64.wrap (1+1)=2:=by decide
 have W2:IntKind.i64.wrap (2+1)=3:=by decide
 have V0:IntKind.i64.wrap 1=1:=by decide
 have V1:IntKind.i64.wrap 2=2:=by decide
 have V2:IntKind.i64.wrap 3=3:=by decide
 have av1:=fun o1 o2 o3 o4 o5=>av ((nt,o1)::(nl,o2)::(n4,o3)::(n3,o4)::(n2,o5)::(B++A)) (s6 _ _ _ _ _)
 have e1:OH us r=(LZ (JD r) us r.am).2:=by unfold OH;rw[if_neg (by simp[h1]),if_neg (by simp[h2])]
 refine AR.intro (by kernel_rfl) ?_
 intro ν fr;have nuE:=And.intro (fr.mem (b:=nt) (by simp)) (And.intro (fr.mem (b:=nl) (by simp)) (And.intro (fr.mem (b:=n4) (by simp)) (And.intro (fr.mem (b:=n3) (by simp)) (And.intro (fr.mem (b:=n2) (by simp)) (fr.nu)))))
 by_cases h3:(LZ (JD r) us r.am).2=0
 rotate_left
 ·have h3':((LZ (JD r) us r.am).2 !=0)=true:=by simp[h3]
  have e2:Pk us r=FE eM 0 0 0 0 0:=by unfold Pk;rw[if_pos (by rw[e1];exact h3)]
  rw[e1,e2]
  simp (maxDischargeDepth:=16) only[AF,↓AE,simprocAttr,nuE,n12,n65,n53,n54,n63,n64,av1,FL.v,h3',Hq]
  exact⟨rfl,SubA.trans (SubA.trans sAB (s6 _ _ _ _ _)) (SubA.fresh (fr.2 0) (SubA.refl _))⟩
 have h3':((LZ (JD r) us r.am).2 !=0)=false:=by simp[h3]
 obtain⟨L,hL⟩: ∃L,L=(LZ (JD r) us r.am).1:=⟨_,rfl⟩
 rw[←hL,h3]at av1
 have hv:Pk us r=if r.kd=1∨r.kd=4 then FE L (-r.am) L.n (-L.n) (r.am - L.n) L.n else FE L r.am (-L.n) (-L.n) (L.n - r.am) L.n:=by
  unfold Pk Ms
  rw[if_neg (by rw[e1,h3];simp),←hL]
 have hLn:0≤L.n∧L.n≤2000000000000:=by rw[hL];exact T1 h3
 rw[e1,h3,hv]
 clear e1 hv
 simp (maxDischargeDepth:=16) only[AF,↓AE,simprocAttr,nuE,n12,n65,n53,n54,n63,n64,av1,FL.v,V0,Hq]
 have g0:Vm.AA (B++A) (ν 0)=none:=(s6 _ _ _ _ _).none (fr.2 0)
 refine AR.at (SubA.skip (by simp[Vm.AA,nuE,g0]) (SubA.refl _)) ?_
 clear nuE fr g0
 refine AR.intro (by kernel_rfl) ?_
 intro ν fr;have nuE:=And.intro (fr.mem (b:=nt) (by simp)) (And.intro (fr.mem (b:=nl) (by simp)) (And.intro (fr.mem (b:=n4) (by simp)) (And.intro (fr.mem (b:=n3) (by simp)) (And.intro (fr.mem (b:=n2) (by simp)) (fr.nu)))))
 simp (maxDischargeDepth:=16) only[AF,↓AE,simprocAttr,nuE,n12,n65,n53,n54,n63,n64,av1,FL.v,V1,Hq]
 have g0:Vm.AA (B++A) (ν 0)=none:=(s6 _ _ _ _ _).none (fr.2 0)
 refine AR.at (SubA.skip (by simp[Vm.AA,nuE,g0]) (SubA.refl _)) ?_
 clear nuE fr g0
 refine AR.intro (by kernel_rfl) ?_
 intro ν fr;have nuE:=And.intro (fr.mem (b:=nt) (by simp)) (And.intro (fr.mem (b:=nl) (by simp)) (And.intro (fr.mem (b:=n4) (by simp)) (And.intro (fr.mem (b:=n3) (by simp)) (And.intro (fr.mem (b:=n2) (by simp)) (fr.nu)))))
 simp (maxDischargeDepth:=16) only[AF,↓AE,simprocAttr,nuE,n12,n65,n53,n54,n63,n64,av1,FL.v,V2,Hq]
 have g0:Vm.AA (B++A) (ν 0)=none:=(s6 _ _ _ _ _).none (fr.2 0)
 refine AR.at (SubA.skip (by simp[Vm.AA,nuE,g0]) (SubA.refl _)) ?_
 clear nuE fr g0
 refine AR.intro (by kernel_rfl) ?_
 intro ν fr;have nuE:=And.intro (fr.mem (b:=nt) (by simp)) (And.intro (fr.mem (b:=nl) (by simp)) (And.intro (fr.mem (b:=n4) (by simp)) (And.intro (fr.mem (b:=n3) (by simp)) (And.intro (fr.mem (b:=n2) (by simp)) (fr.nu)))))
 have w1:IntKind.i64.wrap (0 - r.am)= -r.am:=by rw[AW (by omega) (by omega)];omega
 have w2:IntKind.i64.wrap (L.n - L.n)=0:=by rw[Int.sub_self];decide
 have w4:IntKind.i64.wrap (0 - L.n)= -L.n:=by rw[AW (by omega) (by omega)];omega
 have w3:IntKind.i64.wrap (r.am - L.n)=r.am - L.n:=AW (by omega) (by omega)
 have w5:IntKind.i64.wrap (L.n - r.am)=L.n - r.am:=AW (by omega) (by omega)
 have w6:IntKind.i64.wrap (-r.am)= -r.am:=AW (by omega) (by omega)
 have w7:IntKind.i64.wrap (-L.n)= -L.n:=AW (by omega) (by omega)
 have g0:Vm.AA (B++A) (ν 0)=none:=(s6 _ _ _ _ _).none (fr.2 0)
 have sE: ∀o o0 o1 o2 o3 o4,SubA A ((ν 0,o)::(nt,o0)::(nl,o1)::(n4,o2)::(n3,o3)::(n2,o4)::(B++A)):=fun _ _ _ _ _ _=>SubA.trans (SubA.trans sAB (s6 _ _ _ _ _)) (SubA.skip (by simp[Vm.AA,nuE,g0]) (SubA.refl _))
 by_cases d1:r.kd=1
 ·rw[if_pos (.inl d1)]
  have d1':(r.kd==1)=true:=by simp[d1]
  simp (maxDischargeDepth:=16) only[AF,↓AE,simprocAttr,nuE,n12,n65,n53,n54,n63,n64,Hq,d1,w1,w2,w3,w4,w5,FE]
  exact sE _ _ _ _ _ _
 have d1':(r.kd==1)=false:=by simp[d1]
 by_cases d4:r.kd=4
 ·rw[if_pos (.inr d4)]
  have d4':(r.kd==4)=true:=by simp[d4]
  simp (maxDischargeDepth:=16) only[AF,↓AE,simprocAttr,nuE,n12,n65,n53,n54,n63,n64,Hq,d4,w1,w2,w3,w4,w5,FE]
  exact sE _ _ _ _ _ _
 have d4':(r.kd==4)=false:=by simp[d4]
 rw[if_neg (fun h=>h.elim d1 d4)]
 simp (maxDischargeDepth:=16) only[AF,↓AE,simprocAttr,nuE,n12,n65,n53,n54,n63,n64,Hq,d1',d4',w1,w2,w3,w4,w5,FE]
 exact sE _ _ _ _ _ _
theorem Ri(A:AH)(hT:Dv A)(us:List Fu)(p:Option Addr)(rs:List Fuv)(cap:Nat)(hS:LW A us p rs)(hc:us.length≤cap)(hz:pQ us)(r:Rcd)(B_:AH)(hB_:SubA A B_):Ag Tryz.prog 6 #[.agg #[.slice p us.length cap,.slice p us.length cap,.slice p us.length cap],.agg #[.int .i64 r.kd,.string r.id,.string r.au,.string r.aq,.string r.is,.string r.me,.string r.ca,.int .i64 r.am,.string r.cu,.int .i64 r.da,.int .i64 r.ct,.bool r.fi]] B_=some (.tuple #[Pk us r,.int .i64 (OH us r)]):=AX (Aj (by kernel_rfl) (lN A hT us p rs cap hS hc hz r) hB_)
end Go.Proofs.YtgmfcdeknaeikaaGreatDoor
namespace Go.Vm
theorem Av.seq[dd:DefD]{c:CxA}{x y:Code}{k:List It}{ρ:Ak}{A:AH}(hm: @Av dd c (.code x:: .code y::k) ρ A ()): @Av dd c (.code (.seq x y)::k) ρ A ():=
 fun A0 h0 h hs kp hf b a w hb hn hk hw=>.step_ (fun cs=>step_seq) (hm A0 h0 h hs kp hf b a w hb hn hk hw)
theorem Av.reg[dd:DefD]{c:CxA}{id:Nat}{ops:Array Oper}{mx:Bool}{k:List It}{ρ:Ak}{A:AH}(KK:Ak→AH→Prop)
  (h: ∀(a:Act) (w:World),BO c.n ρ a→CQ A w.heap→(Code.region id ops mx).wp c.P (fun e a' w'=>e=.normal∧ ∃ρ' A',KK ρ' A'∧BO c.n ρ' a'∧CQ A' w'.heap∧BN A w.heap A' w'.heap∧Ai w w') a w)
  (hm: ∀ρ' A',KK ρ' A'→ @Av dd c k ρ' A' ()): @Av dd c (.code (.region id ops mx)::k) ρ A ():=by
 intro A0 h0 h1 hs kp hf b a w hb hn hk hw
 subst hw
 refine .of_wp (h a w hk hs) ⟨c.fn,by rw[hb];exact hf⟩ ?_
 rintro e a' w' ⟨rfl,ρ',A',q1,q2,q3,q4,q5⟩
 exact(hm ρ' A' q1 A0 h0 w'.heap q3 (kp.trans q4)).rest w hf b a' w' hb hn q2 rfl q5
theorem Av.den[dd:DefD]{c:CxA}{k:List It}{ρ:Ak}{A:AH}(hok:M5 c.P c.imp c.plans k=true)(hd: ∀ν,Bu ν A→Az c k ν 0 ρ A): @Av dd c k ρ A ():=
 fun A0 h0 h hs kp hf b a w hb hn hk hw=>Cq (c.cx A0 h0) _ _ _ _ (Nat.le_refl _) (FK hok hs hd kp) w hf b a w hb hn hk hw (Ai.refl w)
theorem Av.weak[dd:DefD]{c:CxA}{k:List It}{ρ ρ':Ak}{A A':AH}(hm: @Av dd c k ρ A ())(hs:Ah ρ ρ')(ha:SubA A A'): @Av dd c k ρ' A' ():=
 fun A0 h0 h hA kp hf b a w hb hn hk hw=>hm A0 h0 h (hA.sub ha) (kp.sub ha) hf b a w hb hn (BO.weak hk hs) hw
theorem Ks(c:Cx){code:Code}{args:List Value}{h:AL}(hf:c.P.funcs[c.f]? =some c.fn)(hb:c.fn.body=some code)(hn:c.fn.ntmps=c.n)(ha:args.length≤c.n)
  (hd: @GZ dd0 c [.code code] (HO 0 args) h ()):CallsH c.P c.f args.toArray h c.R:=by
 intro w hw cs
 let b:Frame:={(default:Frame)with fn:=c.f,kind:=.normal}
 let a:Act:={tmps:=args.toArray++Array.replicate (c.fn.ntmps - args.toArray.size) undef,defers:=[]}
 have henter:Frame.enter c.P c.f args.toArray .normal=b.at a [.code code]:=by
  simp[Frame.enter,Frame.at,hf,hb,b,a]
 have hk: @BO dd0 c.n (HO 0 args) a:=by
  have:=Qk (n:=c.n) (args:=args) ha
  simpa[a,hn]using this
 obtain⟨e,w',fr,hR,hc,hfn,hl⟩:=hd hf b a w rfl rfl hk hw cs
 refine⟨e,w',fr,hR, ?_,hfn,hl⟩
 rw[henter]
 exact hc
theorem Le(c:CxA)(hx:c.imp.X=none){code:Code}{args:List Value}{A:AH}(hf:c.P.funcs[c.f]? =some c.fn)(hb:c.fn.body=some code)(hcl:BR c.P c.f=true)(hn:c.fn.ntmps=c.n)(ha:args.length≤c.n)
  (hm: @Av dd0 c [.code code] (HO 0 args) A ()):AK c.P c.f args.toArray A c.R:=fun h hs=>by
 have hh:Di c.P c.f args.toArray h (TD c.imp.X A h c.R):=by
  unfold Di
  rw[if_pos hcl]
  exact Ks (c.cx A h) hf hb hn ha (hm A h h hs (BN.refl A h))
 unfold TD at hh
 rw[hx]at hh
 exact hh
end Go.Vm
namespace Go.Proofs.YtgmfcdeknaeikaaGreatDoor
open Go.Vm
set_option maxHeartbeats 4000000
set_option maxRecDepth 20000
theorem lS(n:Int)(h:AL):CallsH Tryz.prog 20 #[.int .i64 n] h fun r h'=>r=.returned (.bool (Fq n))∧h'=h:=by
 refine AY ⟨Tryz.prog,20,Tryz.f20,9,[0,2],_⟩ (args:=[_]) Tryz.func20 rfl Tryz.ntmps20 (by simp) ?_
 simp only[Aa,↓Bl,simprocAttr,Fq]
theorem Ec(n:Int)(A_:AH):Ag Tryz.prog 20 #[.int .i64 n] A_=some (.bool (Fq n)):=C3 (by kernel_rfl) (by kernel_rfl) (fun h=>lS n h)
theorem pd(v0 v1 v2 v3 v4 v5 v6 v7:Int):Yw Tryz.prog 70 false (some (.agg #[.int .i64 0,.int .i64 0,.int .i64 0,.int .i64 0,.int .i64 0,.int .i64 0,.int .i64 0,.int .i64 0])) [(0,.int .i64 v0),(1,.int .i64 v1),(2,.int .i64 v2),(3,.int .i64 v3),(4,.int .i64 v4),(5,.int .i64 v5),(6,.int .i64 v6),(7,.int .i64 v7)]=some (.agg #[.int .i64 v0,.int .i64 v1,.int .i64 v2,.int .i64 v3,.int .i64 v4,.int .i64 v5,.int .i64 v6,.int .i64 v7]):=by kernel_rfl
theorem lQ(A:AH)(l:FL)(c i a s n:Int):AK Tryz.prog 19 #[.agg #[.string l.nm,.int .i64 l.n,.string (bs l.wh),.string l.nm,.int .i64 l.n,.string (bs l.wh),.string l.nm,.int .i64 l.n,.string (bs l.wh),.int .i64 c,.int .i64 i,.int .i64 a,.int .i64 s,.int .i64 n]] A (fun u_ A_=>u_=.agg #[.int .i64 c,.int .i64 i,.int .i64 a,.int .i64 s,.int .i64 n,.int .i64 l.n,.int .i64 l.n,.int .i64 l.n]∧SubA A A_):=by
 refine AC ⟨Tryz.prog,19,Tryz.f19,23,[0,1,2],⟨[],none⟩,[],_⟩ rfl (args:=[_]) Tryz.func19 rfl (by kernel_rfl) Tryz.ntmps19 (by simp) (by kernel_rfl) ?_
 intro ν fr;have nuE:=fr.nu
 have n01:(ν 1=ν 0)=False:=by simp[nuE]
 simp only[AF,↓AE,simprocAttr,nuE,fr.2,pd]
 skip
theorem lR(A:AH)(l:FL)(c i a s n:Int)(B_:AH)(hB_:SubA A B_):Ag Tryz.prog 19 #[.agg #[.string l.nm,.int .i64 l.n,.string (bs l.wh),.string l.nm,.int .i64 l.n,.string (bs l.wh),.string l.nm,.int .i64 l.n,.string (bs l.wh),.int .i64 c,.int .i64 i,.int .i64 a,.int .i64 s,.int .i64 n]] B_=some (.agg #[.int .i64 c,.int .i64 i,.int .i64 a,.int .i64 s,.int .i64 n,.int .i64 l.n,.int .i64 l.n,.int .i64 l.n]):=AX (Aj (by kernel_rfl) (lQ A l c i a s n) hB_)
theorem rH:J4 Tryz.prog 2=some (false,1):=by kernel_rfl
theorem jl(b:Nat)(w:World):(Instr.sliceAt 70 (.pointer (some ⟨b,0,none⟩)) none (some (.int .i64 5)) none).run Tryz.prog w=.ok (.slice (some ⟨b,0,none⟩) 5 8) w:=by
 have hb:=GQ (P:=Tryz.prog) (w:=w) (sl:=false) (len:=8) (cap:=8) (lo:=none) (hi:=some (.int .i64 5)) (l:=0) (r:=5) rfl rfl (.inl (Nat.le_refl _)) (by decide) (by decide) (by decide)
 cases hi:Tryz.prog.info? 2 with
 |none=>have:=rH;unfold J4 at this;rw[hi]at this;cases this
 |some i=>simp[Instr.sliceAt,Instr.sureAddr,underlying,hb,sizeOf,typeInfo,hi,Addr.add]
theorem Tt[dd:DefD]{n:Nat}{ρ:Ak}{Q:Exit→Act→World→Prop}{a:Act}{w:World}{l:Array Oper}{tl:List Oper}{d:Nat}{x:Nat}{b:Nat}{ty:TypeId}{pos:String}{aft:Array Edge}(hk:BO n ρ a)(hx:Vm.get ρ x=some (.pointer (some ⟨b,0,none⟩)))(hd:d<n)
  (h: ∀a',BO n ((d,some (.slice (some ⟨b,0,none⟩) 5 8))::ρ) a'→wpList Tryz.prog l Q tl a' w):wpList Tryz.prog l Q (⟨some d,.slice 70 (.tmp x) none (some (.const (.int .i64 5))) none,ty,pos,aft,none⟩::tl) a w:=by
 have hrun:(execOp a.eval ⟨some d,.slice 70 (.tmp x) none (some (.const (.int .i64 5))) none,ty,pos,aft,none⟩).run Tryz.prog w=.ok (.value (.slice (some ⟨b,0,none⟩) 5 8)) w:=by
  have hxe:a.eval (.tmp x)=.pointer (some ⟨b,0,none⟩):=AN (x:=.tmp x) hk hx
  have hc:a.eval (.const (.int .i64 5))=.int .i64 5:=rfl
  simp[execOp,hxe,hc,jl]
 unfold wpList
 rw[if_pos (by simp[Region.wanted])]
 refine .inl ?_
 unfold Oper.wp
 rw[hrun]
 simp only[Oper.upon]
 exact h _ (hk.put hd _)
def Kr(c i a s n:Int):Bool:=Fq c&&(Fq i&&(Fq a&&(Fq s&&(Fq n&&decide (c+i+a+s+n=0)))))
theorem lO(A:AH)(l:FL)(c i a s n:Int):AK Tryz.prog 8 #[FE l c i a s n] A fun u D=>u=.bool (Kr c i a s n)∧SubA A D:=by
 refine Le ⟨Tryz.prog,8,Tryz.f8,24,[0,1,2,3,4,6,9,10,11],⟨[],none⟩,[],fun u D=>u=.bool (Kr c i a s n)∧SubA A D⟩ rfl (args:=[FE l c i a s n]) Tryz.func8 rfl (by kernel_rfl) Tryz.ntmps8 (by simp) ?_
 refine Av.seq ?_
 refine Av.reg (fun ρ' A'=> ∃b1,Ah [(1,some (.pointer (some ⟨b1,0,none⟩)))] ρ'∧SubA ((b1,Obj.cells #[.string l.nm,.int .i64 l.n,.string (bs l.wh),.string l.nm,.int .i64 l.n,.string (bs l.wh),.string l.nm,.int .i64 l.n,.string (bs l.wh),.int .i64 c,.int .i64 i,.int .i64 a,.int .i64 s,.int .i64 n] 35)::A) A'∧Vm.AA A b1=none) (fun a0 w hk hs=>BE (dd:=dd0) (imp:=⟨[],none⟩) (A:=A) (KK:=fun ρ' A'=> ∃b1,Ah [(1,some (.pointer (some ⟨b1,0,none⟩)))] ρ'∧SubA ((b1,Obj.cells #[.string l.nm,.int .i64 l.n,.string (bs l.wh),.string l.nm,.int .i64 l.n,.string (bs l.wh),.string l.nm,.int .i64 l.n,.string (bs l.wh),.int .i64 c,.int .i64 i,.int .i64 a,.int .i64 s,.int .i64 n] 35)::A) A'∧Vm.AA A b1=none) hk hs ?_ ?_ ?_) ?_
 ·intro ν fr
  have f0:=fr.2 0
  simp only[FE]
  simp only[AF,↓AE,simprocAttr]
  exact⟨_,(by simp[Ah,AO]),SubA.refl _,f0⟩
 ·rintro ch a' w' ⟨X0,A',h1,_⟩ _ _
  cases h1
 ·intro ρ' A' a' w' q1 q2 q3 q4 q5
  exact⟨rfl,ρ',A',q1,q2,q3,q4,q5⟩
 rintro ρ1 A1 ⟨b1,e1,sA1,f1⟩
 refine Av.weak (ρ:=[(1,some (.pointer (some ⟨b1,0,none⟩)))]) (A:=(b1,Obj.cells #[.string l.nm,.int .i64 l.n,.string (bs l.wh),.string l.nm,.int .i64 l.n,.string (bs l.wh),.string l.nm,.int .i64 l.n,.string (bs l.wh),.int .i64 c,.int .i64 i,.int .i64 a,.int .i64 s,.int .i64 n] 35)::A) ?_ e1 sA1
 clear e1 sA1 ρ1 A1
 refine Av.seq ?_
 refine Av.reg (fun ρ' A'=> ∃b3,Ah [(3,some (.pointer (some ⟨b3,0,none⟩)))] ρ'∧SubA ((b3,Obj.cells #[.int .i64 c,.int .i64 i,.int .i64 a,.int .i64 s,.int .i64 n,.int .i64 l.n,.int .i64 l.n,.int .i64 l.n] 70)::A) A'∧Vm.AA A b3=none) (fun a0 w hk hs=>BE (dd:=dd0) (imp:=⟨[],none⟩) (KK:=fun ρ' A'=> ∃b3,Ah [(3,some (.pointer (some ⟨b3,0,none⟩)))] ρ'∧SubA ((b3,Obj.cells #[.int .i64 c,.int .i64 i,.int .i64 a,.int .i64 s,.int .i64 n,.int .i64 l.n,.int .i64 l.n,.int .i64 l.n] 70)::A) A'∧Vm.AA A b3=none) hk hs ?_ ?_ ?_) ?_
 ·intro ν fr
  have f0:=fr.2 0
  have f0A:Vm.AA A (ν 0)=none:=(show SubA A ((b1,Obj.cells #[.string l.nm,.int .i64 l.n,.string (bs l.wh),.string l.nm,.int .i64 l.n,.string (bs l.wh),.string l.nm,.int .i64 l.n,.string (bs l.wh),.int .i64 c,.int .i64 i,.int .i64 a,.int .i64 s,.int .i64 n] 35)::A) from SubA.skip f1 (SubA.refl _)).none f0
  have nv:=lR A l c i a s n ((b1,Obj.cells #[.string l.nm,.int .i64 l.n,.string (bs l.wh),.string l.nm,.int .i64 l.n,.string (bs l.wh),.string l.nm,.int .i64 l.n,.string (bs l.wh),.int .i64 c,.int .i64 i,.int .i64 a,.int .i64 s,.int .i64 n] 35)::A) (SubA.skip f1 (SubA.refl _))
  simp only[AF,↓AE,simprocAttr,nv]
  exact⟨_,(by simp[Ah,AO]),SubA.app (B:=[_]) (SubA.skip f1 (SubA.refl _)),f0A⟩
 ·rintro ch a' w' ⟨X0,A',h1,_⟩ _ _
  cases h1
 ·intro ρ' A' a' w' q1 q2 q3 q4 q5
  exact⟨rfl,ρ',A',q1,q2,q3,q4,q5⟩
 rintro ρ1 A1 ⟨b3,e1,sA1,f3⟩
 refine Av.weak (ρ:=[(3,some (.pointer (some ⟨b3,0,none⟩)))]) (A:=(b3,Obj.cells #[.int .i64 c,.int .i64 i,.int .i64 a,.int .i64 s,.int .i64 n,.int .i64 l.n,.int .i64 l.n,.int .i64 l.n] 70)::A) ?_ e1 sA1
 clear e1 sA1 ρ1 A1
 refine Av.seq ?_
 refine Av.reg (fun ρ' A'=>Ah [(3,some (.pointer (some ⟨b3,0,none⟩))),(4,some (.int .i64 0))] ρ'∧SubA ((b3,Obj.cells #[.int .i64 c,.int .i64 i,.int .i64 a,.int .i64 s,.int .i64 n,.int .i64 l.n,.int .i64 l.n,.int .i64 l.n] 70)::A) A') (fun a0 w hk hs=>BE (dd:=dd0) (imp:=⟨[],none⟩) (KK:=fun ρ' A'=>Ah [(3,some (.pointer (some ⟨b3,0,none⟩))),(4,some (.int .i64 0))] ρ'∧SubA ((b3,Obj.cells #[.int .i64 c,.int .i64 i,.int .i64 a,.int .i64 s,.int .i64 n,.int .i64 l.n,.int .i64 l.n,.int .i64 l.n] 70)::A) A') hk hs ?_ ?_ ?_) ?_
 ·intro ν fr
  simp only[AF,↓AE,simprocAttr]
  exact(by simp[Ah,AO])
 ·rintro ch a' w' ⟨X0,A',h1,_⟩ _ _
  cases h1
 ·intro ρ' A' a' w' q1 q2 q3 q4 q5
  exact⟨rfl,ρ',A',q1,q2,q3,q4,q5⟩
 rintro ρ1 A1 ⟨e1,sA1⟩
 refine Av.weak (ρ:=[(3,some (.pointer (some ⟨b3,0,none⟩))),(4,some (.int .i64 0))]) (A:=(b3,Obj.cells #[.int .i64 c,.int .i64 i,.int .i64 a,.int .i64 s,.int .i64 n,.int .i64 l.n,.int .i64 l.n,.int .i64 l.n] 70)::A) ?_ e1 sA1
 clear e1 sA1 ρ1 A1
 refine Av.seq (Av.seq ?_)
 refine Av.reg (fun ρ' A'=>Ah [(3,some (.pointer (some ⟨b3,0,none⟩))),(4,some (.int .i64 0)),(9,some (.slice (some ⟨b3,0,none⟩) 5 8)),(10,some (.int .i64 5)),(11,some (.int .i64 0))] ρ'∧A'=(b3,Obj.cells #[.int .i64 c,.int .i64 i,.int .i64 a,.int .i64 s,.int .i64 n,.int .i64 l.n,.int .i64 l.n,.int .i64 l.n] 70)::A) (fun a0 w hk hs=>wp_region_lit ?_) ?_
 ·refine Tt hk rfl (by show 9<24;decide) fun a1 hk1=> ?_
  refine BT (dd:=dd0) (imp:=⟨[],none⟩) (KK:=fun ρ' A'=>Ah [(3,some (.pointer (some ⟨b3,0,none⟩))),(4,some (.int .i64 0)),(9,some (.slice (some ⟨b3,0,none⟩) 5 8)),(10,some (.int .i64 5))] ρ'∧A'=(b3,Obj.cells #[.int .i64 c,.int .i64 i,.int .i64 a,.int .i64 s,.int .i64 n,.int .i64 l.n,.int .i64 l.n,.int .i64 l.n] 70)::A) rfl hk1 hs ?_ ?_ ?_
  ·intro ν fr
   simp only[AF,↓AE,simprocAttr]
   exact(by simp[Ah,AO])
  ·rintro ch w' ⟨X0,A',h1,_⟩ _
   cases h1
  rintro ρ1 A1 a2 w2 ⟨e2,rfl⟩ hk2 hs2 kp2 rr2
  refine BT (dd:=dd0) (imp:=⟨[],none⟩) (KK:=fun ρ' A'=>Ah [(3,some (.pointer (some ⟨b3,0,none⟩))),(4,some (.int .i64 0)),(9,some (.slice (some ⟨b3,0,none⟩) 5 8)),(10,some (.int .i64 5)),(11,some (.int .i64 0))] ρ'∧A'=(b3,Obj.cells #[.int .i64 c,.int .i64 i,.int .i64 a,.int .i64 s,.int .i64 n,.int .i64 l.n,.int .i64 l.n,.int .i64 l.n] 70)::A) rfl (BO.weak (dd:=dd0) hk2 e2) hs2 ?_ ?_ ?_
  ·intro ν fr
   simp only[AF,↓AE,simprocAttr]
   exact(by simp[Ah,AO])
  ·rintro ch w' ⟨X0,A',h1,_⟩ _
   cases h1
  rintro ρ2 A2 a3 w3 ⟨e3,rfl⟩ hk3 hs3 kp3 rr3
  exact wpList_nil ⟨rfl,ρ2,_,⟨e3,rfl⟩,hk3,hs3,kp2.trans kp3,rr2.trans rr3⟩
 rintro ρ1 A1 ⟨e1,rfl⟩
 refine Av.weak ?_ e1 (SubA.refl _)
 clear e1 ρ1
 refine Av.den (by kernel_rfl) ?_
 intro ν fr
 simp only[AF,↓AE,simprocAttr]
 have W0:IntKind.i64.wrap (0+1)=1:=by decide
 have W1:IntKind.i64.wrap (1+1)=2:=by decide
 have W2:IntKind.i64.wrap (2+1)=3:=by decide
 have W3:IntKind.i64.wrap (3+1)=4:=by decide
 have W4:IntKind.i64.wrap (4+1)=5:=by decide
 have V0:IntKind.i64.wrap 1=1:=by decide
 have V1:IntKind.i64.wrap 2=2:=by decide
 have V2:IntKind.i64.wrap 3=3:=by decide
 have V3:IntKind.i64.wrap 4=4:=by decide
 have V4:IntKind.i64.wrap 5=5:=by decide
 have tB: ∀{z:Int},Fq z=true→ -4503599627370496≤z∧z≤4503599627370496:=fun h=>by unfold Fq at h;simpa using h
 clear fr
 refine AR.intro (by kernel_rfl) ?_
 intro ν fr
 cases tc:Fq c with
 |false=>
  simp only[AF,↓AE,simprocAttr,Ec,tc]
  exact⟨by simp[Kr,tc],SubA.skip f3 (SubA.refl _)⟩
 |true=>
 have rc:=tB tc
 have zc:IntKind.i64.wrap (0+c)=c:=by rw[AW (by omega) (by omega)];omega
 have yc:IntKind.i64.wrap c=c:=AW (by omega) (by omega)
 simp only[AF,↓AE,simprocAttr,Ec,tc,zc,V0]
 refine AR.intro (by kernel_rfl) ?_
 intro ν fr
 cases ti:Fq i with
 |false=>
  simp only[AF,↓AE,simprocAttr,Ec,ti]
  exact⟨by simp[Kr,tc,ti],SubA.skip f3 (SubA.refl _)⟩
 |true=>
 have ri:=tB ti
 have zi:IntKind.i64.wrap (c+i)=c+i:=by rw[AW (by omega) (by omega)]
 have yi:IntKind.i64.wrap i=i:=AW (by omega) (by omega)
 simp only[AF,↓AE,simprocAttr,Ec,ti,zi,V1]
 refine AR.intro (by kernel_rfl) ?_
 intro ν fr
 cases ta:Fq a with
 |false=>
  simp only[AF,↓AE,simprocAttr,Ec,ta]
  exact⟨by simp[Kr,tc,ti,ta],SubA.skip f3 (SubA.refl _)⟩
 |true=>
 have ra:=tB ta
 have za:IntKind.i64.wrap (c+i+a)=c+i+a:=by rw[AW (by omega) (by omega)]
 have ya:IntKind.i64.wrap a=a:=AW (by omega) (by omega)
 simp only[AF,↓AE,simprocAttr,Ec,ta,za,V2]
 refine AR.intro (by kernel_rfl) ?_
 intro ν fr
 cases ts:Fq s with
 |false=>
  simp only[AF,↓AE,simprocAttr,Ec,ts]
  exact⟨by simp[Kr,tc,ti,ta,ts],SubA.skip f3 (SubA.refl _)⟩
 |true=>
 have rs:=tB ts
 have zs:IntKind.i64.wrap (c+i+a+s)=c+i+a+s:=by rw[AW (by omega) (by omega)]
 have ys:IntKind.i64.wrap s=s:=AW (by omega) (by omega)
 simp only[AF,↓AE,simprocAttr,Ec,ts,zs,V3]
 refine AR.intro (by kernel_rfl) ?_
 intro ν fr
 cases tn:Fq n with
 |false=>
  simp only[AF,↓AE,simprocAttr,Ec,tn]
  exact⟨by simp[Kr,tc,ti,ta,ts,tn],SubA.skip f3 (SubA.refl _)⟩
 |true=>
 have rn:=tB tn
 have zn:IntKind.i64.wrap (c+i+a+s+n)=c+i+a+s+n:=by rw[AW (by omega) (by omega)]
 have yn:IntKind.i64.wrap n=n:=AW (by omega) (by omega)
 simp only[AF,↓AE,simprocAttr,Ec,tn,zn,V4]
 refine AR.intro (by kernel_rfl) ?_
 intro ν fr
 simp only[AF,↓AE,simprocAttr,Ec]
 refine⟨?_,SubA.skip f3 (SubA.refl _)⟩
 simp only[Kr,tc,ti,ta,ts,tn,Bool.true_and]
 congr 1
theorem pV(A:AH)(l:FL)(c i a s n:Int)(B:AH)(hB:SubA A B):Ag Tryz.prog 8 #[FE l c i a s n] B=some (.bool (Kr c i a s n)):=
 AX (Aj (by kernel_rfl) (lO A l c i a s n) hB)
set_option maxHeartbeats 4000000
set_option maxRecDepth 20000
theorem DU{x:LR}{k:Int}{t:ByteArray}(h:Aw x k t=true)(hk:k=1∨k=4):x.k≠0∧Ad x=t.toList:=by
 unfold Aw at h
 simp only[Bool.and_eq_true,decide_eq_true_eq]at h
 refine⟨by omega, ?_⟩
 unfold Ad
 rw[if_pos (by rw[h.1];exact hk),h.2]
def wA(L:List LR)(i:Nat):Nat:=(Ad (Af L i)).length
def Pf(L:List LR):Prop:= ∀i,(Af L i).k≠0→CR L i+wA L i≤CR L (i+1)
theorem j5(s:ByteArray): ∀f i,i≤s.size→(A9 s f i).1=0→(∀x∈(A9 s f i).2.2,i≤x.a)∧(A9 s f i).2.2.Pairwise fun x y=>x.a+(Ad x).length≤y.a:=by
 intro f
 induction f with
 |zero=>intro i _ _;simp[A9]
 | succ f ih=>
  intro i hi h0
  by_cases h1:s.size≤i
  ·rw[C0 f h1]
   simp[DS];omega
  by_cases he:(Al s i).e=0
  rotate_left
  ·rw[Dg f h1 he]at h0;exact absurd h0 he
  obtain⟨g1,g2⟩:=DF s i (by omega) he
  obtain⟨_,g3⟩:=UY s i (by omega) he
  rw[DC f h1 he rfl]at h0⊢
  have h0':(A9 s f ((Al s i).nx+Bi false (s.toList.drop (Al s i).nx))).1=0:=h0
  obtain⟨i1,i2⟩:=ih _ (Fd s _ g2) h0'
  have ea:=Sa he
  simp only[h0',if_true,List.mem_cons,List.pairwise_cons]
  refine⟨fun x hx=> ?_,fun x hx=> ?_,i2⟩
  ·rcases hx with rfl|hx
   ·omega
   ·have:=i1 x hx;omega
  ·have:=i1 x hx;omega
theorem NQ{s:ByteArray}(h0:(AG s).1=0):Pf (AG s).2.2:=by
 intro i hk
 obtain⟨K,hK,hw,_⟩:=DY h0
 have hk2:=D8 false s.toList
 rw[AP]at hk2
 have hp:(AG s).2.2.Pairwise fun x y=>x.a+(Ad x).length≤y.a:=by
  unfold AG at h0⊢
  split at h0
  ·cases h0
  ·rename_i h4
   rw[if_neg h4]
   exact(j5 s _ _ hk2 h0).2
 generalize (AG s).2.2=L at hK hk hp
 have hlt:=mr hk
 have hlt2:i+1<L.length:=by
  rcases Nat.lt_or_ge (i+1) L.length with h|h
  ·exact h
  ·exfalso
   have hi:i=K.length:=by rw[hK]at hlt h;simp at hlt h;omega
   rw[hK,hi]at hk
   unfold Af at hk
   rw[List.getD_eq_getElem?_getD,List.getElem?_append_right (Nat.le_refl _)]at hk
   simp[DS]at hk
 have:=List.pairwise_iff_getElem.1 hp i (i+1) hlt hlt2 (by omega)
 unfold wA CR Af
 rw[List.getD_eq_getElem?_getD,List.getD_eq_getElem?_getD,List.getElem?_eq_getElem hlt,List.getElem?_eq_getElem hlt2]
 exact this
theorem qs{l:Nat}{x:LR}{o:Int}(h:EP l x=some o):x.k≠0∧(Gj o).length≤(Ad x).length∧1≤(Ad x).length:=by
 unfold EP at h
 repeat' split at h
 all_goals first
  |(cases h;done)
  |(rename_i hx;cases h;obtain⟨h1,h2⟩:=DU hx (by decide);rw[h2];exact⟨h1,by simp[Gj,ml],by simp[ml]⟩)
theorem pg{x:LR}{o:Int}(h:Ge x=some o):x.k≠0∧(Gj o).length≤(Ad x).length∧1≤(Ad x).length:=by
 unfold Ge at h
 repeat' split at h
 all_goals first
  |(cases h;done)
  |(rename_i hx;cases h;obtain⟨h1,h2⟩:=DU hx (by decide);rw[h2];exact⟨h1,by simp[Gj,ml],by simp[ml]⟩)
theorem VE{o:Int}(ho:6≤o∧o≤14)(a b:Xs):(tX (EV o a b)).length≤(tX a).length+(tX b).length+6+(Gj o).length:=by
 have h1:=T3 a b (QW o)
 have h2:=T4 a b (Ga o+1)
 rw[EV,tX,Bf,if_neg (by omega),if_neg (by omega),if_neg (by omega),if_neg (by omega),if_neg (by omega),if_neg (by omega),if_neg (by omega),if_neg (by omega)]
 simp only[List.length_append,List.length_cons,List.length_nil]
 omega
theorem oP(a:Xs):(tX (Ji 5 a)).length≤(tX a).length+3:=by
 have h1:=Ya a 6
 rw[Ji,tX,Bf,if_neg (by decide),if_neg (by decide),if_neg (by decide),if_neg (by decide),if_neg (by decide),if_neg (by decide),if_pos rfl]
 simp only[List.length_cons];omega
theorem qn{x:LR}{o:Int}(h:Dh x=.one o)(a:Xs):x.k≠0∧(tX (Ji o a)).length≤(tX a).length+5*(Ad x).length:=by
 unfold Dh at h
 split at h
 ·rename_i hx
  cases h
  obtain⟨h1,h2⟩:=DU hx (by decide)
  have:=di (.inl rfl) a
  rw[h2]
  exact⟨h1,by simp[ml];omega⟩
 split at h
 ·rename_i hx
  cases h
  obtain⟨h1,h2⟩:=DU hx (by decide)
  have:=oP a
  rw[h2]
  exact⟨h1,by simp[ml];omega⟩
 repeat' split at h
 all_goals cases h
theorem qv{x:LR}(h:Dh x=.par):x.k≠0:=by
 unfold Dh at h
 split at h
 ·cases h
 split at h
 ·cases h
 split at h
 ·cases h
 split at h
 ·cases h
 split at h
 ·rename_i hx;exact(DU hx (by decide)).1
 repeat' split at h
 all_goals cases h
theorem rr{x:LR}{o:Int}(h:Dh x=.use o):x.k≠0:=by
 unfold Dh at h
 split at h
 ·cases h
 split at h
 ·cases h
 split at h
 ·rename_i hx;exact(DU hx (by decide)).1
 split at h
 ·rename_i hx;exact(DU hx (by decide)).1
 repeat' split at h
 all_goals cases h
theorem ro{L:List LR}{i j:Nat}{nm:ByteArray}{n:Int}(hL:Tz L)(hA:Pf L)(h:KX L i=(0,j,nm,n)):CR L i+3+nm.data.toList.length+(Lib.itoa n).length≤CR L j:=by
 unfold KX at h
 split at h
 ·simp at h
 rename_i h1
 split at h
 ·simp at h
 rename_i h2
 split at h
 ·simp at h
 rename_i h3
 split at h
 ·simp at h
 rename_i h4
 split at h
 ·simp at h
 rename_i h5
 simp only[Prod.mk.injEq,true_and]at h
 obtain⟨rfl,rfl,rfl⟩:=h
 have e1:Aw (Af L i) 4 ⟨#[40]⟩=true:=by simpa using h1
 have e2:Gi (Af L (i+1))=true:=by simpa using h2
 have e3:Aw (Af L (i+2)) 4 ⟨#[44]⟩=true:=by simpa using h3
 have e4:Kk (Af L (i+3)) 9007199254740992=true:=by simpa using h4
 have e5:Aw (Af L (i+4)) 4 ⟨#[41]⟩=true:=by simpa using h5
 obtain⟨k1,f1⟩:=DU e1 (.inr rfl)
 obtain⟨k3,f3⟩:=DU e3 (.inr rfl)
 obtain⟨k5,f5⟩:=DU e5 (.inr rfl)
 have k2:(Af L (i+1)).k=1:=by unfold Gi at e2;simp only[Bool.and_eq_true,decide_eq_true_eq]at e2;exact e2.1
 have k4:(Af L (i+3)).k=2:=by unfold Kk at e4;simp only[Bool.and_eq_true,decide_eq_true_eq]at e4;exact e4.1
 have a1:=hA i k1
 have a2:=hA (i+1) (by omega)
 have a3:=hA (i+2) k3
 have a4:=hA (i+3) (by omega)
 have a5:=hA (i+4) k5
 unfold wA at a1 a2 a3 a4 a5
 rw[f1]at a1
 rw[f3]at a3
 rw[f5]at a5
 have f2:(Ad (Af L (i+1))).length=(Af L (i+1)).t.data.toList.length:=by unfold Ad;rw[if_pos (.inl k2),ByteArray.toList_eq]
 have f4:Ad (Af L (i+3))=Lib.itoa (Af L (i+3)).n:=by unfold Ad;rw[if_neg (by omega),if_pos k4]
 rw[f2]at a2
 rw[f4]at a4
 simp only[ml,List.length_cons,List.length_nil]at a1 a3 a5
 have ad1:i+1+1=i+2:=rfl
 have ad2:i+2+1=i+3:=rfl
 have ad3:i+3+1=i+4:=rfl
 have ad4:i+4+1=i+5:=rfl
 rw[ad1]at a2
 rw[ad2]at a3
 rw[ad3]at a4
 rw[ad4]at a5
 omega
theorem kN{o:Int}(ho:o=16∨o=17)(nm:ByteArray)(n:Int):(tX (.mk o nm eB n [])).length≤9+nm.data.toList.length+(Lib.itoa n).length:=by
 rw[tX]
 rcases ho with rfl|rfl
 ·rw[Bf,if_neg (by decide),if_neg (by decide),if_neg (by decide),if_pos rfl]
  simp only[List.length_append,List.length_cons,List.length_nil];omega
 ·rw[Bf,if_neg (by decide),if_neg (by decide),if_neg (by decide),if_neg (by decide),if_pos rfl]
  simp only[List.length_append,List.length_cons,List.length_nil];omega
def Em:Qr→Nat
 | .lv _=>0
 | .lp _ t=>(tX t).length+2
 | .ch xs=>FG xs+10
def Ef:Qr→Nat
 | .lv _=>0
 | .lp _ t=>(FC t).length
 | .ch xs=>(LL xs).length
def tA(L:List LR)(q:Qr)(i:Nat):Rz→Prop
 | .ok t j=>(tX t).length+2+5*CR L i≤Em q+5*CR L j∧(FC t).length+i≤Ef q+j
 | .er _ _=>True
theorem ar{o:Int}(ho:6≤o∧o≤14)(a b:Xs):(FC (EV o a b)).length=(FC a).length+(FC b).length:=by
 rw[EV,FC,if_neg (by omega)]
 simp[LL]
theorem my{x:LR}{o:Int}(h:Dh x=.one o)(a:Xs):(FC (Ji o a)).length=(FC a).length:=by
 have:=(VH h).1
 rw[Ji,FC,if_neg (by omega)]
 simp[LL]
theorem Uh(a b:List Xs):LL (a++b)=LL a++LL b:=by
 induction a with
 |nil=>simp[LL]
 |cons x l ih=>simp[LL,ih]
theorem tE{L:List LR}(hL:Tz L)(hA:Pf L){q:Qr}{i:Nat}{r:Rz}(h:Pr L q i r):tA L q i r:=by
 induction h with
 |opE _ _ _ _=>trivial
 | @opO l i j t r a b _ _ ih1 ih2=>
  obtain⟨w1,w2⟩:=ih1
  cases r with
  |er=>trivial
  |ok u k=>obtain⟨w3,w4⟩:=ih2;simp only[Em,Ef]at w1 w2 w3 w4;exact⟨by simp only[Em];omega,by simp only[Ef];omega⟩
 |lpN a=>exact⟨by simp only[Em];omega,by simp only[Ef];omega⟩
 |lpE _ _ _=>trivial
 | @lpO l j k t u o r a _ _ ih1 ih2=>
  have ho:=Up a
  obtain⟨k0,k1,k2⟩:=qs a
  have hj:=hA j k0
  unfold wA at hj
  obtain⟨w1,w2⟩:=ih1
  have h3:=VE ho t u
  have h4:=ar ho t u
  cases r with
  |er=>trivial
  |ok v m=>obtain⟨w3,w4⟩:=ih2;simp only[Em,Ef]at w1 w2 w3 w4 ⊢;exact⟨by simp only[Em];omega,by simp only[Ef];omega⟩
 |cmE _ _=>trivial
 |cmN _ _ _ ih=>exact ih
 |cmF _ _ _ _ _=>trivial
 | @cmO i j k t u o _ a _ ih1 ih2=>
  have ho:=T7 a
  obtain⟨k0,k1,k2⟩:=pg a
  have hj:=hA j k0
  unfold wA at hj
  obtain⟨w1,w2⟩:=ih1
  obtain⟨w3,w4⟩:=ih2
  have h3:=VE ho t u
  have h4:=ar ho t u
  simp only[Em,Ef]at w1 w2 w3 w4
  exact⟨by simp only[Em];omega,by simp only[Ef];omega⟩
 |inP _ _ _ _ _=>trivial
 | @inC i j t r _ a b c _ ih1 ih2=>
  obtain⟨w1,w2⟩:=ih1
  obtain⟨k1,f1⟩:=DU b (.inl rfl)
  obtain⟨k2,f2⟩:=DU c (.inr rfl)
  have a1:=hA j k1
  have a2:=hA (j+1) k2
  unfold wA at a1 a2
  rw[f1]at a1
  rw[f2]at a2
  simp only[ml,List.length_cons,List.length_nil]at a1 a2
  have ad:j+1+1=j+2:=rfl
  rw[ad]at a2
  cases r with
  |er=>trivial
  |ok u k=>obtain⟨w3,w4⟩:=ih2;simp only[Em,Ef,FG,LL,List.append_nil]at w1 w2 w3 w4;exact⟨by simp only[Em];omega,by simp only[Ef];omega⟩
 |chE _ _=>trivial
 | @chM i j xs u r _ a _ ih1 ih2=>
  obtain⟨w1,w2⟩:=ih1
  obtain⟨k1,f1⟩:=DU a (.inr rfl)
  have a1:=hA j k1
  unfold wA at a1
  rw[f1]at a1
  simp only[ml,List.length_cons,List.length_nil]at a1
  cases r with
  |er=>trivial
  |ok v k=>obtain⟨w3,w4⟩:=ih2;simp only[Em,Ef,Jw,FG,Uh,LL,List.append_nil,List.length_append]at w1 w2 w3 w4;exact⟨by simp only[Em];omega,by simp only[Ef];omega⟩
 | @chO i j xs u _ a b ih=>
  obtain⟨w1,w2⟩:=ih
  obtain⟨k1,f1⟩:=DU b (.inr rfl)
  have a1:=hA j k1
  unfold wA at a1
  rw[f1]at a1
  simp only[ml,List.length_cons,List.length_nil]at a1
  have h3:=dh (xs++[u])
  rw[Jw]at h3
  have h4:(FC (.mk 15 eB eB 0 (xs++[u]))).length=(LL xs).length+(FC u).length:=by
   rw[FC,if_neg (by omega),Uh];simp[LL]
  simp only[Em,Ef,FG]at w1 w2 h3
  exact⟨by simp only[Em];omega,by simp only[Ef];omega⟩
 |chB _ _ _ _=>trivial
 | @unO i j t o a _ ih=>
  obtain⟨w1,w2⟩:=ih
  obtain⟨k1,h3⟩:=qn a t
  have h4:=my a t
  have a1:=hA i k1
  unfold wA at a1
  simp only[Em,Ef]at w1 w2
  exact⟨by simp only[Em];omega,by simp only[Ef];omega⟩
 |unE _ _ _=>trivial
 | @usO i j o n nm a b=>
  have ho:=VK a
  have a1:=hA i (rr a)
  have h5:=ro hL hA b
  obtain⟨rfl,_⟩:=dr hL b
  have h4:=kN ho nm n
  have h6:(FC (.mk o nm eB n [])).length=1:=by
   rw[FC,if_pos (by omega)];simp[LL]
  exact⟨by simp only[Em];omega,by simp only[Ef];omega⟩
 |usE _ _ _=>trivial
 |paE _ _ _=>trivial
 | @paO i j t a _ b ih=>
  obtain⟨w1,w2⟩:=ih
  have a1:=hA i (qv a)
  have a2:=hA j (DU b (.inr rfl)).1
  simp only[Em,Ef]at w1 w2
  exact⟨by simp only[Em];omega,by simp only[Ef];omega⟩
 |paB _ _ _ _=>trivial
 | @nu i a=>
  have hk:=VG a
  have a1:=hA i (by omega)
  have h1:=PY (hL i) hk
  have f:Ad (Af L i)=Lib.itoa (Af L i).n:=by unfold Ad;rw[if_neg (by omega),if_pos hk]
  have hp:0<(Lib.itoa (Af L i).n).length:=by
   have:=Jd (Af L i).n
   exact List.length_pos_iff.2 this
  have h4:tX (.mk 1 eB eB (Af L i).n [])=Lib.itoa (Af L i).n:=by rw[tX,Bf,if_pos rfl]
  have h6:(FC (.mk 1 eB eB (Af L i).n [])).length=0:=by rw[FC,if_neg (by omega)];simp[LL]
  unfold wA at a1
  rw[f]at a1
  refine⟨by rw[h4];simp only[Em];omega,by simp only[Ef];omega⟩
 | @te i a=>
  have hk:=VJ a
  have a1:=hA i (by omega)
  have f:Ad (Af L i)=34::((Af L i).t.toList++[34]):=by unfold Ad;rw[if_neg (by omega),if_neg (by omega),if_pos hk]
  have h4:tX (.mk 2 eB (Af L i).t 0 [])=34::((Af L i).t.toList++[34]):=by rw[tX,Bf,if_neg (by decide),if_pos rfl,ByteArray.toList_eq]
  have h6:(FC (.mk 2 eB (Af L i).t 0 [])).length=0:=by rw[FC,if_neg (by omega)];simp[LL]
  unfold wA at a1
  rw[f]at a1
  simp only[List.length_cons,List.length_append,List.length_nil]at a1
  refine⟨by rw[h4];simp only[Em,List.length_cons,List.length_append,List.length_nil];omega,by simp only[Ef];omega⟩
 | @na i a=>
  have hb:=VF a
  have hk:(Af L i).k=1:=by unfold Gi at hb;simp only[Bool.and_eq_true,decide_eq_true_eq]at hb;exact hb.1
  have a1:=hA i (by omega)
  have f:Ad (Af L i)=(Af L i).t.toList:=by unfold Ad;rw[if_pos (.inl hk)]
  have hp:0<(Af L i).t.toList.length:=by
   rcases hL i with(⟨k,_,h1,h2,c,l,h3,h4⟩|⟨k,_⟩|⟨k,_⟩|⟨k,_⟩)|k
   ·rw[h3];simp
   all_goals omega
  have h4:tX (.mk 3 (Af L i).t eB 0 [])=(Af L i).t.toList:=by rw[tX,Bf,if_neg (by decide),if_neg (by decide),if_pos rfl,ByteArray.toList_eq]
  have h6:(FC (.mk 3 (Af L i).t eB 0 [])).length=1:=by rw[FC,if_pos (by omega)];simp[LL]
  unfold wA at a1
  rw[f]at a1
  refine⟨by rw[h4];simp only[Em];omega,by simp only[Ef];omega⟩
 |ba _=>trivial
theorem rB{s:ByteArray}{a:Nat}{t:Xs}(h:PxO s 0 a t):(tX t).length+2≤5*s.size∧(FC t).length≤1000000:=by
 generalize he:(0:Int)=e at h
 cases h with
 |scan h0=>exact absurd he.symm h0
 |er _ h1=>exact absurd he.symm h1
 |more=>cases he
 | @ok _ j x h0 h1 h2 h3=>
  obtain⟨K,_,_,_,hl⟩:=DY h0
  obtain⟨w1,w2⟩:=tE (Jz h0) (NQ h0) h1
  simp only[Em,Ef]at w1 w2
  have hj:=(List.getElem?_eq_some_iff.1 h2).1
  have ha:=(KS h0 (Nat.le_refl j) h2 h2).2
  have ea:CR (AG s).2.2 j=x.a:=by unfold CR Af;rw[List.getD_eq_getElem?_getD,h2];rfl
  rw[ea]at w1
  exact⟨by omega,by omega⟩
theorem nJ{n:Int}(h0:0≤n)(h1:n≤10000):(Nw n).length≤11:=by
 obtain⟨m,rfl⟩: ∃m:Nat,n=(m:Int):=⟨n.toNat,by omega⟩
 have d: ∀k,(d3 k).length≤3:=fun k=>by unfold d3;repeat' split;all_goals simp
 rw[kq (by omega)]
 unfold pK
 have d1:=d (m / 100)
 have d2:=d (m % 100 / 10)
 have d4:=d (m % 10)
 simp only[List.length_append]
 split
 ·simp;omega
 ·simp only[List.length_cons,List.length_append,List.length_nil]
  split
  ·simp;omega
  ·omega
theorem ko{L:List LR}(hL:Tz L)(hA:Pf L){i:Nat}(hk:(Af L i).k=2):CR L i+(Lib.itoa (Af L i).n).length≤CR L (i+1)∧0<(Lib.itoa (Af L i).n).length:=by
 have a1:=hA i (by omega)
 have f:Ad (Af L i)=Lib.itoa (Af L i).n:=by unfold Ad;rw[if_neg (by omega),if_pos hk]
 unfold wA at a1
 rw[f]at a1
 exact⟨a1,List.length_pos_iff.2 (Jd _)⟩
theorem bH{L:List LR}(hL:Tz L)(hA:Pf L){k:Int}(hk:k=1∨k=4){w:ByteArray}(hw:0<w.toList.length){i j:Nat}{v:Int}(h:opN L k w i=.ok (v,j)):(F3 w.toList v).length+5*CR L i≤5*CR L j:=by
 unfold opN at h
 split at h
 ·rename_i h1
  split at h
  ·rename_i h2
   cases h
   obtain⟨k1,f1⟩:=DU h1 hk
   have a1:=hA i k1
   obtain⟨a2,p2⟩:=ko hL hA h2
   unfold wA at a1
   rw[f1]at a1
   have ad:i+1+1=i+2:=rfl
   rw[ad]at a2
   unfold F3
   split
   ·simp;omega
   ·simp only[List.length_cons,List.length_append];omega
  ·cases h
 ·cases h
  simp[F3]
theorem qR{s:ByteArray}{L:List LR}(hL:Tz L)(hA:Pf L){j k:Nat}{b fx mn mx:Int}(h:fuT s L j=.ok ((b,fx,mn,mx),k)):(F3 [43] fx).length+(F3 [109,105,110] mn).length+(F3 [109,97,120] mx).length+20+5*CR L j≤5*CR L k∧0≤b∧b≤10000:=by
 unfold fuT at h
 split at h
 ·cases h
 rename_i c1
 split at h
 ·cases h
 rename_i c2
 split at h
 ·cases h
 rename_i c3
 split at h
 ·cases h
 rename_i b' hb
 split at h
 ·cases h
 rename_i h1
 split at h
 ·cases h
 rename_i h2
 split at h
 ·cases h
 rename_i h3
 split at h
 ·cases h
 rename_i c4
 cases h
 have e1:Aw (Af L j) 4 ⟨#[58]⟩=true:=by simpa[DE]using c1
 have e2:(Af L (j+1)).k=2:=by simpa using c2
 have e3:Aw (Af L (j+2)) 4 ⟨#[37]⟩=true:=by simpa using c3
 obtain⟨k1,f1⟩:=DU e1 (.inr rfl)
 obtain⟨k3,f3⟩:=DU e3 (.inr rfl)
 have a1:=hA j k1
 obtain⟨a2,p2⟩:=ko hL hA e2
 have a3:=hA (j+2) k3
 have o1:=bH hL hA (.inr rfl) (by simp[ml]) h1
 have o2:=bH hL hA (.inl rfl) (by simp[FB,ml]) h2
 have o3:=bH hL hA (.inl rfl) (by simp[FA,ml]) h3
 simp only[FB,FA,ml]at o1 o2 o3
 have e4:=c4
 simp only[Bool.not_eq_false]at e4
 obtain⟨k4,f4⟩:=DU e4 (.inr rfl)
 have a4:=hA _ k4
 unfold wA at a1 a3 a4
 rw[f1]at a1
 rw[f3]at a3
 rw[f4]at a4
 simp only[ml,List.length_cons,List.length_nil]at a1 a3 a4
 have ad1:j+1+1=j+2:=rfl
 have ad2:j+2+1=j+3:=rfl
 rw[ad1]at a2
 rw[ad2]at a3
 have r:=Uy hb
 exact⟨by omega,r.1,r.2⟩
theorem qP{s pl:ByteArray}{L:List LR}(hL:Tz L)(hA:Pf L){us:List Fu}{i k:Nat}{u:Fu}(h:FuO s pl L us i u k):(HR u).length+5*CR L i≤5*CR L k∧(FC u.w).length≤1000000:=by
 cases h with
 | @ok t b fx mn mx _ h1 h2 h3=>
  obtain⟨p1,p2⟩:=rB h2
  obtain⟨q1,q2,q3⟩:=qR hL hA h3
  have hs:(SC pl L i).size≤CR L (exJ L (i+3)) - CR L (i+3):=by
   unfold SC
   rw[ByteArray.size_extract]
   omega
  unfold Mo at h1
  split at h1
  ·cases h1
  split at h1
  ·cases h1
  rename_i c1
  split at h1
  ·cases h1
  rename_i c2
  split at h1
  ·cases h1
  split at h1
  ·cases h1
  rename_i c4
  have e1:Aw (Af L i) 1 F2=true:=by simpa using c1
  have e2:LJ (Af L (i+1))=true:=by simpa using c2
  have e3:Aw (Af L (i+2)) 1 ⟨#[119,104,101,110]⟩=true:=by simpa using c4
  obtain⟨k1,f1⟩:=DU e1 (.inl rfl)
  obtain⟨k3,f3⟩:=DU e3 (.inl rfl)
  have k2:(Af L (i+1)).k=1:=by unfold LJ at e2;simp only[Bool.and_eq_true,decide_eq_true_eq]at e2;exact e2.1
  have f2:Ad (Af L (i+1))=(Af L (i+1)).t.toList:=by unfold Ad;rw[if_pos (.inl k2)]
  have a1:=hA i k1
  have a2:=hA (i+1) (by omega)
  have a3:=hA (i+2) k3
  unfold wA at a1 a2 a3
  rw[f1]at a1
  rw[f2]at a2
  rw[f3]at a3
  simp only[F2,ml,List.length_cons,List.length_nil]at a1 a3
  have ad1:i+1+1=i+2:=rfl
  have ad2:i+2+1=i+3:=rfl
  rw[ad1]at a2
  rw[ad2]at a3
  have pc:=nJ q2 q3
  refine⟨?_,p2⟩
  simp only[HR,G1,List.length_append,List.length_cons,List.length_nil]
  omega
theorem qH{s pl:ByteArray}{L:List LR}(hL:Tz L)(hA:Pf L){us vs:List Fu}{i j:Nat}(h:FlO s pl L us i vs j):((E8 vs).length+5*CR L i≤(E8 us).length+5*CR L j)∧((∀u∈us,(FC u.w).length≤1000000)→ ∀u∈vs,(FC u.w).length≤1000000):=by
 induction h with
 |fin _=>exact⟨by omega,id⟩
 | @step us vs u i j k h1 h2 h3 ih=>
  obtain⟨g1,g2⟩:=qP hL hA h2
  obtain⟨i1,i2⟩:=ih
  have e:(E8 (us++[u])).length=(E8 us).length+(HR u).length:=by simp[E8]
  refine⟨by omega,fun hu=>i2 fun x hx=> ?_⟩
  rcases List.mem_append.1 hx with h|h
  ·exact hu x h
  ·rw[List.mem_singleton.1 h];exact g2
theorem qx{s:ByteArray}{a:Nat}{us:List Fu}(h:PfO s 0 a us):(E8 us).length≤5*s.size∧ ∀u∈us,(FC u.w).length≤1000000:=by
 obtain⟨h0,_,j,h1⟩:=h.ok_inv
 obtain⟨g1,g2⟩:=qH (Jz h0) (NQ h0) h1
 have ha:CR (AG (BM s)).2.2 j≤s.size:=by
  unfold CR Af
  rw[List.getD_eq_getElem?_getD]
  cases hx:(AG (BM s)).2.2[j]? with
  |none=>exact Nat.zero_le _
  |some x=>have:=(KS h0 (Nat.le_refl j) hx hx).2;rw[CD]at this;exact this
 have e:(E8 []).length=0:=rfl
 exact⟨by omega,g2 fun u hu=>by simp at hu⟩
theorem oK{t:Xs}(h:SzX t):SzT t:=by
 induction h with
 |mk h1 h2 h3 ih=>exact .mk h1 h2 ih
set_option maxHeartbeats 4000000
set_option maxRecDepth 20000
theorem eV.z{B:AH}{us:List Fu}{p:Option Addr}{s:ByteArray}{a:Nat}(h:eV B us p)(hp:PfO s 0 a us):pQ us∧ ∀u∈us,SzX u.w:=by
 obtain⟨rs,h1,h2,h3⟩:=h
 obtain⟨_,l64,hw⟩:=bQ hp
 have hsz: ∀u∈us,SzX u.w:=fun u hu=>by
  obtain⟨k,hk⟩:=List.getElem?_of_mem hu
  obtain⟨r,hr⟩: ∃r,rs[k]? =some r:=⟨_,List.getElem?_eq_getElem (by have:=(List.getElem?_eq_some_iff.1 hk).1;omega)⟩
  have hx:=(Jh (hw u hu).2.1).1
  exact rz (h3 k u r hk hr).2.1 hx
 exact⟨⟨by omega,fun u hu=>⟨oK (hsz u hu),(qx hp).2 u hu⟩⟩,hsz⟩
def YZ(s:ByteArray)(v:Value)(B:AH):Prop:= ∃e at_ us p cap,PfO s e at_ us∧us.length≤64∧us.length≤cap∧eV B us p∧v=.tuple #[.agg #[.slice p us.length cap,.slice p us.length cap,.slice p us.length cap],.bool (decide (e=0)&&decide (Ml us=0))]
theorem Tr(A:AH)(s:ByteArray)(hs:s.size≤100000):AK Tryz.prog 5 #[.string s] A (fun u_ A_=> ∃v B,u_=v∧YZ s v B∧Dis B A∧SubA (B++A) A_):=by
 refine AC ⟨Tryz.prog,5,Tryz.f5,26,[0,2,3,4,5,7],⟨[10],none⟩,[],_⟩ rfl (args:=[_]) Tryz.func5 rfl (by kernel_rfl) Tryz.ntmps5 (by simp) (by kernel_rfl) ?_
 intro ν fr
 have f0:=fr.2 0
 simp only[AF,↓AE,simprocAttr]
 have dst_:True:=(by simp[]);generalize ν 0=n2 at dst_  f0⊢
 clear fr
 have s0: ∀o,SubA A ((n2,o)::A):=fun _=>SubA.skip f0 (SubA.refl _)
 refine AK.newX (R:=pR s) (mL s hs) (SubA.nil _) ?_
 rintro v B ⟨e,at_,us,p,cap,hp,l64,lc,rfl,hF⟩ d1
 have dBA:Dis B A:=Dis.subr d1 (s0 _)
 have b2:Vm.AA B n2=none:=d1 n2 (by simp[Vm.AA])
 refine⟨(n2,Obj.cells #[.slice none 0 0,.slice none 0 0,.slice none 0 0] 29)::(B++A),SubA.both (X:=[(n2,_)]) (SubA.trans (SubA.left [(n2,_)] _) d1.right) (SubA.both (SubA.left _ _) (SubA.trans (s0 _) d1.right)), ?_⟩
 have g2:Vm.AA (B++A) n2=none:=AD b2 f0
 intro ν fr;have nuE:=fr.m1 rfl
 simp only[AF,↓AE,simprocAttr]
 have f7:=fr.2 0
 have n72:(ν 0=n2)=False:=by simp[nuE]
 have dst_:True:=(by simp[]);generalize ν 0=n7 at dst_  f7 n72⊢
 have n27:(n2=n7)=False:=eq_false fun h=>by rw[h]at n72;simp at n72
 have g7:Vm.AA (B++A) n7=none:=(show SubA (B++A) ((n2,Obj.cells #[.slice none 0 0,.slice none 0 0,.slice none 0 0] 29)::(B++A)) from SubA.skip g2 (SubA.refl _)).none f7
 have sE: ∀o o1,SubA (B++A) ((n7,o)::(n2,o1)::(B++A)):=fun _ _=>SubA.skip g7 (SubA.skip g2 (SubA.refl _))
 have sF: ∀o,SubA (B++A) ((n7,o)::(B++A)):=fun _=>SubA.skip g7 (SubA.refl _)
 have hT: ∀x:Bool,(decide (e=0)&&decide (Ml us=0))=x→YZ s (.tuple #[.agg #[.slice p us.length cap,.slice p us.length cap,.slice p us.length cap],.bool x]) B:=fun x hx=>⟨e,at_,us,p,cap,hp,l64,lc,hF,by rw[hx]⟩
 refine Av.plan [(0,0),(1,0),(2,0),(3,0),(4,0),(5,0),(6,0),(7,0),(8,1),(9,0)] ((n7,Obj.cells #[.slice p us.length cap,.slice p us.length cap,.slice p us.length cap] 29)::(B++A)) (SubA.both (X:=[(n7,_)]) (SubA.left [(n7,_)] _) (sE _ _)) (by kernel_rfl) (by kernel_rfl) (by kernel_rfl) (by kernel_rfl) (by kernel_rfl) (by kernel_rfl) ?_
 clear nuE fr
 intro ν fr
 have sG: ∀o o1,SubA ((n7,o)::(B++A)) ((n7,o)::(n2,o1)::(B++A)):=fun _ _=>SubA.both (X:=[(n7,_)]) (SubA.left [(n7,_)] _) (sE _ _)
 by_cases h1:e=0
 rotate_left
 ·have h1':(e==0)=false:=by simp[h1]
  simp only[AF,↓AE,simprocAttr,n72,h1',sE]
  exact⟨_,B,rfl,hT _ (by simp[h1]),dBA,sE _ _⟩
 have h1':(e==0)=true:=by simp[h1]
 rw[h1]at hp
 obtain⟨hz,hsz⟩:=hF.z hp
 obtain⟨rs,hrs⟩:=hF
 have cv:=fun o o1=>Rj B us p rs cap hrs lc hz _ (SubA.trans (SubA.left B A) (sE o o1))
 have cv2:=fun o=>Rj B us p rs cap hrs lc hz _ (SubA.trans (SubA.left B A) (sF o))
 by_cases h2:Ml us=0
 rotate_left
 ·have h2':(Ml us==0)=false:=by simp[h2]
  simp only[AF,↓AE,simprocAttr,n72,h1,cv2,h2',sE]
  exact⟨_,B,rfl,hT _ (by simp[h2]),dBA,sE _ _⟩
 have h2':(Ml us==0)=true:=by simp[h2]
 simp only[AF,↓AE,simprocAttr,n72,h1,cv2,h2,sE]
 exact⟨_,B,rfl,hT _ (by simp[h1,h2]),dBA,sE _ _⟩
set_option maxHeartbeats 4000000
set_option maxRecDepth 20000
def pX(L:List LR):Nat→Qr→Nat→Option Rz
 |0,_,_=>none
 | f +1,.lv l,i=>
  if l=2 then
   match pX L f (.lv 3) i with
   |none=>none
   |some (.er e j)=>some (.er e j)
   | some (.ok t j)=>
    match Ge (Af L j)with
    |some o=>
     match pX L f (.lv 3) (j+1)with
     |none=>none
     |some (.er e k)=>some (.er e k)
     |some (.ok u k)=>some (.ok (EV o t u) k)
    |none=>if Mp (Af L j)=false then some (.ok t j)else if Aw (Af L (j+1)) 4 ⟨#[40]⟩=true then pX L f (.ch [t]) (j+2)else some (.er 2 (j+1))
  else if l<5 then
   match pX L f (.lv (l+1)) i with
   |none=>none
   |some (.er e j)=>some (.er e j)
   |some (.ok t j)=>pX L f (.lp l t) j
  else if l=5 then
   match Dh (Af L i)with
   | .one o=>
    match pX L f (.lv 5) (i+1)with
    |none=>none
    |some (.er e k)=>some (.er e k)
    |some (.ok u k)=>some (.ok (Ji o u) k)
   | .use o=>if(KX L (i+1)).1=0 then some (.ok (.mk o (KX L (i+1)).2.2.1 eB (KX L (i+1)).2.2.2 []) (KX L (i+1)).2.1)else some (.er (KX L (i+1)).1 (KX L (i+1)).2.1)
   | .par=>
    match pX L f (.lv 0) (i+1)with
    |none=>none
    |some (.er e k)=>some (.er e k)
    |some (.ok t j)=>if Aw (Af L j) 4 ⟨#[41]⟩=true then some (.ok t (j+1))else some (.er 2 j)
   | .num=>some (.ok (.mk 1 eB eB (Af L i).n []) (i+1))
   | .txt=>some (.ok (.mk 2 eB (Af L i).t 0 []) (i+1))
   | .nam=>some (.ok (.mk 3 (Af L i).t eB 0 []) (i+1))
   | .bad=>some (.er 2 i)
  else none
 | f+1,.lp l t,j=>
  match EP l (Af L j)with
  |none=>some (.ok t j)
  |some o=>
   match pX L f (.lv (l+1)) (j+1)with
   |none=>none
   |some (.er e k)=>some (.er e k)
   |some (.ok u k)=>pX L f (.lp l (EV o t u)) k
 |f+1,.ch xs,i=>
  match pX L f (.lv 3) i with
  |none=>none
  |some (.er e j)=>some (.er e j)
  |some (.ok u j)=>if Aw (Af L j) 4 ⟨#[44]⟩=true then pX L f (.ch (xs++[u])) (j+1)else if Aw (Af L j) 4 ⟨#[41]⟩=true then some (.ok (.mk 15 eB eB 0 (xs++[u])) (j+1))else some (.er 2 j)
theorem Qo(L:List LR): ∀(f:Nat) (q:Qr) (i:Nat) (r:Rz),pX L f q i=some r→Pr L q i r:=by
 intro f
 induction f with
 |zero=>intro q i r h;simp[pX]at h
 | succ f ih=>
  intro q i r h
  cases q with
  | lv l =>
   rw[pX]at h
   split at h
   ·rename_i hl
    subst hl
    split at h
    ·cases h
    ·rename_i e j h1
     cases h
     exact .cmE (ih _ _ _ h1)
    ·rename_i t j h1
     split at h
     ·rename_i o ho
      split at h
      ·cases h
      ·rename_i e k h2
       cases h
       exact .cmF (ih _ _ _ h1) ho (ih _ _ _ h2)
      ·rename_i u k h2
       cases h
       exact .cmO (ih _ _ _ h1) ho (ih _ _ _ h2)
     ·rename_i ho
      split at h
      ·rename_i hi
       cases h
       exact .cmN (ih _ _ _ h1) ho hi
      ·rename_i hi
       have hi':Mp (Af L j)=true:=by simpa using hi
       split at h
       ·rename_i hp
        exact .inC (ih _ _ _ h1) ho hi' hp (ih _ _ _ h)
       ·rename_i hp
        cases h
        exact .inP (ih _ _ _ h1) ho hi' (by simpa using hp)
   ·rename_i hl
    split at h
    ·rename_i hl5
     split at h
     ·cases h
     ·rename_i e j h1
      cases h
      exact .opE hl hl5 (ih _ _ _ h1)
     ·rename_i t j h1
      exact .opO hl hl5 (ih _ _ _ h1) (ih _ _ _ h)
    ·split at h
     ·rename_i h5
      subst h5
      split at h
      ·rename_i o hu
       split at h
       ·cases h
       ·rename_i e k h2
        cases h
        exact .unE hu (ih _ _ _ h2)
       ·rename_i u k h2
        cases h
        exact .unO hu (ih _ _ _ h2)
      ·rename_i o hu
       split at h
       ·rename_i h0
        cases h
        exact .usO hu (by rw[←h0])
       ·rename_i h0
        cases h
        exact .usE hu rfl h0
      ·rename_i hu
       split at h
       ·cases h
       ·rename_i e k h2
        cases h
        exact .paE hu (ih _ _ _ h2)
       ·rename_i t j h2
        split at h
        ·rename_i hp
         cases h
         exact .paO hu (ih _ _ _ h2) hp
        ·rename_i hp
         cases h
         exact .paB hu (ih _ _ _ h2) (by simpa using hp)
      ·rename_i hu;cases h;exact .nu hu
      ·rename_i hu;cases h;exact .te hu
      ·rename_i hu;cases h;exact .na hu
      ·rename_i hu;cases h;exact .ba hu
     ·cases h
  | lp l t=>
   rw[pX]at h
   split at h
   ·rename_i ho;cases h;exact .lpN ho
   ·rename_i o ho
    split at h
    ·cases h
    ·rename_i e k h2
     cases h
     exact .lpE ho (ih _ _ _ h2)
    ·rename_i u k h2
     exact .lpO ho (ih _ _ _ h2) (ih _ _ _ h)
  | ch xs=>
   rw[pX]at h
   split at h
   ·cases h
   ·rename_i e j h1
    cases h
    exact .chE (ih _ _ _ h1)
   ·rename_i u j h1
    split at h
    ·rename_i hm
     exact .chM (ih _ _ _ h1) hm (ih _ _ _ h)
    ·rename_i hm
     split at h
     ·rename_i hp
      cases h
      exact .chO (ih _ _ _ h1) (by simpa using hm) hp
     ·rename_i hp
      cases h
      exact .chB (ih _ _ _ h1) (by simpa using hm) (by simpa using hp)
def nX(s:ByteArray):Xs:=.mk 3 s eB 0 []
def s8(n:Int):Xs:=.mk 1 eB eB n []
def Rc:ByteArray:=⟨#[102,101,101,32,108,111,119,32,119,104,101,110,32,97,109,111,117,110,116,32,60,32,49,48,48,32,58,32,49,37,32,43,32,50,59,32,102,101,101,32,97,108,108,32,119,104,101,110,32,49,32,61,32,49,32,58,32,48,46,53,37,59]⟩
def sf:ByteArray:=⟨#[97,109,111,117,110,116,32,60,32,49,48,48,32]⟩
def si:ByteArray:=⟨#[49,32,61,32,49,32]⟩
def uE:Xs:=EV 10 (nX ⟨#[97,109,111,117,110,116]⟩) (s8 100)
def uF:Xs:=EV 8 (s8 1) (s8 1)
def PP:Fu:=⟨⟨#[108,111,119]⟩,uE,100,2,0,0⟩
def Pd:Fu:=⟨⟨#[97,108,108]⟩,uF,50,0,0,0⟩
theorem rX:PxO sf 0 0 uE:=.ok (j:=3) (by decide+kernel) (Qo _ 40 _ _ _ (by kernel_rfl)) (show(AG sf).2.2[3]? =some (Af (AG sf).2.2 3) by kernel_rfl) (by decide+kernel)
theorem rY:PxO si 0 0 uF:=.ok (j:=3) (by decide+kernel) (Qo _ 40 _ _ _ (by kernel_rfl)) (show(AG si).2.2[3]? =some (Af (AG si).2.2 3) by kernel_rfl) (by decide+kernel)
theorem rf:PfO Rc 0 0 [PP,Pd]:=by
 have hL:(AG (BM Rc)).1=0:=by decide+kernel
 refine .ok hL (.step (u:=PP) (j:=12) (by decide+kernel) ?_ (.step (u:=Pd) (j:=22) (by decide+kernel) ?_ (.fin (by decide+kernel))))
 ·have h:=FuO.ok (s:=Rc) (pl:=BM Rc) (L:=(AG (BM Rc)).2.2) (us:=[]) (i:=0) (t:=uE) (b:=100) (fx:=2) (mn:=0) (mx:=0) (k:=12) (by decide+kernel) (by rw[show SC (BM Rc) (AG (BM Rc)).2.2 0=sf by decide+kernel];exact rX) (by kernel_rfl)
  rw[show(Af (AG (BM Rc)).2.2 (0+1)).t=⟨#[108,111,119]⟩ by kernel_rfl]at h
  exact h
 ·have h:=FuO.ok (s:=Rc) (pl:=BM Rc) (L:=(AG (BM Rc)).2.2) (us:=[]++[PP]) (i:=12) (t:=uF) (b:=50) (fx:=0) (mn:=0) (mx:=0) (k:=22) (by decide+kernel) (by rw[show SC (BM Rc) (AG (BM Rc)).2.2 12=si by decide+kernel];exact rY) (by kernel_rfl)
  rw[show(Af (AG (BM Rc)).2.2 (12+1)).t=⟨#[97,108,108]⟩ by kernel_rfl]at h
  exact h
def GR(a:Int):Rcd:=⟨1,⟨#[112]⟩,eB,⟨#[115,104,111,112,98,97,110,107]⟩,⟨#[104,111,109,101,98,97,110,107]⟩,⟨#[109,49]⟩,⟨#[52,48,48,48,48,48,48,48,48,48,48,48,48,48,48,50]⟩,a,⟨#[69,85,82]⟩,10,5411,true⟩
theorem uD:Ml [PP,Pd]=0:=by kernel_rfl
theorem rV:OH [PP,Pd] (GR 1000)=0:=by kernel_rfl
theorem rW:OH [PP,Pd] (GR 50)=0:=by kernel_rfl
theorem uA:(Ms [PP,Pd] (GR 1000)).n=5:=by kernel_rfl
theorem uC:(Ms [PP,Pd] (GR 50)).n=3:=by kernel_rfl
theorem t8:(Ms [PP,Pd] (GR 1000)).nm.toList=[97,108,108]:=by kernel_rfl
theorem uB:(Ms [PP,Pd] (GR 50)).nm.toList=[108,111,119]:=by kernel_rfl
set_option maxHeartbeats 8000000
set_option maxRecDepth 20000
theorem jy(A:AH)(a:Int):AK Tryz.prog 9 #[.int .i64 a,.int .i64 10] A (fun u_ A_=>u_=.agg #[.int .i64 (GR a).kd,.string (GR a).id,.string (GR a).au,.string (GR a).aq,.string (GR a).is,.string (GR a).me,.string (GR a).ca,.int .i64 (GR a).am,.string (GR a).cu,.int .i64 (GR a).da,.int .i64 (GR a).ct,.bool (GR a).fi]∧SubA A A_):=by
 refine AC ⟨Tryz.prog,9,Tryz.f9,9,[0,1,4],⟨[],none⟩,[],_⟩ rfl (args:=[_,_]) Tryz.func9 rfl (by kernel_rfl) Tryz.ntmps9 (by simp) (by kernel_rfl) ?_
 intro ν fr
 simp only[AF,↓AE,simprocAttr,fr.2]
 rfl
theorem jz(A:AH)(a:Int)(B_:AH)(hB_:SubA A B_):Ag Tryz.prog 9 #[.int .i64 a,.int .i64 10] B_=some (.agg #[.int .i64 (GR a).kd,.string (GR a).id,.string (GR a).au,.string (GR a).aq,.string (GR a).is,.string (GR a).me,.string (GR a).ca,.int .i64 (GR a).am,.string (GR a).cu,.int .i64 (GR a).da,.int .i64 (GR a).ct,.bool (GR a).fi]):=AX (Aj (by kernel_rfl) (jy A a) hB_)
theorem lT(A:AH)(hT:Dv A):AK Tryz.prog 4 #[] A (fun u_ A_=>u_=.bool true∧SubA A A_):=by
 refine AC ⟨Tryz.prog,4,Tryz.f4,57,[0,1,2,3,4,5,6],⟨[5],none⟩,[(4,.p [(0,0),(1,0),(2,0),(3,0),(4,0),(5,0),(6,1),(7,2),(8,0)]),(5,.p [(0,0),(1,0),(2,0),(3,0),(4,0),(5,0),(6,1),(7,2),(8,0)])],_⟩ rfl (args:=[]) Tryz.func4 rfl (by kernel_rfl) Tryz.ntmps4 (by simp) (by kernel_rfl) ?_
 intro ν fr
 simp only[AF,↓AE,simprocAttr]
 clear fr
 refine AK.newX (R:=YZ Rc) (Tr A Rc (by decide)) (SubA.refl _) ?_
 rintro v B ⟨e,at_,us,p,cap,hp,l64,lc,hF,rfl⟩ d1
 obtain⟨rfl,rfl,rfl⟩:=hp.det rf
 obtain⟨hz,_⟩:=hF.z hp
 obtain⟨rs,hrs⟩:=hF
 refine⟨B++A,SubA.refl _, ?_⟩
 have sAM:SubA A (B++A):=d1.right
 have hS:LW (B++A) [PP,Pd] p rs:=LW.mono hrs (SubA.left _ _)
 have av:=fun r=>Ri (B++A) (hT.mono sAM) [PP,Pd] p rs cap hS lc hz r
 have v1:Pk [PP,Pd] (GR 1000)=FE (Ms [PP,Pd] (GR 1000)) (-1000) 5 (-5) 995 5:=by
  unfold Pk
  rw[rV,uA]
  rfl
 have v2:Pk [PP,Pd] (GR 50)=FE (Ms [PP,Pd] (GR 50)) (-50) 3 (-3) 47 3:=by
  unfold Pk
  rw[rW,uC]
  rfl
 have m1:=t8
 have m2:=uB
 have bv:=pV (B++A) (Ms [PP,Pd] (GR 1000)) (-1000) 5 (-5) 995 5
 have a1:=av (GR 1000)
 have a2:=av (GR 50)
 rw[v1,rV]at a1
 rw[v2,rW]at a2
 rw[show Kr (-1000) 5 (-5) 995 5=true by decide]at bv
 generalize Ms [PP,Pd] (GR 1000)=L1 at a1 bv m1
 generalize Ms [PP,Pd] (GR 50)=L2 at a2 m2
 clear av v1 v2 hp l64
 rw[uD]
 simp only[List.length_cons,List.length_nil,Nat.zero_add,decide_true,Bool.and_self]at lc a1 a2⊢
 intro ν fr;have nuE:=fr.nu
 have f0:=fr.2 0
 have f1:=fr.2 1
 have f2:=fr.2 2
 have sv:=fun a C=>jz [] a C (SubA.nil C)
 have n10:(ν 1=ν 0)=False:=by simp[nuE]
 have n20:(ν 2=ν 0)=False:=by simp[nuE]
 have n21:(ν 2=ν 1)=False:=by simp[nuE]
 have n01:(ν 0=ν 1)=False:=by simp[nuE]
 have n02:(ν 0=ν 2)=False:=by simp[nuE]
 have n12:(ν 1=ν 2)=False:=by simp[nuE]
 have c1:=fun o=>a1 ((ν 0,o)::(B++A)) (SubA.skip f0 (SubA.refl _))
 have c2:=fun o o1=>a2 ((ν 1,o)::(ν 0,o1)::(B++A)) (SubA.skip f1 (SubA.skip f0 (SubA.refl _)))
 have c3:=fun o o1 o2=>bv ((ν 2,o)::(ν 1,o1)::(ν 0,o2)::(B++A)) (SubA.skip f2 (SubA.skip f1 (SubA.skip f0 (SubA.refl _))))
 simp only[FE]at c1 c2 c3
 simp only[AF,↓AE,simprocAttr,nuE,fr.2,sv,c1,c2,c3,m1,m2]
 rw[if_pos (by rw[ml]),if_pos (by rw[ml])]
 exact SubA.trans sAM (SubA.skip f2 (SubA.skip f1 (SubA.skip f0 (SubA.refl _))))
theorem Rk(A:AH)(hT:Dv A)(B_:AH)(hB_:SubA A B_):Ag Tryz.prog 4 #[] B_=some (.bool true):=AX (Aj (by kernel_rfl) (lT A hT) hB_)
set_option maxHeartbeats 8000000
set_option maxRecDepth 20000
def eh(c i a s n:Int):Prop:=c+i+a+s+n=0∧0≤n∧(-4503599627370496≤c∧c≤4503599627370496)∧(-4503599627370496≤i∧i≤4503599627370496)∧(-4503599627370496≤a∧a≤4503599627370496)∧(-4503599627370496≤s∧s≤4503599627370496)∧n≤4503599627370496
theorem ep(us:List Fu)(r:Rcd): ∃(X:FL) (c i a s n:Int),Pk us r=FE X c i a s n∧(OH us r=0→eh c i a s n):=by
 by_cases h:OH us r=0
 ·have h1:eQ r=0:=by
   unfold OH at h
   split at h
   ·rename_i q;exact absurd h q
   ·rename_i q;simpa using q
  obtain⟨_,_,_,_,_,_,_,_,k1,k2,_,_⟩:=U0 h1
  have h2:Ml us=0:=by
   unfold OH at h
   rw[if_neg (by simp[h1])]at h
   split at h
   ·rename_i q;exact absurd h q
   ·rename_i q;simpa using q
  have h3:(LZ (JD r) us r.am).2=0:=by
   unfold OH at h
   rw[if_neg (by simp[h1]),if_neg (by simp[h2])]at h
   exact h
  have h4:=T1 h3
  unfold Pk
  rw[if_neg (by simp[h])]
  unfold Ms
  generalize (LZ (JD r) us r.am).1=L at h4
  unfold eh
  split
  ·exact⟨_,_,_,_,_,_,rfl,fun _=>⟨by omega,by omega,by omega,by omega,by omega,by omega,by omega⟩⟩
  ·exact⟨_,_,_,_,_,_,rfl,fun _=>⟨by omega,by omega,by omega,by omega,by omega,by omega,by omega⟩⟩
 ·refine⟨eM,0,0,0,0,0, ?_,fun h'=>absurd h' h⟩
  unfold Pk
  rw[if_pos h]
theorem eh.bal{c i a s n:Int}(h:eh c i a s n):Kr c i a s n=true:=by
 obtain⟨h1,h2,h3,h4,h5,h6,h7⟩:=h
 unfold Kr Fq
 simp only[Bool.and_eq_true,decide_eq_true_eq]
 omega
theorem bO{s:ByteArray}{a:Nat}{us:List Fu}(h:PfO s 0 a us)(hs:s.size≤600):(Gw us).length≤3000∧PfO (bs (Gw us)) 0 0 us:=by
 obtain⟨w1,_,_⟩:=bQ h
 have h5:=(qx h).1
 have hl:(Gw us).length≤3000:=by unfold Gw;rw[if_pos w1];omega
 exact⟨hl,iK w1 (by omega)⟩
theorem Zw{s:ByteArray}(h:HQ s=true):s.size≤1000:=by
 unfold HQ Bp at h
 simp only[Bool.and_eq_true,decide_eq_true_eq]at h
 omega
theorem rZ(A:AH)(hT:Dv A)(s:ByteArray)(r:Rcd):AK Tryz.prog 3 #[.string s,.agg #[.int .i64 r.kd,.string r.id,.string r.au,.string r.aq,.string r.is,.string r.me,.string r.ca,.int .i64 r.am,.string r.cu,.int .i64 r.da,.int .i64 r.ct,.bool r.fi]] A (fun u_ A_=>u_=.bool true∧SubA A A_):=by
 refine AC ⟨Tryz.prog,3,Tryz.f3,97,[0,1,3,4,5,6,7,8,9,10,11,12,13],⟨[5],none⟩,[],_⟩ rfl (args:=[_,_]) Tryz.func3 rfl (by kernel_rfl) Tryz.ntmps3 (by simp) (by kernel_rfl) ?_
 intro ν fr
 have f0:=fr.2 0
 have s0: ∀o,SubA A ((ν 0,o)::A):=fun _=>SubA.skip f0 (SubA.refl _)
 have aw0:=fun o=>Rk A hT ((ν 0,o)::A) (s0 o)
 by_cases h6:s.size≤600
 rotate_left
 ·have lt:(600<(s.size:Int))=True:=eq_true (by omega)
  simp only[AF,↓AE,simprocAttr,fr.2,lt,aw0]
 have lt:(600<(s.size:Int))=False:=eq_false (by omega)
 simp only[AF,↓AE,simprocAttr,lt]
 have dst_:True:=(by simp[]);generalize ν 0=n3 at dst_  f0 s0⊢
 clear fr aw0 lt
 refine AK.newX (R:=YZ s) (Tr A s (by omega)) (s0 _) ?_
 rintro v B ⟨e,at_,us,p,cap,hp,l64,lc,hF,rfl⟩ d1
 have dBA:Dis B A:=Dis.subr d1 (s0 _)
 have b3:Vm.AA B n3=none:=d1 n3 (by simp[Vm.AA])
 refine⟨(n3,Obj.cells #[.int .i64 r.kd,.string r.id,.string r.au,.string r.aq,.string r.is,.string r.me,.string r.ca,.int .i64 r.am,.string r.cu,.int .i64 r.da,.int .i64 r.ct,.bool r.fi] 25)::(B++A),SubA.both (X:=[(n3,_)]) (SubA.trans (SubA.left [(n3,_)] _) d1.right) (SubA.both (SubA.left _ _) (SubA.trans (s0 _) d1.right)), ?_⟩
 have g3:Vm.AA (B++A) n3=none:=AD b3 f0
 have sAB:SubA A (B++A):=dBA.right
 cases hok:(decide (e=0)&&decide (Ml us=0))with
 |false=>
  intro ν fr;have nuE:=fr.m1 rfl
  have f5:=fr.2 0
  have g5:Vm.AA (B++A) (ν 0)=none:=(show SubA (B++A) ((n3,Obj.cells #[.int .i64 r.kd,.string r.id,.string r.au,.string r.aq,.string r.is,.string r.me,.string r.ca,.int .i64 r.am,.string r.cu,.int .i64 r.da,.int .i64 r.ct,.bool r.fi] 25)::(B++A)) from SubA.skip g3 (SubA.refl _)).none f5
  have s5: ∀o o1,SubA A ((ν 0,o)::(n3,o1)::(B++A)):=fun _ _=>SubA.trans sAB (SubA.skip g5 (SubA.skip g3 (SubA.refl _)))
  have aw5:=fun o o1=>Rk A hT ((ν 0,o)::(n3,o1)::(B++A)) (s5 o o1)
  simp only[AF,↓AE,simprocAttr,nuE,aw5]
  exact s5 _ _
 |true=>
 simp only[Bool.and_eq_true,decide_eq_true_eq]at hok
 obtain⟨rfl,hC⟩:=hok
 obtain⟨hz,hsz⟩:=hF.z hp
 obtain⟨w1,w2,w3⟩:=bQ hp
 obtain⟨y1,y2⟩:=bO hp h6
 have hFL:=hF
 obtain⟨rs,hrs⟩:=hF
 have hS:LW (B++A) us p rs:=LW.mono hrs (SubA.left _ _)
 obtain⟨X,c,i,a,sh,n,hV,hO⟩:=ep us r
 have av:=Ri (B++A) (hT.mono sAB) us p rs cap hS lc hz r
 have fv:=qL (B++A) (hT.mono sAB) us p cap (hFL.mono (SubA.left _ _)) hsz (fun u hu=>⟨by have:=(w3 u hu).2.2;omega,Zw (w3 u hu).1⟩)
 rw[hV]at av
 simp only[FE]at av
 intro ν fr;have nuE:=fr.m1 rfl
 have f5:=fr.2 0
 have f7:=fr.2 1
 have n75:(ν 1=ν 0)=False:=by simp[nuE]
 have n53:(ν 0=n3)=False:=by simp[nuE]
 have n73:(ν 1=n3)=False:=by simp[nuE]
 have g5:Vm.AA (B++A) (ν 0)=none:=(show SubA (B++A) ((n3,Obj.cells #[.int .i64 r.kd,.string r.id,.string r.au,.string r.aq,.string r.is,.string r.me,.string r.ca,.int .i64 r.am,.string r.cu,.int .i64 r.da,.int .i64 r.ct,.bool r.fi] 25)::(B++A)) from SubA.skip g3 (SubA.refl _)).none f5
 have g7:Vm.AA (B++A) (ν 1)=none:=(show SubA (B++A) ((n3,Obj.cells #[.int .i64 r.kd,.string r.id,.string r.au,.string r.aq,.string r.is,.string r.me,.string r.ca,.int .i64 r.am,.string r.cu,.int .i64 r.da,.int .i64 r.ct,.bool r.fi] 25)::(B++A)) from SubA.skip g3 (SubA.refl _)).none f7
 have s5: ∀o o1,SubA (B++A) ((ν 0,o)::(n3,o1)::(B++A)):=fun _ _=>SubA.skip g5 (SubA.skip g3 (SubA.refl _))
 have s7: ∀o o1 o2,SubA (B++A) ((ν 1,o)::(ν 0,o1)::(n3,o2)::(B++A)):=fun _ _ _=>SubA.skip g7 (s5 _ _)
 have av5:=fun o o1=>av _ (s5 o o1)
 have fv7:=fun o o1 o2=>fv _ (s7 o o1 o2)
 simp only[AF,↓AE,simprocAttr,nuE,av5,fv7]
 clear av5 fv7
 have dst_:((ν 0=ν 1)=False)∧((ν 1=ν 0)=False):=(by simp[nuE]);generalize ν 0=n5 at dst_  f5 f7 n75 n53 n73 g5 g7 s5 s7 ⊢;generalize ν 1=n7 at dst_  f5 f7 n75 n53 n73 g5 g7 s5 s7⊢
 clear nuE fr
 have n57:(n5=n7)=False:=eq_false fun h=>by rw[h]at n75;simp at n75
 have n35:(n3=n5)=False:=eq_false fun h=>by rw[h]at n53;simp at n53
 have n37:(n3=n7)=False:=eq_false fun h=>by rw[h]at n73;simp at n73
 refine AK.newX (R:=YZ (bs (Gw us))) (Tr (B++A) (bs (Gw us)) (by rw[Ab];omega)) (s7 _ _ _) ?_
 rintro v2 B2 ⟨e2,at2,us2,p2,cap2,hp2,_,lc2,hF2,rfl⟩ d2
 obtain⟨rfl,rfl,hu2⟩:=hp2.det y2
 have hu3:=hu2.symm
 clear hu2
 subst hu3
 rw[hC]
 have dB2:Dis B2 (B++A):=Dis.subr d2 (s7 _ _ _)
 have c3:Vm.AA B2 n3=none:=d2 n3 (by simp[Vm.AA,n53,n73])
 have c5:Vm.AA B2 n5=none:=d2 n5 (by simp[Vm.AA,n75])
 have c7:Vm.AA B2 n7=none:=d2 n7 (by simp[Vm.AA])
 refine⟨(n7,Obj.cells #[.string X.nm,.int .i64 X.n,.string (bs X.wh),.string X.nm,.int .i64 X.n,.string (bs X.wh),.string X.nm,.int .i64 X.n,.string (bs X.wh),.int .i64 c,.int .i64 i,.int .i64 a,.int .i64 sh,.int .i64 n] 35)::(n5,Obj.cells #[.slice p us.length cap,.slice p us.length cap,.slice p us.length cap] 29)::(n3,Obj.cells #[.int .i64 r.kd,.string r.id,.string r.au,.string r.aq,.string r.is,.string r.me,.string r.ca,.int .i64 r.am,.string r.cu,.int .i64 r.da,.int .i64 r.ct,.bool r.fi] 25)::(B2++(B++A)),SubA.both (X:=[(n7,_),(n5,_),(n3,_)]) (SubA.trans (SubA.left [_,_,_] _) d2.right) (SubA.both (SubA.left _ _) (SubA.trans (s7 _ _ _) d2.right)), ?_⟩
 have sM:SubA (B++A) (B2++(B++A)):=dB2.right
 have k3:Vm.AA (B2++(B++A)) n3=none:=AD c3 g3
 have k5:Vm.AA (B2++(B++A)) n5=none:=AD c5 g5
 have k7:Vm.AA (B2++(B++A)) n7=none:=AD c7 g7
 have sN: ∀o o1 o2,SubA (B2++(B++A)) ((n7,o)::(n5,o1)::(n3,o2)::(B2++(B++A))):=fun _ _ _=>SubA.skip k7 (SubA.skip k5 (SubA.skip k3 (SubA.refl _)))
 obtain⟨rs2,hrs2⟩:=hF2
 have av2:=Ri (B2++(B++A)) ((hT.mono sAB).mono sM) us p2 rs2 cap2 (LW.mono hrs2 (SubA.left _ _)) lc2 hz r
 rw[hV]at av2
 simp only[FE]at av2
 simp only[decide_true,Bool.and_self]
 intro ν fr;have nuE:=fr.m3 rfl
 have f9:=fr.2 0
 have fb:=fr.2 1
 have sP: ∀o o1 o2 o3,SubA (B2++(B++A)) ((ν 0,o)::(n7,o1)::(n5,o2)::(n3,o3)::(B2++(B++A))):=fun _ _ _ _=>SubA.trans (sN _ _ _) (SubA.skip (by have:=(sN (Obj.cells #[.string X.nm,.int .i64 X.n,.string (bs X.wh),.string X.nm,.int .i64 X.n,.string (bs X.wh),.string X.nm,.int .i64 X.n,.string (bs X.wh),.int .i64 c,.int .i64 i,.int .i64 a,.int .i64 sh,.int .i64 n] 35) (Obj.cells #[.slice p us.length cap,.slice p us.length cap,.slice p us.length cap] 29) (Obj.cells #[.int .i64 r.kd,.string r.id,.string r.au,.string r.aq,.string r.is,.string r.me,.string r.ca,.int .i64 r.am,.string r.cu,.int .i64 r.da,.int .i64 r.ct,.bool r.fi] 25)).none f9;simp[Vm.AA,nuE,this]) (SubA.refl _))
 have av3:=fun o o1 o2 o3=>av2 _ (sP o o1 o2 o3)
 have sQ: ∀o o0 o1 o2 o3,SubA (B2++(B++A)) ((ν 1,o)::(ν 0,o0)::(n7,o1)::(n5,o2)::(n3,o3)::(B2++(B++A))):=fun _ _ _ _ _=>SubA.trans (sP _ _ _ _) (SubA.skip (by have:=(sN (Obj.cells #[.string X.nm,.int .i64 X.n,.string (bs X.wh),.string X.nm,.int .i64 X.n,.string (bs X.wh),.string X.nm,.int .i64 X.n,.string (bs X.wh),.int .i64 c,.int .i64 i,.int .i64 a,.int .i64 sh,.int .i64 n] 35) (Obj.cells #[.slice p us.length cap,.slice p us.length cap,.slice p us.length cap] 29) (Obj.cells #[.int .i64 r.kd,.string r.id,.string r.au,.string r.aq,.string r.is,.string r.me,.string r.ca,.int .i64 r.am,.string r.cu,.int .i64 r.da,.int .i64 r.ct,.bool r.fi] 25)).none fb;simp[Vm.AA,nuE,this]) (SubA.refl _))
 have sA2: ∀o o0 o1 o2 o3,SubA A ((ν 1,o)::(ν 0,o0)::(n7,o1)::(n5,o2)::(n3,o3)::(B2++(B++A))):=fun _ _ _ _ _=>SubA.trans (SubA.trans sAB sM) (sQ _ _ _ _ _)
 have aw3:=fun o o0 o1 o2 o3=>Rk A hT ((ν 1,o)::(ν 0,o0)::(n7,o1)::(n5,o2)::(n3,o3)::(B2++(B++A))) (sA2 o o0 o1 o2 o3)
 by_cases hE:OH us r=0
 rotate_left
 ·have hE':(OH us r !=0)=true:=by simp[hE]
  simp only[AF,↓AE,simprocAttr,nuE,n53,n73,av3,hE',aw3]
  exact sA2 _ _ _ _ _
 have hE':(OH us r !=0)=false:=by simp[hE]
 have hZ:=hO hE
 have bv:=fun o o0 o1 o2 o3=>pV [] X c i a sh n ((ν 1,o)::(ν 0,o0)::(n7,o1)::(n5,o2)::(n3,o3)::(B2++(B++A))) (SubA.nil _)
 rw[hZ.bal]at bv
 simp only[FE]at bv
 obtain⟨z1,z2,z3,z4,z5,z6,z7⟩:=hZ
 have x1:IntKind.i64.wrap (c+i)=c+i:=AW (by omega) (by omega)
 have x2:IntKind.i64.wrap (c+i+a)=c+i+a:=AW (by omega) (by omega)
 have x3:IntKind.i64.wrap (c+i+a+sh)=c+i+a+sh:=AW (by omega) (by omega)
 have x4:IntKind.i64.wrap (c+i+a+sh+n)=0:=by rw[z1];decide
 have x5:(0≤n)=True:=eq_true z2
 simp only[AF,↓AE,simprocAttr,nuE,n53,n73,av3,hE,aw3,bv,x1,x2,x3,x4,x5]
 exact sA2 _ _ _ _ _
theorem rb(A:AH)(hT:Dv A)(s:ByteArray)(r:Rcd):Ag Tryz.prog 3 #[.string s,.agg #[.int .i64 r.kd,.string r.id,.string r.au,.string r.aq,.string r.is,.string r.me,.string r.ca,.int .i64 r.am,.string r.cu,.int .i64 r.da,.int .i64 r.ct,.bool r.fi]] A=some (.bool true):=AX (Aj (by kernel_rfl) (rZ A hT s r) (SubA.refl _))
set_option maxHeartbeats 4000000
set_option maxRecDepth 20000
theorem mG{h:AL}{a:Array Value}(w:Vm.OD h (.st 12 [(0,1,.int .i64),(1,1,.str),(2,1,.str),(3,1,.str),(4,1,.str),(5,1,.str),(6,1,.str),(7,2,.st 2 [(0,1,.int .i64),(1,1,.str)]),(9,1,.int .i64),(10,1,.int .i64),(11,1,.bool)]) a.toList): ∃r:Rcd,Value.agg a=r.v:=by
 obtain⟨l⟩:=a
 simp only[OD,Tx]at w
 obtain⟨hl,w⟩:=w
 match l,hl with
 | [x0,x1,x2,x3,x4,x5,x6,x7,x8,x9,x10,x11],_=>
  simp only[List.drop_succ_cons,List.drop_zero,List.take_succ_cons,List.take_zero,List.cons.injEq,and_true,List.length_cons,List.length_nil,true_and]at w
  obtain⟨⟨_,rfl,_⟩,⟨_,rfl,_⟩,⟨_,rfl,_⟩,⟨_,rfl,_⟩,⟨_,rfl,_⟩,⟨_,rfl,_⟩,⟨_,rfl,_⟩,⟨⟨_,rfl,_⟩,⟨_,rfl,_⟩⟩,⟨_,rfl,_⟩,⟨_,rfl,_⟩,⟨_,rfl⟩⟩:=w
  exact⟨⟨_,_,_,_,_,_,_,_,_,_,_,_⟩,rfl⟩
theorem dg(w:World)(ht:Lib.TabIs Tryz.prog w "internal/strconv.uint64pow10" .u64 Lib.pow10Tab)(a0:ByteArray)(a1:Array Value)(w1:Vm.OD w.heap (.st 12 [(0,1,.int .i64),(1,1,.str),(2,1,.str),(3,1,.str),(4,1,.str),(5,1,.str),(6,1,.str),(7,2,.st 2 [(0,1,.int .i64),(1,1,.str)]),(9,1,.int .i64),(10,1,.int .i64),(11,1,.bool)]) a1.toList):
  CallsH Tryz.prog 3 #[.string a0,.agg a1] w.heap fun e h'=>e=.returned (.bool true)∧Grew w.heap h':=by
 obtain⟨A,hA,hT⟩:=Dv.of ht
 obtain⟨r,hr⟩:=mG w1
 rw[hr]
 exact Lf (rb A hT a0 r) (by kernel_rfl) hA
end Go.Proofs.YtgmfcdeknaeikaaGreatDoor
