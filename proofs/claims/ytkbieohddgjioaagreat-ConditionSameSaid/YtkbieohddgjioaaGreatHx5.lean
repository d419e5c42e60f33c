/- A part of the proof: what the functions of the chapter compute. -/
import Derived.Test.YtkbieohddgjioaaGreatHx4
set_option linter.all false
section
namespace Hx
open Go
@[reducible] def oM (d a:Nat):SI:=o d (.mv (.t a))
@[reducible] def oL (d a:Nat):SI:=o d (.load false 1 (.t a))
@[reducible] def oN (d a:Nat):SI:=o d (.len .slice (.t a))
@[reducible] def oF (d n a:Nat):SI:=o d (.fad n (.t a))
@[reducible] def oX (d a b:Nat):SI:=o d (.ixs 1 (.t a) (.t b))
@[reducible] def qI (z:Int):Od:=.k (.int .i64 z)
@[reducible] def oK (d:Nat) (z:Int):SI:=o d (.mv (qI z))
@[reducible] def oA (d a:Nat):SI:=o d (.bin .add (.t a) (qI 1))
@[reducible] def sQ (l:List SI) (x:SC):SC:=.seq (.ops l) x
theorem sz:type_of% (R3 sx <|R3 sy <|R3 @Option.isSome_some.{0} <|R3 @Se.{0} <|R3 @decide_true <|R3 @decide_false <|R3 @Bool.not_true <|R3 @UV <|
 R3 @SO.run.eq_1 <|R3 @SO.run.eq_2 <|R3 @SO.run.eq_3 <|R3 @SO.run.eq_4 <|R3 @SO.run.eq_5 <|R3 @SO.run.eq_6 <|R3 @SO.run.eq_7 <|R3 @SO.run.eq_8 <|R3 @SO.run.eq_9 <|R3 @SO.run.eq_10 <|R3 @SO.run.eq_11 <|R3 @SO.run.eq_12 <|R3 @SO.run.eq_13 <|R3 @SO.run.eq_14 <|R3 @SO.run.eq_15 <|R3 @SO.run.eq_16 <|R3 @SO.run.eq_17 <|R3 @SO.run.eq_18 <|R3 @SO.run.eq_19 <|R3 @SO.run.eq_20 <|R3 @SO.run.eq_21 <|R3 @SO.run.eq_22 <|R3 @SO.run.eq_23 <|R3 @SO.run.eq_24 <|R3 @SO.run.eq_25 <|R3 @SO.run.eq_26 <|R3 @SO.run.eq_27 <|R3 @SO.run.eq_28 <|R3 @SO.run.eq_29 <|R3 @SO.run.eq_30 <|R3 @SO.run.eq_31 <|@SO.run.eq_32) :=
 R3 sx <|R3 sy <|R3 @Option.isSome_some.{0} <|R3 @Se.{0} <|R3 @decide_true <|R3 @decide_false <|R3 @Bool.not_true <|R3 @UV <|
 R3 @SO.run.eq_1 <|R3 @SO.run.eq_2 <|R3 @SO.run.eq_3 <|R3 @SO.run.eq_4 <|R3 @SO.run.eq_5 <|R3 @SO.run.eq_6 <|R3 @SO.run.eq_7 <|R3 @SO.run.eq_8 <|R3 @SO.run.eq_9 <|R3 @SO.run.eq_10 <|R3 @SO.run.eq_11 <|R3 @SO.run.eq_12 <|R3 @SO.run.eq_13 <|R3 @SO.run.eq_14 <|R3 @SO.run.eq_15 <|R3 @SO.run.eq_16 <|R3 @SO.run.eq_17 <|R3 @SO.run.eq_18 <|R3 @SO.run.eq_19 <|R3 @SO.run.eq_20 <|R3 @SO.run.eq_21 <|R3 @SO.run.eq_22 <|R3 @SO.run.eq_23 <|R3 @SO.run.eq_24 <|R3 @SO.run.eq_25 <|R3 @SO.run.eq_26 <|R3 @SO.run.eq_27 <|R3 @SO.run.eq_28 <|R3 @SO.run.eq_29 <|R3 @SO.run.eq_30 <|R3 @SO.run.eq_31 <|@SO.run.eq_32
end Hx
end
